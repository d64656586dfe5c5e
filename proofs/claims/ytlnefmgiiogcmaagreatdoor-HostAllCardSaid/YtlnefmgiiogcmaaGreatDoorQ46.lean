/- Texts joined. Conditions: as each theorem states. -/
import Derived.Test.YtlnefmgiiogcmaaGreatDoorQ45
set_option linter.unusedVariables false
set_option linter.unusedSimpArgs false
