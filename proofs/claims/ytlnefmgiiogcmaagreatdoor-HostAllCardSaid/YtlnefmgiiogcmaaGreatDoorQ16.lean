/- Texts joined. Conditions: as each theorem states. -/
import Derived.Test.YtlnefmgiiogcmaaGreatDoorQ13
set_option linter.unusedVariables false
set_option linter.unusedSimpArgs false
