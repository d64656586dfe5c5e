/- Texts joined. Conditions: as each theorem states. -/
import Derived.Test.YtlnefmgiiogcmaaGreatDoorQ08
import Derived.Test.YtlnefmgiiogcmaaGreatDoorQ10
set_option linter.unusedVariables false
set_option linter.unusedSimpArgs false
