/- The texts that the draws of models import, in this seat: a gathering of imports. No condition. -/
import Derived.Test.YtgpmglfcdbpgkaaGreatDoorKeepM
import Derived.Test.YtgpmglfcdbpgkaaGreatDoorMTo2
