/- From a contract to a row, with the chapter's examples at hand. -/
import Derived.Test.YtcjblbhmajdmjaaDoorAwake
import Derived.Test.YtcjblbhmajdmjaaDoorRowB
