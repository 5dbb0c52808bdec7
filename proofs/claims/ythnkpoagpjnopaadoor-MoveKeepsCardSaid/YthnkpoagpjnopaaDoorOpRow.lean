/- Rows of structs and of texts: what the records need of them. -/
import Derived.Test.YthnkpoagpjnopaaDoorRowK
import Derived.Test.YthnkpoagpjnopaaDoorRowAt
