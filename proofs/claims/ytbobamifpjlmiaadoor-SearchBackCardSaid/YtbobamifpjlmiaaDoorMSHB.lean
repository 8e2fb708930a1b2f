import Derived.Test.YtbobamifpjlmiaaDoorMSameSp
import Derived.Test.YtbobamifpjlmiaaDoorMSBack

/- What a card of the search imports. -/
