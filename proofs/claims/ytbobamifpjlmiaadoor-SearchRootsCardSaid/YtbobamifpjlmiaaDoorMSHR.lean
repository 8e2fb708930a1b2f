import Derived.Test.YtbobamifpjlmiaaDoorMSameSp
import Derived.Test.YtbobamifpjlmiaaDoorMSRoots

/- What a card of the search imports. -/
