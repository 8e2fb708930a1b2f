import Derived.Test.YtbobamifpjlmiaaDoorMSameSp
import Derived.Test.YtbobamifpjlmiaaDoorMSProves

/- What a card of the search imports. -/
