import Derived.Test.YtbobamifpjlmiaaDoorMSDig
import Derived.Test.YtbobamifpjlmiaaDoorMSVerifies

/- What a card of the search imports. -/
