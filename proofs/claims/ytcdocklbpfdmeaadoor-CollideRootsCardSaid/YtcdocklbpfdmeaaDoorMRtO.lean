import Derived.Test.YtcdocklbpfdmeaaDoorMGlob
import Derived.Test.YtcdocklbpfdmeaaDoorMRtD

/- CollideRoots: openers and the law, together. -/
