/- What a step of the program may change in memory. -/
import Derived.Test.YtlbebneblmgdcaaDoorRowKit
