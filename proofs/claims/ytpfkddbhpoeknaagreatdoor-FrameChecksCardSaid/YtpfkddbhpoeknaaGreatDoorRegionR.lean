/- The law of rely and guarantee for regions that draw their order: it lies in the text RegionW. -/
import Derived.Test.YtpfkddbhpoeknaaGreatDoorRegionW
