/- Several texts in one: Keep, KeepFar, BookFrac, RefInt64, FOf. -/
import Derived.Test.YtdonecnhdkjniaaGreatDoorGy18
set_option maxRecDepth 100000
set_option maxHeartbeats 8000000
namespace Go.Proofs.YtdonecnhdkjniaaGreatDoor
open Go.RowKit




def zN (n d : Int) : Int := if d = 0 then 0 else Yx n d
def zD (n d : Int) : Int := if d = 0 then 0 else Yt n d
def zE (d : Int) : Int := if d = 0 then 3 else 0
end Go.Proofs.YtdonecnhdkjniaaGreatDoor
