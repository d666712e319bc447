/- The chapter's examples, as the pure functions answer them. -/
import Derived.Test.YtpciankfpagnhaaD9
import Derived.Test.YtpciankfpagnhaaD11
import Derived.Test.YtpciankfpagnhaaD15
import Derived.Test.YtpciankfpagnhaaD16
namespace Go.Proofs.Ytpciankfpagnhaa
open Go.RowKit
namespace Ex
def d2 : Dk := (newD 2).1
def w1 : Dk := (writeD d2 1 [7]).1
def s1 : Dk := (stopD w1 1).1
def s2 : Dk := (writeD s1 0 (dbl 8)).1
def x1 : Dk := (syncD s2).1
def x2 : Dk := restartD x1
def w2 : Dk := restartD w1
theorem e0 : newD 0 = (zeroD, 1) := by decide +kernel
theorem e1 : newD 2 = (d2, 0) := by decide +kernel
theorem e2 : writeD d2 1 [7] = (w1, 0) := by decide +kernel
theorem e3 : (readD w1 1).2 = 0 ∧ (readD w1 1).1.length = 128 ∧ (readD w1 1).1[0]? = some 7 := by decide +kernel
theorem e4 : readD d2 2 = ([], 410) := by decide +kernel
theorem e5 : writeD d2 0 (List.replicate 129 0) = (zeroD, 1) := by decide +kernel
theorem e6 : stopD w1 1 = (s1, 0) := by decide +kernel
theorem e7 : writeD s1 0 (dbl 8) = (s2, 0) := by decide +kernel
theorem e8 : syncD s2 = (x1, 410) ∧ x1.stopped = true := by decide +kernel
theorem e9 : (readD x2 1).2 = 0 ∧ (readD x2 1).1.length = 128 ∧ (readD x2 1).1[0]? = some 7 := by decide +kernel
theorem e10 : (readD x2 0).2 = 0 ∧ (readD x2 0).1.length = 128 ∧ (readD x2 0).1[0]? = some 8 ∧ (readD x2 0).1[64]? = some 0 := by decide +kernel
theorem e11 : (readD w2 1).2 = 0 ∧ (readD w2 1).1.length = 128 ∧ (readD w2 1).1[0]? = some 0 := by decide +kernel
theorem e12 : chk zeroD = 410 ∧ (restartD zeroD).left = -1 := by decide +kernel
end Ex
end Go.Proofs.Ytpciankfpagnhaa
