/- What Stop and Read of the reference of layer 41 do. -/
import Derived.Test.YtpciankfpagnhaaD3
import Derived.Test.YtpciankfpagnhaaD15
import Derived.Test.YtpciankfpagnhaaM3
namespace Go.Proofs.Ytpciankfpagnhaa
open Go.RowKit

theorem chk_bne (d : Dk) : (chk d != 0) = !okD d := by unfold chk; cases okD d <;> rfl

set_option maxHeartbeats 2000000 in
theorem refStop_ok {S : Nat → Prop} (w : World) (v : Value) (d : Dk) (left : Int) (h : Disk S w v d) :
    Calls Try.prog 33 #[v, .int .i64 left] w (DiskErr S w (stopD d left)) := by
  obtain ⟨a, c, a2, c2, rfl, hc, hm, hc2, hm2, h1, h2⟩ := h.open
  have H := Lib.hid h; clear h
  have H1 := Lib.hid h1; clear h1
  have H2 := Lib.hid h2; clear h2
  go_enter Try.func33, Try.ntmps33
  go_wp2_with fail
  refine (refCheck_ok _ _ d (H.out.keep (((Ext.refl _).alloc _).alloc _))).mono ?_
  rintro e w1 ⟨rfl, hx⟩
  have hE := (((Ext.refl w).alloc _).alloc _).trans hx
  have hs := hx.size
  simp only [World.size_alloc] at hs
  obtain ⟨c00, c01, c02, c03, f00, f01, f02, f03⟩ := (((Box.new w _ _).past _).keep hx).four
  obtain ⟨c10, c11, c12, c13, f10, f11, f12, f13⟩ := ((Box.at (b := w.heap.size + 1) (by simp)).keep hx).four
  clear hx
  have hlt : w.heap.size < w1.heap.size := by omega
  have e0 := chk_bne d
  by_cases hr : runsD d = true
  · have hok : okD d = true ∧ d.stopped = false := by unfold runsD at hr; simp at hr; exact hr
    rw [hok.1] at e0
    rw [hok.2] at c03
    simp only [Bool.not_true] at e0
    have HK := Lib.hid hok; clear hok
    by_cases h0 : left < 0
    · go_wp2_with fail
      refine bodyPost_ret (v := .tuple #[.agg #[.slice none 0 0, .slice none 0 0, .int .i64 0, .bool false], .int .i64 1]) (by simp [results, Try.results33, go_sem, *]) rfl (DiskErr.mk (by simp [stopD, hr, h0]) (zeroD_disk _ _) ?_)
      repeat (first | exact hE | refine Ext.setCell ?_ (by simp) _)
    · by_cases h1 : 65536 < left
      · go_wp2_with fail
        refine bodyPost_ret (v := .tuple #[.agg #[.slice none 0 0, .slice none 0 0, .int .i64 0, .bool false], .int .i64 1]) (by simp [results, Try.results33, go_sem, *]) rfl (DiskErr.mk (by simp [stopD, hr, h1]) (zeroD_disk _ _) ?_)
        repeat (first | exact hE | refine Ext.setCell ?_ (by simp) _)
      · go_wp2_with fail
        refine bodyPost_ret (v := .tuple #[.agg #[.slice a d.sectors.length c, .slice a2 d.pending.length c2, .int .i64 left, .bool false], .int .i64 0]) (by simp [results, Try.results33, go_sem, *]) rfl (DiskErr.mk (d := { d with left := left, stopped := false }) (by simp [stopD, hr, h0, h1, HK.out.2]) (Disk.mk' (H1.out.keep ?_) (H2.out.keep ?_)) ?_)
        all_goals repeat (first | exact hE | refine Ext.setCell ?_ (by simp) _)
  · have HR := Lib.hid hr; clear hr
    cases hok : okD d
    · rw [hok] at e0
      simp only [Bool.not_false] at e0
      go_wp2_with fail
      refine bodyPost_ret (v := .tuple #[.agg #[.slice none 0 0, .slice none 0 0, .int .i64 0, .bool false], .int .i64 410]) (by simp [results, Try.results33, go_sem, *]) rfl (DiskErr.mk (by unfold stopD; rw [if_neg HR.out]) (zeroD_disk _ _) ?_)
      repeat (first | exact hE | refine Ext.setCell ?_ (by simp) _)
    · rw [hok] at e0
      simp only [Bool.not_true] at e0
      have hst : d.stopped = true := by
        have := HR.out; unfold runsD at this; rw [hok] at this; simpa using this
      rw [hst] at c03
      clear hst
      go_wp2_with fail
      refine bodyPost_ret (v := .tuple #[.agg #[.slice none 0 0, .slice none 0 0, .int .i64 0, .bool false], .int .i64 410]) (by simp [results, Try.results33, go_sem, *]) rfl (DiskErr.mk (by unfold stopD; rw [if_neg HR.out]) (zeroD_disk _ _) ?_)
      repeat (first | exact hE | refine Ext.setCell ?_ (by simp) _)
end Go.Proofs.Ytpciankfpagnhaa
