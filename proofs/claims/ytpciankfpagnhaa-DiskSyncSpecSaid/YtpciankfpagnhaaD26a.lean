/- What Sync of the reference of layer 41 does, in one sentence. -/
import Derived.Test.YtpciankfpagnhaaD25c
namespace Go.Proofs.Ytpciankfpagnhaa
open Go.RowKit

set_option maxHeartbeats 2000000 in
set_option maxRecDepth 100000 in
theorem refSync_no {S : Nat → Prop} (w : World) (v : Value) (d : Dk) (h : Disk S w v d) (hr : runsD d = false) :
    Calls Try.prog 31 #[v] w (DiskErr S w (zeroD, 410)) := by
  obtain ⟨a, c, a2, c2, rfl, hc, hm, hc2, hm2, h1, h2⟩ := h.open
  have H := Lib.hid h; clear h
  clear h1 h2
  go_enter Try.func31, Try.ntmps31
  go_wp2_with fail
  refine (refCheck_ok _ _ d (H.out.keep (((Ext.refl _).alloc _).alloc _))).mono ?_
  rintro e w1 ⟨rfl, hx⟩
  have hE := (((Ext.refl w).alloc _).alloc _).trans hx
  have B0 := Lib.hid (((Box.new w _ _).past _).keep hx)
  have B1 := Lib.hid ((Box.at (b := w.heap.size + 1) (by simp)).keep hx)
  clear hx
  obtain ⟨c00, c01, c02, c03, f00, f01, f02, f03⟩ := B0.out.four
  obtain ⟨d00, d01, d02, d03, f10, f11, f12, f13⟩ := B1.out.four
  have hs1 : w.heap.size + 1 < w1.heap.size := B1.out.lt
  have e0 := chk_bne d
  cases hok : okD d
  · rw [hok] at e0
    simp only [Bool.not_false] at e0
    go_wp2_with fail
    refine bodyPost_ret (v := .tuple #[.agg #[.slice none 0 0, .slice none 0 0, .int .i64 0, .bool false], .int .i64 410]) (by simp [results, Try.results31, go_sem, *]) rfl (DiskErr.mk rfl (zeroD_disk _ _) ?_)
    repeat (first | exact hE | refine Ext.setCell ?_ (by simp) _)
  · rw [hok] at e0
    simp only [Bool.not_true] at e0
    have hst : d.stopped = true := by unfold runsD at hr; rw [hok] at hr; simpa using hr
    rw [hst] at c03
    clear hst
    go_wp2_with fail
    refine bodyPost_ret (v := .tuple #[.agg #[.slice none 0 0, .slice none 0 0, .int .i64 0, .bool false], .int .i64 410]) (by simp [results, Try.results31, go_sem, *]) rfl (DiskErr.mk rfl (zeroD_disk _ _) ?_)
    repeat (first | exact hE | refine Ext.setCell ?_ (by simp) _)

theorem refSync_ok {S : Nat → Prop} (w : World) (v : Value) (d : Dk) (h : Disk S w v d) (hS : ∀ k, S k → k < w.heap.size) :
    Calls Try.prog 31 #[v] w (DiskErr S w (syncD d)) := by
  cases hr : runsD d
  · have := refSync_no w v d h hr
    rwa [show syncD d = (zeroD, 410) by unfold syncD; rw [hr]; rfl]
  · obtain ⟨ss, ps, le, st⟩ := d
    have hst : st = false := ((runsD_iff _).1 hr).2
    subst hst
    rw [syncD_runs hr]
    simp only
    by_cases h1 : 0 ≤ le ∧ le < ps.length
    · rw [if_pos h1]
      obtain ⟨m, rfl⟩ := Int.eq_ofNat_of_zero_le h1.1
      have hm : m < ps.length := by omega
      refine refSync_stop w v ss ps m h hS hr hm _ ?_
      simp only [Int.toNat_natCast]
      have e : ps.getD m ⟨0, []⟩ = ps[m] := by rw [List.getD_eq_getElem?_getD, List.getElem?_eq_getElem hm]; rfl
      rw [e]
    · rw [if_neg h1]
      by_cases h0 : 0 ≤ le
      · rw [if_pos h0]
        exact refSync_plus w v ss ps le h hS hr (by omega)
      · rw [if_neg h0]
        exact refSync_minus w v ss ps le h hS hr (by omega)
end Go.Proofs.Ytpciankfpagnhaa
