/- What disk.Sync does, on every disk. -/
import Derived.Test.YtpciankfpagnhaaD7
import Derived.Test.YtpciankfpagnhaaD8
namespace Go.Proofs.Ytpciankfpagnhaa
open Go.RowKit

set_option maxHeartbeats 1000000 in
theorem sync_no {S : Nat → Prop} (w : World) (v : Value) (d : Dk) (h : Disk S w v d) (hr : runsD d = false) : Calls Try.prog 30 #[v] w (DiskErr S w (zeroD, 410)) := by
  obtain ⟨a, c, a2, c2, rfl, hc, hm, hc2, hm2, h1, h2⟩ := h.open
  clear h1 h2
  have H := Lib.hid h; clear h
  go_enter Try.func30, Try.ntmps30
  go_wp2_with fail
  refine (runs_ok _ _ d (H.out.keep (((Ext.refl _).alloc _).alloc _))).mono ?_
  rintro e w1 ⟨rfl, hx⟩
  have hE := (((Ext.refl w).alloc _).alloc _).trans hx
  have B1 := (Box.at (b := w.heap.size + 1) (by simp)).keep hx
  have hs : w.heap.size + 1 < w1.heap.size := B1.lt
  clear hx
  obtain ⟨c10, c11, c12, c13, f10, f11, f12, f13⟩ := B1.four
  clear B1
  go_wp2_with fail
  refine bodyPost_ret (v := .tuple #[.agg #[.slice none 0 0, .slice none 0 0, .int .i64 0, .bool false], .int .i64 410]) (by simp [results, Try.results30, go_sem, *]) rfl (DiskErr.mk rfl (zeroD_disk _ _) ?_)
  repeat (first | exact hE | refine Ext.setCell ?_ (by simp) _)

theorem sync_ok {S : Nat → Prop} (w : World) (v : Value) (d : Dk) (h : Disk S w v d) (hS : ∀ k, S k → k < w.heap.size) : Calls Try.prog 30 #[v] w (DiskErr S w (syncD d)) := by
  cases hr : runsD d
  · have : syncD d = (zeroD, 410) := by unfold syncD; rw [if_neg (by simp [hr])]
    rw [this]; exact sync_no w v d h hr
  · by_cases hst : 0 ≤ d.left ∧ d.left < d.pending.length
    · obtain ⟨n, hn⟩ := Int.eq_ofNat_of_zero_le hst.1
      have hlt : n < d.pending.length := by omega
      have hok := runs_ok' hr
      have hb := ((okD_iff d).1 hok).1
      have e : syncD d = ({ sectors := (perfL d.sectors (d.pending.take n)).set d.pending[n].at_.toNat (d.pending[n].data.take 64 ++ ((perfL d.sectors (d.pending.take n)).getD d.pending[n].at_.toNat []).drop 64), pending := [], left := 0, stopped := true }, 410) := by
        unfold syncD
        rw [if_pos hr, if_pos hst, hn]
        simp only [Int.toNat_natCast]
        rw [List.getD_eq_getElem?_getD (l := d.pending), List.getElem?_eq_getElem hlt]
        rfl
      rw [e]
      exact sync_stop w v d h hS hr n hn hlt (fun x hx => by have := ok_at hok x hx; exact ⟨⟨this.1, this.2.1⟩, this.2.2⟩) (ok_sec hok) (by omega) (by omega) _ rfl
    · by_cases hl : 0 ≤ d.left
      · exact sync_go1 w v d h hS hr hst hl
      · exact sync_go2 w v d h hS hr hst hl
end Go.Proofs.Ytpciankfpagnhaa
