/- What disk.Sync does. -/
import Derived.Test.YtpciankfpagnhaaD5
import Derived.Test.YtpciankfpagnhaaD6
import Derived.Test.YtpciankfpagnhaaM3
import Derived.Deep.RegionHeld3
namespace Go.Proofs.Ytpciankfpagnhaa
open Go.RowKit

/-- What Sync answers. -/
def syncD (d : Dk) : Dk × Int :=
  if runsD d = true then
    (if 0 ≤ d.left ∧ d.left < d.pending.length then
      (let ss := perfL d.sectors (d.pending.take d.left.toNat)
       let x := d.pending.getD d.left.toNat ⟨0, []⟩
       ({ sectors := ss.set x.at_.toNat (x.data.take 64 ++ (ss.getD x.at_.toNat []).drop 64), pending := [], left := 0, stopped := true }, 410))
     else ({ sectors := perfL d.sectors d.pending, pending := [], left := if 0 ≤ d.left then d.left - d.pending.length else d.left, stopped := false }, 0))
  else (zeroD, 410)

theorem runs_ok' {d : Dk} (h : runsD d = true) : okD d = true := by unfold runsD at h; simp at h; exact h.1
theorem ok_at {d : Dk} (h : okD d = true) : ∀ x ∈ d.pending, 0 ≤ x.at_ ∧ x.at_ < d.sectors.length ∧ x.data.length = 128 := by
  intro x hx
  have h1 := ((okD_iff d).1 h).2.1
  rw [List.any_eq_false] at h1
  have h2 := h1 x hx
  simp [badW] at h2
  omega
theorem ok_sec {d : Dk} (h : okD d = true) : ∀ l ∈ d.sectors, l.length = 128 := by
  intro x hx
  have h1 := ((okD_iff d).1 h).2.2
  rw [List.any_eq_false] at h1
  have h2 := h1 x hx
  simp [badS] at h2
  omega

theorem syncD_go {d : Dk} (hr : runsD d = true) (hst : ¬ (0 ≤ d.left ∧ d.left < d.pending.length)) :
    syncD d = ({ sectors := perfL d.sectors d.pending, pending := [], left := if 0 ≤ d.left then d.left - d.pending.length else d.left, stopped := false }, 0) := by
  unfold syncD; rw [if_pos hr, if_neg hst]

set_option maxHeartbeats 2000000 in
theorem sync_go1 {S : Nat → Prop} (w : World) (v : Value) (d : Dk) (h : Disk S w v d) (hS : ∀ k, S k → k < w.heap.size) (hr : runsD d = true) (hst : ¬ (0 ≤ d.left ∧ d.left < d.pending.length)) (hl : 0 ≤ d.left) :
    Calls Try.prog 30 #[v] w (DiskErr S w (syncD d)) := by
  obtain ⟨a, c, a2, c2, rfl, hc, hm, hc2, hm2, h1, h2⟩ := h.open
  have H := Lib.hid h; clear h
  have H1 := Lib.hid h1; clear h1
  have H2 := Lib.hid h2; clear h2
  have HS := Lib.hid hS; clear hS
  have HR := Lib.hid hr
  go_enter Try.func30, Try.ntmps30
  go_wp2_with fail
  refine (runs_ok _ _ d (H.out.keep (((Ext.refl _).alloc _).alloc _))).mono ?_
  rintro e w1 ⟨rfl, hx⟩
  have hE := (((Ext.refl w).alloc _).alloc _).trans hx
  have hs : w.heap.size + 1 < w1.heap.size := by have := hx.size; simp only [World.size_alloc] at this; omega
  have hs0 : w.heap.size < w1.heap.size := by omega
  have B0 := ((Box.new w _ _).past _).keep hx
  have B1 := (Box.at (b := w.heap.size + 1) (by simp)).keep hx
  clear hx
  have HB0 := Lib.hid B0
  have HB1 := Lib.hid B1
  obtain ⟨c00, c01, c02, c03, f00, f01, f02, f03⟩ := B0.four
  clear B0 B1
  have hok := (okD_iff d).1 (runs_ok' hr)
  obtain ⟨⟨g1, g2, g3, g4, g5⟩, -, -⟩ := hok
  have hA := fun x hx => let q := ok_at (runs_ok' hr) x hx; (⟨q.1, q.2.1⟩ : 0 ≤ x.at_ ∧ x.at_ < d.sectors.length)
  have HA := Lib.hid hA; clear hA
  have HST := Lib.hid hst; clear hst
  have hl2 : (d.pending.length : Int) ≤ d.left := by have := HST.out; omega
  go_wp2_with fail
  go_region_held3 (fun w' : World => w'.cell? ⟨w.heap.size, 0, none⟩ = some (.slice a d.sectors.length c) ∧ w'.cell? ⟨w.heap.size, 1, none⟩ = some (.slice a2 d.pending.length c2) ∧ w'.cell? ⟨w.heap.size, 2, none⟩ = some (.int .i64 d.left)) (first | exact ⟨c00, c01, c02⟩ | exact ⟨Ext.cell ‹Ext w1 _› c00, Ext.cell ‹Ext w1 _› c01, Ext.cell ‹Ext w1 _› c02⟩ | (refine ⟨?_, ?_, ?_⟩ <;> go_simp)) (first | (go_at_call 62; refine (perform_ok (S := Bx S w.heap.size (w.heap.size + 2)) _ _ _ d.sectors d.pending ((H1.out.more etBs Bx.more).keepM etBs ((hE.drew).mem _)) ((H2.out.more etWr Bx.more).keepM etWr ((hE.drew).mem _)) (Bx.lt HS.out hE.size (by show _ ≤ w1.heap.size; omega)) (by omega) HA.out).mono ?_; rintro e w2 ⟨v2, rfl, ho2, hx2⟩; obtain ⟨a9, c9, rfl, hc9, hm9⟩ := (ho2.sl etBs).open; have hxx : Ext w1 w2 := (Ext.drew' w1).trans hx2; obtain ⟨c10, c11, c12, c13, f10, f11, f12, f13⟩ := (HB1.out.keep hxx).four))
  generalize hW : World.setCell _ _ _ = w3
  obtain ⟨hb3, ho3⟩ := box_set4 (HB1.out.keep hxx) hW
  clear hW c10 c11 c12 c13 f10 f11 f12 f13 c00 c01 c02 c03 f00 f01 f02 f03
  have P0 := Lib.hid ((ho2.sl etBs).keepM etBs (ho3.mem (.inr (by simp)))); clear ho2
  have hE3 := ho3.ext (hE.trans hxx) (by omega)
  have hsz : w.heap.size + 1 < w3.heap.size := by rw [ho3.size]; exact Nat.lt_of_lt_of_le hs hxx.size
  clear hx2 hxx hE ho3 HB0 HB1
  obtain ⟨c10, c11, c12, c13, f10, f11, f12, f13⟩ := hb3.four
  have hb3' := Lib.hid hb3; clear hb3
  go_wp2_with (with_reducible refine wpList_store_cell rfl 3 _ _ rfl (w.heap.size + 1) 2 _ _ rfl rfl hb3'.out (by kernel_rfl) ?_ rfl ?_)
  case refine_1 => simp
  intro w4 hb4 ho4
  clear c10 c11 c12 c13 f10 f11 f12 f13
  have hE4 := ho4.ext hE3 (by omega)
  obtain ⟨c10, c11, c12, c13, f10, f11, f12, f13⟩ := Box.four (x2 := .int .i64 (d.left - d.pending.length)) hb4
  have hb4' : Hid (Box w4 (w.heap.size + 1) [_, _, _, _]) := hb4
  go_wp2_with (with_reducible refine wpList_store_box rfl 25 _ _ rfl (w.heap.size + 1) [_, _, _, _] _ rfl rfl hb4'.out (by kernel_rfl) rfl ?_ ?_)
  case refine_1 => rfl
  intro w5 hb5 ho5
  clear c10 c11 c12 c13 f10 f11 f12 f13
  obtain ⟨c10, c11, c12, c13, f10, f11, f12, f13⟩ := hb5.four
  go_wp2_with fail
  refine bodyPost_ret (v := .tuple #[.agg #[.slice a9 (perfL d.sectors d.pending).length c9, .slice none 0 0, .int .i64 (d.left - d.pending.length), .bool false], .int .i64 0]) (by simp [results, Try.results30, go_sem, c10, c11, c12, c13]) rfl (DiskErr.mk (d := { sectors := perfL d.sectors d.pending, pending := [], left := d.left - d.pending.length, stopped := false }) (by rw [syncD_go HR.out HST.out, if_pos hl]) (Disk.mk' (((P0.out.keepM etBs (ho4.mem (.inr (by simp)))).keepM etBs (ho5.mem (.inr (by simp)))).more etBs Bx.less) (Sl.nil _ _ _ _)) (ho5.ext hE4 (by omega)))
set_option maxHeartbeats 2000000 in
theorem sync_go2 {S : Nat → Prop} (w : World) (v : Value) (d : Dk) (h : Disk S w v d) (hS : ∀ k, S k → k < w.heap.size) (hr : runsD d = true) (hst : ¬ (0 ≤ d.left ∧ d.left < d.pending.length)) (hl : ¬ 0 ≤ d.left) :
    Calls Try.prog 30 #[v] w (DiskErr S w (syncD d)) := by
  obtain ⟨a, c, a2, c2, rfl, hc, hm, hc2, hm2, h1, h2⟩ := h.open
  have H := Lib.hid h; clear h
  have H1 := Lib.hid h1; clear h1
  have H2 := Lib.hid h2; clear h2
  have HS := Lib.hid hS; clear hS
  have HR := Lib.hid hr
  go_enter Try.func30, Try.ntmps30
  go_wp2_with fail
  refine (runs_ok _ _ d (H.out.keep (((Ext.refl _).alloc _).alloc _))).mono ?_
  rintro e w1 ⟨rfl, hx⟩
  have hE := (((Ext.refl w).alloc _).alloc _).trans hx
  have hs : w.heap.size + 1 < w1.heap.size := by have := hx.size; simp only [World.size_alloc] at this; omega
  have hs0 : w.heap.size < w1.heap.size := by omega
  have B0 := ((Box.new w _ _).past _).keep hx
  have B1 := (Box.at (b := w.heap.size + 1) (by simp)).keep hx
  clear hx
  have HB0 := Lib.hid B0
  have HB1 := Lib.hid B1
  obtain ⟨c00, c01, c02, c03, f00, f01, f02, f03⟩ := B0.four
  clear B0 B1
  have hok := (okD_iff d).1 (runs_ok' hr)
  obtain ⟨⟨g1, g2, g3, g4, g5⟩, -, -⟩ := hok
  have hA := fun x hx => let q := ok_at (runs_ok' hr) x hx; (⟨q.1, q.2.1⟩ : 0 ≤ x.at_ ∧ x.at_ < d.sectors.length)
  have HA := Lib.hid hA; clear hA
  have HST := Lib.hid hst; clear hst
  have hl2 : d.left < 0 := by omega
  go_wp2_with fail
  go_region_held3 (fun w' : World => w'.cell? ⟨w.heap.size, 0, none⟩ = some (.slice a d.sectors.length c) ∧ w'.cell? ⟨w.heap.size, 1, none⟩ = some (.slice a2 d.pending.length c2) ∧ w'.cell? ⟨w.heap.size, 2, none⟩ = some (.int .i64 d.left)) (first | exact ⟨c00, c01, c02⟩ | exact ⟨Ext.cell ‹Ext w1 _› c00, Ext.cell ‹Ext w1 _› c01, Ext.cell ‹Ext w1 _› c02⟩ | (refine ⟨?_, ?_, ?_⟩ <;> go_simp)) (first | (go_at_call 62; refine (perform_ok (S := Bx S w.heap.size (w.heap.size + 2)) _ _ _ d.sectors d.pending ((H1.out.more etBs Bx.more).keepM etBs ((hE.drew).mem _)) ((H2.out.more etWr Bx.more).keepM etWr ((hE.drew).mem _)) (Bx.lt HS.out hE.size (by show _ ≤ w1.heap.size; omega)) (by omega) HA.out).mono ?_; rintro e w2 ⟨v2, rfl, ho2, hx2⟩; obtain ⟨a9, c9, rfl, hc9, hm9⟩ := (ho2.sl etBs).open; have hxx : Ext w1 w2 := (Ext.drew' w1).trans hx2; obtain ⟨c10, c11, c12, c13, f10, f11, f12, f13⟩ := (HB1.out.keep hxx).four))
  generalize hW : World.setCell _ _ _ = w3
  obtain ⟨hb3, ho3⟩ := box_set4 (HB1.out.keep hxx) hW
  clear hW c10 c11 c12 c13 f10 f11 f12 f13 c00 c01 c02 c03 f00 f01 f02 f03
  have P0 := Lib.hid ((ho2.sl etBs).keepM etBs (ho3.mem (.inr (by simp)))); clear ho2
  have hE3 := ho3.ext (hE.trans hxx) (by omega)
  have hsz : w.heap.size + 1 < w3.heap.size := by rw [ho3.size]; exact Nat.lt_of_lt_of_le hs hxx.size
  clear hx2 hxx hE ho3 HB0 HB1
  obtain ⟨c10, c11, c12, c13, f10, f11, f12, f13⟩ := hb3.four
  have hb3' := Lib.hid hb3; clear hb3
  go_wp2_with (with_reducible refine wpList_store_box rfl 25 _ _ rfl (w.heap.size + 1) [_, _, _, _] _ rfl rfl hb3'.out (by kernel_rfl) rfl ?_ ?_)
  case refine_1 => rfl
  intro w5 hb5 ho5
  clear c10 c11 c12 c13 f10 f11 f12 f13
  obtain ⟨c10, c11, c12, c13, f10, f11, f12, f13⟩ := hb5.four
  go_wp2_with fail
  refine bodyPost_ret (v := .tuple #[.agg #[.slice a9 (perfL d.sectors d.pending).length c9, .slice none 0 0, .int .i64 d.left, .bool false], .int .i64 0]) (by simp [results, Try.results30, go_sem, c10, c11, c12, c13]) rfl (DiskErr.mk (d := { sectors := perfL d.sectors d.pending, pending := [], left := d.left, stopped := false }) (by rw [syncD_go HR.out HST.out, if_neg (by omega)]) (Disk.mk' ((P0.out.keepM etBs (ho5.mem (.inr (by simp)))).more etBs Bx.less) (Sl.nil _ _ _ _)) (ho5.ext hE3 (by omega)))
end Go.Proofs.Ytpciankfpagnhaa
