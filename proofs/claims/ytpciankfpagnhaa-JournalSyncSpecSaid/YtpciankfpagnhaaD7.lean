/- What disk.Sync does. -/
import Derived.Test.YtpciankfpagnhaaD4
import Derived.Test.YtpciankfpagnhaaM1
import Derived.Deep.RegionHeld3
namespace Go.Proofs.Ytpciankfpagnhaa
open Go.RowKit

/-- What Sync answers. -/
def syncD (d : Dk) : Dk × Int :=
  if runsD d = true then
    (if 0 ≤ d.left ∧ d.left < d.pending.length then
      (let ss := perfL d.sectors (d.pending.take d.left.toNat)
       let x := d.pending.getD d.left.toNat ⟨0, []⟩
       ({ sectors := ss.set x.at_.toNat (x.data.take 64 ++ (ss.getD x.at_.toNat []).drop 64), pending := [], left := 0, stopped := true }, 410))
     else ({ sectors := perfL d.sectors d.pending, pending := [], left := if 0 ≤ d.left then d.left - d.pending.length else d.left, stopped := false }, 0))
  else (zeroD, 410)

theorem runs_ok' {d : Dk} (h : runsD d = true) : okD d = true := by unfold runsD at h; simp at h; exact h.1
theorem ok_at {d : Dk} (h : okD d = true) : ∀ x ∈ d.pending, 0 ≤ x.at_ ∧ x.at_ < d.sectors.length ∧ x.data.length = 128 := by
  intro x hx
  have h1 := ((okD_iff d).1 h).2.1
  rw [List.any_eq_false] at h1
  have h2 := h1 x hx
  simp [badW] at h2
  omega
theorem ok_sec {d : Dk} (h : okD d = true) : ∀ l ∈ d.sectors, l.length = 128 := by
  intro x hx
  have h1 := ((okD_iff d).1 h).2.2
  rw [List.any_eq_false] at h1
  have h2 := h1 x hx
  simp [badS] at h2
  omega

theorem syncD_go {d : Dk} (hr : runsD d = true) (hst : ¬ (0 ≤ d.left ∧ d.left < d.pending.length)) :
    syncD d = ({ sectors := perfL d.sectors d.pending, pending := [], left := if 0 ≤ d.left then d.left - d.pending.length else d.left, stopped := false }, 0) := by
  unfold syncD; rw [if_pos hr, if_neg hst]

set_option maxHeartbeats 2000000 in
theorem sync_go1 {S : Nat → Prop} (w : World) (v : Value) (d : Dk) (h : Disk S w v d) (hS : ∀ k, S k → k < w.heap.size) (hr : runsD d = true) (hst : ¬ (0 ≤ d.left ∧ d.left < d.pending.length)) (hl : 0 ≤ d.left) :
    Calls Try.prog 30 #[v] w (DiskErr S w (syncD d)) := by
  obtain ⟨a, c, a2, c2, rfl, hc, hm, hc2, hm2, h1, h2⟩ := h.open
  have H := Lib.hid h; clear h
  have H1 := Lib.hid h1; clear h1
  have H2 := Lib.hid h2; clear h2
  have HS := Lib.hid hS; clear hS
  have HR := Lib.hid hr
  go_enter Try.func30, Try.ntmps30
  go_wp2_with fail
  refine (runs_ok _ _ d (H.out.keep (((Ext.refl _).alloc _).alloc _))).mono ?_
  rintro e w1 ⟨rfl, hx⟩
  have hE := (((Ext.refl w).alloc _).alloc _).trans hx
  have hs : w.heap.size + 1 < w1.heap.size := by have := hx.size; simp only [World.size_alloc] at this; omega
  have hs0 : w.heap.size < w1.heap.size := by omega
  have B0 := ((Box.new w _ _).past _).keep hx
  have B1 := (Box.at (b := w.heap.size + 1) (by simp)).keep hx
  clear hx
  have HB0 := Lib.hid B0
  have HB1 := Lib.hid B1
  obtain ⟨c00, c01, c02, c03, f00, f01, f02, f03⟩ := B0.four
  clear B0 B1
  have hok := (okD_iff d).1 (runs_ok' hr)
  obtain ⟨⟨g1, g2, g3, g4, g5⟩, -, -⟩ := hok
  have hA := fun x hx => let q := ok_at (runs_ok' hr) x hx; (⟨q.1, q.2.1⟩ : 0 ≤ x.at_ ∧ x.at_ < d.sectors.length)
  have HA := Lib.hid hA; clear hA
  have HST := Lib.hid hst; clear hst
  have hl2 : (d.pending.length : Int) ≤ d.left := by have := HST.out; omega
  go_wp2_with fail
  go_region_held3 (fun w' : World => w'.cell? ⟨w.heap.size, 0, none⟩ = some (.slice a d.sectors.length c) ∧ w'.cell? ⟨w.heap.size, 1, none⟩ = some (.slice a2 d.pending.length c2) ∧ w'.cell? ⟨w.heap.size, 2, none⟩ = some (.int .i64 d.left)) (first | exact ⟨c00, c01, c02⟩ | exact ⟨Ext.cell ‹Ext w1 _› c00, Ext.cell ‹Ext w1 _› c01, Ext.cell ‹Ext w1 _› c02⟩ | (refine ⟨?_, ?_, ?_⟩ <;> go_simp)) (first | (go_at_call 62; refine (perform_ok (S := Bx S w.heap.size (w.heap.size + 2)) _ _ _ d.sectors d.pending ((H1.out.more etBs Bx.more).keepM etBs ((hE.drew).mem _)) ((H2.out.more etWr Bx.more).keepM etWr ((hE.drew).mem _)) (Bx.lt HS.out hE.size (by show _ ≤ w1.heap.size; omega)) (by omega) HA.out).mono ?_; rintro e w2 ⟨v2, rfl, ho2, hx2⟩; obtain ⟨a9, c9, rfl, hc9, hm9⟩ := (ho2.sl etBs).open; have hxx : Ext w1 w2 := (Ext.drew' w1).trans hx2; obtain ⟨c10, c11, c12, c13, f10, f11, f12, f13⟩ := (HB1.out.keep hxx).four))
  generalize hW : World.setCell _ _ _ = w3
  obtain ⟨hb3, ho3⟩ := box_set4 (HB1.out.keep hxx) hW
  clear hW c10 c11 c12 c13 f10 f11 f12 f13 c00 c01 c02 c03 f00 f01 f02 f03
  have P0 := Lib.hid ((ho2.sl etBs).keepM etBs (ho3.mem (.inr (by simp)))); clear ho2
  have hE3 := ho3.ext (hE.trans hxx) (by omega)
  have hsz : w.heap.size + 1 < w3.heap.size := by rw [ho3.size]; exact Nat.lt_of_lt_of_le hs hxx.size
  clear hx2 hxx hE ho3 HB0 HB1
  obtain ⟨c10, c11, c12, c13, f10, f11, f12, f13⟩ := hb3.four
  have hb3' := Lib.hid hb3; clear hb3
  go_wp2_with (with_reducible refine wpList_store_cell rfl 3 _ _ rfl (w.heap.size + 1) 2 _ _ rfl rfl hb3'.out (by kernel_rfl) ?_ rfl ?_)
  case refine_1 => simp
  intro w4 hb4 ho4
  clear c10 c11 c12 c13 f10 f11 f12 f13
  have hE4 := ho4.ext hE3 (by omega)
  obtain ⟨c10, c11, c12, c13, f10, f11, f12, f13⟩ := Box.four (x2 := .int .i64 (d.left - d.pending.length)) hb4
  have hb4' : Hid (Box w4 (w.heap.size + 1) [_, _, _, _]) := hb4
  go_wp2_with (with_reducible refine wpList_store_box rfl 25 _ _ rfl (w.heap.size + 1) [_, _, _, _] _ rfl rfl hb4'.out (by kernel_rfl) rfl ?_ ?_)
  case refine_1 => rfl
  intro w5 hb5 ho5
  clear c10 c11 c12 c13 f10 f11 f12 f13
  obtain ⟨c10, c11, c12, c13, f10, f11, f12, f13⟩ := hb5.four
  go_wp2_with fail
  refine bodyPost_ret (v := .tuple #[.agg #[.slice a9 (perfL d.sectors d.pending).length c9, .slice none 0 0, .int .i64 (d.left - d.pending.length), .bool false], .int .i64 0]) (by simp [results, Try.results30, go_sem, c10, c11, c12, c13]) rfl (DiskErr.mk (d := { sectors := perfL d.sectors d.pending, pending := [], left := d.left - d.pending.length, stopped := false }) (by rw [syncD_go HR.out HST.out, if_pos hl]) (Disk.mk' (((P0.out.keepM etBs (ho4.mem (.inr (by simp)))).keepM etBs (ho5.mem (.inr (by simp)))).more etBs Bx.less) (Sl.nil _ _ _ _)) (ho5.ext hE4 (by omega)))
set_option maxHeartbeats 2000000 in
theorem sync_go2 {S : Nat → Prop} (w : World) (v : Value) (d : Dk) (h : Disk S w v d) (hS : ∀ k, S k → k < w.heap.size) (hr : runsD d = true) (hst : ¬ (0 ≤ d.left ∧ d.left < d.pending.length)) (hl : ¬ 0 ≤ d.left) :
    Calls Try.prog 30 #[v] w (DiskErr S w (syncD d)) := by
  obtain ⟨a, c, a2, c2, rfl, hc, hm, hc2, hm2, h1, h2⟩ := h.open
  have H := Lib.hid h; clear h
  have H1 := Lib.hid h1; clear h1
  have H2 := Lib.hid h2; clear h2
  have HS := Lib.hid hS; clear hS
  have HR := Lib.hid hr
  go_enter Try.func30, Try.ntmps30
  go_wp2_with fail
  refine (runs_ok _ _ d (H.out.keep (((Ext.refl _).alloc _).alloc _))).mono ?_
  rintro e w1 ⟨rfl, hx⟩
  have hE := (((Ext.refl w).alloc _).alloc _).trans hx
  have hs : w.heap.size + 1 < w1.heap.size := by have := hx.size; simp only [World.size_alloc] at this; omega
  have hs0 : w.heap.size < w1.heap.size := by omega
  have B0 := ((Box.new w _ _).past _).keep hx
  have B1 := (Box.at (b := w.heap.size + 1) (by simp)).keep hx
  clear hx
  have HB0 := Lib.hid B0
  have HB1 := Lib.hid B1
  obtain ⟨c00, c01, c02, c03, f00, f01, f02, f03⟩ := B0.four
  clear B0 B1
  have hok := (okD_iff d).1 (runs_ok' hr)
  obtain ⟨⟨g1, g2, g3, g4, g5⟩, -, -⟩ := hok
  have hA := fun x hx => let q := ok_at (runs_ok' hr) x hx; (⟨q.1, q.2.1⟩ : 0 ≤ x.at_ ∧ x.at_ < d.sectors.length)
  have HA := Lib.hid hA; clear hA
  have HST := Lib.hid hst; clear hst
  have hl2 : d.left < 0 := by omega
  go_wp2_with fail
  go_region_held3 (fun w' : World => w'.cell? ⟨w.heap.size, 0, none⟩ = some (.slice a d.sectors.length c) ∧ w'.cell? ⟨w.heap.size, 1, none⟩ = some (.slice a2 d.pending.length c2) ∧ w'.cell? ⟨w.heap.size, 2, none⟩ = some (.int .i64 d.left)) (first | exact ⟨c00, c01, c02⟩ | exact ⟨Ext.cell ‹Ext w1 _› c00, Ext.cell ‹Ext w1 _› c01, Ext.cell ‹Ext w1 _› c02⟩ | (refine ⟨?_, ?_, ?_⟩ <;> go_simp)) (first | (go_at_call 62; refine (perform_ok (S := Bx S w.heap.size (w.heap.size + 2)) _ _ _ d.sectors d.pending ((H1.out.more etBs Bx.more).keepM etBs ((hE.drew).mem _)) ((H2.out.more etWr Bx.more).keepM etWr ((hE.drew).mem _)) (Bx.lt HS.out hE.size (by show _ ≤ w1.heap.size; omega)) (by omega) HA.out).mono ?_; rintro e w2 ⟨v2, rfl, ho2, hx2⟩; obtain ⟨a9, c9, rfl, hc9, hm9⟩ := (ho2.sl etBs).open; have hxx : Ext w1 w2 := (Ext.drew' w1).trans hx2; obtain ⟨c10, c11, c12, c13, f10, f11, f12, f13⟩ := (HB1.out.keep hxx).four))
  generalize hW : World.setCell _ _ _ = w3
  obtain ⟨hb3, ho3⟩ := box_set4 (HB1.out.keep hxx) hW
  clear hW c10 c11 c12 c13 f10 f11 f12 f13 c00 c01 c02 c03 f00 f01 f02 f03
  have P0 := Lib.hid ((ho2.sl etBs).keepM etBs (ho3.mem (.inr (by simp)))); clear ho2
  have hE3 := ho3.ext (hE.trans hxx) (by omega)
  have hsz : w.heap.size + 1 < w3.heap.size := by rw [ho3.size]; exact Nat.lt_of_lt_of_le hs hxx.size
  clear hx2 hxx hE ho3 HB0 HB1
  obtain ⟨c10, c11, c12, c13, f10, f11, f12, f13⟩ := hb3.four
  have hb3' := Lib.hid hb3; clear hb3
  go_wp2_with (with_reducible refine wpList_store_box rfl 25 _ _ rfl (w.heap.size + 1) [_, _, _, _] _ rfl rfl hb3'.out (by kernel_rfl) rfl ?_ ?_)
  case refine_1 => rfl
  intro w5 hb5 ho5
  clear c10 c11 c12 c13 f10 f11 f12 f13
  obtain ⟨c10, c11, c12, c13, f10, f11, f12, f13⟩ := hb5.four
  go_wp2_with fail
  refine bodyPost_ret (v := .tuple #[.agg #[.slice a9 (perfL d.sectors d.pending).length c9, .slice none 0 0, .int .i64 d.left, .bool false], .int .i64 0]) (by simp [results, Try.results30, go_sem, c10, c11, c12, c13]) rfl (DiskErr.mk (d := { sectors := perfL d.sectors d.pending, pending := [], left := d.left, stopped := false }) (by rw [syncD_go HR.out HST.out, if_neg (by omega)]) (Disk.mk' ((P0.out.keepM etBs (ho5.mem (.inr (by simp)))).more etBs Bx.less) (Sl.nil _ _ _ _)) (ho5.ext hE3 (by omega)))
end Go.Proofs.Ytpciankfpagnhaa

/- What disk.Sync does on a disk that stops. -/
namespace Go.Proofs.Ytpciankfpagnhaa
open Go.RowKit

theorem perfL_all (l : List Wr) : ∀ ss : List (List UInt8), (∀ x ∈ ss, x.length = 128) → (∀ x ∈ l, x.data.length = 128) → ∀ y ∈ perfL ss l, y.length = 128 := by
  induction l with
  | nil => intro ss h _ y hy; exact h y hy
  | cons x l ih =>
    intro ss h h2 y hy
    refine ih (ss.set x.at_.toNat x.data) (fun z hz => ?_) (fun z hz => h2 z (List.mem_cons_of_mem _ hz)) y hy
    rcases List.mem_or_eq_of_mem_set hz with hz | hz
    · exact h z hz
    · rw [hz]; exact h2 x (List.mem_cons_self ..)

set_option maxHeartbeats 2000000 in
theorem sync_stop {S : Nat → Prop} (w : World) (v : Value) (d : Dk) (h : Disk S w v d) (hS : ∀ k, S k → k < w.heap.size) (hr : runsD d = true) (n : Nat) (hn : d.left = n) (hlt : n < d.pending.length)
    (hA : ∀ x ∈ d.pending, (0 ≤ x.at_ ∧ x.at_ < d.sectors.length) ∧ x.data.length = 128) (hL : ∀ l ∈ d.sectors, l.length = 128) (hsec : d.sectors.length ≤ 4096) (_hpen : d.pending.length ≤ 4096)
    (r : Dk) (hR : r = { sectors := (perfL d.sectors (d.pending.take n)).set d.pending[n].at_.toNat (d.pending[n].data.take 64 ++ ((perfL d.sectors (d.pending.take n)).getD d.pending[n].at_.toNat []).drop 64), pending := [], left := 0, stopped := true }) :
    Calls Try.prog 30 #[v] w (DiskErr S w (r, 410)) := by
  have HR := Lib.hid hR; clear hR
  obtain ⟨a, c, a2, c2, rfl, hc, hm, hc2, hm2, h1, h2⟩ := h.open
  have H := Lib.hid h; clear h
  have H1 := Lib.hid h1; clear h1
  have H2 := Lib.hid h2; clear h2
  have HS := Lib.hid hS; clear hS
  have HA := Lib.hid hA; clear hA
  have HL := Lib.hid hL; clear hL
  generalize hdl : d.left = dl at *
  subst hn
  clear hdl
  go_enter Try.func30, Try.ntmps30
  go_wp2_with fail
  refine (runs_ok _ _ d (H.out.keep (((Ext.refl _).alloc _).alloc _))).mono ?_
  rintro e w1 ⟨rfl, hx⟩
  have hE := (((Ext.refl w).alloc _).alloc _).trans hx
  have hs : w.heap.size + 1 < w1.heap.size := by have := hx.size; simp only [World.size_alloc] at this; omega
  have hs0 : w.heap.size < w1.heap.size := by omega
  have B0 := ((Box.new w _ _).past _).keep hx
  have B1 := (Box.at (b := w.heap.size + 1) (by simp)).keep hx
  clear hx
  have HB0 := Lib.hid B0
  have HB1 := Lib.hid B1
  obtain ⟨c00, c01, c02, c03, f00, f01, f02, f03⟩ := B0.four
  clear B0 B1
  have hi1 : (0 : Int) ≤ n := by omega
  have hi2 : (n : Int) < d.pending.length := by omega
  have hi3 : (n : Int) ≤ c2 := by omega
  go_wp2_with fail
  refine (perform_ok (S := Bx S w.heap.size (w.heap.size + 2)) _ _ _ d.sectors (d.pending.take n) ((H1.out.more etBs Bx.more).keepM etBs (hE.mem _)) (((H2.out.more etWr Bx.more).keepM etWr (hE.mem _)).pre n n (by omega) (Nat.le_refl _) (by unfold maxLen; omega)) (Bx.lt HS.out hE.size (by omega)) (by omega) (fun x hx => (HA.out x (List.mem_of_mem_take hx)).1)).mono ?_
  rintro e w2 ⟨v2, rfl, ho2, hx2⟩
  obtain ⟨a9, c9, rfl, hc9, hm9⟩ := (ho2.sl etBs).open
  have hE2 := hE.trans hx2
  have KB0 := Lib.hid (HB0.out.keep hx2); clear HB0
  have KB1 := Lib.hid (HB1.out.keep hx2); clear HB1
  clear c00 c01 c02 c03 f00 f01 f02 f03
  have HO2 := Lib.hid ho2; clear ho2
  have hs2 : w.heap.size + 1 < w2.heap.size := Nat.lt_of_lt_of_le hs hx2.size
  clear hE
  go_wp2_with (with_reducible refine wpList_store_box rfl 25 _ _ rfl (w.heap.size + 1) [_, _, _, _] _ rfl rfl KB1.out ?_ ?_ ?_ ?_)
  case refine_1 => kernel_rfl
  case refine_2 => rfl
  case refine_3 => rfl
  intro w3 hb3 ho3
  have hE3 := ho3.ext hE2 (by omega)
  have LB0 := Lib.hid (ho3.box KB0.out (by omega)); clear KB0
  have HO3 := Lib.hid (OSl.keepM etBs HO2.out (ho3.mem (.inr (by simp)))); clear HO2
  have hs3 : w.heap.size + 1 < w3.heap.size := by rw [ho3.size]; exact hs2
  have hs3' : w.heap.size < w3.heap.size := by omega
  have hbase : w1.heap.size ≤ w3.heap.size := by rw [ho3.size]; exact hx2.size
  clear ho3 KB1 hE2 hx2
  obtain ⟨c00, c01, c02, c03, f00, f01, f02, f03⟩ := LB0.out.four
  obtain ⟨c10, c11, c12, c13, f10, f11, f12, f13⟩ := hb3.four
  have LB1 := Lib.hid hb3; clear hb3
  obtain ⟨b, o, vd, rfl, hb, x0, x1, hv⟩ := Wrs.elem (S := Bx S w.heap.size (w.heap.size + 2)) ((H2.out.more etWr Bx.more).keepM etWr (hE3.mem _)) hlt
  obtain ⟨a3, c3, rfl, hc3, hm3⟩ := hv.open
  have hpl := perfL_length (d.pending.take n) d.sectors
  have hat := HA.out d.pending[n] (List.getElem_mem hlt)
  have HR1 := HR.out; clear HR
  generalize d.pending[n] = x at *
  have HR := Lib.hid HR1; clear HR1
  obtain ⟨at_, data⟩ := x
  simp only at *
  obtain ⟨⟨ha1, ha2⟩, hdl⟩ := hat
  obtain ⟨q, rfl⟩ := Int.eq_ofNat_of_zero_le ha1
  have HR2 := HR.out
  rw [Int.toNat_natCast] at HR2
  have HR := Lib.hid HR2; clear HR2
  have hq : q < (perfL d.sectors (d.pending.take n)).length := by rw [hpl]; omega
  have HR1 := HR.out; clear HR
  generalize hPL : perfL d.sectors (d.pending.take n) = PL at *
  have HR := Lib.hid HR1; clear HR1
  have HPL := Lib.hid hPL; clear hPL
  obtain ⟨gg, vq, rfl, hgb0, hgb1, hgb2, y0, hvq⟩ := OSl.elemB HO3.out hq
  obtain ⟨aq, cq, rfl, hcq, hmq⟩ := hvq.open
  have HPl := Lib.hid hpl; clear hpl
  have hq1 : (q : Int) < (PL.length : Int) := by omega
  have HV := Lib.hid hv; clear hv
  have HVQ := Lib.hid hvq; clear hvq
  have HDL := Lib.hid hdl; clear hdl
  obtain ⟨hb1, hb2⟩ := hb
  clear hc9 hm9 ha1 ha2
  generalize hyq : PL[q] = yq at *
  have HYQ := Lib.hid hyq; clear hyq
  go_wp2_with fail
  have hyl : yq.length = 128 := by
    rw [← HYQ.out]
    have hmem : PL[q] ∈ perfL d.sectors (d.pending.take n) := by rw [HPL.out]; exact List.getElem_mem hq
    exact perfL_all (d.pending.take n) d.sectors HL.out (fun x hx => (HA.out x (List.mem_of_mem_take hx)).2) _ hmem
  have hyl1 : 128 ≤ yq.length := by omega
  have hyl2 : yq.length ≤ 128 := by omega
  clear hyl
  refine (cloneB_ok (S := Wo (Bx S w.heap.size (w.heap.size + 2)) (.slice (some ⟨gg, 0, none⟩) PL.length c9)) _ _ yq (HVQ.out.keep ((Ext.refl _).alloc _)) (by omega) ?_).mono ?_
  · intro k hk
    simp only [World.size_alloc]
    rcases hk with hk | hk
    · exact Nat.lt_succ_of_lt (Bx.lt HS.out hE3.size (by omega) k hk)
    · simp [Value.ownBlock] at hk; omega
  rintro e w4 ⟨v4, rfl, ho4, hx4⟩
  obtain ⟨a4, c4, rfl, hc4, hm4⟩ := (ho4.sl etByte).open
  have hE4 := (hE3.alloc _).trans hx4
  have MB0 := Lib.hid ((LB0.out.past _).keep hx4); clear LB0
  have MB1 := Lib.hid ((LB1.out.past _).keep hx4); clear LB1
  have HX4 := Lib.hid hx4
  have MB2 := Lib.hid ((Box.new w3 _ 76).keep hx4)
  have HV4 := Lib.hid ((HV.out.keep ((Ext.refl w3).alloc _)).keep hx4); clear HV
  have hs4 : w3.heap.size < w4.heap.size := by have := hx4.size; simp at this; omega
  clear c00 c01 c02 c03 f00 f01 f02 f03 c10 c11 c12 c13 f10 f11 f12 f13 x0 x1 y0 hx4
  obtain ⟨g4, hg4, rfl⟩ : ∃ g4, w3.heap.size < g4 ∧ a4 = some ⟨g4, 0, none⟩ := by
    obtain ⟨cells, hown, _⟩ := ho4
    rcases hown.2 with ⟨e, hn⟩ | ⟨g', cap, cur, e, hbg, _⟩
    · exfalso; omega
    · cases e; exact ⟨g', by simp at hbg; omega, rfl⟩
  have HT := Lib.hid ho4; clear ho4
  obtain ⟨c20, c21, f20, f21⟩ := MB2.out.two
  have hl64 : (64 : Int) ≤ c4 := by omega
  have h64 : 64 ≤ yq.length := by omega
  go_wp2_with fail
  go_region_held3 (fun w' : World => w'.cell? ⟨w3.heap.size, 1, none⟩ = some (.slice a3 data.length c3)) (first | exact c21 | exact ((Only.box ‹Only g4 _ _› MB2.out.drew (Nat.ne_of_lt hg4)).own 1 _ rfl).1) (first | (refine step_copy_osl rfl (.tmp 50) (.tmp 52) 35 35 rfl Try.underlying35 (by kernel_rfl) g4 _ c4 64 _ _ yq data rfl rfl (HT.out.keepM etByte ((Ext.drew' _).mem _)) (HV4.out.keep (Ext.drew' _)) h64 ?_; intro kk w5 ho5 hon5))
  clear c20 c21 f20 f21
  have hE5 := hon5.ext (hE4.drew) (by have := hE3.size; omega)
  have NB0 := Lib.hid (hon5.box MB0.out.drew (by omega)); clear MB0
  have NB1 := Lib.hid (hon5.box MB1.out.drew (by omega)); clear MB1
  have NB2 := Lib.hid (hon5.box MB2.out.drew (by omega)); clear MB2
  have HO5 : OSl w1.heap.size 35 1 eBs (Bx S w.heap.size (w.heap.size + 2)) w5 (.slice (some ⟨gg, 0, none⟩) PL.length c9) PL := by
    refine OSl.more etBs (S := fun k => Bx S w.heap.size (w.heap.size + 2) k ∨ k = g4) ?_ (fun k hk => .inl (.inl hk))
    refine OSl.keepM etBs ?_ (hon5.mem (.inr rfl))
    refine OSl.keep etBs ?_ ((Ext.refl w4).drew)
    refine OSl.keep etBs ?_ HX4.out
    refine OSl.more etBs (HO3.out.keep etBs ((Ext.refl w3).alloc _)) (fun k hk => hk.imp id (fun h => by subst h; simp; omega))
  clear HO3 HX4
  have htorn := ho5.sl etByte
  obtain ⟨g', cg', u0, e1, hgA, hgB, hgC, hgc, hgf, ho6⟩ := HO5.store1 etBs hq (.slice (some ⟨g4, 0, none⟩) yq.length c4) (over yq data 64) ⟨_, rfl, htorn⟩
  cases e1
  have HO6 := Lib.hid ho6; clear ho6 HO5 htorn ho5
  obtain ⟨c10, c11, c12, c13, f10, f11, f12, f13⟩ := NB1.out.four
  obtain ⟨c20, c21, f20, f21⟩ := NB2.out.two
  have hs5 : w.heap.size + 1 < w5.heap.size := by have := hon5.size; simp at this; omega
  clear hon5
  go_wp2_with fail
  have hov : over yq data 64 = data.take 64 ++ (PL.getD q []).drop 64 := by
    unfold over
    rw [HDL.out]
    have : PL.getD q [] = yq := by rw [← HYQ.out, List.getD_eq_getElem?_getD, List.getElem?_eq_getElem hq]; rfl
    rw [this]; rfl
  refine bodyPost_ret (v := .tuple #[.agg #[.slice (some ⟨gg, 0, none⟩) PL.length c9, .slice none 0 0, .int .i64 0, .bool true], .int .i64 410]) (by simp [results, Try.results30, go_sem, *]) rfl (DiskErr.mk rfl ?_ ?_)
  · rw [HR.out, ← hov]
    refine Disk.mk' (((OSl.sl etBs HO6.out).keepM etBs ?_).more etBs Bx.less) (Sl.nil _ _ _ _)
    iterate 4 refine Mem.setCell ?_ (.inr (by simp)) _
    exact Mem.refl _ _
  · repeat (first | exact hE5 | refine Ext.setCell ?_ (by first | (simp; done) | (simp; have := hE3.size; omega)) _)
end Go.Proofs.Ytpciankfpagnhaa

/- What disk.Sync does, on every disk. -/
namespace Go.Proofs.Ytpciankfpagnhaa
open Go.RowKit

set_option maxHeartbeats 1000000 in
theorem sync_no {S : Nat → Prop} (w : World) (v : Value) (d : Dk) (h : Disk S w v d) (hr : runsD d = false) : Calls Try.prog 30 #[v] w (DiskErr S w (zeroD, 410)) := by
  obtain ⟨a, c, a2, c2, rfl, hc, hm, hc2, hm2, h1, h2⟩ := h.open
  clear h1 h2
  have H := Lib.hid h; clear h
  go_enter Try.func30, Try.ntmps30
  go_wp2_with fail
  refine (runs_ok _ _ d (H.out.keep (((Ext.refl _).alloc _).alloc _))).mono ?_
  rintro e w1 ⟨rfl, hx⟩
  have hE := (((Ext.refl w).alloc _).alloc _).trans hx
  have B1 := (Box.at (b := w.heap.size + 1) (by simp)).keep hx
  have hs : w.heap.size + 1 < w1.heap.size := B1.lt
  clear hx
  obtain ⟨c10, c11, c12, c13, f10, f11, f12, f13⟩ := B1.four
  clear B1
  go_wp2_with fail
  refine bodyPost_ret (v := .tuple #[.agg #[.slice none 0 0, .slice none 0 0, .int .i64 0, .bool false], .int .i64 410]) (by simp [results, Try.results30, go_sem, *]) rfl (DiskErr.mk rfl (zeroD_disk _ _) ?_)
  repeat (first | exact hE | refine Ext.setCell ?_ (by simp) _)

theorem sync_ok {S : Nat → Prop} (w : World) (v : Value) (d : Dk) (h : Disk S w v d) (hS : ∀ k, S k → k < w.heap.size) : Calls Try.prog 30 #[v] w (DiskErr S w (syncD d)) := by
  cases hr : runsD d
  · have : syncD d = (zeroD, 410) := by unfold syncD; rw [if_neg (by simp [hr])]
    rw [this]; exact sync_no w v d h hr
  · by_cases hst : 0 ≤ d.left ∧ d.left < d.pending.length
    · obtain ⟨n, hn⟩ := Int.eq_ofNat_of_zero_le hst.1
      have hlt : n < d.pending.length := by omega
      have hok := runs_ok' hr
      have hb := ((okD_iff d).1 hok).1
      have e : syncD d = ({ sectors := (perfL d.sectors (d.pending.take n)).set d.pending[n].at_.toNat (d.pending[n].data.take 64 ++ ((perfL d.sectors (d.pending.take n)).getD d.pending[n].at_.toNat []).drop 64), pending := [], left := 0, stopped := true }, 410) := by
        unfold syncD
        rw [if_pos hr, if_pos hst, hn]
        simp only [Int.toNat_natCast]
        rw [List.getD_eq_getElem?_getD (l := d.pending), List.getElem?_eq_getElem hlt]
        rfl
      rw [e]
      exact sync_stop w v d h hS hr n hn hlt (fun x hx => by have := ok_at hok x hx; exact ⟨⟨this.1, this.2.1⟩, this.2.2⟩) (ok_sec hok) (by omega) (by omega) _ rfl
    · by_cases hl : 0 ≤ d.left
      · exact sync_go1 w v d h hS hr hst hl
      · exact sync_go2 w v d h hS hr hst hl
end Go.Proofs.Ytpciankfpagnhaa
