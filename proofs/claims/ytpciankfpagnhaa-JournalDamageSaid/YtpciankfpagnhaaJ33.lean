/- What appending records one by one does, where what is refused is left out. -/
import Derived.Test.YtpciankfpagnhaaJ20a
import Derived.Test.YtpciankfpagnhaaJ21
namespace Go.Proofs.Ytpciankfpagnhaa
open Go.RowKit

theorem Nice.fits {j : Jn} (h : Nice j) {b : List UInt8} (hb : (secN b.length : Int) ≤ leftJ j) : b.length ≤ 1000000 := by
  have h1 := h.many2
  rw [h.left] at hb
  unfold secN at hb
  omega
theorem Nice.few {j : Jn} (h : Nice j) : (j.records.length + 1) * 24 ≤ 140737488355328 := by
  have h1 := h.many2; have h2 := h.used; have h3 := usedN_len j.records
  omega
theorem secN_mem {l : List (List UInt8)} {b : List UInt8} (hb : b ∈ l) : secN b.length ≤ usedN l := by
  induction l with
  | nil => cases hb
  | cons x l ih =>
    rw [usedN_cons]
    rcases List.mem_cons.1 hb with rfl | hb
    · omega
    · have := ih hb; omega
theorem Nice.reach {j : Jn} (h : Nice j) : ReachB j.records := fun b hb => by
  have h1 := h.many2; have h2 := h.used; have h3 := secN_mem hb
  unfold secN at h3; omega
theorem Nice.usedB {j : Jn} (h : Nice j) : usedN j.records ≤ 4611686018427387904 := by have h1 := h.many2; have h2 := h.used; omega

/-- What holds while records are appended: the box holds what they lead to. -/
def AInv (S : Nat → Prop) (w : World) (g2 g4 : Nat) (j : Jn) (rs : List (List UInt8)) (iv : Value) (wq : World) : Prop :=
  ∃ (i : Nat) (a : Option Addr) (c : Nat), i ≤ rs.length ∧ iv = .int .i64 (i : Int) ∧ Ext w wq ∧ Box wq g4 [.slice none 0 0, .int .i64 0, .int .i64 0] ∧
    Box wq g2 [.slice a (addJ j (rs.take i)).records.length c, .int .i64 (addJ j (rs.take i)).many, .int .i64 (addJ j (rs.take i)).synced] ∧
    Journal S wq (.agg #[.slice a (addJ j (rs.take i)).records.length c, .int .i64 (addJ j (rs.take i)).many, .int .i64 (addJ j (rs.take i)).synced]) (addJ j (rs.take i))

theorem AInv.mk' {S : Nat → Prop} {w : World} {g2 g4 : Nat} {j y : Jn} {rs : List (List UInt8)} {wq : World} {i c : Nat} {a : Option Addr} (hi : i < rs.length) (hx : addJ j (rs.take (i + 1)) = y) (hE : Ext w wq)
    (hb4 : Box wq g4 [.slice none 0 0, .int .i64 0, .int .i64 0]) (hb2 : Box wq g2 [.slice a y.records.length c, .int .i64 y.many, .int .i64 y.synced])
    (hJ : Journal S wq (.agg #[.slice a y.records.length c, .int .i64 y.many, .int .i64 y.synced]) y) : AInv S w g2 g4 j rs (.int .i64 ((i : Int) + 1)) wq := by
  subst hx
  have e : (i : Int) + 1 = ((i + 1 : Nat) : Int) := by rw [Int.natCast_add]; rfl
  rw [e]
  exact ⟨i + 1, a, c, hi, rfl, hE, hb4, hb2, hJ⟩
theorem AInv.less {n i : Nat} (h : i < n) : n - (intOf (.int .i64 ((i : Int) + 1))).toNat < n - (intOf (.int .i64 (i : Int))).toNat := by simp [intOf]; omega
set_option maxRecDepth 100000 in
set_option maxHeartbeats 4000000 in
theorem add_ok {S : Nat → Prop} (w : World) (v vr : Value) (j : Jn) (rs : List (List UInt8)) (h : Journal S w v j) (hr : Bss S w vr rs) (hn : Nice j) (hl : ReachB rs) (hS : ∀ k, S k → k < w.heap.size) :
    Calls Try.prog 50 #[v, vr] w fun e w' => ∃ v', e = .returned v' ∧ Journal S w' v' (addJ j rs) ∧ Ext w w' := by
  obtain ⟨aJ, cJ, rfl, -, -, -⟩ := h.open
  obtain ⟨aR, cR, rfl, hcR, hmR⟩ := hr.open
  have HR : Hid (Bss (Bx S w.heap.size (w.heap.size + 1 + 1)) w (.slice aR rs.length cR) rs) := Lib.hid (hr.more etBs Bx.more); clear hr
  have HN := Lib.hid hn; clear hn
  have HL := Lib.hid hl; clear hl
  have HS := Lib.hid hS; clear hS
  have hE0 := ((Ext.refl w).alloc (.cells #[.slice aJ j.records.length cJ, .int .i64 j.many, .int .i64 j.synced] 55)).alloc (.cells #[.slice none 0 0, .int .i64 0, .int .i64 0] 55)
  have B2 := (Box.new w [.slice aJ j.records.length cJ, .int .i64 j.many, .int .i64 j.synced] 55).past (.cells #[.slice none 0 0, .int .i64 0, .int .i64 0] 55)
  have B4 := Box.at (w := w.alloc (.cells #[.slice aJ j.records.length cJ, .int .i64 j.many, .int .i64 j.synced] 55)) (b := w.heap.size + 1) (cs := [.slice none 0 0, .int .i64 0, .int .i64 0]) (t := 55) (by simp)
  have HI0 : Hid (AInv (Bx S w.heap.size (w.heap.size + 1 + 1)) w w.heap.size (w.heap.size + 1) j rs (.int .i64 0) ((w.alloc (.cells #[.slice aJ j.records.length cJ, .int .i64 j.many, .int .i64 j.synced] 55)).alloc (.cells #[.slice none 0 0, .int .i64 0, .int .i64 0] 55))) :=
    Lib.hid ⟨0, aJ, cJ, Nat.zero_le _, rfl, hE0, B4, B2, (h.more Bx.more).keep hE0⟩
  clear B2 B4 h
  go_enter Try.func50, Try.ntmps50
  go_upto_region 2 with fail
  generalize (w.alloc (.cells #[.slice aJ j.records.length cJ, .int .i64 j.many, .int .i64 j.synced] 55)).alloc (.cells #[.slice none 0 0, .int .i64 0, .int .i64 0] 55) = w1 at *
  generalize hg4 : w.heap.size + 1 = g4 at *
  generalize hg2 : w.heap.size = g2 at *
  have l2 : w.heap.size ≤ g2 := by omega
  have l4 : w.heap.size ≤ g4 := by omega
  have n24 : g2 ≠ g4 := by omega
  have HSw : Hid (∀ k, S k → k < w.heap.size) := Lib.hid fun k hk => by have h1 := HS.out k hk; omega
  have hSin : Bx S g2 (g4 + 1) g2 := .inr ⟨Nat.le_refl _, by omega⟩
  have hSin4 : Bx S g2 (g4 + 1) g4 := .inr ⟨by omega, by omega⟩
  have HG := Lib.hid (show w.heap.size = g2 ∧ g2 + 1 = g4 from ⟨hg2, hg4⟩)
  clear hg2 hg4 HS
  go_loopw [11] (AInv (Bx S g2 (g4 + 1)) w g2 g4 j rs) (fun iv _ => rs.length - (intOf iv).toNat)
  case atStart => exact HI0.out
  case round =>
    obtain ⟨i, a, c, hi, rfl, hE, hb4, hb2, hj⟩ := hrel
    have hnj := (addJ_nice (rs.take i) HN.out).1
    by_cases hlt : i < rs.length
    case neg =>
      obtain rfl : i = rs.length := by omega
      rw [List.take_length] at hb2 hj hnj
      obtain ⟨x, hx⟩ : ∃ x, addJ j rs = x := ⟨_, rfl⟩
      rw [hx] at hb2 hj hnj
      have HX := Lib.hid hx; clear hx
      have HJ := Lib.hid hj; clear hj
      have hge : ¬ ((rs.length : Int) < rs.length) := by omega
      obtain ⟨c20, c21, c22, f20, f21, f22⟩ := hb2.three
      obtain ⟨c40, c41, c42, f40, f41, f42⟩ := hb4.three
      have HB4 := Lib.hid hb4; clear hb4 hb2
      go_wp2_with fail
      generalize hWa : World.setCell (World.setCell (World.setCell wr ⟨g4, 0, none⟩ _) ⟨g4, 1, none⟩ _) ⟨g4, 2, none⟩ _ = wa
      obtain ⟨hba, hoa⟩ := box_set3 HB4.out hWa
      clear c40 c41 c42 f40 f41 f42
      obtain ⟨z0, z1, z2, -, -, -⟩ := hba.three
      refine bodyPost_ret (v := .agg #[.slice a x.records.length c, .int .i64 x.many, .int .i64 x.synced]) (by simp [results, Try.results50, go_sem, z0, z1, z2]) rfl ⟨_, rfl, ?_, hoa.ext hE l4⟩
      rw [HX.out]
      exact (HJ.out.keepM (hoa.mem hSin4)).more (S' := S) Bx.less
    obtain ⟨bR, oR, vd, rfl, hbR, r1, hv⟩ := (Bss.keep HR.out hE).elem hlt
    have hbl := HL.out rs[i] (List.getElem_mem hlt)
    have hts := addJ_snoc j (rs.take i) rs[i]
    rw [← List.take_succ_eq_append_getElem hlt] at hts
    have HT := Lib.hid hts; clear hts
    generalize rs[i] = b at *
    obtain ⟨ab, cb, rfl, -, -⟩ := hv.open
    generalize hx : addJ j (rs.take i) = x at *
    have HX := Lib.hid hx; clear hx
    have hsz := hb4.lt
    have hsz2 := hb2.lt
    have k0 := append_ok (S := Bx S g2 (g4 + 1)) wr _ _ x b hj hv hnj.reach hbl (fun h => hnj.fits h) hnj.few (Bx.lt HSw.out hE.size (by omega))
    have hadd : add1 x b = if (appendJ x b).2 = 0 then (appendJ x b).1 else x := rfl
    obtain ⟨Y, hY⟩ : ∃ Y, appendJ x b = Y := ⟨_, rfl⟩
    rw [hY] at k0 hadd
    obtain ⟨y, ye⟩ := Y
    simp only at hadd
    have HA := Lib.hid hadd; clear hadd hY
    have K0 := Lib.hid k0; clear k0
    have HB2 := Lib.hid hb2
    have HB4 := Lib.hid hb4; clear hb4
    have HJ := Lib.hid hj; clear hj
    obtain ⟨c20, c21, c22, f20, f21, f22⟩ := hb2.three
    have hii : (i : Int) < rs.length := by omega
    have hi0 : (0 : Int) ≤ i := by omega
    clear hb2 hv hnj
    go_wp2_with fail
    refine K0.out.mono ?_
    rintro e w2 ⟨v2, rfl, hj2, hx2⟩
    obtain ⟨a2, c2, rfl, -, -, -⟩ := hj2.open
    clear c20 c21 c22 f20 f21 f22
    have hy := (Ext.refl w2).alloc (.cells #[.slice a2 y.records.length c2, .int .i64 y.many, .int .i64 y.synced] 55)
    have hx3 := hx2.trans hy
    have HB7 := Lib.hid (Box.new w2 [.slice a2 y.records.length c2, .int .i64 y.many, .int .i64 y.synced] 55)
    have HJ2 := Lib.hid (hj2.keep hy)
    go_upto_region 5 with fail
    generalize w2.alloc (.cells #[.slice a2 y.records.length c2, .int .i64 y.many, .int .i64 y.synced] 55) = w3 at *
    generalize w2.heap.size = g7 at *
    have hE3 := hE.trans hx3
    have hb2 := HB2.out.keep hx3
    have hb4 := HB4.out.keep hx3
    have hj3 := HJ.out.keep hx3
    clear hx2 hx3 hy hj2 HB2 HB4 HJ K0 hE
    by_cases hye : ye = 0
    · have hye1 : (ye == 0) = true := by simp [hye]
      have hadd := HA.out
      rw [if_pos hye] at hadd
      obtain ⟨c20, c21, c22, f20, f21, f22⟩ := hb2.three
      obtain ⟨c70, c71, c72, -, -, -⟩ := HB7.out.three
      have HB2 := Lib.hid hb2; clear hb2
      have HB4 := Lib.hid hb4; clear hb4
      have HAD := Lib.hid hadd; clear hadd HA hj3
      go_wp2_with fail
      generalize hWa : World.setCell (World.setCell (World.setCell w3 ⟨g2, 0, none⟩ _) ⟨g2, 1, none⟩ _) ⟨g2, 2, none⟩ _ = wa
      obtain ⟨hba, hoa⟩ := box_set3 HB2.out hWa
      exact ⟨AInv.mk' hlt (by rw [HT.out, HAD.out]) (hoa.ext hE3 l2) (hoa.box HB4.out n24.symm) hba (HJ2.out.keepM (hoa.mem hSin)), AInv.less hlt⟩
    · have hye1 : (ye == 0) = false := by simp [hye]
      have hadd := HA.out
      rw [if_neg hye] at hadd
      have HB2 := Lib.hid hb2; clear hb2
      have HB4 := Lib.hid hb4; clear hb4
      have HJ3 := Lib.hid hj3; clear hj3
      have HAD := Lib.hid hadd; clear hadd HA
      go_wp2_with fail
      exact ⟨AInv.mk' hlt (by rw [HT.out, HAD.out]) hE3 HB4.out HB2.out HJ3.out, AInv.less hlt⟩
end Go.Proofs.Ytpciankfpagnhaa
