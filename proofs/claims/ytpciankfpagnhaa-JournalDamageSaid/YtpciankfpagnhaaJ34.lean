/- The law JournalDamage returns true on every input. -/
import Derived.Test.YtpciankfpagnhaaJ34a
import Derived.Test.YtpciankfpagnhaaJ34b
import Derived.Test.YtpciankfpagnhaaJ34c
import Derived.Test.YtpciankfpagnhaaJ25
import Derived.Test.YtpciankfpagnhaaJ33
import Derived.Test.YtpciankfpagnhaaJ36a
import Derived.Test.YtpciankfpagnhaaR4
import Derived.Deep.CutBlock
namespace Go.Proofs.Ytpciankfpagnhaa
open Go.RowKit

/-- What holds behind i records: the journal in its box, where each record ends. -/
def DAt (w wb : World) (g11 : Nat) (P : List (List UInt8)) (ev : Value) (wq : World) : Prop :=
  ∃ (aj ae : Option Addr) (cj ce : Nat), usedN P ≤ 40 ∧ ReachB P ∧ ev = .slice ae P.length ce ∧ P.length ≤ ce ∧ ce ≤ 9223372036854775807 ∧ Ext w wq ∧ Mem (fun k => k = g11) wb wq ∧ OSl wb.heap.size 3 1 eInt (fun k => k = g11) wq (.slice ae P.length ce) (endsL P) ∧
    Box wq g11 [.slice aj P.length cj, .int .i64 40, .int .i64 0] ∧ Journal (Wo (fun k => k = g11) (.slice ae P.length ce)) wq (.agg #[.slice aj P.length cj, .int .i64 40, .int .i64 0]) (jP P)
/-- What holds between two rounds. -/
def DInv (w wb : World) (g11 : Nat) (l : List (List UInt8)) (iv ev : Value) (wq : World) : Prop :=
  ∃ i : Nat, i ≤ l.length ∧ iv = .int .i64 (i : Int) ∧ (l.take i).length = i ∧ DAt w wb g11 (l.take i) ev wq
/-- What holds behind the loop. -/
def DEnd (w wb : World) (g11 : Nat) (ev : Value) (wq : World) : Prop := ∃ P, DAt w wb g11 P ev wq
theorem secN_int (n : Nat) (h : n ≤ 140737488355328) : ((n : Int) + 111).tdiv 112 = ((n + 111) / 112 : Nat) := by
  rw [Int.tdiv_eq_ediv_of_nonneg (by omega)]; omega
theorem wraps_u8 (n : Int) (h₀ : 0 ≤ n) (h₁ : n < 2 ^ 8) : IntKind.u8.wrap n = n := by
  simp [IntKind.wrap, IntKind.bits, IntKind.signed]; omega
theorem xor_u8 (a b : UInt8) : bits .xor .u8 (a.toNat : Int) (b.toNat : Int) = ((a ^^^ b).toNat : Int) := by
  have ha := a.toNat_lt
  have hb := b.toNat_lt
  have ha' : a.toNat % 2 ^ 8 = a.toNat := Nat.mod_eq_of_lt ha
  have hb' : b.toNat % 2 ^ 8 = b.toNat := Nat.mod_eq_of_lt hb
  have hc : IntKind.u8.bits = 8 := rfl
  have : a.toNat ^^^ b.toNat < 2 ^ 8 := Nat.xor_lt_two_pow ha hb
  rw [UInt8.toNat_xor]
  simp only [bits, hc, BitVec.ofInt_natCast, BitVec.toNat_xor, BitVec.toNat_ofNat, ha', hb']
  exact wraps_u8 _ (by omega) (by exact_mod_cast this)
theorem mod_k (se : Int) (u : Nat) (h : 0 < u) : ∃ k : Nat, (IntKind.u64.wrap se).tmod (u : Int) = (k : Int) ∧ k < u := by
  have h0 := wrap_u64_nonneg se
  rw [Int.tmod_eq_emod_of_nonneg h0]
  have h1 := Int.emod_nonneg (IntKind.u64.wrap se) (b := (u : Int)) (by omega)
  have h2 := Int.emod_lt_of_pos (IntKind.u64.wrap se) (b := (u : Int)) (by omega)
  exact ⟨(IntKind.u64.wrap se % (u : Int)).toNat, by omega, by omega⟩
theorem mod_j (x : Int) : ∃ j : Nat, (IntKind.u64.wrap x).tmod 128 = (j : Int) ∧ j < 128 := mod_k x 128 (by decide)
/-- All blocks so far but a slice's own. -/
def Alw (n : Nat) (v : Value) (q : Nat) : Prop := q < n ∧ v.ownBlock ≠ some q
theorem osl_reI {base : Nat} {e : TypeId} {S S' : Nat → Prop} {w : World} {v : Value} {xs : List Int} (h : OSl base e 1 eInt S w v xs) (hS : ∀ g, v.ownBlock = some g → ¬ S' g) : OSl base e 1 eInt S' w v xs := by
  obtain ⟨cells, h1, h2, h3⟩ := h
  exact ⟨cells, h1, hS, fun i x hi => h3 i x hi⟩
theorem journal_grown {S : Nat → Prop} {w0 w w' : World} {v v' vd : Value} {d : Jn} (hx : Ext w0 w) (hg : w.grownBy w' v.ownBlock) (h : Journal (Wo S v) w0 vd d) (hv : ∀ k, v'.ownBlock = some k → v.ownBlock = some k ∨ w0.heap.size ≤ k) : Journal (Wo S v') w' vd d := by
  have h1 : Journal (fun k => Wo S v k ∨ Wo S v' k) w0 vd d := h.more (fun k hk => by
    rcases hk with hk | hk
    · exact .inl hk
    · rcases hk with hk | hk
      · exact .inl (.inl hk)
      · rcases hv k hk with h | h
        · exact .inl (.inr h)
        · exact .inr h)
  have hm : Mem (fun k => Wo S v k ∨ Wo S v' k) w0 w' := (hx.mem _).trans ⟨hg.size, fun k hk hs => hg.block k hk (fun e => hs (.inl (.inr e.symm)))⟩
  exact (h1.keepM hm).more (fun k hk => .inl (.inr hk))
theorem DAt.push {w w6 wx w4 : World} {n11 : Nat} {P : List (List UInt8)} {b : List UInt8} {y : Jn} {ev v4 : Value} {aj : Option Addr} {cj : Nat} {x : Int} {t : TypeId} (hwn : w.heap.size ≤ n11) (hl11 : n11 < w6.heap.size) (hu : usedN (P ++ [b]) ≤ 40) (hrb : ReachB (P ++ [b])) (hy : jP (P ++ [b]) = y)
    (hE : Ext w wx) (hm : Mem (fun k => k = n11) w6 wx) (ho : OSl w6.heap.size 3 1 eInt (fun k => k = n11) wx ev (endsL P)) (hB : Box wx n11 [.slice aj y.records.length cj, .int .i64 y.many, .int .i64 y.synced])
    (hJ : Journal (Wo (fun k => k = n11) ev) wx (.agg #[.slice aj y.records.length cj, .int .i64 y.many, .int .i64 y.synced]) y) (hx : x = (usedN (P ++ [b]) : Int))
    (h4 : OSl w6.heap.size 3 1 eInt (Alw wx.heap.size ev) w4 v4 (endsL P ++ [x])) (hg : (wx.alloc (.cells #[.int .i64 x] t)).grownBy w4 ev.ownBlock) : DAt w w6 n11 (P ++ [b]) v4 w4 := by
  subst hy
  have hxa := (Ext.refl wx).alloc (.cells #[.int .i64 x] t)
  have hob := ho.block
  have hvo : ∀ q, v4.ownBlock = some q → ev.ownBlock = some q ∨ wx.heap.size ≤ q := fun q hq => by
    obtain ⟨_, _, hns, _⟩ := h4
    have h1 := hns q hq
    rcases Nat.lt_or_ge q wx.heap.size with h | h
    · left
      exact Classical.byContradiction fun h2 => h1 ⟨h, h2⟩
    · exact .inr h
  have hne : ev.ownBlock ≠ some n11 := fun h => by have := (hob n11 h).1; omega
  have h5 : OSl w6.heap.size 3 1 eInt (fun k => k = n11) w4 v4 (endsL (P ++ [b])) := by
    rw [endsL_snoc, ← hx]
    exact osl_reI h4 (fun g hg hk => by
      subst hk
      rcases hvo _ hg with h | h
      · exact hne h
      · have := hm.size; omega)
  obtain ⟨a4, c4, e4, hc4, hm4⟩ := (h5.sl etInt).open
  rw [endsL_length] at e4 hc4
  subst e4
  have hmx : Mem (fun k => k = n11) w6 w4 := by
    refine ⟨Nat.le_trans hm.size (Nat.le_trans hxa.size hg.size), fun k hk hs => ?_⟩
    have hkx := Nat.lt_of_lt_of_le hk hm.size
    rw [hg.block k (Nat.lt_of_lt_of_le hkx hxa.size) (fun e => by have := (hob k e.symm).1; omega), Below.block hxa k hkx]
    exact hm.block k hk hs
  exact ⟨aj, a4, cj, c4, hu, hrb, rfl, hc4, hm4, (hE.alloc _).grown hg (fun q hq => by have := (hob q hq).1; omega), hmx, h5, (hB.keep hxa).grown hg hne, journal_grown hxa hg hJ hvo⟩

set_option maxRecDepth 100000 in
set_option maxHeartbeats 8000000 in
theorem journalDamage_ok (w : World) (va : Value) (l : List (List UInt8)) (se at_ : Int) (by_ : UInt8) (ha : Bss No w va l) (hr : ReachR l) :
    Calls Try.prog 14 #[va, .int .i64 se, .int .i64 at_, .int .u8 (by_.toNat : Int)] w fun e w' => e = .returned (.bool true) ∧ Ext w w' := by
  obtain ⟨aa, ca, rfl, hca, hma⟩ := ha.open
  have HL := Lib.hid (Sl.more (S' := From w.heap.size) etBs ha (fun k hk => .inr hk)); clear ha
  have HR := Lib.hid hr.1
  have hl24 : l.length * 24 ≤ 140737488355328 := Nat.le_trans hr.2 (by decide)
  clear hr
  have hby := by_.toNat_lt
  obtain ⟨D, e1, e2, e3⟩ := dmg42
  have HE1 := Lib.hid e1; clear e1
  have HE2 := Lib.hid e2; clear e2
  have HE3 := Lib.hid e3; clear e3
  have hE0 := Ext.refl w
  go_enter Try.func14, Try.ntmps14
  go_wp2_with fail
  have k0 := sane42_ok w
  refine k0.mono ?_
  clear k0 
  rintro e w1 ⟨rfl, hx⟩
  replace HL := Lib.hid (Bss.keep HL.out hx)
  have hE1 := hE0.trans hx; clear hE0
  clear hx
  go_wp2_with fail
  have k0 := new_ok (S := No) w1 40 No.lt
  rw [HE1.out] at k0
  refine k0.mono ?_
  clear k0 
  rintro e w2 ⟨u0, rfl, hd0, hx⟩
  obtain ⟨a9, c9, b9, e9, rfl, -, -, -, -, -, -⟩ := hd0.open
  have hy := ((Ext.refl w2).alloc (.cells #[.slice a9 D.sectors.length c9, .slice b9 D.pending.length e9, .int .i64 D.left, .bool D.stopped] 25))
  have hx4 := hx.trans hy
  have B9 := Lib.hid (Box.new w2 [.slice a9 D.sectors.length c9, .slice b9 D.pending.length e9, .int .i64 D.left, .bool D.stopped] 25)
  have D9 := Lib.hid ((hd0.more (S' := From w2.heap.size) (fun k hk => .inr hk)).keep hy)
  replace HL := Lib.hid (Bss.keep HL.out hx4)
  have hE2 := hE1.trans hx4; clear hE1
  clear hx hy hx4 hd0
  go_upto_region 4 with fail
  generalize w2.alloc (.cells #[.slice a9 D.sectors.length c9, .slice b9 D.pending.length e9, .int .i64 D.left, .bool D.stopped] 25) = w3 at *
  generalize w2.heap.size = n9 at *
  obtain ⟨q90, q91, q92, q93, -, -, -, -⟩ := B9.out.four
  go_wp2_with fail
  have k0 := few42_ok (S := From w.heap.size) w3 _ _ D l D9.out HL.out HR.out
  refine k0.mono ?_
  clear k0 q90 q91 q92 q93
  rintro e w4 ⟨rfl, hx⟩
  replace B9 := Lib.hid (B9.out.keep hx)
  replace D9 := Lib.hid (D9.out.keep hx)
  replace HL := Lib.hid (Bss.keep HL.out hx)
  have hE3 := hE2.trans hx; clear hE2
  clear hx
  generalize few42 D l = bf
  cases bf
  · go_wp2_with fail
    go_ret
    exact ⟨rfl, hE3⟩
  by_cases hl0 : l = []
  · subst hl0
    go_wp2_with fail
    go_ret
    exact ⟨rfl, hE3⟩
  have hll : 0 < l.length := List.length_pos_iff.2 hl0
  have hlb : ((l.length : Int) == 0) = false := by simp; omega
  by_cases hb0 : by_ = 0
  · subst hb0
    go_wp2_with fail
    go_ret
    exact ⟨rfl, hE3⟩
  have hbn : ((by_.toNat : Int) == 0) = false := by
    have : by_.toNat ≠ 0 := fun h => hb0 (UInt8.toNat.inj h)
    simp; omega
  have HB0 := Lib.hid hb0; clear hb0 hl0
  obtain ⟨q90, q91, q92, q93, -, -, -, -⟩ := B9.out.four
  go_wp2_with fail
  have k0 := open_ok (S := No) w4 _ D (D9.out.more (fun k hk => hk.elim)) No.lt
  rw [HE2.out] at k0
  refine k0.mono ?_
  clear k0 q90 q91 q92 q93
  rintro e w5 ⟨u0, rfl, hd0, hx⟩
  generalize hj0 : jP [] = x0 at *
  have hx0r : x0.records.length = 0 := by rw [← hj0]; rfl
  have HJ0 := Lib.hid hj0; clear hj0
  obtain ⟨a11, c11, rfl, -, -, -⟩ := hd0.open
  have hy := (Ext.refl w5).alloc (.cells #[.slice a11 x0.records.length c11, .int .i64 x0.many, .int .i64 x0.synced] 55)
  have hx4 := hx.trans hy
  have hwn : w.heap.size ≤ w5.heap.size := (hE3.trans hx).size
  have h9n : n9 < w5.heap.size := (B9.out.keep hx).lt
  have B11 := Lib.hid (Box.new w5 [.slice a11 x0.records.length c11, .int .i64 x0.many, .int .i64 x0.synced] 55)
  have D11 := Lib.hid ((hd0.more (S' := From w5.heap.size) (fun k hk => .inr hk)).keep hy)
  replace B9 := Lib.hid (B9.out.keep hx4)
  replace D9 := Lib.hid (D9.out.keep hx4)
  replace HL := Lib.hid (Bss.keep HL.out hx4)
  have hE4 := hE3.trans hx4; clear hE3
  clear hx hy hx4 hd0 hx0r
  go_upto_region 9 with fail
  generalize w5.alloc (.cells #[.slice a11 x0.records.length c11, .int .i64 x0.many, .int .i64 x0.synced] 55) = w6 at *
  generalize w5.heap.size = n11 at *
  have hx00 := HJ0.out
  subst hx00
  have hl11 := B11.out.lt
  have HLW : Hid (Bss (fun k => k = n11 ∨ w6.heap.size ≤ k) w6 (.slice aa l.length ca) l) := Lib.hid (HL.out.more etBs (fun k hk => by rcases hk with rfl | hk; exact .inl hwn; exact .inr hk))
  have D9n : Hid (Disk (fun k => k = n11) w6 (.agg #[.slice a9 D.sectors.length c9, .slice b9 D.pending.length e9, .int .i64 D.left, .bool D.stopped]) D) := Lib.hid (D9.out.more (fun k hk => by subst hk; exact .inl (Nat.le_of_lt h9n)))
  clear D9 HL
  go_upto_block 0 with fail
  go_cut [13] (fun ev wx => DEnd w w6 n11 ev wx)
  case first =>
    have hst : DInv w w6 n11 l (.int .i64 0) (.slice none 0 0) w6 :=
      ⟨0, Nat.zero_le _, rfl, rfl, a11, none, c11, 0, (by show usedN [] ≤ 40; decide), (fun b hb => by cases hb), rfl, Nat.le_refl _, by decide, hE4, Mem.refl _ _, OSl.nil _ _ _ _ _ _, B11.out, D11.out.more (fun k hk => by
        rcases hk with rfl | hk
        · exact .inl (Nat.le_refl _)
        · cases hk)⟩
    have HST := Lib.hid hst; clear hst B11 D11 hE4
    go_wp2_with fail
    go_loopw [62, 13] (DInv w w6 n11 l) (fun iv _ _ => l.length - (intOf iv).toNat)
    case atStart => exact HST.out
    case round =>
      clear HST
      obtain ⟨i, hi, rfl, hil, aj, ae, cj, ce, hu, hrb, rfl, hpc, hcm, hE, hm, ho, hb, hj⟩ := hrel
      by_cases hlt : i < l.length
      case neg =>
        generalize l.take i = P at *
        subst hil
        have hge : ¬ ((P.length : Int) < l.length) := by omega
        go_wp2_with fail
        go_meet
        exact ⟨_, aj, ae, cj, ce, hu, hrb, rfl, hpc, hcm, hE, hm, ho, hb, hj⟩
      case pos =>
        have hmt := hm.mono (S' := fun k => k = n11 ∨ w6.heap.size ≤ k) (fun k hk => .inl hk)
        obtain ⟨bR, oR, vd, rfl, hbR, r1, hv⟩ := Bss.elem (HLW.out.keepM etBs hmt) hlt
        have hbl := HR.out l[i] (List.getElem_mem hlt)
        have hts : l.take (i + 1) = l.take i ++ [l[i]] := List.take_succ_eq_append_getElem hlt
        have hrb1 : ReachB (l.take i ++ [l[i]]) := by rw [← hts]; exact fun b hb => HR.out b (List.mem_of_mem_take hb)
        have HT := Lib.hid hts; clear hts
        have HRB1 := Lib.hid hrb1; clear hrb1
        generalize l[i] = b at *
        generalize l.take i = P at *
        subst hil
        obtain ⟨ab, cb, rfl, -, -⟩ := hv.open
        have hob := ho.block
        have hS : ∀ k, Wo (fun k => k = n11) (.slice ae P.length ce) k → k < wr.heap.size := by
          rintro k (rfl | hk)
          · exact hb.lt
          · exact (hob k hk).2
        have hvW : Bs (Wo (fun k => k = n11) (.slice ae P.length ce)) wr (.slice ab b.length cb) b := Sl.more etByte hv (by
          rintro k (hk | hk)
          · exact .inl (.inl hk)
          · exact .inl (.inr (hob k hk).1))
        have hnice := jP_nice hu
        have k0 := append_ok (S := Wo (fun k => k = n11) (.slice ae P.length ce)) wr _ _ (jP P) b hj hvW hrb hbl (fun h => hnice.fits h) hnice.few hS
        rw [jP_append hu] at k0
        have hjj : (P.length : Int) < l.length := by omega
        have hj0 : (0 : Int) ≤ P.length := by omega
        have HJ11 := Lib.hid hj; clear hj
        have HO := Lib.hid ho; clear ho
        have HB11 := Lib.hid hb
        have HOB := Lib.hid hob; clear hob
        have HSS := Lib.hid hS; clear hS
        clear hvW hv hnice hmt
        obtain ⟨q0, q1, q2, f0, f1, f2⟩ := hb.three
        clear hb
        by_cases hadd : usedN (P ++ [b]) ≤ 40
        case neg =>
          rw [if_neg hadd] at k0
          have K0 := Lib.hid k0; clear k0
          go_wp2_with fail
          refine K0.out.mono ?_
          rintro e w7 ⟨v2, rfl, hj2, hx2⟩
          generalize hy0 : zeroJ = y at *
          clear hy0
          obtain ⟨a2, c2, rfl, -, -, -⟩ := hj2.open
          have hy := (Ext.refl w7).alloc (.cells #[.slice a2 y.records.length c2, .int .i64 y.many, .int .i64 y.synced] 55)
          have hx3 := hx2.trans hy
          clear q0 q1 q2 f0 f1 f2 hx2 hy hj2 K0
          go_upto_region 14 with fail
          generalize w7.alloc (.cells #[.slice a2 y.records.length c2, .int .i64 y.many, .int .i64 y.synced] 55) = w8 at *
          generalize w7.heap.size = g16 at *
          go_wp2_with fail
          go_meet
          exact ⟨_, aj, ae, cj, ce, hu, hrb, rfl, hpc, hcm, hE.trans hx3, hm.trans (hx3.mem _), HO.out.keep etInt hx3, HB11.out.keep hx3, HJ11.out.keep hx3⟩
        case pos =>
          rw [if_pos hadd] at k0
          have hb44 : b.length ≤ 4480 := by rw [usedN_snoc] at hadd; unfold secN at hadd; omega
          obtain ⟨y, hy0⟩ : ∃ y, jP (P ++ [b]) = y := ⟨_, rfl⟩
          rw [hy0] at k0
          have HY := Lib.hid hy0; clear hy0
          have K0 := Lib.hid k0; clear k0
          have HADD := Lib.hid hadd; clear hadd
          go_wp2_with fail
          refine K0.out.mono ?_
          rintro e w7 ⟨v2, rfl, hj2, hx2⟩
          obtain ⟨a2, c2, rfl, hc2, hm2, -⟩ := hj2.open
          have hy := (Ext.refl w7).alloc (.cells #[.slice a2 y.records.length c2, .int .i64 y.many, .int .i64 y.synced] 55)
          have hx3 := hx2.trans hy
          have B16 := Lib.hid (Box.new w7 [.slice a2 y.records.length c2, .int .i64 y.many, .int .i64 y.synced] 55)
          have J16 := Lib.hid (hj2.keep hy)
          replace HB11 := Lib.hid (HB11.out.keep hx3)
          replace HO := Lib.hid (HO.out.keep etInt hx3)
          have hE1 := hE.trans hx3
          have hm1 := hm.trans (hx3.mem _)
          clear q0 q1 q2 f0 f1 f2 hx2 hy hj2 K0 hx3 hE hm HJ11
          go_upto_region 14 with fail
          generalize w7.alloc (.cells #[.slice a2 y.records.length c2, .int .i64 y.many, .int .i64 y.synced] 55) = w8 at *
          generalize w7.heap.size = g16 at *
          obtain ⟨c70, c71, c72, -, -, -⟩ := B16.out.three
          obtain ⟨q0, q1, q2, f0, f1, f2⟩ := HB11.out.three
          go_upto_region 16 with fail
          generalize hWa : World.setCell (World.setCell (World.setCell w8 _ _) _ _) _ _ = wx
          obtain ⟨hba, hoa⟩ := box_set3 HB11.out hWa
          replace HO := Lib.hid (HO.out.keepM etInt (hoa.mem rfl))
          replace J16 := Lib.hid (J16.out.keepM (hoa.mem (.inl rfl)))
          have hE2 := hoa.ext hE1 hwn
          have hm2' := hm1.trans (hoa.mem rfl)
          have HB := Lib.hid hba
          clear hba hoa hWa c70 c71 c72 q0 q1 q2 f0 f1 f2 HB11 B16 hE1 hm1
          go_upto_region 17 with fail
          have hn : (if 1 < ((b.length : Int) + 111) / 112 then ((b.length : Int) + 111) / 112 else 1) = (secN b.length : Int) := by unfold secN; split <;> omega
          rw [hn]
          clear hn
          have hsn := usedN_snoc P b
          have hs40 : secN b.length ≤ 40 := by have := HADD.out; omega
          generalize secN b.length = n at *
          have HSN := Lib.hid hsn; clear hsn
          have hun : usedN P ≤ 40 := hu
          have hlast : ∀ (W : World) (h0 : 0 < P.length), OSl w6.heap.size 3 1 eInt (fun k => k = n11) W (.slice ae P.length ce) (endsL P) → ∃ be oe, ae = some ⟨be, oe, none⟩ ∧ W.cell? ⟨be, oe + (P.length - 1), none⟩ = some (.int .i64 (usedN P : Int)) := fun W h0 h => by
            have hk : P.length - 1 < (endsL P).length := by rw [endsL_length]; omega
            have h' := h.sl etInt
            rw [← endsL_length P] at h'
            obtain ⟨be, oe, e, -, hc⟩ := Is.elem h' hk
            rw [endsL_last P hk h0] at hc
            exact ⟨be, oe, e, hc⟩
          have HLAST := Lib.hid hlast; clear hlast
          have hsz := (HB.out).lt
          have hpl : P.length ≤ 40 := by have := usedN_len P; omega
          have HPU : Hid (∀ (x : Int) (t : TypeId), x = (usedN (P ++ [b]) : Int) → ∀ v4 w4, OSl w6.heap.size 3 1 eInt (Alw wx.heap.size (.slice ae P.length ce)) w4 v4 (endsL P ++ [x]) → (wx.alloc (.cells #[.int .i64 x] t)).grownBy w4 (Value.slice ae P.length ce).ownBlock → DInv w w6 n11 l (.int .i64 ((P.length : Int) + 1)) v4 w4) := Lib.hid fun x t hx v4 w4 h4 hg => by
            have := DAt.push hwn hl11 HADD.out HRB1.out HY.out hE2 hm2' HO.out HB.out J16.out hx h4 hg
            rw [← HT.out] at this
            exact ⟨P.length + 1, by omega, by rw [Int.natCast_add]; rfl, by rw [HT.out]; simp, this⟩
          have HAP : Hid (∀ (x : Int) (t : TypeId), OSl w6.heap.size 3 1 eInt (Alw wx.heap.size (.slice ae P.length ce)) (wx.alloc (.cells #[.int .i64 x] t)) (.slice ae P.length ce) (endsL P) ∧ Is (Wo (Alw wx.heap.size (.slice ae P.length ce)) (.slice ae P.length ce)) (wx.alloc (.cells #[.int .i64 x] t)) (.slice (some ⟨wx.heap.size, 0, none⟩) 1 1) [x]) := Lib.hid fun x t => by
            refine ⟨osl_reI (HO.out.keep etInt ((Ext.refl wx).alloc _)) (fun g hg hk => hk.2 hg), int_lit x (fun h => ?_)⟩
            rcases h with h | h
            · exact Nat.lt_irrefl _ h.1
            · have := (HO.out.block _ h).2; omega
          have hel := endsL_length P
          have HEL := Lib.hid hel; clear hel
          by_cases hP0 : 0 < P.length
          case pos =>
            have hPi : (0 : Int) < P.length := by omega
            obtain ⟨be, oe, rfl, hce⟩ := HLAST.out wx hP0 HO.out
            go_upto_region 19 with fail
            have hszx : w6.heap.size ≤ wx.heap.size := hm2'.size
            go_wp2_with (at_builtin; refine wpList_append_osl (S := Alw wx.heap.size (.slice (some ⟨be, oe, none⟩) P.length ce)) atInt etInt rfl _ _ rfl w6.heap.size _ _ (endsL P) [((n : Int) + (usedN P : Int))] rfl rfl (HAP.out _ _).1 (HAP.out _ _).2 ?h1 ?h2 ?h3 ?h4 ?_)
            case h1 => intro q hq; have := hq.1; first | omega | (simp; omega)
            case h2 => rw [HEL.out]; first | omega | (simp; omega)
            case h3 => rw [HEL.out]; first | omega | (simp; omega)
            case h4 => first | omega | (simp; omega)
            intro v4 w4 ho4 hg4
            have hin := HPU.out _ _ (by rw [HSN.out]; omega) v4 w4 ho4 hg4
            have HIN := Lib.hid hin; clear hin ho4 hg4 hce
            go_wp2_with fail
            go_roundw
            case rel => exact HIN.out
            case measure => simp [intOf]; omega
          case neg =>
            have hPi : ¬ (0 : Int) < P.length := by omega
            have hu0 : usedN P = 0 := by have := List.eq_nil_of_length_eq_zero (show P.length = 0 by omega); rw [this]; rfl
            have HU0 := Lib.hid hu0; clear hu0
            go_upto_region 19 with fail
            have hszx : w6.heap.size ≤ wx.heap.size := hm2'.size
            go_wp2_with (at_builtin; refine wpList_append_osl (S := Alw wx.heap.size (.slice ae P.length ce)) atInt etInt rfl _ _ rfl w6.heap.size _ _ (endsL P) [(n : Int)] rfl rfl (HAP.out _ _).1 (HAP.out _ _).2 ?h1 ?h2 ?h3 ?h4 ?_)
            case h1 => intro q hq; have := hq.1; first | omega | (simp; omega)
            case h2 => rw [HEL.out]; first | omega | (simp; omega)
            case h3 => rw [HEL.out]; first | omega | (simp; omega)
            case h4 => first | omega | (simp; omega)
            intro v4 w4 ho4 hg4
            have hin := HPU.out _ _ (by rw [HSN.out]; have := HU0.out; omega) v4 w4 ho4 hg4
            have HIN := Lib.hid hin; clear hin ho4 hg4
            go_wp2_with fail
            go_roundw
            case rel => exact HIN.out
            case measure => simp [intOf]; omega
  case rest =>
    obtain ⟨P, aj, ae, cj, ce, hu, hrb, rfl, hpc, hcm, hE, hm, ho, hb, hj⟩ := hcut
    generalize wc = wq at *
    have hn911 : n9 ≠ n11 := by omega
    have hb9 := B9.out.keepM hm hn911
    have hd9 := Disk.more (D9n.out.keepM hm) (S' := From wq.heap.size) (fun k hk => .inr hk)
    clear B9 D9n B11 D11 HJ0 HE2 HE1 HLW hE4 hll hlb hl24 hca hma
    have B9 := Lib.hid hb9; clear hb9
    have D9 := Lib.hid hd9; clear hd9
    have EN := Lib.hid (Sl.more etInt (ho.sl etInt) (S' := From wq.heap.size) (fun k hk => .inr hk)); clear ho
    have D11 := Lib.hid (hj.more (S' := From wq.heap.size) (fun k hk => .inr hk)); clear hj
    have hn11q := hb.lt
    have hwq := hE.size
    have B11 := Lib.hid hb; clear hb
    obtain ⟨C, hS1, hC40, hK⟩ := HE3.out P hu
    obtain ⟨T, hT⟩ : ∃ T, ({ jP P with synced := (P.length : Int) } : Jn) = T := ⟨_, rfl⟩
    rw [hT] at hS1
    have HS1 := Lib.hid hS1; clear hS1
    have HC40 := Lib.hid hC40; clear hC40
    have HK := Lib.hid hK; clear hK
    have HTT := Lib.hid hT; clear hT
    have hup := usedN_len P
    clear HE3 hm hwn h9n hl11
    obtain ⟨q110, q111, q112, -, -, -⟩ := B11.out.three
    obtain ⟨q90, q91, q92, q93, -, -, -, -⟩ := B9.out.four
    go_wp2_with fail
    have k0 := journalSync_ok (S := No) wq _ _ (jP P) D (D11.out.more (fun k hk => hk.elim)) (D9.out.more (fun k hk => hk.elim)) hrb (show usedN P ≤ 4611686018427387904 by omega) No.lt
    rw [HS1.out] at k0
    refine k0.mono ?_
    clear k0 q110 q111 q112 q90 q91 q92 q93
    rintro e w1 ⟨u0, u1, rfl, hd0, hd1, hx⟩
    obtain ⟨a19, c19, rfl, -, -, -⟩ := hd0.open
    obtain ⟨a20, c20, b20, e20, rfl, -, -, -, -, -, -⟩ := hd1.open
    have hy := (((Ext.refl w1).alloc (.cells #[.slice a19 T.records.length c19, .int .i64 T.many, .int .i64 T.synced] 55)).alloc (.cells #[.slice a20 C.sectors.length c20, .slice b20 C.pending.length e20, .int .i64 C.left, .bool C.stopped] 25))
    have hx4 := hx.trans hy
    have B19 := Lib.hid ((Box.new w1 [.slice a19 T.records.length c19, .int .i64 T.many, .int .i64 T.synced] 55).past (.cells #[.slice a20 C.sectors.length c20, .slice b20 C.pending.length e20, .int .i64 C.left, .bool C.stopped] 25))
    have D19 := Lib.hid ((hd0.more (S' := From w1.heap.size) (fun k hk => .inr hk)).keep hy)
    have B20 := Lib.hid (Box.at (w := w1.alloc (.cells #[.slice a19 T.records.length c19, .int .i64 T.many, .int .i64 T.synced] 55)) (b := w1.heap.size + 1) (cs := [.slice a20 C.sectors.length c20, .slice b20 C.pending.length e20, .int .i64 C.left, .bool C.stopped]) (t := 25) (by simp))
    have D20 := Lib.hid ((hd1.more (S' := From w1.heap.size) (fun k hk => .inr hk)).keep hy)
    have hq19 : wq.heap.size ≤ w1.heap.size := hx.size
    replace B9 := Lib.hid (B9.out.keep hx4)
    replace B11 := Lib.hid (B11.out.keep hx4)
    replace D9 := Lib.hid (D9.out.keep hx4)
    replace D11 := Lib.hid (D11.out.keep hx4)
    replace EN := Lib.hid (Sl.keepM etInt EN.out (hx4.mem _))
    have hE1 := hE.trans hx4; clear hE
    clear hx hy hx4 hd0 hd1
    go_upto_region 22 with fail
    generalize (w1.alloc (.cells #[.slice a19 T.records.length c19, .int .i64 T.many, .int .i64 T.synced] 55)).alloc (.cells #[.slice a20 C.sectors.length c20, .slice b20 C.pending.length e20, .int .i64 C.left, .bool C.stopped] 25) = w2 at *
    generalize hn20 : w1.heap.size + 1 = n20 at *
    generalize hn19 : w1.heap.size = n19 at *
    by_cases hP0 : 0 < P.length
    case neg =>
      have hpz : ((P.length : Int) == 0) = true := by rw [beq_iff_eq]; omega
      go_wp2_with fail
      go_ret
      exact ⟨rfl, hE1⟩
    case pos =>
      have hpz : ((P.length : Int) == 0) = false := by rw [beq_eq_false_iff_ne]; omega
      have hk0 : P.length - 1 < (endsL P).length := by rw [endsL_length]; omega
      have hen := EN.out
      rw [← endsL_length P] at hen
      obtain ⟨be, oe, rfl, -, hce⟩ := Is.elem hen hk0
      rw [endsL_last P hk0 hP0] at hce
      clear hk0 hen
      obtain ⟨u, huu⟩ : ∃ u, usedN P = u := ⟨_, rfl⟩
      rw [huu] at hce hup hu
      have HUU := Lib.hid huu; clear huu
      have hPi : (0 : Int) < P.length := by omega
      go_upto_region 24 with fail
      go_upto_region 25 with fail
      obtain ⟨k, hk1, hk2⟩ := mod_k se u (by omega)
      rw [hk1, show wrap64 (k : Int) = (k : Int) by unfold wrap64; omega]
      clear hk1
      have hkC : k < C.sectors.length := by have := HC40.out; omega
      obtain ⟨vs, vp, eD, hbs, -⟩ := D20.out
      cases eD
      have hKK := HK.out k (by rw [HUU.out]; exact hk2)
      rw [show C.sectors.getD k [] = C.sectors[k] by rw [List.getD_eq_getElem?_getD, List.getElem?_eq_getElem hkC]; rfl] at hKK
      obtain ⟨bC, oC, vC, rfl, ⟨hbC, -⟩, hcC, hvC⟩ := hbs.elem hkC
      generalize C.sectors[k] = sk at *
      obtain ⟨h128, hdm⟩ := hKK
      have HDM := Lib.hid hdm; clear hdm HK
      have hn128 : ((sk.length : Int) != 128) = false := by rw [h128]; rfl
      have hs128 : 128 ≤ sk.length ∧ sk.length ≤ 128 := by omega
      have H128 := Lib.hid h128; clear h128
      obtain ⟨hs1, hs2⟩ := hs128
      obtain ⟨ask, csk, rfl, hcs, hms⟩ := hvC.open
      have hkCi : (k : Int) < C.sectors.length := by omega
      have hk0 : (0 : Int) ≤ k := by omega
      have hnk : ¬ ((C.sectors.length : Int) ≤ k) := by omega
      have HVC := Lib.hid hvC; clear hvC hbs
      obtain ⟨q200, q201, q202, q203, -, -, -, -⟩ := B20.out.four
      obtain ⟨q110, q111, q112, -, -, -⟩ := B11.out.three
      go_upto_region 27 with fail
      have hcC2 := Ext.cell ((Ext.refl w2).alloc (.cells #[] 5)) hcC
      have hn20s := B20.out.lt
      have HAP1 : Hid (OSl w2.heap.size 5 1 eByte (fun k => k = n20) (w2.alloc (.cells #[] 5)) (.slice (some ⟨w2.heap.size, 0, none⟩) 0 0) []) := Lib.hid (OSl.lit0 _ _ _ _ _ _ (Nat.le_refl _) (fun h => by omega))
      have HAP2 : Hid (Bs (Wo (fun k => k = n20) (.slice (some ⟨w2.heap.size, 0, none⟩) 0 0)) (w2.alloc (.cells #[] 5)) (.slice ask sk.length csk) sk) := Lib.hid (Bs.keep (Sl.more etByte HVC.out (fun q hq => by
        rcases hq with rfl | hq
        · exact .inl (show n19 ≤ _ by omega)
        · cases hq; exact .inr (Nat.le_refl _))) ((Ext.refl w2).alloc _))
      go_wp2_with (at_builtin; refine wpList_append_osl (S := fun k => k = n20) atB etByte rfl _ _ rfl w2.heap.size _ _ [] sk rfl rfl HAP1.out HAP2.out ?h1 ?h2 ?h3 ?h4 ?_)
      case h2 => first | omega | (simp; omega)
      case h3 => first | omega | (simp; omega)
      intro v23 w23 ho23 hg23
      have hx23 : Ext w2 w23 := ((Ext.refl w2).alloc _).grown hg23 (fun k hk => by cases hk; exact Nat.le_refl _)
      clear HAP1 HAP2 hg23 q200 q201 q202 q203 q110 q111 q112 hnk hcC hcC2 hbC
      have hwnb : w.heap.size ≤ w2.heap.size := hE1.size
      have hn11b := B11.out.lt
      replace B9 := Lib.hid (B9.out.keep hx23)
      replace B11 := Lib.hid (B11.out.keep hx23)
      replace B19 := Lib.hid (B19.out.keep hx23)
      replace B20 := Lib.hid (B20.out.keep hx23)
      replace D9 := Lib.hid (D9.out.keep hx23)
      replace D11 := Lib.hid (D11.out.keep hx23)
      replace D19 := Lib.hid (D19.out.keep hx23)
      replace D20 := Lib.hid (D20.out.keep hx23)
      replace EN := Lib.hid (Sl.keepM etInt EN.out (hx23.mem _))
      have hE2 := hE1.trans hx23; clear hE1
      clear hx23
      generalize w2.heap.size = nb at *
      obtain ⟨j, hj1, hj2⟩ := mod_j at_
      obtain ⟨g23, c23, -, rfl, hbg, hg23, hs23, -, hf23, -⟩ := ho23.store1 etByte (i := j) (by omega) (.int .u8 0) 0 rfl
      obtain ⟨_, _, e0, -, hc23⟩ := Bs.elem (ho23.sl etByte) (k := j) (by omega)
      cases e0
      rw [Nat.zero_add] at hc23
      have hj0 : (0 : Int) ≤ j := by omega
      have hji : (j : Int) < sk.length := by omega
      have HO := Lib.hid ho23; clear ho23
      go_upto_region 29 with fail
      rw [xor_u8]
      have hset := HO.out.store1 etByte (i := j) (by omega) (.int .u8 ((sk[j] ^^^ by_).toNat : Int)) (sk[j] ^^^ by_) rfl
      obtain ⟨g0, c0, -, e0, -, -, -, -, -, hos⟩ := hset
      cases e0
      have hgd : sk.getD j 0 = sk[j]'(by omega) := by rw [List.getD_eq_getElem?_getD, List.getElem?_eq_getElem (by omega)]; rfl
      obtain ⟨C1, C2, Z, hw1, hy1, hz1, hz2⟩ := HDM.out j by_ hj2 HB0.out
      rw [hgd] at hw1
      generalize sk[j] ^^^ by_ = xb at *
      have hm28 : Mem (fun q => nb ≤ q) w23 (w23.setCell ⟨g23, j, none⟩ (.int .u8 (xb.toNat : Int))) := (Mem.refl _ w23).setCell hbg _
      have hls : (sk.set j xb).length = sk.length := List.length_set
      generalize sk.set j xb = ss at *
      have hb20 := B20.out.keepM hm28 (by omega)
      have hb11 := B11.out.keepM hm28 (by omega)
      have hd20 := D20.out.keepM (hm28.mono (S' := From n19) (fun q hq => show n19 ≤ q by omega))
      have hen := Sl.keepM etInt EN.out (hm28.mono (S' := From wq.heap.size) (fun q hq => show wq.heap.size ≤ q by omega))
      have hj11 := D11.out.keepM (hm28.mono (S' := From wq.heap.size) (fun q hq => show wq.heap.size ≤ q by omega))
      have hE28 := hE2.setCell (p := ⟨g23, j, none⟩) (by show w.heap.size ≤ g23; omega) (.int .u8 (xb.toNat : Int))
      clear B20 B11 D20 EN hE2 HO hf23 hc23 hgd HDM D11
      have B20 := Lib.hid hb20; clear hb20
      have B11 := Lib.hid hb11; clear hb11
      have D20 := Lib.hid (hd20.more (S' := fun q => q = n20) (fun q hq => by subst hq; exact .inl (show n19 ≤ _ by omega))); clear hd20
      have EN := Lib.hid hen; clear hen
      have D11 := Lib.hid hj11; clear hj11
      have HBS := Lib.hid (hos.sl etByte); clear hos hm28
      have HW1 := Lib.hid hw1; clear hw1
      have HY1 := Lib.hid hy1; clear hy1
      have HZ1 := Lib.hid hz1; clear hz1
      have HZ2 := Lib.hid hz2; clear hz2
      clear hls hbg hg23 hs23
      generalize w23.setCell ⟨g23, j, none⟩ (.int .u8 (xb.toNat : Int)) = w28 at *
      obtain ⟨q200, q201, q202, q203, -, -, -, -⟩ := B20.out.four
      go_wp2_with fail
      have k0 := write_ok (S := fun q => q = n20) w28 _ C (k : Int) _ ss D20.out HBS.out (fun q hq => by subst hq; exact B20.out.lt)
      rw [HW1.out] at k0
      refine k0.mono ?_
      clear k0 q200 q201 q202 q203
      rintro e w29 ⟨v29, rfl, hd29, hx⟩
      obtain ⟨aC1, cC1, bC1, eC1, rfl, -, -, -, -, -, -⟩ := hd29.open
      have HB20 := Lib.hid (B20.out.keep hx)
      obtain ⟨q200, q201, q202, q203, f200, f201, f202, f203⟩ := HB20.out.four
      go_upto_region 30 with fail
      generalize hWa : World.setCell (World.setCell (World.setCell (World.setCell w29 _ _) _ _) _ _) _ _ = w30
      obtain ⟨hb20, ho20⟩ := box_set4 HB20.out hWa
      have hd20 := hd29.keepM (ho20.mem rfl)
      have hb11 := ho20.box (B11.out.keep hx) (by omega)
      have hen := Sl.keepM etInt (Sl.keepM etInt EN.out (hx.mem _)) (ho20.mem (S := From wq.heap.size) (show wq.heap.size ≤ n20 by omega))
      have hj11 := (D11.out.keep hx).keepM (ho20.mem (S := From wq.heap.size) (show wq.heap.size ≤ n20 by omega))
      have hE30 := ho20.ext (hE28.trans hx) (by omega)
      clear hE28 hx hd29 HB20 hWa ho20 q200 q201 q202 q203 f200 f201 f202 f203 B20 B11 D20 EN D11 HBS HW1
      have B20 := Lib.hid hb20; clear hb20
      have B11 := Lib.hid hb11; clear hb11
      have D20 := Lib.hid hd20; clear hd20
      have EN := Lib.hid hen; clear hen
      have D11 := Lib.hid hj11; clear hj11
      obtain ⟨q200, q201, q202, q203, -, -, -, -⟩ := B20.out.four
      go_wp2_with fail
      have k0 := sync_ok (S := fun q => q = n20) w30 _ C1 D20.out (fun q hq => by subst hq; exact B20.out.lt)
      rw [HY1.out] at k0
      refine k0.mono ?_
      clear k0 q200 q201 q202 q203
      rintro e w31 ⟨v31, rfl, hd31, hx⟩
      obtain ⟨aC2, cC2, bC2, eC2, rfl, -, -, -, -, -, -⟩ := hd31.open
      have HB20 := Lib.hid (B20.out.keep hx)
      obtain ⟨q200, q201, q202, q203, f200, f201, f202, f203⟩ := HB20.out.four
      go_upto_region 31 with fail
      generalize hWa : World.setCell (World.setCell (World.setCell (World.setCell w31 _ _) _ _) _ _) _ _ = w32
      obtain ⟨hb20, ho20⟩ := box_set4 HB20.out hWa
      have hd20 := hd31.keepM (ho20.mem rfl)
      have hb11 := ho20.box (B11.out.keep hx) (by omega)
      have hen := Sl.keepM etInt (Sl.keepM etInt EN.out (hx.mem _)) (ho20.mem (S := From wq.heap.size) (show wq.heap.size ≤ n20 by omega))
      have hj11 := (D11.out.keep hx).keepM (ho20.mem (S := From wq.heap.size) (show wq.heap.size ≤ n20 by omega))
      have hE32 := ho20.ext (hE30.trans hx) (by omega)
      clear hE30 hx hd31 HB20 hWa ho20 q200 q201 q202 q203 f200 f201 f202 f203 B20 B11 D20 EN D11 HY1
      have B20 := Lib.hid hb20; clear hb20
      have B11 := Lib.hid hb11; clear hb11
      have D20 := Lib.hid hd20; clear hd20
      have EN := Lib.hid hen; clear hen
      have D11 := Lib.hid hj11; clear hj11
      obtain ⟨q200, q201, q202, q203, -, -, -, -⟩ := B20.out.four
      go_wp2_with fail
      have k0 := open_ok (S := No) w32 _ C2 (D20.out.more (fun q hq => hq.elim)) No.lt
      rw [HZ1.out] at k0
      refine k0.mono ?_
      clear k0 q200 q201 q202 q203
      rintro e w33 ⟨v33, rfl, hj33, hx⟩
      obtain ⟨a25, c25, rfl, -, -, -⟩ := hj33.open
      have hy := (Ext.refl w33).alloc (.cells #[.slice a25 Z.records.length c25, .int .i64 Z.many, .int .i64 Z.synced] 55)
      have hx4 := hx.trans hy
      have B25 := Lib.hid (Box.new w33 [.slice a25 Z.records.length c25, .int .i64 Z.many, .int .i64 Z.synced] 55)
      have D25 := Lib.hid (hj33.keep hy)
      replace B11 := Lib.hid (B11.out.keep hx4)
      replace D11 := Lib.hid (D11.out.keep hx4)
      replace EN := Lib.hid (Sl.keepM etInt EN.out (hx4.mem _))
      have hE33 := hE32.trans hx4
      clear hE32 hx hy hx4 hj33 B20 D20 HZ1
      go_upto_region 32 with fail
      generalize w33.alloc (.cells #[.slice a25 Z.records.length c25, .int .i64 Z.many, .int .i64 Z.synced] 55) = w34 at *
      generalize w33.heap.size = n25 at *
      obtain ⟨vJ, eJ, hbJ⟩ := D11.out
      cases eJ
      obtain ⟨_, _, eJ2, hcj, hmj⟩ := Sl.open hbJ
      cases eJ2
      have hdl := doneN_le k P
      have hpre := Sl.pre hbJ (doneN k P) cj hdl (Nat.le_trans hdl hcj) (by unfold maxLen; omega)
      rw [show (jP P).records.take (doneN k P) = Z.records from HZ2.out.symm] at hpre
      obtain ⟨vZ, eZ, hbZ⟩ := D25.out
      cases eZ
      have HPRE := Lib.hid hpre; clear hpre hbJ D11
      have HBZ := Lib.hid hbZ; clear hbZ D25
      have hds := doneN_spec P k
      obtain ⟨m, hmm⟩ : ∃ m, doneN k P = m := ⟨_, rfl⟩
      rw [hmm] at hdl HPRE hds
      have HDS := Lib.hid hds; clear hds
      have HMM := Lib.hid hmm; clear hmm
      clear HZ2 hn20s hn11b hwnb hn20 hq19 hwq hn11q
      go_wp2_with fail
      go_loopw [27] (fun wv wx => ∃ i : Nat, i ≤ m ∧ wv = .int .i64 (i : Int) ∧ wx = w34) (fun wv _ => P.length - (intOf wv).toNat)
      case atStart => exact ⟨0, Nat.zero_le _, rfl, rfl⟩
      case round =>
        obtain ⟨i, hi, rfl, rfl⟩ := hrel
        go_upto_region 33 with fail
        go_cut [189] (fun v wx => v = .bool (decide (i < m)) ∧ wx = wr)
        case first =>
          by_cases hlt : i < P.length
          · have hke : i < (endsL P).length := by rw [endsL_length]; exact hlt
            have hen := EN.out
            rw [← endsL_length P] at hen
            obtain ⟨_, _, e0, -, hci⟩ := Is.elem hen hke
            cases e0
            rw [endsL_get P i hke] at hci
            have hdi := HDS.out i hlt
            generalize usedN (P.take (i + 1)) = q at *
            clear hen
            have hii : (i : Int) < P.length := by omega
            have hi0 : (0 : Int) ≤ i := by omega
            by_cases hq : q ≤ k
            · have hqk : (q : Int) ≤ k := by omega
              have him : decide (i < m) = true := decide_eq_true (hdi.1 hq)
              clear hdi
              have HIM := Lib.hid him; clear him
              go_wp2_with fail
              go_meet
              exact ⟨congrArg Value.bool HIM.out.symm, rfl⟩
            · have hqk : ¬ ((q : Int) ≤ k) := by omega
              have him : decide (i < m) = false := decide_eq_false (fun h => hq (hdi.2 h))
              clear hdi
              have HIM := Lib.hid him; clear him
              go_wp2_with fail
              go_meet
              exact ⟨congrArg Value.bool HIM.out.symm, rfl⟩
          · have hii : ¬ ((i : Int) < P.length) := by omega
            have him : decide (i < m) = false := decide_eq_false (by omega)
            have HIM := Lib.hid him; clear him
            go_wp2_with fail
            go_meet
            exact ⟨congrArg Value.bool HIM.out.symm, rfl⟩
        case rest =>
          obtain ⟨rfl, rfl⟩ := hcut
          by_cases him : i < m
          · rw [decide_eq_true him]
            go_wp2_with fail
            go_roundw
            case rel => exact ⟨i + 1, him, by rw [Int.natCast_add]; rfl, by first | rfl | trivial⟩
            case measure => simp [intOf]; omega
          · rw [decide_eq_false him]
            obtain rfl : i = m := by omega
            go_upto_region 35 with fail
            refine reg14_35 (S := No) (S2 := From wq.heap.size) _ _ _ _ _ _ _ _ _ _ _ _ _ _ _ _ _ _ _ _ _ _ _ _ _ _ _ _ _ _ _ _ _ _ _ _ _ _ _ _ _ _ _ _ _ _ _ _ _ _ _ _ _ _ _ _ _ _ _ _ _ _ _ _ _ _ _ _ _ _ _ _ _ _ _ _ _ _ _ _ _ _ _ _ _ _ _ _ _ _ _ _ _ _ _ _ _ _ _ _ _ _ _ _ _ _ _ _ _ _ _ _ _ _ _ _ _ _ _ _ _ _ _ _ _ _ _ _ _ _ _ _ _ _ _ _ _ _ _ _ _ _ _ _ _ _ _ _ _ _ _ _ _ _ _ _ _ _ _ _ _ _ _ _ _ _ _ _ _ _ _ _ _ _ _ _ _ _ _ _ _ _ _ _ _ _ _ _ _ _ _ _ _ _ _ _ _ _ _ _ _ _ _ _ _ wc n11 n25 c25 cj i a25 aj Z (jP P) B11.out B25.out HBZ.out HPRE.out hdl hcj ?_
            intro v0 v1 v2 v3 v4 v5 v6 v7 v8 v9 v10 v11 v12 v13 v14 v15 v16 v17 v18 wz hxx
            dsimp only
            go_wp2_with fail
            go_ret
            exact ⟨rfl, hE33.trans hxx⟩
end Go.Proofs.Ytpciankfpagnhaa
