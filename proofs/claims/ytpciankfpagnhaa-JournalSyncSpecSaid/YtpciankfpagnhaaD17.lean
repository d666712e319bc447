/- The chapter's examples, as the pure functions answer them. -/
import Derived.Test.YtpciankfpagnhaaD7
import Derived.Test.YtpciankfpagnhaaD10
import Derived.Test.YtpciankfpagnhaaD14
import Derived.Deep.RegionHeld3
import Derived.Deep.DeepCutAuto
import Derived.Deep.RegionWith
namespace Go.Proofs.Ytpciankfpagnhaa
open Go.RowKit
namespace Ex
def d2 : Dk := (newD 2).1
def w1 : Dk := (writeD d2 1 [7]).1
def s1 : Dk := (stopD w1 1).1
def s2 : Dk := (writeD s1 0 (dbl 8)).1
def x1 : Dk := (syncD s2).1
def x2 : Dk := restartD x1
def w2 : Dk := restartD w1
theorem e0 : newD 0 = (zeroD, 1) := by decide +kernel
theorem e1 : newD 2 = (d2, 0) := by decide +kernel
theorem e2 : writeD d2 1 [7] = (w1, 0) := by decide +kernel
theorem e3 : (readD w1 1).2 = 0 ∧ (readD w1 1).1.length = 128 ∧ (readD w1 1).1[0]? = some 7 := by decide +kernel
theorem e4 : readD d2 2 = ([], 410) := by decide +kernel
theorem e5 : writeD d2 0 (List.replicate 129 0) = (zeroD, 1) := by decide +kernel
theorem e6 : stopD w1 1 = (s1, 0) := by decide +kernel
theorem e7 : writeD s1 0 (dbl 8) = (s2, 0) := by decide +kernel
theorem e8 : syncD s2 = (x1, 410) ∧ x1.stopped = true := by decide +kernel
theorem e9 : (readD x2 1).2 = 0 ∧ (readD x2 1).1.length = 128 ∧ (readD x2 1).1[0]? = some 7 := by decide +kernel
theorem e10 : (readD x2 0).2 = 0 ∧ (readD x2 0).1.length = 128 ∧ (readD x2 0).1[0]? = some 8 ∧ (readD x2 0).1[64]? = some 0 := by decide +kernel
theorem e11 : (readD w2 1).2 = 0 ∧ (readD w2 1).1.length = 128 ∧ (readD w2 1).1[0]? = some 0 := by decide +kernel
theorem e12 : chk zeroD = 410 ∧ (restartD zeroD).left = -1 := by decide +kernel
end Ex
end Go.Proofs.Ytpciankfpagnhaa

/- sane of layer 41 returns true. -/
namespace Go.Proofs.Ytpciankfpagnhaa
open Go.RowKit

abbrev No : Nat → Prop := fun _ => False
theorem No.lt {n : Nat} : ∀ k, No k → k < n := fun _ h => h.elim
theorem Bs.at {S : Nat → Prop} {w : World} {a : Option Addr} {n c : Nat} {l : List UInt8} (h : Bs S w (.slice a n c) l) (k : Nat) (x : UInt8) (hx : l[k]? = some x) : ∃ b o, a = some ⟨b, o, none⟩ ∧ w.cell? ⟨b, o + k, none⟩ = some (.int .u8 (x.toNat : Int)) := by
  have hk : k < l.length := by
    rcases Nat.lt_or_ge k l.length with h | h
    · exact h
    · rw [List.getElem?_eq_none h] at hx; cases hx
  obtain ⟨b, o, rfl, _, hc⟩ := h.elem hk
  rw [List.getElem?_eq_getElem hk] at hx; cases hx
  exact ⟨b, o, rfl, hc⟩
theorem heap_last {w : World} {o : Obj} {g : Nat} (hg : g = w.heap.size) : (w.alloc o).heap[g]? = some o := by subst hg; exact heap_alloc_new w o
theorem Box.keepM {S : Nat → Prop} {w w' : World} {b : Nat} {cs : List Value} (h : Box w b cs) (hm : Mem S w w') (hb : ¬ S b) : Box w' b cs := by
  have hl := h.lt
  obtain ⟨t, ht⟩ := h
  exact ⟨t, by rw [hm.block b hl hb]; exact ht⟩
/-- One byte, written out. -/
theorem byte_lit {S : Nat → Prop} {w : World} {t : TypeId} (hS : ∀ k, S k → k < w.heap.size) (x : UInt8) : Bs S (w.alloc (.cells #[.int .u8 (x.toNat : Int)] t)) (.slice (some ⟨w.heap.size, 0, none⟩) 1 1) [x] :=
  Bs.whole (t := t) (heap_alloc_new w _) (fun h => absurd (hS _ h) (Nat.lt_irrefl _)) rfl (Nat.le_refl _) (by decide)

set_option maxRecDepth 100000 in
set_option maxHeartbeats 4000000 in
theorem sane41_ok (w : World) : Calls Try.prog 17 #[] w fun e w' => e = .returned (.bool true) ∧ Ext w w' := by
  go_enter Try.func17, Try.ntmps17
  go_wp2_with fail
  have k0 := new_ok (S := No) w 0 No.lt
  rw [Ex.e0] at k0
  refine k0.mono ?_
  clear k0
  rintro e w1 ⟨v1, rfl, hd1, hx1⟩
  obtain ⟨a, c, a2, c2, rfl, -, -, -, -, -, -⟩ := hd1.open
  clear hd1
  have hE := hx1.alloc (.cells #[.slice a zeroD.sectors.length c, .slice a2 zeroD.pending.length c2, .int .i64 zeroD.left, .bool zeroD.stopped] 25)
  clear hx1
  go_upto_region 2 with fail
  generalize w1.alloc (.cells #[.slice a zeroD.sectors.length c, .slice a2 zeroD.pending.length c2, .int .i64 zeroD.left, .bool zeroD.stopped] 25) = W1 at *
  go_wp2_with fail
  have k0 := new_ok (S := No) W1 2 No.lt
  rw [Ex.e1] at k0
  refine k0.mono ?_
  clear k0
  rintro e w2 ⟨v2, rfl, hd2, hx2⟩
  obtain ⟨a, c, a2, c2, rfl, -, -, -, -, -, -⟩ := hd2.open
  -- d, in the box w2.heap.size
  have B3 := Lib.hid (Box.new w2 [.slice a Ex.d2.sectors.length c, .slice a2 Ex.d2.pending.length c2, .int .i64 Ex.d2.left, .bool Ex.d2.stopped] 25)
  have hE2 := (hE.trans hx2).alloc (.cells #[.slice a Ex.d2.sectors.length c, .slice a2 Ex.d2.pending.length c2, .int .i64 Ex.d2.left, .bool Ex.d2.stopped] 25)
  have HD := Lib.hid (hd2.keep ((Ext.refl w2).alloc (.cells #[.slice a Ex.d2.sectors.length c, .slice a2 Ex.d2.pending.length c2, .int .i64 Ex.d2.left, .bool Ex.d2.stopped] 25)))
  clear hx2 hE hd2
  go_upto_region 3 with fail
  generalize w2.alloc (.cells #[.slice a Ex.d2.sectors.length c, .slice a2 Ex.d2.pending.length c2, .int .i64 Ex.d2.left, .bool Ex.d2.stopped] 25) = W2 at *
  generalize w2.heap.size = n3 at *
  obtain ⟨c30, c31, c32, c33, f30, f31, f32, f33⟩ := B3.out.four
  go_wp2_with fail
  clear c30 c31 c32 c33 f30 f31 f32 f33
  have k0 := write_ok (S := No) (W2.alloc (.cells #[.int .u8 7] 5)) _ Ex.d2 1 _ [7] (HD.out.keep ((Ext.refl W2).alloc _)) (byte_lit No.lt 7) No.lt
  rw [Ex.e2] at k0
  refine k0.mono ?_
  clear k0
  rintro e w3 ⟨v3, rfl, hd3, hx3⟩
  obtain ⟨a', c', a2', c2', rfl, -, -, -, -, -, -⟩ := hd3.open
  have hx3' := (((Ext.refl W2).alloc _).trans hx3).alloc (.cells #[.slice a' Ex.w1.sectors.length c', .slice a2' Ex.w1.pending.length c2', .int .i64 Ex.w1.left, .bool Ex.w1.stopped] 25)
  have B5 := Lib.hid (Box.new w3 [.slice a' Ex.w1.sectors.length c', .slice a2' Ex.w1.pending.length c2', .int .i64 Ex.w1.left, .bool Ex.w1.stopped] 25)
  have HW := Lib.hid (hd3.keep ((Ext.refl w3).alloc (.cells #[.slice a' Ex.w1.sectors.length c', .slice a2' Ex.w1.pending.length c2', .int .i64 Ex.w1.left, .bool Ex.w1.stopped] 25)))
  have HD3 := Lib.hid (HD.out.keep hx3'); clear HD
  have B33 := Lib.hid (B3.out.keep hx3'); clear B3
  have hE3 := hE2.trans hx3'
  clear hx3 hx3' hd3 hE2
  go_upto_region 4 with fail
  generalize w3.alloc (.cells #[.slice a' Ex.w1.sectors.length c', .slice a2' Ex.w1.pending.length c2', .int .i64 Ex.w1.left, .bool Ex.w1.stopped] 25) = W3 at *
  generalize w3.heap.size = n5 at *
  obtain ⟨c50, c51, c52, c53, f50, f51, f52, f53⟩ := B5.out.four
  go_wp2_with fail
  clear c50 c51 c52 c53 f50 f51 f52 f53
  have k0 := read_ok W3 _ Ex.w1 1 HW.out
  obtain ⟨q1, q2, q3⟩ := Ex.e3
  have k1 : BytesErr No W3 (readD Ex.w1 1) = BytesErr No W3 ((readD Ex.w1 1).1, 0) := congrArg (BytesErr _ _) (Prod.ext rfl q1)
  rw [k1] at k0
  refine k0.mono ?_
  clear k0 k1 q1
  rintro e w4 ⟨v4, rfl, hb4, hx4⟩
  generalize (readD Ex.w1 1).1 = lb at *
  have hlb : ((lb.length : Int) == 128) = true := by simp [q2]
  have hlb1 : (128 : Int) ≤ lb.length := by omega
  obtain ⟨ab, cb, rfl, -, -⟩ := hb4.open
  have Q3 := Lib.hid q3; clear q3 q2
  have HB := Lib.hid hb4; clear hb4
  have HD4 := Lib.hid (HD3.out.keep hx4); clear HD3
  have HW4 := Lib.hid (HW.out.keep hx4); clear HW
  have B34 := Lib.hid (B33.out.keep hx4); clear B33
  have B54 := Lib.hid (B5.out.keep hx4); clear B5
  have hE4 := hE3.trans hx4; clear hE3 hx4
  obtain ⟨c30, c31, c32, c33, f30, f31, f32, f33⟩ := B34.out.four
  go_wp2_with fail
  have k0 := read_ok w4 _ Ex.d2 2 HD4.out
  rw [Ex.e4] at k0
  refine k0.mono ?_
  clear k0 c30 c31 c32 c33 f30 f31 f32 f33
  rintro e w5 ⟨v5, rfl, hb5, hx5⟩
  clear hb5
  have HB5 := Lib.hid (HB.out.keep hx5); clear HB
  have HD5 := Lib.hid (HD4.out.keep hx5); clear HD4
  have HW5 := Lib.hid (HW4.out.keep hx5); clear HW4
  have B35 := Lib.hid (B34.out.keep hx5); clear B34
  have B55 := Lib.hid (B54.out.keep hx5); clear B54
  have hE5 := hE4.trans hx5; clear hE4 hx5
  go_upto_region 6 with fail
  go_cut [12] (fun j wx => j = .int .i64 1 ∧ Ext w5 wx)
  case first =>
    have hmk : ∀ W : World, (Instr.makeSlice 35 (.int .i64 129) (.int .i64 129)).run Try.prog W = .ok (.slice (some ⟨W.heap.size, 0, none⟩) 129 129) (W.alloc (.cells (zerosV 129) 5)) := fun W => by kernel_rfl
    have k0 : ∀ (W : World) (g : Nat), Ext w5 W → W.heap[g]? = some (.cells (zerosV 129) 5 (0, 0)) → Calls Try.prog 26 #[.agg #[.slice a Ex.d2.sectors.length c, .slice a2 Ex.d2.pending.length c2, .int .i64 Ex.d2.left, .bool Ex.d2.stopped], .int .i64 0, .slice (some ⟨g, 0, none⟩) 129 129] W (DiskErr No W (zeroD, 1)) := by
      intro W g hx hg
      have := write_ok (S := No) W _ Ex.d2 0 (.slice (some ⟨g, 0, none⟩) 129 129) (List.replicate 129 0) (HD5.out.keep hx) (Bs.whole (t := 5) (by rw [bv_zeros]; exact hg) (fun h => h) (by simp) (by simp) (by decide)) No.lt
      rw [Ex.e5] at this; exact this
    have K0 := Lib.hid k0; clear k0
    obtain ⟨c30, c31, c32, c33, f30, f31, f32, f33⟩ := B35.out.four
    go_region_held3 (fun w' : World => Ext w5 w' ∧ w'.cell? ⟨n3, 0, none⟩ = some (.slice a Ex.d2.sectors.length c) ∧ w'.cell? ⟨n3, 1, none⟩ = some (.slice a2 Ex.d2.pending.length c2) ∧ w'.cell? ⟨n3, 2, none⟩ = some (.int .i64 Ex.d2.left) ∧ w'.cell? ⟨n3, 3, none⟩ = some (.bool Ex.d2.stopped)) (refine ⟨?_, Ext.cell ?_ c30, Ext.cell ?_ c31, Ext.cell ?_ c32, Ext.cell ?_ c33⟩ <;> (repeat (first | exact Ext.refl _ | assumption | refine Ext.drew ?_ | refine Ext.alloc ?_ _ | refine Ext.setCell ?_ (by simp) _))) (first | (go_at_call 26; refine (K0.out _ _ (And.left ‹Ext w5 _ ∧ _›) (by first | exact heap_alloc_new _ _ | exact (Below.heap_alloc _ _ _ (by simp)).trans (heap_alloc_new _ _) | exact heap_last (by simp))).mono ?_; rintro e w6 ⟨v6, rfl, hd6, hx6⟩; obtain ⟨a6, c6, a7, c7, rfl, _, _, _, _, _, _⟩ := hd6.open; have hxx : Ext w5 w6 := Ext.trans (And.left ‹Ext w5 _ ∧ _›) hx6; have hcc := fun b o h => Ext.cellEq hx6 (b := b) (o := o) h; have hff := fun b o h => Ext.frozenEq hx6 (b := b) (o := o) h))
    all_goals (go_wp2_with fail; go_meet; exact ⟨rfl, And.left ‹Ext w5 _ ∧ _›⟩)
  case rest =>
    obtain ⟨rfl, hx6⟩ := hcut
    have HB6 := Lib.hid (HB5.out.keep hx6); clear HB5
    have HW6 := Lib.hid (HW5.out.keep hx6); clear HW5
    have B56 := Lib.hid (B55.out.keep hx6); clear B55
    have hE6 := hE5.trans hx6; clear hE5 hx6 HD5 B35
    obtain ⟨c50, c51, c52, c53, f50, f51, f52, f53⟩ := B56.out.four
    generalize wc = w6 at *
    go_wp2_with fail
    have k0 := stop_ok w6 _ Ex.w1 1 HW6.out
    rw [Ex.e6] at k0
    refine k0.mono ?_
    clear k0 c50 c51 c52 c53 f50 f51 f52 f53
    rintro e w7 ⟨v7, rfl, hd7, hx7⟩
    obtain ⟨sa, sc, sa2, sc2, rfl, -, -, -, -, -, -⟩ := hd7.open
    have hn5 : n5 < w7.heap.size := Nat.lt_of_lt_of_le B56.out.lt hx7.size
    have hwn : w.heap.size ≤ w7.heap.size := (hE6.trans hx7).size
    have hxa := hx7.alloc (.cells #[.slice sa Ex.s1.sectors.length sc, .slice sa2 Ex.s1.pending.length sc2, .int .i64 Ex.s1.left, .bool Ex.s1.stopped] 25)
    have hS7 : ∀ k, (fun k => k = w7.heap.size) k → No k ∨ w7.heap.size ≤ k := fun k h => .inr (Nat.le_of_eq h.symm)
    have HSS := Lib.hid ((hd7.more hS7).keep ((Ext.refl w7).alloc (.cells #[.slice sa Ex.s1.sectors.length sc, .slice sa2 Ex.s1.pending.length sc2, .int .i64 Ex.s1.left, .bool Ex.s1.stopped] 25)))
    have HB7 := Lib.hid (((HB6.out.keep hx7).more etByte hS7).keepM etByte (((Ext.refl w7).alloc (.cells #[.slice sa Ex.s1.sectors.length sc, .slice sa2 Ex.s1.pending.length sc2, .int .i64 Ex.s1.left, .bool Ex.s1.stopped] 25)).mem _)); clear HB6
    have HW7 := Lib.hid (((HW6.out.keep hx7).more hS7).keep ((Ext.refl w7).alloc (.cells #[.slice sa Ex.s1.sectors.length sc, .slice sa2 Ex.s1.pending.length sc2, .int .i64 Ex.s1.left, .bool Ex.s1.stopped] 25))); clear HW6
    have B57 := Lib.hid (B56.out.keep hxa); clear B56
    have B13 := Lib.hid (Box.new w7 [.slice sa Ex.s1.sectors.length sc, .slice sa2 Ex.s1.pending.length sc2, .int .i64 Ex.s1.left, .bool Ex.s1.stopped] 25)
    have hE7 := hE6.trans hxa; clear hE6 hxa hx7 hd7 hS7
    go_upto_region 8 with fail
    generalize w7.alloc (.cells #[.slice sa Ex.s1.sectors.length sc, .slice sa2 Ex.s1.pending.length sc2, .int .i64 Ex.s1.left, .bool Ex.s1.stopped] 25) = W7 at *
    generalize w7.heap.size = n13 at *
    go_cut [15] (fun j wx => j = .int .i64 0 ∧ ∃ a8 c8 a9 c9, Box wx n13 [.slice a8 Ex.s2.sectors.length c8, .slice a9 Ex.s2.pending.length c9, .int .i64 Ex.s2.left, .bool Ex.s2.stopped] ∧ Disk (fun k => k = n13) wx (.agg #[.slice a8 Ex.s2.sectors.length c8, .slice a9 Ex.s2.pending.length c9, .int .i64 Ex.s2.left, .bool Ex.s2.stopped]) Ex.s2 ∧ Mem (fun k => k = n13) W7 wx ∧ Ext w wx)
    case first =>
      have hS13 : ∀ W : World, Ext W7 W → ∀ k, (fun k => k = n13) k → k < W.heap.size := fun W hx k h => by subst h; exact Nat.lt_of_lt_of_le B13.out.lt hx.size
      have HS13 := Lib.hid hS13; clear hS13
      have hn13 : n13 < W7.heap.size := B13.out.lt
      obtain ⟨c130, c131, c132, c133, f130, f131, f132, f133⟩ := B13.out.four
      go_region_with (first | (go_at_call 34; refine (double_ok (S := fun k => k = n13) _ 8 (HS13.out _ (by repeat (first | exact Ext.refl _ | refine Ext.drew ?_)))).mono ?_; rintro e w8 ⟨v8, rfl, hv8, hx8⟩; obtain ⟨a10, c10, rfl, _, _⟩ := hv8.open; have hxx : Ext W7 w8 := Ext.trans (by repeat (first | exact Ext.refl _ | refine Ext.drew ?_)) hx8; have d0 := hxx.cell c130; have d1 := hxx.cell c131; have d2 := hxx.cell c132; have d3 := hxx.cell c133) | (go_at_call 26; refine (Eq.mp (congrArg (fun q => Calls Try.prog 26 _ _ (DiskErr _ _ q)) Ex.e7) (write_ok (S := fun k => k = n13) _ _ Ex.s1 0 _ (dbl 8) (HSS.out.keep (by assumption)) (by assumption) (HS13.out _ (by assumption)))).mono ?_; rintro e w9 ⟨v9, rfl, hd9, hx9⟩; obtain ⟨a11, c11, a12, c12, rfl, _, _, _, _, _, _⟩ := hd9.open; obtain ⟨g0, g1, g2, g3, g4, g5, g6, g7⟩ := (B13.out.keep (Ext.trans (by assumption) hx9)).four))
      all_goals
        have hxy := Ext.trans hxx hx9
        generalize hW : World.setCell _ _ _ = w10
        obtain ⟨hb10, ho10⟩ := box_set4 (B13.out.keep hxy) hW
        clear hW
        have hm10 := (hxy.mem (fun k => k = n13)).trans (ho10.mem (S := fun k => k = n13) rfl)
        have hd10 := hd9.keepM (ho10.mem (S := fun k => k = n13) rfl)
        have hE10 := ho10.ext (hE7.trans hxy) hwn
        clear g0 g1 g2 g3 g4 g5 g6 g7 d0 d1 d2 d3 c130 c131 c132 c133 f130 f131 f132 f133
        go_wp2_with fail
        go_meet
        exact ⟨rfl, a11, c11, a12, c12, hb10, hd10, hm10, hE10⟩
    case rest =>
      obtain ⟨rfl, a8, c8, a9, c9, B8, hd8, hm8, hE8⟩ := hcut
      have HB8 := Lib.hid (HB7.out.keepM etByte hm8); clear HB7
      have HW8 := Lib.hid (HW7.out.keepM hm8); clear HW7
      have B58 := Lib.hid (B57.out.keepM hm8 (by omega))
      clear B57 B13 HSS hE7
      generalize wc = w8 at *
      have HB13 := Lib.hid B8; clear B8
      obtain ⟨c130, c131, c132, c133, f130, f131, f132, f133⟩ := HB13.out.four
      go_wp2_with fail
      have k0 := sync_ok (S := fun k => k = n13) w8 _ Ex.s2 hd8 (fun k h => by subst h; exact HB13.out.lt)
      rw [Ex.e8.1] at k0
      refine k0.mono ?_
      clear k0 c130 c131 c132 c133 f130 f131 f132 f133 hd8
      rintro e w9 ⟨v9, rfl, hd9, hx9⟩
      obtain ⟨xa, xc, xa2, xc2, rfl, -, -, -, -, -, -⟩ := hd9.open
      have hxs : Ex.x1.stopped = true := Ex.e8.2
      have HXS := Lib.hid hxs; clear hxs
      have hxa := hx9.alloc (.cells #[.slice xa Ex.x1.sectors.length xc, .slice xa2 Ex.x1.pending.length xc2, .int .i64 Ex.x1.left, .bool Ex.x1.stopped] 25)
      have hn59 : n5 < w9.heap.size := Nat.lt_of_lt_of_le B58.out.lt hx9.size
      have hwn9 : w.heap.size ≤ w9.heap.size := (hE8.trans hx9).size
      have hS9 : ∀ k, (fun k => k = w9.heap.size) k → (fun k => k = n13) k ∨ w9.heap.size ≤ k := fun k h => .inr (Nat.le_of_eq h.symm)
      have HX9 := Lib.hid ((hd9.more hS9).keep ((Ext.refl w9).alloc (.cells #[.slice xa Ex.x1.sectors.length xc, .slice xa2 Ex.x1.pending.length xc2, .int .i64 Ex.x1.left, .bool Ex.x1.stopped] 25)))
      have HB9 := Lib.hid (((Bs.keep HB8.out hx9).more etByte hS9).keepM etByte (((Ext.refl w9).alloc (.cells #[.slice xa Ex.x1.sectors.length xc, .slice xa2 Ex.x1.pending.length xc2, .int .i64 Ex.x1.left, .bool Ex.x1.stopped] 25)).mem _)); clear HB8
      have HW9 := Lib.hid (((HW8.out.keep hx9).more hS9).keep ((Ext.refl w9).alloc (.cells #[.slice xa Ex.x1.sectors.length xc, .slice xa2 Ex.x1.pending.length xc2, .int .i64 Ex.x1.left, .bool Ex.x1.stopped] 25))); clear HW8
      have B59 := Lib.hid (B58.out.keep hxa); clear B58
      have B16 := Lib.hid (Box.new w9 [.slice xa Ex.x1.sectors.length xc, .slice xa2 Ex.x1.pending.length xc2, .int .i64 Ex.x1.left, .bool Ex.x1.stopped] 25)
      have hE9 := hE8.trans hxa; clear hE8 hxa hx9 hd9 hS9 HB13
      go_upto_region 10 with fail
      generalize w9.alloc (.cells #[.slice xa Ex.x1.sectors.length xc, .slice xa2 Ex.x1.pending.length xc2, .int .i64 Ex.x1.left, .bool Ex.x1.stopped] 25) = W9 at *
      generalize w9.heap.size = n16 at *
      obtain ⟨c160, c161, c162, c163, f160, f161, f162, f163⟩ := B16.out.four
      rw [HXS.out] at c163
      go_wp2_with fail
      have hq9 := HX9.out
      rw [HXS.out] at hq9
      refine (restart_ok (S := fun k => k = n16) W9 _ Ex.x1 hq9).mono ?_
      clear hq9 c160 c161 c162 c163 f160 f161 f162 f163
      rintro e w10 ⟨v10, rfl, hd10, hx10⟩
      have hd10' : Disk (fun k => k = n16) w10 v10 Ex.x2 := hd10
      clear hd10
      obtain ⟨ya, yc, ya2, yc2, rfl, -, -, -, -, -, -⟩ := hd10'.open
      have HB10 := Lib.hid (Bs.keep HB9.out hx10); clear HB9
      have HW10 := Lib.hid (HW9.out.keep hx10); clear HW9
      have B510 := Lib.hid (B59.out.keep hx10); clear B59
      have B1610 := Lib.hid (B16.out.keep hx10); clear B16 HX9
      have hE10 := hE9.trans hx10; clear hE9 hx10
      go_wp2_with (with_reducible refine wpList_store_box rfl 25 _ _ rfl n16 [_, _, _, _] _ rfl rfl B1610.out ?_ ?_ ?_ ?_)
      case refine_1 => kernel_rfl
      case refine_2 => rfl
      case refine_3 => rfl
      intro w11 hb11 ho11
      have hd11 := hd10'.keepM (ho11.mem (S := fun k => k = n16) rfl)
      have HB11 := Lib.hid (HB10.out.keepM etByte (ho11.mem (S := fun k => k = n16) rfl)); clear HB10
      have HW11 := Lib.hid (HW10.out.keepM (ho11.mem (S := fun k => k = n16) rfl)); clear HW10
      have B511 := Lib.hid (ho11.box B510.out (by omega)); clear B510
      have hE11 := ho11.ext hE10 hwn9
      clear hE10 ho11 hd10' B1610
      obtain ⟨c160, c161, c162, c163, f160, f161, f162, f163⟩ := hb11.four
      have B11 := Lib.hid hb11; clear hb11
      go_wp2_with fail
      have k0 := read_ok w11 _ Ex.x2 1 hd11
      obtain ⟨q1, q2, q3⟩ := Ex.e9
      have k1 : BytesErr (fun k => k = n16) w11 (readD Ex.x2 1) = BytesErr (fun k => k = n16) w11 ((readD Ex.x2 1).1, 0) := congrArg (BytesErr _ _) (Prod.ext rfl q1)
      rw [k1] at k0
      refine k0.mono ?_
      clear k0 k1 q1 c160 c161 c162 c163 f160 f161 f162 f163
      rintro e w12 ⟨v12, rfl, hb12, hx12⟩
      generalize (readD Ex.x2 1).1 = lo at *
      have hlo : ((lo.length : Int) == 128) = true := by simp [q2]
      have hlo1 : (128 : Int) ≤ lo.length := by omega
      obtain ⟨ao, co, rfl, -, -⟩ := hb12.open
      have QO := Lib.hid q3; clear q3 q2
      have HO12 := Lib.hid hb12; clear hb12
      have HB12 := Lib.hid (Bs.keep HB11.out hx12); clear HB11
      have HW12 := Lib.hid (HW11.out.keep hx12); clear HW11
      have B512 := Lib.hid (B511.out.keep hx12); clear B511
      have B12 := Lib.hid (B11.out.keep hx12); clear B11
      have hd12 := hd11.keep hx12; clear hd11
      have hE12 := hE11.trans hx12; clear hE11 hx12
      obtain ⟨c160, c161, c162, c163, f160, f161, f162, f163⟩ := B12.out.four
      go_wp2_with fail
      have k0 := read_ok w12 _ Ex.x2 0 hd12
      obtain ⟨q1, q2, q3, q4⟩ := Ex.e10
      have k1 : BytesErr (fun k => k = n16) w12 (readD Ex.x2 0) = BytesErr (fun k => k = n16) w12 ((readD Ex.x2 0).1, 0) := congrArg (BytesErr _ _) (Prod.ext rfl q1)
      rw [k1] at k0
      refine k0.mono ?_
      clear k0 k1 q1 c160 c161 c162 c163 f160 f161 f162 f163 hd12 B12
      rintro e w13 ⟨v13, rfl, hb13, hx13⟩
      generalize (readD Ex.x2 0).1 = ln at *
      have hln : ((ln.length : Int) == 128) = true := by simp [q2]
      have hln1 : (128 : Int) ≤ ln.length := by omega
      obtain ⟨an, cn, rfl, -, -⟩ := hb13.open
      have QN := Lib.hid q3; clear q3 q2
      have QN2 := Lib.hid q4; clear q4
      have HN13 := Lib.hid hb13; clear hb13
      have HO13 := Lib.hid (Bs.keep HO12.out hx13); clear HO12
      have HB13 := Lib.hid (Bs.keep HB12.out hx13); clear HB12
      have HW13 := Lib.hid (HW12.out.keep hx13); clear HW12
      have B513 := Lib.hid (B512.out.keep hx13); clear B512
      have hE13 := hE12.trans hx13; clear hE12 hx13
      obtain ⟨c50, c51, c52, c53, f50, f51, f52, f53⟩ := B513.out.four
      go_wp2_with fail
      refine (restart_ok w13 _ Ex.w1 HW13.out).mono ?_
      clear c50 c51 c52 c53 f50 f51 f52 f53 B513 HW13
      rintro e w14 ⟨v14, rfl, hd14, hx14⟩
      have hd14' : Disk (fun k => k = n16) w14 v14 Ex.w2 := hd14
      clear hd14
      have HN14 := Lib.hid (Bs.keep HN13.out hx14); clear HN13
      have HO14 := Lib.hid (Bs.keep HO13.out hx14); clear HO13
      have HB14 := Lib.hid (Bs.keep HB13.out hx14); clear HB13
      have hE14 := hE13.trans hx14; clear hE13 hx14
      go_wp2_with fail
      have k0 := read_ok w14 _ Ex.w2 1 hd14'
      obtain ⟨q1, q2, q3⟩ := Ex.e11
      have k1 : BytesErr (fun k => k = n16) w14 (readD Ex.w2 1) = BytesErr (fun k => k = n16) w14 ((readD Ex.w2 1).1, 0) := congrArg (BytesErr _ _) (Prod.ext rfl q1)
      rw [k1] at k0
      refine k0.mono ?_
      clear k0 k1 q1 hd14'
      rintro e w15 ⟨v15, rfl, hb15, hx15⟩
      generalize (readD Ex.w2 1).1 = ll at *
      have hll : ((ll.length : Int) == 128) = true := by simp [q2]
      have hll1 : (128 : Int) ≤ ll.length := by omega
      obtain ⟨al, cl, rfl, -, -⟩ := hb15.open
      obtain ⟨bl, ol, rfl, hcl⟩ := hb15.at 0 _ q3
      obtain ⟨bn, on_, rfl, hcn⟩ := (Bs.keep HN14.out hx15).at 0 _ QN.out
      obtain ⟨bn', on', e1, hcn2⟩ := (Bs.keep HN14.out hx15).at 64 _ QN2.out
      cases e1
      obtain ⟨bo, oo, rfl, hco⟩ := (Bs.keep HO14.out hx15).at 0 _ QO.out
      obtain ⟨bb, ob, rfl, hcb⟩ := (Bs.keep HB14.out hx15).at 0 _ Q3.out
      have hE15 := hE14.trans hx15
      clear q2 q3 hb15 HN14 HO14 HB14 hE14 hx15 QN QN2 QO Q3
      have hcl' : w15.cell? ⟨bl, ol, none⟩ = some (.int .u8 0) := hcl
      have hcn' : w15.cell? ⟨bn, on_, none⟩ = some (.int .u8 8) := hcn
      have hcn2' : w15.cell? ⟨bn, on_ + 64, none⟩ = some (.int .u8 0) := hcn2
      have hco' : w15.cell? ⟨bo, oo, none⟩ = some (.int .u8 7) := hco
      have hcb' : w15.cell? ⟨bb, ob, none⟩ = some (.int .u8 7) := hcb
      clear hcl hcn hcn2 hco hcb
      go_wp2_with fail
      have k0 := check_ok w15 _ zeroD (zeroD_disk No w15)
      rw [Ex.e12.1] at k0
      refine k0.mono ?_
      clear k0
      rintro e w16 ⟨rfl, hx16⟩
      go_wp2_with fail
      refine (restart_ok w16 _ zeroD (zeroD_disk No w16)).mono ?_
      rintro e w17 ⟨v17, rfl, hd17, hx17⟩
      obtain ⟨za, zc, za2, zc2, rfl, -, -, -, -, -, -⟩ := hd17.open
      rw [Ex.e12.2]
      clear hd17
      have hE17 := (hE15.trans hx16).trans hx17
      clear hE15 hx16 hx17
      have hfl : ∀ (x0 x1 x3 : Value) (W : World), (Instr.field 25 (.agg #[x0, x1, .int .i64 (-1), x3]) 2).run Try.prog W = .ok (.int .i64 (-1)) W := fun _ _ _ _ => by kernel_rfl
      go_wp2_with fail
      go_ret
      exact ⟨rfl, hE17⟩
end Go.Proofs.Ytpciankfpagnhaa
