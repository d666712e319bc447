/- What Stop and Read of the reference of layer 41 do. -/
import Derived.Test.YtpciankfpagnhaaD1
import Derived.Test.YtpciankfpagnhaaD14
import Derived.Test.YtpciankfpagnhaaM1
import Derived.Test.YtpciankfpagnhaaD10
import Derived.Deep.RegionLaw
namespace Go.Proofs.Ytpciankfpagnhaa
open Go.RowKit

theorem chk_bne (d : Dk) : (chk d != 0) = !okD d := by unfold chk; cases okD d <;> rfl

set_option maxHeartbeats 2000000 in
theorem refStop_ok {S : Nat → Prop} (w : World) (v : Value) (d : Dk) (left : Int) (h : Disk S w v d) :
    Calls Try.prog 33 #[v, .int .i64 left] w (DiskErr S w (stopD d left)) := by
  obtain ⟨a, c, a2, c2, rfl, hc, hm, hc2, hm2, h1, h2⟩ := h.open
  have H := Lib.hid h; clear h
  have H1 := Lib.hid h1; clear h1
  have H2 := Lib.hid h2; clear h2
  go_enter Try.func33, Try.ntmps33
  go_wp2_with fail
  refine (refCheck_ok _ _ d (H.out.keep (((Ext.refl _).alloc _).alloc _))).mono ?_
  rintro e w1 ⟨rfl, hx⟩
  have hE := (((Ext.refl w).alloc _).alloc _).trans hx
  have hs := hx.size
  simp only [World.size_alloc] at hs
  obtain ⟨c00, c01, c02, c03, f00, f01, f02, f03⟩ := (((Box.new w _ _).past _).keep hx).four
  obtain ⟨c10, c11, c12, c13, f10, f11, f12, f13⟩ := ((Box.at (b := w.heap.size + 1) (by simp)).keep hx).four
  clear hx
  have hlt : w.heap.size < w1.heap.size := by omega
  have e0 := chk_bne d
  by_cases hr : runsD d = true
  · have hok : okD d = true ∧ d.stopped = false := by unfold runsD at hr; simp at hr; exact hr
    rw [hok.1] at e0
    rw [hok.2] at c03
    simp only [Bool.not_true] at e0
    have HK := Lib.hid hok; clear hok
    by_cases h0 : left < 0
    · go_wp2_with fail
      refine bodyPost_ret (v := .tuple #[.agg #[.slice none 0 0, .slice none 0 0, .int .i64 0, .bool false], .int .i64 1]) (by simp [results, Try.results33, go_sem, *]) rfl (DiskErr.mk (by simp [stopD, hr, h0]) (zeroD_disk _ _) ?_)
      repeat (first | exact hE | refine Ext.setCell ?_ (by simp) _)
    · by_cases h1 : 65536 < left
      · go_wp2_with fail
        refine bodyPost_ret (v := .tuple #[.agg #[.slice none 0 0, .slice none 0 0, .int .i64 0, .bool false], .int .i64 1]) (by simp [results, Try.results33, go_sem, *]) rfl (DiskErr.mk (by simp [stopD, hr, h1]) (zeroD_disk _ _) ?_)
        repeat (first | exact hE | refine Ext.setCell ?_ (by simp) _)
      · go_wp2_with fail
        refine bodyPost_ret (v := .tuple #[.agg #[.slice a d.sectors.length c, .slice a2 d.pending.length c2, .int .i64 left, .bool false], .int .i64 0]) (by simp [results, Try.results33, go_sem, *]) rfl (DiskErr.mk (d := { d with left := left, stopped := false }) (by simp [stopD, hr, h0, h1, HK.out.2]) (Disk.mk' (H1.out.keep ?_) (H2.out.keep ?_)) ?_)
        all_goals repeat (first | exact hE | refine Ext.setCell ?_ (by simp) _)
  · have HR := Lib.hid hr; clear hr
    cases hok : okD d
    · rw [hok] at e0
      simp only [Bool.not_false] at e0
      go_wp2_with fail
      refine bodyPost_ret (v := .tuple #[.agg #[.slice none 0 0, .slice none 0 0, .int .i64 0, .bool false], .int .i64 410]) (by simp [results, Try.results33, go_sem, *]) rfl (DiskErr.mk (by unfold stopD; rw [if_neg HR.out]) (zeroD_disk _ _) ?_)
      repeat (first | exact hE | refine Ext.setCell ?_ (by simp) _)
    · rw [hok] at e0
      simp only [Bool.not_true] at e0
      have hst : d.stopped = true := by
        have := HR.out; unfold runsD at this; rw [hok] at this; simpa using this
      rw [hst] at c03
      clear hst
      go_wp2_with fail
      refine bodyPost_ret (v := .tuple #[.agg #[.slice none 0 0, .slice none 0 0, .int .i64 0, .bool false], .int .i64 410]) (by simp [results, Try.results33, go_sem, *]) rfl (DiskErr.mk (by unfold stopD; rw [if_neg HR.out]) (zeroD_disk _ _) ?_)
      repeat (first | exact hE | refine Ext.setCell ?_ (by simp) _)
end Go.Proofs.Ytpciankfpagnhaa

/- What Read of the reference of layer 41 does. -/
namespace Go.Proofs.Ytpciankfpagnhaa
open Go.RowKit

/-- What is read if only the first writes are looked at. -/
def readTo (d : Dk) (i : Int) (k : Nat) : List UInt8 := readL { d with pending := d.pending.take k } i
theorem readTo_zero (d : Dk) (i : Int) : readTo d i 0 = d.sectors.getD i.toNat [] := by simp [readTo, readL]
theorem readTo_all (d : Dk) (i : Int) : readTo d i d.pending.length = readL d i := by simp [readTo]
theorem readTo_succ (d : Dk) (i : Int) (k : Nat) (hk : k < d.pending.length) : readTo d i (k + 1) = if d.pending[k].at_ = i then d.pending[k].data else readTo d i k := by
  unfold readTo readL
  simp only [List.take_succ_eq_append_getElem hk, List.reverse_append, List.reverse_cons, List.reverse_nil, List.nil_append, List.singleton_append, List.find?_cons]
  by_cases h : d.pending[k].at_ = i
  · simp [h]
  · rw [if_neg h, show (d.pending[k].at_ == i) = false from by simpa using h]

set_option maxHeartbeats 2000000 in
set_option maxRecDepth 100000 in
theorem refRead_ok {S : Nat → Prop} (w : World) (v : Value) (d : Dk) (i : Int) (h : Disk S w v d) : Calls Try.prog 29 #[v, .int .i64 i] w (BytesErr S w (readD d i)) := by
  obtain ⟨a, c, a2, c2, rfl, hc, hm, hc2, hm2, h1, h2⟩ := h.open
  have H := Lib.hid h; clear h
  have H1 := Lib.hid h1; clear h1
  have H2 := Lib.hid h2; clear h2
  go_enter Try.func29, Try.ntmps29
  go_wp2_with fail
  refine (refCheck_ok _ _ d (H.out.keep ((Ext.refl _).alloc _))).mono ?_
  rintro e w1 ⟨rfl, hx⟩
  have hE := ((Ext.refl w).alloc _).trans hx
  have hs := hx.size
  simp only [World.size_alloc] at hs
  have hlt : w.heap.size < w1.heap.size := by omega
  obtain ⟨c00, c01, c02, c03, f00, f01, f02, f03⟩ := ((Box.new w _ _).keep hx).four
  clear hx hs
  have e0 := chk_bne d
  have J1 := Lib.hid (H1.out.keep hE); clear H1
  have J2 := Lib.hid (H2.out.keep hE); clear H2
  by_cases hr : runsD d = true
  · have hok : okD d = true ∧ d.stopped = false := by unfold runsD at hr; simp at hr; exact hr
    rw [hok.1] at e0
    rw [hok.2] at c03
    simp only [Bool.not_true] at e0
    have HK := Lib.hid hok; clear hok
    have HR := Lib.hid hr; clear hr
    by_cases h0 : i < 0
    · go_wp2_with fail
      refine bodyPost_ret (v := .tuple #[.slice none 0 0, .int .i64 410]) (by simp [results, Try.results29, go_sem, *]) rfl (BytesErr.mk (l := []) (by simp [readD, hasD]; omega) (Sl.nil _ _ _ _) hE)
    · by_cases h1 : (d.sectors.length : Int) ≤ i
      · go_wp2_with fail
        refine bodyPost_ret (v := .tuple #[.slice none 0 0, .int .i64 410]) (by simp [results, Try.results29, go_sem, *]) rfl (BytesErr.mk (l := []) (by simp [readD, hasD]; omega) (Sl.nil _ _ _ _) hE)
      · obtain ⟨m, rfl⟩ := Int.eq_ofNat_of_zero_le (by omega : 0 ≤ i)
        have hml : m < d.sectors.length := by omega
        have hml' : (m : Int) < (d.sectors.length : Int) := by omega
        have hm0 : (0 : Int) ≤ m := by omega
        have hhas : Hid (hasD d m = true) := Lib.hid (by simp [hasD]; omega)
        obtain ⟨b, o, vd, rfl, hb0, x0, hv⟩ := J1.out.elem hml
        obtain ⟨a3, c3, rfl, hc3, hm3⟩ := hv.open
        have HV := Lib.hid hv; clear hv
        go_wp2_with fail
        go_loop [6, 7] (fun q j => ∃ k : Nat, k ≤ d.pending.length ∧ j = .int .i64 k ∧ Hid (Bs S w1 q (readTo d m k))) (fun _ j => d.pending.length - (intOf j).toNat)
        case atStart =>
          refine ⟨0, Nat.zero_le _, rfl, ?_⟩
          refine (?_ : Bs S w1 _ _)
          rw [readTo_zero]
          have : d.sectors.getD (m : Int).toNat [] = d.sectors[m] := by simp [hml]
          rw [this]; exact HV.out
        case round =>
          obtain ⟨k, hk, rfl, hq⟩ := hrel
          by_cases hkl : k < d.pending.length
          · obtain ⟨b2, o2, vd2, rfl, hb2, y0, y1, hv2⟩ := J2.out.elem hkl
            have hsu := readTo_succ d m k hkl
            have HSU := Lib.hid hsu; clear hsu
            obtain ⟨a4, c4, rfl, hc4, hm4⟩ := hv2.open
            have HV2 := Lib.hid hv2; clear hv2
            obtain ⟨a5, c5, rfl, hc5, hm5⟩ := hq.out.open
            by_cases he : d.pending[k].at_ = m
            · go_wp2_with fail
              go_round
              case rel => exact ⟨k + 1, by omega, by simp, Lib.hid (by rw [HSU.out, if_pos he]; exact HV2.out)⟩
              case measure => simp [intOf]; omega
            · go_wp2_with fail
              go_round
              case rel => exact ⟨k + 1, by omega, by simp, Lib.hid (by rw [HSU.out, if_neg he]; exact hq.out)⟩
              case measure => simp [intOf]; omega
          · obtain rfl : k = d.pending.length := by omega
            obtain ⟨a5, c5, rfl, hc5, hm5⟩ := hq.out.open
            go_wp2_with fail
            refine bodyPost_ret (v := .tuple #[.slice a5 (readTo d m d.pending.length).length c5, .int .i64 0]) (by simp [results, Try.results29, go_sem, *]) rfl (BytesErr.mk (by unfold readD; rw [if_pos (by rw [HR.out, hhas.out]; rfl), ← readTo_all]) hq.out hE)
  · have HR := Lib.hid hr; clear hr
    cases hok : okD d
    · rw [hok] at e0
      simp only [Bool.not_false] at e0
      go_wp2_with fail
      refine bodyPost_ret (v := .tuple #[.slice none 0 0, .int .i64 410]) (by simp [results, Try.results29, go_sem, *]) rfl (BytesErr.mk (l := []) (by have := HR.out; simp at this; simp [readD, this]) (Sl.nil _ _ _ _) hE)
    · rw [hok] at e0
      simp only [Bool.not_true] at e0
      have hst : d.stopped = true := by
        have := HR.out; unfold runsD at this; rw [hok] at this; simpa using this
      rw [hst] at c03
      clear hst
      go_wp2_with fail
      refine bodyPost_ret (v := .tuple #[.slice none 0 0, .int .i64 410]) (by simp [results, Try.results29, go_sem, *]) rfl (BytesErr.mk (l := []) (by have := HR.out; simp at this; simp [readD, this]) (Sl.nil _ _ _ _) hE)
end Go.Proofs.Ytpciankfpagnhaa

/- What New of the reference of layer 41 does. -/
namespace Go.Proofs.Ytpciankfpagnhaa
open Go.RowKit

theorem OSl.notS {α : Type} {base : Nat} {e : TypeId} {size : Nat} {E : (Nat → Prop) → World → List Value → α → Prop} {S : Nat → Prop} {w : World} {v : Value} {xs : List α} (h : OSl base e size E S w v xs) :
    ∀ k, v.ownBlock = some k → ¬ S k := by
  obtain ⟨cells, _, h, _⟩ := h
  exact h
theorem Box.grown {w w' : World} {b : Nat} {cs : List Value} {row : Option Nat} (h : Box w b cs) (hg : w.grownBy w' row) (hb : row ≠ some b) : Box w' b cs := by
  have hl := h.lt
  obtain ⟨t, h⟩ := h
  exact ⟨t, by rw [hg.block b hl (fun e => hb e.symm)]; exact h⟩

/-- One slice, written out. -/
theorem bs_lit {S : Nat → Prop} {w : World} {vd : Value} {l : List UInt8} {t : TypeId} (hS : ∀ k, S k → k < w.heap.size) (h : Bs S w vd l) :
    Bss S (w.alloc (.cells #[vd] t)) (.slice (some ⟨w.heap.size, 0, none⟩) 1 1) [l] := by
  refine ⟨_, 1, [vd], rfl, Nat.le_refl _, by decide, rfl, ?_, .inr ⟨w.heap.size, 0, rfl, ⟨by simp, fun h => absurd (hS _ h) (Nat.lt_irrefl _)⟩, ?_⟩⟩
  · intro j x hj
    match j with
    | 0 => simp at hj; subst hj; exact ⟨vd, rfl, h.keep ((Ext.refl w).alloc _)⟩
    | (n + 1) => simp at hj
  · intro j u hj
    rw [Nat.zero_add, World.cell?_alloc_at _ _ _ _ rfl]
    simpa using hj
/-- A sector of zeros that has just been made. -/
theorem bs_made {S : Nat → Prop} {w : World} (hS : ∀ k, S k → k < w.heap.size) : Bs S (w.alloc (.cells (zerosV 128) 5)) (.slice (some ⟨w.heap.size, 0, none⟩) 128 128) (List.replicate 128 0) := by
  refine Bs.whole (t := 5) ?_ (fun h => absurd (hS _ h) (Nat.lt_irrefl _)) (by simp) (by simp) (by decide)
  rw [bv_zeros]
  exact heap_alloc_new w _

set_option maxHeartbeats 2000000 in
set_option maxRecDepth 100000 in
theorem refNew_ok {S : Nat → Prop} (w : World) (n : Int) (hS : ∀ k, S k → k < w.heap.size) : Calls Try.prog 20 #[.int .i64 n] w (DiskErr S w (newD n)) := by
  have HS := Lib.hid hS; clear hS
  have hmk := make128
  by_cases h1 : n < 1
  · go_enter Try.func20, Try.ntmps20
    go_wp2_with fail
    refine bodyPost_ret (v := .tuple #[.agg #[.slice none 0 0, .slice none 0 0, .int .i64 0, .bool false], .int .i64 1]) (by simp [results, Try.results20, go_sem]) rfl (DiskErr.mk (by unfold newD; rw [if_pos (by omega)]) (zeroD_disk _ _) ?_)
    repeat (first | exact (Ext.refl _).alloc _ | refine Ext.setCell ?_ (by simp) _)
  by_cases h2 : 4096 < n
  · go_enter Try.func20, Try.ntmps20
    go_wp2_with fail
    refine bodyPost_ret (v := .tuple #[.agg #[.slice none 0 0, .slice none 0 0, .int .i64 0, .bool false], .int .i64 1]) (by simp [results, Try.results20, go_sem]) rfl (DiskErr.mk (by unfold newD; rw [if_pos (by omega)]) (zeroD_disk _ _) ?_)
    repeat (first | exact (Ext.refl _).alloc _ | refine Ext.setCell ?_ (by simp) _)
  obtain ⟨m, rfl⟩ := Int.eq_ofNat_of_zero_le (by omega : 0 ≤ n)
  go_enter Try.func20, Try.ntmps20
  go_wp2_with fail
  go_loopw [5] (fun i wr => ∃ k : Nat, k ≤ m ∧ i = .int .i64 k ∧ ∃ a c, Hid (Box wr (w.heap.size + 1) [.slice a k c, .slice none 0 0, .int .i64 (-1), .bool false]) ∧ Hid (Box wr w.heap.size [.slice none 0 0, .slice none 0 0, .int .i64 0, .bool false]) ∧
      Hid (OSl w.heap.size 35 1 eBs (Bx S w.heap.size (w.heap.size + 2)) wr (.slice a k c) (List.replicate k (List.replicate 128 0))) ∧ Ext w wr) (fun i _ => m - (intOf i).toNat)
  case atStart => exact ⟨0, Nat.zero_le _, rfl, none, 0, Box.at (by simp), (Box.new w _ _).past _, OSl.nil _ _ _ _ _ _, ((Ext.refl w).alloc _).alloc _⟩
  case round =>
    obtain ⟨k, hk, rfl, a, c, B1, B0, HO, hx⟩ := hrel
    have hs1 : w.heap.size + 1 < wr.heap.size := B1.out.lt
    have hs0 : w.heap.size < wr.heap.size := B0.out.lt
    obtain ⟨c10, c11, c12, c13, f10, f11, f12, f13⟩ := B1.out.four
    by_cases hlt : k < m
    · have hlt' : (k : Int) < m := by omega
      have hb' : (Value.slice a k c).ownBlock ≠ some (w.heap.size + 1) := fun h => HO.out.notS _ h (.inr ⟨by omega, by omega⟩)
      have HBK := Lib.hid hb'; clear hb'
      have hbo : ∀ W, Ext wr W → ∀ g, Wo (Bx S w.heap.size (w.heap.size + 2)) (.slice a k c) g → g < W.heap.size := fun W hX g hg => by
        rcases hg with hg | hg
        · exact Nat.lt_of_lt_of_le (Bx.lt HS.out (Nat.le_of_lt hs0) (by omega) g hg) hX.size
        · exact Nat.lt_of_lt_of_le (HO.out.block g hg).2 hX.size
      have HBO := Lib.hid hbo; clear hbo
      have hl : Bss (Wo (Bx S w.heap.size (w.heap.size + 2)) (.slice a k c)) ((wr.alloc (.cells (zerosV 128) 5)).alloc (.cells #[.slice (some ⟨wr.heap.size, 0, none⟩) 128 128] 35)).drew (.slice (some ⟨wr.heap.size + 1, 0, none⟩) 1 1) [List.replicate 128 0] := by
        have := (bs_lit (t := 35) (HBO.out _ ((Ext.refl wr).alloc _)) (bs_made (HBO.out _ (Ext.refl wr)))).keep (Ext.drew' _)
        simpa using this
      have HL := Lib.hid hl; clear hl
      have hX : Ext wr ((wr.alloc (.cells (zerosV 128) 5)).alloc (.cells #[.slice (some ⟨wr.heap.size, 0, none⟩) 128 128] 35)).drew := (((Ext.refl wr).alloc _).alloc _).drew
      go_wp2_with fail
      go_region_law (first | (refine step_append_osl atBs etBs rfl _ _ rfl w.heap.size (.slice a k c) (.slice (some ⟨wr.heap.size + 1, 0, none⟩) 1 1) (List.replicate k (List.replicate 128 0)) [List.replicate 128 0] rfl rfl (HO.out.keep etBs hX) HL.out (fun k hk => HBO.out _ hX k (.inl hk)) (by simp; omega) (by simp; omega) (Nat.le_of_lt (Nat.lt_of_lt_of_le hs0 (Ext.size hX))) ?_; intro v1 w2 hv1 hg1; obtain ⟨a1, c1, rfl, _, _⟩ := (hv1.sl etBs).open; obtain ⟨g10, g11, g12, g13, g14, g15, g16, g17⟩ := ((B1.out.keep hX).grown hg1 HBK.out).four))
      all_goals
        have hgb : ∀ g, (Value.slice a k c).ownBlock = some g → w.heap.size ≤ g := fun g hg => (HO.out.block g hg).1
        have hne : (Value.slice a k c).ownBlock ≠ some w.heap.size := fun h => HO.out.notS _ h (.inr ⟨by omega, by omega⟩)
        have hsm := hg1.size
        have hs2 : w.heap.size + 1 < w2.heap.size := Nat.lt_of_lt_of_le (Nat.lt_of_lt_of_le hs1 hX.size) hsm
        clear hsm
        generalize hW : World.setCell _ _ _ = w3
        obtain ⟨hb3, ho3⟩ := box_set1 ((B1.out.keep hX).grown hg1 HBK.out) hW
        clear hW
        have hb03 := ho3.box ((B0.out.keep hX).grown hg1 hne) (by omega)
        have hE3 := ho3.ext ((hx.trans hX).grown hg1 hgb) (by omega)
        have hv3 := hv1.keepM etBs (ho3.mem (S := Bx S w.heap.size (w.heap.size + 2)) (.inr ⟨by omega, by omega⟩))
        rw [show (List.replicate k (List.replicate 128 (0 : UInt8)) ++ [List.replicate 128 0]) = List.replicate (k + 1) (List.replicate 128 0) from (List.replicate_succ' ..).symm, List.length_replicate] at hv3
        have HV3 := Lib.hid hv3; clear hv3
        have HB3 := Lib.hid hb3; clear hb3
        have HB03 := Lib.hid hb03; clear hb03
        clear g10 g11 g12 g13 g14 g15 g16 g17 c10 c11 c12 c13 f10 f11 f12 f13 hv1 hg1 hX HL HBO HBK hne hgb ho3
        go_wp2_with fail
        go_roundw
        case rel => exact ⟨k + 1, by omega, by simp, a1, c1, HB3, HB03, HV3, hE3⟩
        case measure => simp [intOf]; omega
    · obtain rfl : k = m := by omega
      obtain ⟨c00, c01, c02, c03, f00, f01, f02, f03⟩ := B0.out.four
      go_wp2_with fail
      generalize hW : World.setCell _ _ _ = w3
      obtain ⟨hb3, ho3⟩ := box_set4 B0.out hW
      clear hW c00 c01 c02 c03 f00 f01 f02 f03
      obtain ⟨c00, c01, c02, c03, f00, f01, f02, f03⟩ := hb3.four
      refine bodyPost_ret (v := .tuple #[.agg #[.slice a k c, .slice none 0 0, .int .i64 (-1), .bool false], .int .i64 0]) (by simp [results, Try.results20, go_sem, c00, c01, c02, c03]) rfl (DiskErr.mk (d := { sectors := List.replicate k (List.replicate 128 0), pending := [], left := -1, stopped := false }) ?_ (Disk.mk' (((HO.out.sl etBs).keepM etBs (ho3.mem (.inr (by simp)))).more etBs Bx.less) (Sl.nil _ _ _ _)) (ho3.ext hx (Nat.le_refl _)))
      unfold newD; rw [if_neg (by omega)]; simp
end Go.Proofs.Ytpciankfpagnhaa

/- What Write of the reference of layer 41 does. -/
namespace Go.Proofs.Ytpciankfpagnhaa
open Go.RowKit

/-- One byte, written out. -/
theorem byte_lit1 {S : Nat → Prop} {w : World} (x : UInt8) (hS : ∀ k, S k → k < w.heap.size) : Bs S (w.alloc (.cells #[.int .u8 (x.toNat : Int)] 5)) (.slice (some ⟨w.heap.size, 0, none⟩) 1 1) [x] :=
  Bs.whole (t := 5) (heap_alloc_new w _) (fun h => absurd (hS _ h) (Nat.lt_irrefl _)) rfl (Nat.le_refl _) (by decide)
def lenOf : Value → Nat
  | .slice _ n _ => n
  | _ => 0

set_option maxHeartbeats 2000000 in
set_option maxRecDepth 100000 in
theorem refWrite_ok {S : Nat → Prop} (w : World) (v : Value) (d : Dk) (i : Int) (vb : Value) (b : List UInt8) (h : Disk S w v d) (hb : Bs S w vb b) (hS : ∀ k, S k → k < w.heap.size) :
    Calls Try.prog 27 #[v, .int .i64 i, vb] w (DiskErr S w (writeD d i b)) := by
  obtain ⟨a0, c0, a2, c2, rfl, hc, hm, hc2, hm2, h1, h2⟩ := h.open
  obtain ⟨a3, c3, rfl, hc3, hm3⟩ := hb.open
  have H := Lib.hid h; clear h
  have H1 := Lib.hid h1; clear h1
  have H2 := Lib.hid h2; clear h2
  have HB := Lib.hid hb; clear hb
  have HS := Lib.hid hS; clear hS
  go_enter Try.func27, Try.ntmps27
  go_wp2_with fail
  refine (refCheck_ok _ _ d (H.out.keep (((Ext.refl _).alloc _).alloc _))).mono ?_
  rintro e w1 ⟨rfl, hx⟩
  have hE := (((Ext.refl w).alloc _).alloc _).trans hx
  have hs := hx.size
  simp only [World.size_alloc] at hs
  have B0 := Lib.hid (((Box.new w _ _).past _).keep hx)
  have B1 := Lib.hid ((Box.at (b := w.heap.size + 1) (by simp)).keep hx)
  obtain ⟨c00, c01, c02, c03, f00, f01, f02, f03⟩ := B0.out.four
  obtain ⟨c10, c11, c12, c13, f10, f11, f12, f13⟩ := B1.out.four
  clear hx
  have hlt : w.heap.size < w1.heap.size := by omega
  have hlt1 : w.heap.size + 1 < w1.heap.size := by omega
  clear hs
  have e0 := chk_bne d
  by_cases hr : runsD d = true
  · have hok : okD d = true ∧ d.stopped = false := by unfold runsD at hr; simp at hr; exact hr
    rw [hok.1] at e0
    rw [hok.2] at c03
    simp only [Bool.not_true] at e0
    have HK := Lib.hid hok; clear hok
    have HR := Lib.hid hr; clear hr
    by_cases h0 : i < 0
    · go_wp2_with fail
      refine bodyPost_ret (v := .tuple #[.agg #[.slice none 0 0, .slice none 0 0, .int .i64 0, .bool false], .int .i64 410]) (by simp [results, Try.results27, go_sem, *]) rfl (DiskErr.mk (by simp [writeD, hasD]; omega) (zeroD_disk _ _) ?_)
      repeat (first | exact hE | refine Ext.setCell ?_ (by simp) _)
    by_cases h1 : (d.sectors.length : Int) ≤ i
    · go_wp2_with fail
      refine bodyPost_ret (v := .tuple #[.agg #[.slice none 0 0, .slice none 0 0, .int .i64 0, .bool false], .int .i64 410]) (by simp [results, Try.results27, go_sem, *]) rfl (DiskErr.mk (by simp [writeD, hasD]; omega) (zeroD_disk _ _) ?_)
      repeat (first | exact hE | refine Ext.setCell ?_ (by simp) _)
    have hh : Hid (hasD d i = true) := Lib.hid (by simp [hasD]; omega)
    by_cases hl : 128 < b.length
    · have hl' : (128 : Int) < (b.length : Int) := by omega
      go_wp2_with fail
      refine bodyPost_ret (v := .tuple #[.agg #[.slice none 0 0, .slice none 0 0, .int .i64 0, .bool false], .int .i64 1]) (by simp [results, Try.results27, go_sem, *]) rfl (DiskErr.mk (by simp [writeD, HR.out, hh.out, hl]) (zeroD_disk _ _) ?_)
      repeat (first | exact hE | refine Ext.setCell ?_ (by simp) _)
    have hl' : (b.length : Int) ≤ 128 := by omega
    have hl0 : b.length ≤ 128 := by omega
    by_cases hp : d.pending.length = 4096
    · have Hp := Lib.hid hp
      have hp' : ((d.pending.length : Int) == 4096) = true := by simp [hp]
      clear hp
      go_wp2_with fail
      refine bodyPost_ret (v := .tuple #[.agg #[.slice none 0 0, .slice none 0 0, .int .i64 0, .bool false], .int .i64 2]) (by simp [results, Try.results27, go_sem, *]) rfl (DiskErr.mk (by simp [writeD, HR.out, hh.out, hl, Hp.out]) (zeroD_disk _ _) ?_)
      repeat (first | exact hE | refine Ext.setCell ?_ (by simp) _)
    have hp' : ((d.pending.length : Int) == 4096) = false := by simp; omega
    have Hp := Lib.hid hp; clear hp
    have hN : ¬ Bx S w.heap.size (w.heap.size + 2) w1.heap.size := fun h => by
      rcases h with h | h
      · have := HS.out _ h; omega
      · omega
    have HSS : Hid (∀ W, Ext w1 W → ∀ k, Bx S w.heap.size (w.heap.size + 2) k → k < W.heap.size) := Lib.hid fun W hX => Bx.lt HS.out (Nat.le_trans (Nat.le_of_lt hlt) hX.size) (Nat.le_trans (by omega) hX.size)
    go_wp2_with (at_builtin; refine wpList_append_osl atB etByte rfl _ _ rfl w.heap.size _ _ [] b rfl rfl (OSl.lit0 _ _ _ _ (Bx S w.heap.size (w.heap.size + 2)) w1 (Nat.le_of_lt hlt) hN) ((((HB.out.more etByte Bx.more).keepM etByte (hE.mem _)).more etByte (S' := Wo (Bx S w.heap.size (w.heap.size + 2)) (.slice (some ⟨w1.heap.size, 0, none⟩) 0 0)) (fun k hk => hk.imp id (fun h => by simp [Value.ownBlock] at h; omega))).keepM etByte (((Ext.refl w1).alloc _).mem _)) (HSS.out _ ((Ext.refl w1).alloc _)) ?_ ?_ ?_ ?_)
    case refine_1 => simp; omega
    case refine_2 => simp; omega
    case refine_3 => simp; omega
    intro v2 w2 hv2 hg2
    obtain ⟨a4, c4, rfl, hc4, hm4⟩ := (hv2.sl etByte).open
    have hE2 : Ext w w2 := (hE.alloc _).grown hg2 (fun k hk => by simp [Value.ownBlock] at hk; omega)
    have C0 := Lib.hid ((B0.out.past _).grown hg2 (by simp [Value.ownBlock]; omega)); clear B0
    have C1 := Lib.hid ((B1.out.past _).grown hg2 (by simp [Value.ownBlock]; omega)); clear B1
    clear c00 c01 c02 c03 f00 f01 f02 f03 c10 c11 c12 c13 f10 f11 f12 f13 hg2 hN HSS
    have HV2 := Lib.hid hv2; clear hv2
    clear hlt hlt1 hE e0
    generalize w1.heap.size = n1
    clear w1
    go_wp2_with fail
    go_loopw [8] (fun q wr => ∃ (n : Nat) (a : Option Addr) (c : Nat), b.length ≤ n ∧ n ≤ 128 ∧ q = .slice a n c ∧ n ≤ c ∧ c ≤ 9223372036854775807 ∧ Hid (OSl w.heap.size 5 1 eByte (Bx S w.heap.size (w.heap.size + 2)) wr (.slice a n c) (b ++ List.replicate (n - b.length) 0)) ∧
      Hid (Box wr w.heap.size [.slice a0 d.sectors.length c0, .slice a2 d.pending.length c2, .int .i64 d.left, .bool d.stopped]) ∧ Hid (Box wr (w.heap.size + 1) [.slice none 0 0, .slice none 0 0, .int .i64 0, .bool false]) ∧ Ext w wr) (fun q _ => 128 - lenOf q)
    case atStart => exact ⟨b.length, a4, c4, Nat.le_refl _, hl0, rfl, hc4, hm4, Lib.hid (by simpa using HV2.out), C0, C1, hE2⟩
    case round =>
      obtain ⟨n, a5, c5, hk, hk2, rfl, hc5, hm5, HO, B0, B1, hx⟩ := hrel
      clear C0 C1 HV2 hE2 hc4 hm4 hl hl'
      have hlt : w.heap.size < wr.heap.size := B0.out.lt
      have hlt1 : w.heap.size + 1 < wr.heap.size := B1.out.lt
      have HSS : Hid (∀ W, Ext wr W → ∀ k, Bx S w.heap.size (w.heap.size + 2) k → k < W.heap.size) := Lib.hid fun W hX => Bx.lt HS.out (Nat.le_trans (Nat.le_of_lt hlt) hX.size) (Nat.le_trans (by omega) hX.size)
      have hbo : ∀ W, Ext wr W → ∀ g, Wo (Bx S w.heap.size (w.heap.size + 2)) (.slice a5 n c5) g → g < W.heap.size := fun W hX g hg => by
        rcases hg with hg | hg
        · exact HSS.out W hX g hg
        · exact Nat.lt_of_lt_of_le (HO.out.block g hg).2 hX.size
      have HBO := Lib.hid hbo; clear hbo
      by_cases hn : n < 128
      · have hn' : (n : Int) < 128 := by omega
        go_wp2_with (at_builtin; refine wpList_append_osl atB etByte rfl _ _ rfl w.heap.size _ _ (b ++ List.replicate (n - b.length) 0) [0] rfl rfl (HO.out.keep etByte ((Ext.refl wr).alloc _)) (byte_lit1 0 (HBO.out _ (Ext.refl wr))) (HSS.out _ ((Ext.refl wr).alloc _)) ?_ ?_ ?_ ?_)
        case refine_1 => simp; omega
        case refine_2 => simp; omega
        case refine_3 => simp; omega
        intro v3 w3 hv3 hg3
        obtain ⟨a6, c6, rfl, hc6, hm6⟩ := (hv3.sl etByte).open
        have hb0 : (Value.slice a5 n c5).ownBlock ≠ some w.heap.size := fun h => HO.out.notS _ h (.inr ⟨by omega, by omega⟩)
        have hb1 : (Value.slice a5 n c5).ownBlock ≠ some (w.heap.size + 1) := fun h => HO.out.notS _ h (.inr ⟨by omega, by omega⟩)
        have hE3 : Ext w w3 := (hx.alloc _).grown hg3 (fun k hk => (HO.out.block k hk).1)
        have C0 := Lib.hid ((B0.out.past _).grown hg3 hb0)
        have C1 := Lib.hid ((B1.out.past _).grown hg3 hb1)
        have hle : (b ++ (List.replicate (n - b.length) (0 : UInt8) ++ [0])) = b ++ List.replicate (n + 1 - b.length) 0 := by
          rw [show n + 1 - b.length = (n - b.length) + 1 from by omega, List.replicate_succ']
        rw [hle] at hv3 hc6 ⊢
        have hln : (b ++ List.replicate (n + 1 - b.length) (0 : UInt8)).length = n + 1 := by simp; omega
        rw [hln] at hv3 hc6 ⊢
        clear hg3 hle hln hb0 hb1
        have HV3 := Lib.hid hv3; clear hv3
        go_wp2_with fail
        go_roundw
        case rel => exact ⟨n + 1, a6, c6, by omega, by omega, rfl, hc6, hm6, HV3, C0, C1, hE3⟩
        case measure => simp only [lenOf]; omega
      · obtain rfl : n = 128 := by omega
        obtain ⟨c00, c01, c02, c03, f00, f01, f02, f03⟩ := B0.out.four
        obtain ⟨c10, c11, c12, c13, f10, f11, f12, f13⟩ := B1.out.four
        have hN : ¬ Bx S w.heap.size (w.heap.size + 2) wr.heap.size := fun h => Nat.lt_irrefl _ (HSS.out _ (Ext.refl wr) _ h)
        have hpl : d.pending.length ≤ 4096 := by have := (okD_iff d).1 HK.out.1; omega
        have HDB := Lib.hid (HO.out.sl etByte); clear HO HBO
        go_wp2_with (at_builtin; refine wpList_append_osl atWr etWr rfl _ _ rfl wr.heap.size _ _ [] d.pending rfl rfl (OSl.lit0 _ _ _ _ (Bx S w.heap.size (w.heap.size + 2)) wr (Nat.le_refl _) hN) ((((H2.out.more etWr Bx.more).keepM etWr (hx.mem _)).more etWr (S' := Wo (Bx S w.heap.size (w.heap.size + 2)) (.slice (some ⟨wr.heap.size, 0, none⟩) 0 0)) (fun k hk => hk.imp id (fun h => by simp [Value.ownBlock] at h; omega))).keepM etWr (((Ext.refl wr).alloc _).mem _)) (HSS.out _ ((Ext.refl wr).alloc _)) ?_ ?_ ?_ ?_)
        case refine_1 => simp; omega
        case refine_2 => simp; omega
        case refine_3 => simp
        intro v4 w4 hv4 hg4
        obtain ⟨a7, c7, rfl, hc7, hm7⟩ := (hv4.sl etWr).open
        have hX4 : Ext wr w4 := ((Ext.refl wr).alloc _).grown hg4 (fun k hk => by simp [Value.ownBlock] at hk; omega)
        have hE4 := hx.trans hX4
        have C0 := Lib.hid (B0.out.keep hX4); clear B0
        have C1 := Lib.hid (B1.out.keep hX4); clear B1
        clear hg4 c00 c01 c02 c03 f00 f01 f02 f03 c10 c11 c12 c13 f10 f11 f12 f13
        have hlt4 : w.heap.size < w4.heap.size := C0.out.lt
        have hlt5 : w.heap.size + 1 < w4.heap.size := C1.out.lt
        have hbo : ∀ W, Ext w4 W → ∀ g, Wo (Bx S w.heap.size (w.heap.size + 2)) (.slice a7 d.pending.length c7) g → g < W.heap.size := fun W hX g hg => by
          rcases hg with hg | hg
          · exact HSS.out W (hX4.trans hX) g hg
          · exact Nat.lt_of_lt_of_le (hv4.block g hg).2 hX.size
        have HBO := Lib.hid hbo; clear hbo
        have hD4 : Bs (Wo (Bx S w.heap.size (w.heap.size + 2)) (.slice a7 d.pending.length c7)) w4 (.slice a5 128 c5) (padS b) := (HDB.out.more etByte (fun k hk => hk.imp id (fun h => (hv4.block k h).1))).keepM etByte (hX4.mem _)
        have HD4 := Lib.hid hD4; clear hD4 HDB
        have HV4 := Lib.hid hv4; clear hv4
        have HBF := Lib.hid (show ∀ g, (Value.slice a7 d.pending.length c7).ownBlock = some g → w.heap.size + 2 ≤ g from fun g hg => by have := (HV4.out.block g hg).1; omega)
        go_wp2_with (at_builtin; refine wpList_append_osl atWr etWr rfl _ _ rfl wr.heap.size _ _ d.pending [⟨i, padS b⟩] rfl rfl (HV4.out.keep etWr ((Ext.refl _).alloc _)) (wr_lit (HBO.out _ (Ext.refl _)) HD4.out) (fun k hk => HSS.out _ (hX4.alloc _) k hk) ?_ ?_ ?_ ?_)
        case refine_1 => simp; omega
        case refine_2 => simp; omega
        case refine_3 => exact (hX4.alloc _).size
        intro v6 w6 hv6 hg6
        have hE6 : Ext w w6 := (hE4.alloc _).grown hg6 (fun k hk => by have := HBF.out k hk; omega)
        have D0 := Lib.hid ((C0.out.past _).grown hg6 (fun h => by have := HBF.out _ h; omega)); clear C0
        have D1 := Lib.hid ((C1.out.past _).grown hg6 (fun h => by have := HBF.out _ h; omega)); clear C1
        clear hg6 HV4 HBO HD4 hlt hlt1 hlt4 hlt5
        have hs1 : w.heap.size + 1 < w6.heap.size := D1.out.lt
        have hs0 : w.heap.size < w6.heap.size := D0.out.lt
        have hw6 := hv6.sl etWr; clear hv6
        obtain ⟨a6, c6, rfl, hc6, hm6⟩ := hw6.open
        have HV6 := Lib.hid hw6; clear hw6
        obtain ⟨c00, c01, c02, c03, f00, f01, f02, f03⟩ := D0.out.four
        obtain ⟨c10, c11, c12, c13, f10, f11, f12, f13⟩ := D1.out.four
        go_wp2_with fail
        refine bodyPost_ret (v := .tuple #[.agg #[.slice a0 d.sectors.length c0, .slice a6 (d.pending ++ [({ at_ := i, data := padS b } : Wr)]).length c6, .int .i64 d.left, .bool d.stopped], .int .i64 0]) (by simp [results, Try.results27, go_sem, *]) rfl (DiskErr.mk (d := { d with pending := d.pending ++ [⟨i, padS b⟩] }) (by simp [writeD, HR.out, hh.out, Hp.out]; omega) (Disk.mk' (H1.out.keep ?_) ((HV6.out.keepM etWr ?_).more etWr Bx.less)) ?_)
        rotate_left
        · repeat (first | exact Mem.refl _ _ | refine Mem.setCell ?_ (.inr (by simp)) _)
        all_goals repeat (first | exact hE6 | refine Ext.setCell ?_ (by simp) _)
  · have HR := Lib.hid hr; clear hr
    cases hok : okD d
    · rw [hok] at e0
      simp only [Bool.not_false] at e0
      go_wp2_with fail
      refine bodyPost_ret (v := .tuple #[.agg #[.slice none 0 0, .slice none 0 0, .int .i64 0, .bool false], .int .i64 410]) (by simp [results, Try.results27, go_sem, *]) rfl (DiskErr.mk (by have := HR.out; simp at this; simp [writeD, this]) (zeroD_disk _ _) ?_)
      repeat (first | exact hE | refine Ext.setCell ?_ (by simp) _)
    · rw [hok] at e0
      simp only [Bool.not_true] at e0
      have hst : d.stopped = true := by
        have := HR.out; unfold runsD at this; rw [hok] at this; simpa using this
      rw [hst] at c03
      clear hst
      go_wp2_with fail
      refine bodyPost_ret (v := .tuple #[.agg #[.slice none 0 0, .slice none 0 0, .int .i64 0, .bool false], .int .i64 410]) (by simp [results, Try.results27, go_sem, *]) rfl (DiskErr.mk (by have := HR.out; simp at this; simp [writeD, this]) (zeroD_disk _ _) ?_)
      repeat (first | exact hE | refine Ext.setCell ?_ (by simp) _)
end Go.Proofs.Ytpciankfpagnhaa
