/- What New of the reference of layer 41 does. -/
import Derived.Test.YtpciankfpagnhaaD11
import Derived.Test.YtpciankfpagnhaaM5
import Derived.Deep.RegionLaw
namespace Go.Proofs.Ytpciankfpagnhaa
open Go.RowKit

theorem OSl.notS {α : Type} {base : Nat} {e : TypeId} {size : Nat} {E : (Nat → Prop) → World → List Value → α → Prop} {S : Nat → Prop} {w : World} {v : Value} {xs : List α} (h : OSl base e size E S w v xs) :
    ∀ k, v.ownBlock = some k → ¬ S k := by
  obtain ⟨cells, _, h, _⟩ := h
  exact h
theorem Box.grown {w w' : World} {b : Nat} {cs : List Value} {row : Option Nat} (h : Box w b cs) (hg : w.grownBy w' row) (hb : row ≠ some b) : Box w' b cs := by
  have hl := h.lt
  obtain ⟨t, h⟩ := h
  exact ⟨t, by rw [hg.block b hl (fun e => hb e.symm)]; exact h⟩

/-- One slice, written out. -/
theorem bs_lit {S : Nat → Prop} {w : World} {vd : Value} {l : List UInt8} {t : TypeId} (hS : ∀ k, S k → k < w.heap.size) (h : Bs S w vd l) :
    Bss S (w.alloc (.cells #[vd] t)) (.slice (some ⟨w.heap.size, 0, none⟩) 1 1) [l] := by
  refine ⟨_, 1, [vd], rfl, Nat.le_refl _, by decide, rfl, ?_, .inr ⟨w.heap.size, 0, rfl, ⟨by simp, fun h => absurd (hS _ h) (Nat.lt_irrefl _)⟩, ?_⟩⟩
  · intro j x hj
    match j with
    | 0 => simp at hj; subst hj; exact ⟨vd, rfl, h.keep ((Ext.refl w).alloc _)⟩
    | (n + 1) => simp at hj
  · intro j u hj
    rw [Nat.zero_add, World.cell?_alloc_at _ _ _ _ rfl]
    simpa using hj
/-- A sector of zeros that has just been made. -/
theorem bs_made {S : Nat → Prop} {w : World} (hS : ∀ k, S k → k < w.heap.size) : Bs S (w.alloc (.cells (zerosV 128) 5)) (.slice (some ⟨w.heap.size, 0, none⟩) 128 128) (List.replicate 128 0) := by
  refine Bs.whole (t := 5) ?_ (fun h => absurd (hS _ h) (Nat.lt_irrefl _)) (by simp) (by simp) (by decide)
  rw [bv_zeros]
  exact heap_alloc_new w _

set_option maxHeartbeats 2000000 in
set_option maxRecDepth 100000 in
theorem refNew_ok {S : Nat → Prop} (w : World) (n : Int) (hS : ∀ k, S k → k < w.heap.size) : Calls Try.prog 20 #[.int .i64 n] w (DiskErr S w (newD n)) := by
  have HS := Lib.hid hS; clear hS
  have hmk := make128
  by_cases h1 : n < 1
  · go_enter Try.func20, Try.ntmps20
    go_wp2_with fail
    refine bodyPost_ret (v := .tuple #[.agg #[.slice none 0 0, .slice none 0 0, .int .i64 0, .bool false], .int .i64 1]) (by simp [results, Try.results20, go_sem]) rfl (DiskErr.mk (by unfold newD; rw [if_pos (by omega)]) (zeroD_disk _ _) ?_)
    repeat (first | exact (Ext.refl _).alloc _ | refine Ext.setCell ?_ (by simp) _)
  by_cases h2 : 4096 < n
  · go_enter Try.func20, Try.ntmps20
    go_wp2_with fail
    refine bodyPost_ret (v := .tuple #[.agg #[.slice none 0 0, .slice none 0 0, .int .i64 0, .bool false], .int .i64 1]) (by simp [results, Try.results20, go_sem]) rfl (DiskErr.mk (by unfold newD; rw [if_pos (by omega)]) (zeroD_disk _ _) ?_)
    repeat (first | exact (Ext.refl _).alloc _ | refine Ext.setCell ?_ (by simp) _)
  obtain ⟨m, rfl⟩ := Int.eq_ofNat_of_zero_le (by omega : 0 ≤ n)
  go_enter Try.func20, Try.ntmps20
  go_wp2_with fail
  go_loopw [5] (fun i wr => ∃ k : Nat, k ≤ m ∧ i = .int .i64 k ∧ ∃ a c, Hid (Box wr (w.heap.size + 1) [.slice a k c, .slice none 0 0, .int .i64 (-1), .bool false]) ∧ Hid (Box wr w.heap.size [.slice none 0 0, .slice none 0 0, .int .i64 0, .bool false]) ∧
      Hid (OSl w.heap.size 35 1 eBs (Bx S w.heap.size (w.heap.size + 2)) wr (.slice a k c) (List.replicate k (List.replicate 128 0))) ∧ Ext w wr) (fun i _ => m - (intOf i).toNat)
  case atStart => exact ⟨0, Nat.zero_le _, rfl, none, 0, Box.at (by simp), (Box.new w _ _).past _, OSl.nil _ _ _ _ _ _, ((Ext.refl w).alloc _).alloc _⟩
  case round =>
    obtain ⟨k, hk, rfl, a, c, B1, B0, HO, hx⟩ := hrel
    have hs1 : w.heap.size + 1 < wr.heap.size := B1.out.lt
    have hs0 : w.heap.size < wr.heap.size := B0.out.lt
    obtain ⟨c10, c11, c12, c13, f10, f11, f12, f13⟩ := B1.out.four
    by_cases hlt : k < m
    · have hlt' : (k : Int) < m := by omega
      have hb' : (Value.slice a k c).ownBlock ≠ some (w.heap.size + 1) := fun h => HO.out.notS _ h (.inr ⟨by omega, by omega⟩)
      have HBK := Lib.hid hb'; clear hb'
      have hbo : ∀ W, Ext wr W → ∀ g, Wo (Bx S w.heap.size (w.heap.size + 2)) (.slice a k c) g → g < W.heap.size := fun W hX g hg => by
        rcases hg with hg | hg
        · exact Nat.lt_of_lt_of_le (Bx.lt HS.out (Nat.le_of_lt hs0) (by omega) g hg) hX.size
        · exact Nat.lt_of_lt_of_le (HO.out.block g hg).2 hX.size
      have HBO := Lib.hid hbo; clear hbo
      have hl : Bss (Wo (Bx S w.heap.size (w.heap.size + 2)) (.slice a k c)) ((wr.alloc (.cells (zerosV 128) 5)).alloc (.cells #[.slice (some ⟨wr.heap.size, 0, none⟩) 128 128] 35)).drew (.slice (some ⟨wr.heap.size + 1, 0, none⟩) 1 1) [List.replicate 128 0] := by
        have := (bs_lit (t := 35) (HBO.out _ ((Ext.refl wr).alloc _)) (bs_made (HBO.out _ (Ext.refl wr)))).keep (Ext.drew' _)
        simpa using this
      have HL := Lib.hid hl; clear hl
      have hX : Ext wr ((wr.alloc (.cells (zerosV 128) 5)).alloc (.cells #[.slice (some ⟨wr.heap.size, 0, none⟩) 128 128] 35)).drew := (((Ext.refl wr).alloc _).alloc _).drew
      go_wp2_with fail
      go_region_law (first | (refine step_append_osl atBs etBs rfl _ _ rfl w.heap.size (.slice a k c) (.slice (some ⟨wr.heap.size + 1, 0, none⟩) 1 1) (List.replicate k (List.replicate 128 0)) [List.replicate 128 0] rfl rfl (HO.out.keep etBs hX) HL.out (fun k hk => HBO.out _ hX k (.inl hk)) (by simp; omega) (by simp; omega) (Nat.le_of_lt (Nat.lt_of_lt_of_le hs0 (Ext.size hX))) ?_; intro v1 w2 hv1 hg1; obtain ⟨a1, c1, rfl, _, _⟩ := (hv1.sl etBs).open; obtain ⟨g10, g11, g12, g13, g14, g15, g16, g17⟩ := ((B1.out.keep hX).grown hg1 HBK.out).four))
      all_goals
        have hgb : ∀ g, (Value.slice a k c).ownBlock = some g → w.heap.size ≤ g := fun g hg => (HO.out.block g hg).1
        have hne : (Value.slice a k c).ownBlock ≠ some w.heap.size := fun h => HO.out.notS _ h (.inr ⟨by omega, by omega⟩)
        have hsm := hg1.size
        have hs2 : w.heap.size + 1 < w2.heap.size := Nat.lt_of_lt_of_le (Nat.lt_of_lt_of_le hs1 hX.size) hsm
        clear hsm
        generalize hW : World.setCell _ _ _ = w3
        obtain ⟨hb3, ho3⟩ := box_set1 ((B1.out.keep hX).grown hg1 HBK.out) hW
        clear hW
        have hb03 := ho3.box ((B0.out.keep hX).grown hg1 hne) (by omega)
        have hE3 := ho3.ext ((hx.trans hX).grown hg1 hgb) (by omega)
        have hv3 := hv1.keepM etBs (ho3.mem (S := Bx S w.heap.size (w.heap.size + 2)) (.inr ⟨by omega, by omega⟩))
        rw [show (List.replicate k (List.replicate 128 (0 : UInt8)) ++ [List.replicate 128 0]) = List.replicate (k + 1) (List.replicate 128 0) from (List.replicate_succ' ..).symm, List.length_replicate] at hv3
        have HV3 := Lib.hid hv3; clear hv3
        have HB3 := Lib.hid hb3; clear hb3
        have HB03 := Lib.hid hb03; clear hb03
        clear g10 g11 g12 g13 g14 g15 g16 g17 c10 c11 c12 c13 f10 f11 f12 f13 hv1 hg1 hX HL HBO HBK hne hgb ho3
        go_wp2_with fail
        go_roundw
        case rel => exact ⟨k + 1, by omega, by simp, a1, c1, HB3, HB03, HV3, hE3⟩
        case measure => simp [intOf]; omega
    · obtain rfl : k = m := by omega
      obtain ⟨c00, c01, c02, c03, f00, f01, f02, f03⟩ := B0.out.four
      go_wp2_with fail
      generalize hW : World.setCell _ _ _ = w3
      obtain ⟨hb3, ho3⟩ := box_set4 B0.out hW
      clear hW c00 c01 c02 c03 f00 f01 f02 f03
      obtain ⟨c00, c01, c02, c03, f00, f01, f02, f03⟩ := hb3.four
      refine bodyPost_ret (v := .tuple #[.agg #[.slice a k c, .slice none 0 0, .int .i64 (-1), .bool false], .int .i64 0]) (by simp [results, Try.results20, go_sem, c00, c01, c02, c03]) rfl (DiskErr.mk (d := { sectors := List.replicate k (List.replicate 128 0), pending := [], left := -1, stopped := false }) ?_ (Disk.mk' (((HO.out.sl etBs).keepM etBs (ho3.mem (.inr (by simp)))).more etBs Bx.less) (Sl.nil _ _ _ _)) (ho3.ext hx (Nat.le_refl _)))
      unfold newD; rw [if_neg (by omega)]; simp
end Go.Proofs.Ytpciankfpagnhaa
