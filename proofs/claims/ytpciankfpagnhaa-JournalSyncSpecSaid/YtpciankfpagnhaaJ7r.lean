/- Region 5 of good: the sector is encoded anew and compared. -/
import Derived.Test.YtpciankfpagnhaaJ4
import Derived.Test.YtpciankfpagnhaaJ6
import Derived.Test.YtpciankfpagnhaaM8
import Derived.Test.YtpciankfpagnhaaD29a
namespace Go.Proofs.Ytpciankfpagnhaa
open Go.RowKit
noncomputable def reg83_5c : Code := ((Try.f83.body.bind (regionOf 5)).getD .skip)
theorem wraps_i64 (n : Int) (h₀ : -9223372036854775808 ≤ n) (h₁ : n < 9223372036854775808) : IntKind.i64.wrap n = n := by rw [IntKind.wrap_i64]; omega
set_option maxRecDepth 100000 in
set_option maxHeartbeats 4000000 in
theorem reg83_5 {Q : Exit → Act → World → Prop} {S : Nat → Prop} (t2 t3 t4 t7 t8 t9 t10 t11 t12 t13 t14 t15 t16 t17 t18 t19 t20 t21 t22 t23 t24 t25 t26 t27 t28 t29 t30 t31 t32 t33 t34 t35 t36 t37 t38 t39 t40 t41 t42 t43 t44 t45 t46 t47 t48 t49 t50 t51 t52 t53 t54 t55 t56 t57 t58 t59 : Value) (w1 : World) (b o n c k g y : Nat) (x : UInt8) (s p : List UInt8)
    (hs : Bs S w1 (.slice (some ⟨b, o, none⟩) n c) s) (hp : Bs S w1 (.slice (some ⟨b, o + 12, none⟩) y (c - 12)) p) (hcell : w1.cell? ⟨b, o + 10, none⟩ = some (.int .u8 (x.toNat : Int))) (hn : n = 128) (hc : n ≤ c) (hcm : c ≤ 9223372036854775807) (hy : y ≤ 112) (hpl : p.length ≤ 112) (hg0 : 0 < g) (hg : g < 4294967296) (hk : k < 9223372036854775808)
    (hQ : ∀ (u44 u45 u46 u47 u48 u49 u50 u51 u52 u53 u54 u55 u56 u57 u58 u59 : Value) (wx : World), Ext w1 wx → Q .normal ⟨#[.slice (some ⟨b, o, none⟩) n c, .int .i64 (k : Int), t2, t3, .bool (decide (s = sect g k x p)), .int .i64 (y : Int), .int .u64 (g : Int), t7, t8, t9, t10, t11, t12, t13, t14, t15, t16, t17, t18, t19, t20, t21, t22, t23, t24, t25, t26, t27, t28, t29, t30, t31, t32, t33, t34, t35, t36, t37, t38, t39, t40, t41, t42, t43, u44, u45, u46, u47, u48, u49, u50, u51, u52, u53, u54, u55, u56, u57, u58, u59], []⟩ wx) :
    Code.wp Try.prog reg83_5c Q ⟨#[.slice (some ⟨b, o, none⟩) n c, .int .i64 (k : Int), t2, t3, t4, .int .i64 (y : Int), .int .u64 (g : Int), t7, t8, t9, t10, t11, t12, t13, t14, t15, t16, t17, t18, t19, t20, t21, t22, t23, t24, t25, t26, t27, t28, t29, t30, t31, t32, t33, t34, t35, t36, t37, t38, t39, t40, t41, t42, t43, t44, t45, t46, t47, t48, t49, t50, t51, t52, t53, t54, t55, t56, t57, t58, t59], []⟩ w1 := by
  conv => arg 2; whnf
  have HQ := Lib.hid hQ; clear hQ
  have H := Lib.hid hs; clear hs
  have HP := Lib.hid hp; clear hp
  have HKK := Lib.hid hk; clear hk
  have hn1 : (128 : Int) ≤ n := by omega
  have hnc : (n : Int) ≤ c := by omega
  have hy1 : (y : Int) ≤ 112 := by omega
  have hg1 : (0 : Int) < g := by omega
  have hl12 : ¬ c = 12 := by omega
  have h10 : (10 : Int) < n := by omega
  have hwr : IntKind.i64.wrap (12 + (y : Int)) = 12 + (y : Int) := wraps_i64 _ (by omega) (by omega)
  have hyt : (12 + (y : Int)).toNat - 12 = y := by omega
  have hyc : (12 + (y : Int)) ≤ c := by omega
  have hy0 : (12 : Int) ≤ 12 + (y : Int) := by omega
  clear hn
  refine wp_region_rg 16 (fun _ => none) (by kernel_rfl) (by kernel_rfl) (phi [fun v _ => v = .int .u64 (g : Int),
      fun v _ => v = .bool true,
      fun v _ => v = .bool true,
      fun v _ => v = .slice (some ⟨b, o, none⟩) n c,
      fun v _ => v = .int .u64 (g : Int),
      fun v _ => v = .int .i64 (k : Int),
      fun v _ => v = .slice (some ⟨b, o, none⟩) n c,
      fun v _ => v = .pointer (some ⟨b, o + 10, none⟩),
      fun v _ => v = .int .u8 (x.toNat : Int),
      fun v _ => v = .slice (some ⟨b, o, none⟩) n c,
      fun v _ => v = .int .i64 (y : Int),
      fun v _ => v = .int .i64 (12 + (y : Int)),
      fun v _ => v = .slice (some ⟨b, o + 12, none⟩) y (c - 12),
      fun v w => Bs (fun _ => False) w v (sect g k x p),
      fun v _ => v = .bool (decide (s = sect g k x p)),
      fun v _ => v = .bool (decide (s = sect g k x p))]) (phi_stable ?stable) ?steps ?tail
  case stable =>
    exact List.forall_mem_cons.2 ⟨stab_eq _, List.forall_mem_cons.2 ⟨stab_eq _, List.forall_mem_cons.2 ⟨stab_eq _, List.forall_mem_cons.2 ⟨stab_eq _, List.forall_mem_cons.2 ⟨stab_eq _, List.forall_mem_cons.2 ⟨stab_eq _, List.forall_mem_cons.2 ⟨stab_eq _, List.forall_mem_cons.2 ⟨stab_eq _, List.forall_mem_cons.2 ⟨stab_eq _, List.forall_mem_cons.2 ⟨stab_eq _, List.forall_mem_cons.2 ⟨stab_eq _, List.forall_mem_cons.2 ⟨stab_eq _, List.forall_mem_cons.2 ⟨stab_eq _, List.forall_mem_cons.2 ⟨fun _ _ _ hx h => h.keep hx, List.forall_mem_cons.2 ⟨stab_eq _, List.forall_mem_cons.2 ⟨stab_eq _, fun _ h => by cases h⟩⟩⟩⟩⟩⟩⟩⟩⟩⟩⟩⟩⟩⟩⟩⟩
  case steps =>
    simp only [List.take_succ_cons, List.take_zero]
    -- 0: slot 44 := Op.move t6
    refine ⟨?_, ?_⟩
    · intro v w' hx hd
      simp only [List.take_succ_cons, List.take_zero, putF, Act.put, List.setIfInBounds_toArray, List.set_cons_zero, List.set_cons_succ, Nat.reduceAdd, Nat.zero_add]
      clear hd
      rw [if_pos (by rfl)]
      intro K hK
      have qc := hx.cell hcell
      have HK := Lib.hid hK; clear hK
      go_simp
      exact HK.out _ _ (.inl (Ext.refl _)) rfl
    -- 1: slot 45 := Op.binOp BinOp.gtr 95 t44 (const (0:u64)) 95
    refine ⟨?_, ?_⟩
    · intro v w' hx hd
      have e0 : v 0 = .int .u64 (g : Int) := hd 0 (by kernel_rfl)
      simp only [List.take_succ_cons, List.take_zero, putF, Act.put, List.setIfInBounds_toArray, List.set_cons_zero, List.set_cons_succ, Nat.reduceAdd, Nat.zero_add]
      simp only [e0]
      clear hd e0
      rw [if_pos (by rfl)]
      intro K hK
      have qc := hx.cell hcell
      have HK := Lib.hid hK; clear hK
      go_simp
      exact HK.out _ _ (.inl (Ext.refl _)) rfl
    -- 2: slot 46 := Op.move t45
    refine ⟨?_, ?_⟩
    · intro v w' hx hd
      have e1 : v 1 = .bool true := hd 1 (by kernel_rfl)
      simp only [List.take_succ_cons, List.take_zero, putF, Act.put, List.setIfInBounds_toArray, List.set_cons_zero, List.set_cons_succ, Nat.reduceAdd, Nat.zero_add]
      simp only [e1]
      clear hd e1
      rw [if_pos (by rfl)]
      intro K hK
      have qc := hx.cell hcell
      have HK := Lib.hid hK; clear hK
      go_simp
      exact HK.out _ _ (.inl (Ext.refl _)) rfl
    -- 3: slot 47 := Op.move t0   [guarded: some (2, true)]
    refine ⟨?_, ?_⟩
    · intro v w' hx hd
      have e2 : v 2 = .bool true := hd 2 (by kernel_rfl)
      simp only [List.take_succ_cons, List.take_zero, putF, Act.put, List.setIfInBounds_toArray, List.set_cons_zero, List.set_cons_succ, Nat.reduceAdd, Nat.zero_add]
      simp only [e2]
      clear hd e2
      rw [if_pos (by rfl)]
      intro K hK
      have qc := hx.cell hcell
      have HK := Lib.hid hK; clear hK
      go_simp
      exact HK.out _ _ (.inl (Ext.refl _)) rfl
    -- 4: slot 48 := Op.move t6   [guarded: some (2, true)]
    refine ⟨?_, ?_⟩
    · intro v w' hx hd
      have e2 : v 2 = .bool true := hd 2 (by kernel_rfl)
      simp only [List.take_succ_cons, List.take_zero, putF, Act.put, List.setIfInBounds_toArray, List.set_cons_zero, List.set_cons_succ, Nat.reduceAdd, Nat.zero_add]
      simp only [e2]
      clear hd e2
      rw [if_pos (by rfl)]
      intro K hK
      have qc := hx.cell hcell
      have HK := Lib.hid hK; clear hK
      go_simp
      exact HK.out _ _ (.inl (Ext.refl _)) rfl
    -- 5: slot 49 := Op.move t1   [guarded: some (2, true)]
    refine ⟨?_, ?_⟩
    · intro v w' hx hd
      have e2 : v 2 = .bool true := hd 2 (by kernel_rfl)
      simp only [List.take_succ_cons, List.take_zero, putF, Act.put, List.setIfInBounds_toArray, List.set_cons_zero, List.set_cons_succ, Nat.reduceAdd, Nat.zero_add]
      simp only [e2]
      clear hd e2
      rw [if_pos (by rfl)]
      intro K hK
      have qc := hx.cell hcell
      have HK := Lib.hid hK; clear hK
      go_simp
      exact HK.out _ _ (.inl (Ext.refl _)) rfl
    -- 6: slot 50 := Op.move t0   [guarded: some (2, true)]
    refine ⟨?_, ?_⟩
    · intro v w' hx hd
      have e2 : v 2 = .bool true := hd 2 (by kernel_rfl)
      simp only [List.take_succ_cons, List.take_zero, putF, Act.put, List.setIfInBounds_toArray, List.set_cons_zero, List.set_cons_succ, Nat.reduceAdd, Nat.zero_add]
      simp only [e2]
      clear hd e2
      rw [if_pos (by rfl)]
      intro K hK
      have qc := hx.cell hcell
      have HK := Lib.hid hK; clear hK
      go_simp
      exact HK.out _ _ (.inl (Ext.refl _)) rfl
    -- 7: slot 51 := Op.indexAddr 35 t50 (const (10:i64))   [guarded: some (2, true)]
    refine ⟨?_, ?_⟩
    · intro v w' hx hd
      have e6 : v 6 = .slice (some ⟨b, o, none⟩) n c := hd 6 (by kernel_rfl)
      have e2 : v 2 = .bool true := hd 2 (by kernel_rfl)
      simp only [List.take_succ_cons, List.take_zero, putF, Act.put, List.setIfInBounds_toArray, List.set_cons_zero, List.set_cons_succ, Nat.reduceAdd, Nat.zero_add]
      simp only [e6]
      simp only [e2]
      clear hd e6 e2
      rw [if_pos (by rfl)]
      intro K hK
      have qc := hx.cell hcell
      have HK := Lib.hid hK; clear hK
      go_simp
      exact HK.out _ _ (.inl (Ext.refl _)) rfl
    -- 8: slot 52 := Op.load 5 t51   [guarded: some (2, true)]
    refine ⟨?_, ?_⟩
    · intro v w' hx hd
      have e7 : v 7 = .pointer (some ⟨b, o + 10, none⟩) := hd 7 (by kernel_rfl)
      have e2 : v 2 = .bool true := hd 2 (by kernel_rfl)
      simp only [List.take_succ_cons, List.take_zero, putF, Act.put, List.setIfInBounds_toArray, List.set_cons_zero, List.set_cons_succ, Nat.reduceAdd, Nat.zero_add]
      simp only [e7]
      simp only [e2]
      clear hd e7 e2
      rw [if_pos (by rfl)]
      intro K hK
      have qc := hx.cell hcell
      have HK := Lib.hid hK; clear hK
      go_simp
      exact HK.out _ _ (.inl (Ext.refl _)) rfl
    -- 9: slot 53 := Op.move t0   [guarded: some (2, true)]
    refine ⟨?_, ?_⟩
    · intro v w' hx hd
      have e2 : v 2 = .bool true := hd 2 (by kernel_rfl)
      simp only [List.take_succ_cons, List.take_zero, putF, Act.put, List.setIfInBounds_toArray, List.set_cons_zero, List.set_cons_succ, Nat.reduceAdd, Nat.zero_add]
      simp only [e2]
      clear hd e2
      rw [if_pos (by rfl)]
      intro K hK
      have qc := hx.cell hcell
      have HK := Lib.hid hK; clear hK
      go_simp
      exact HK.out _ _ (.inl (Ext.refl _)) rfl
    -- 10: slot 54 := Op.move t5   [guarded: some (2, true)]
    refine ⟨?_, ?_⟩
    · intro v w' hx hd
      have e2 : v 2 = .bool true := hd 2 (by kernel_rfl)
      simp only [List.take_succ_cons, List.take_zero, putF, Act.put, List.setIfInBounds_toArray, List.set_cons_zero, List.set_cons_succ, Nat.reduceAdd, Nat.zero_add]
      simp only [e2]
      clear hd e2
      rw [if_pos (by rfl)]
      intro K hK
      have qc := hx.cell hcell
      have HK := Lib.hid hK; clear hK
      go_simp
      exact HK.out _ _ (.inl (Ext.refl _)) rfl
    -- 11: slot 55 := Op.binOp BinOp.add 3 (const (12:i64)) t54 3   [guarded: some (2, true)]
    refine ⟨?_, ?_⟩
    · intro v w' hx hd
      have e10 : v 10 = .int .i64 (y : Int) := hd 10 (by kernel_rfl)
      have e2 : v 2 = .bool true := hd 2 (by kernel_rfl)
      simp only [List.take_succ_cons, List.take_zero, putF, Act.put, List.setIfInBounds_toArray, List.set_cons_zero, List.set_cons_succ, Nat.reduceAdd, Nat.zero_add]
      simp only [e10]
      simp only [e2]
      clear hd e10 e2
      rw [if_pos (by rfl)]
      intro K hK
      have qc := hx.cell hcell
      have HK := Lib.hid hK; clear hK
      go_simp
      exact HK.out _ _ (.inl (Ext.refl _)) rfl
    -- 12: slot 56 := Op.slice 35 t53 (some (const (12:i64))) (some t55) none   [guarded: some (2, true)]
    refine ⟨?_, ?_⟩
    · intro v w' hx hd
      have e9 : v 9 = .slice (some ⟨b, o, none⟩) n c := hd 9 (by kernel_rfl)
      have e11 : v 11 = .int .i64 (12 + (y : Int)) := hd 11 (by kernel_rfl)
      have e2 : v 2 = .bool true := hd 2 (by kernel_rfl)
      simp only [List.take_succ_cons, List.take_zero, putF, Act.put, List.setIfInBounds_toArray, List.set_cons_zero, List.set_cons_succ, Nat.reduceAdd, Nat.zero_add]
      simp only [e9]
      simp only [e11]
      simp only [e2]
      clear hd e9 e11 e2
      rw [if_pos (by rfl)]
      intro K hK
      have qc := hx.cell hcell
      have HK := Lib.hid hK; clear hK
      go_simp
      exact HK.out _ _ (.inl (Ext.refl _)) rfl
    -- 13: slot 57 := Op.call { value (Operand.func 74), args := #[t48, t49, t52, t56], argTypes := #[95, 3, 5, 
    refine ⟨?_, ?_⟩
    · intro v w' hx hd
      have e4 : v 4 = .int .u64 (g : Int) := hd 4 (by kernel_rfl)
      have e5 : v 5 = .int .i64 (k : Int) := hd 5 (by kernel_rfl)
      have e8 : v 8 = .int .u8 (x.toNat : Int) := hd 8 (by kernel_rfl)
      have e12 : v 12 = .slice (some ⟨b, o + 12, none⟩) y (c - 12) := hd 12 (by kernel_rfl)
      have e2 : v 2 = .bool true := hd 2 (by kernel_rfl)
      simp only [List.take_succ_cons, List.take_zero, putF, Act.put, List.setIfInBounds_toArray, List.set_cons_zero, List.set_cons_succ, Nat.reduceAdd, Nat.zero_add]
      simp only [e4]
      simp only [e5]
      simp only [e8]
      simp only [e12]
      simp only [e2]
      clear hd e4 e5 e8 e12 e2
      rw [if_pos (by rfl)]
      intro K hK
      have qc := hx.cell hcell
      have HK := Lib.hid hK; clear hK
      go_simp
      refine (encode_ok (S := fun _ => False) w' g k x _ p (by omega) HKK.out (HP.out.keep hx) hpl (fun _ h => h.elim)).mono ?_
      rintro e w2 ⟨v2, rfl, hd2, hx2⟩
      exact HK.out _ _ (.inl hx2) hd2
    -- 14: slot 58 := Op.call { value (Operand.func 73), args := #[t47, t57], argTypes := #[35, 35] }   [guarded
    refine ⟨?_, ?_⟩
    · intro v w' hx hd
      have e3 : v 3 = .slice (some ⟨b, o, none⟩) n c := hd 3 (by kernel_rfl)
      have e13 : (fun v w => Bs (fun _ => False) w v (sect g k x p)) (v 13) w' := hd 13 (by kernel_rfl)
      have e2 : v 2 = .bool true := hd 2 (by kernel_rfl)
      simp only [List.take_succ_cons, List.take_zero, putF, Act.put, List.setIfInBounds_toArray, List.set_cons_zero, List.set_cons_succ, Nat.reduceAdd, Nat.zero_add]
      simp only [e3]
      simp only [e2]
      clear hd e3 e2
      rw [if_pos (by rfl)]
      intro K hK
      have qc := hx.cell hcell
      obtain ⟨a9, c9, ev, _, _⟩ := e13.open
      rw [ev] at e13
      have E13 := Lib.hid e13; clear e13
      have EV := Lib.hid ev
      simp only [ev] at hK ⊢
      clear ev
      have HK := Lib.hid hK; clear hK
      go_simp
      refine (bytesEqual_ok w' _ _ s (sect g k x p) (H.out.keep hx) E13.out).mono ?_
      rintro e w2 ⟨rfl, hx2⟩
      exact HK.out _ _ (.inl hx2) rfl
    -- 15: slot 59 := Op.pick t46 t58 (const (Value.bool false))
    refine ⟨?_, ?_⟩
    · intro v w' hx hd
      have e2 : v 2 = .bool true := hd 2 (by kernel_rfl)
      have e14 : v 14 = .bool (decide (s = sect g k x p)) := hd 14 (by kernel_rfl)
      simp only [List.take_succ_cons, List.take_zero, putF, Act.put, List.setIfInBounds_toArray, List.set_cons_zero, List.set_cons_succ, Nat.reduceAdd, Nat.zero_add]
      simp only [e2]
      simp only [e14]
      clear hd e2 e14
      rw [if_pos (by rfl)]
      intro K hK
      have qc := hx.cell hcell
      have HK := Lib.hid hK; clear hK
      go_simp
      exact HK.out _ _ (.inl (Ext.refl _)) rfl
    exact trivial
  case tail =>
    intro v w' hx hall
    simp only [List.drop_succ_cons, List.drop_zero, List.take_succ_cons, List.take_zero, putF, Act.put, List.setIfInBounds_toArray, List.set_cons_zero, List.set_cons_succ, Nat.reduceAdd, Nat.zero_add]
    have e15 : v 15 = .bool (decide (s = sect g k x p)) := hall 15 (by decide) (fun k hk => by simp at hk)
    simp only [e15]
    have HX := Lib.hid hx; clear hx
    clear hall e15
    go_wp2_with fail
    exact HQ.out _ _ _ _ _ _ _ _ _ _ _ _ _ _ _ _ w' HX.out
end Go.Proofs.Ytpciankfpagnhaa

/- When is a sector good: the code's function. -/
namespace Go.Proofs.Ytpciankfpagnhaa
open Go.RowKit

theorem Bs.sub {S : Nat → Prop} {w : World} {b o n c : Nat} {l : List UInt8} (h : Bs S w (.slice (some ⟨b, o, none⟩) n c) l) (lo k m : Nat) (hk : lo + k ≤ l.length) (hm : k ≤ m) (hm2 : m ≤ maxLen) :
    Bs S w (.slice (some ⟨b, o + lo, none⟩) k m) ((l.drop lo).take k) := by
  have hl : ((l.drop lo).take k).length = k := by simp; omega
  by_cases h0 : k = 0
  · subst h0
    simp only [List.take_zero]
    exact Sl.empty _ _ _ _ _ _ hm2
  · obtain ⟨b', o', e, hb, hc⟩ := h.cells (by omega)
    cases e
    have := Bs.mk (S := S) (w := w) (b := b) (o := o + lo) (c := m) (l := (l.drop lo).take k) hb (by omega) hm2 (fun j u hj => by
      obtain ⟨x, hx, rfl⟩ := bv_get hj
      rw [List.getElem?_take] at hx
      split at hx
      · rw [List.getElem?_drop] at hx
        have := hc (lo + j) _ (show (bv l)[lo + j]? = some (.int .u8 (x.toNat : Int)) by unfold bv; rw [List.getElem?_map, hx]; rfl)
        rwa [← Nat.add_assoc] at this
      · cases hx)
    rwa [hl] at this

/-- Is a sector good for a number, as the code asks it? -/
def goodC (s : List UInt8) (k : Nat) : Bool :=
  decide ((s.getD 11 0).toNat ≤ 112) && decide ((s.getD 10 0).toNat ≤ 3) && !(decide ((s.getD 10 0).toNat < 2) && decide ((s.getD 11 0).toNat < 112)) && !(decide ((s.getD 10 0).toNat % 2 = 0) && decide ((s.getD 11 0).toNat = 0)) &&
    decide (0 < num (s.take 4)) && decide (s = sect (num (s.take 4)) k (s.getD 10 0) ((s.drop 12).take (s.getD 11 0).toNat))

theorem goodC_def (s : List UInt8) (k : Nat) : goodC s k =
  (decide ((s.getD 11 0).toNat ≤ 112) && decide ((s.getD 10 0).toNat ≤ 3) && !(decide ((s.getD 10 0).toNat < 2) && decide ((s.getD 11 0).toNat < 112)) && !(decide ((s.getD 10 0).toNat % 2 = 0) && decide ((s.getD 11 0).toNat = 0)) &&
    decide (0 < num (s.take 4)) && decide (s = sect (num (s.take 4)) k (s.getD 10 0) ((s.drop 12).take (s.getD 11 0).toNat))) := rfl

theorem byte4 (x : UInt8) (h : x.toNat ≤ 3) : x = 0 ∨ x = 1 ∨ x = 2 ∨ x = 3 := by
  have : x.toNat = 0 ∨ x.toNat = 1 ∨ x.toNat = 2 ∨ x.toNat = 3 := by omega
  rcases this with h | h | h | h
  · exact .inl (UInt8.toNat_inj.1 h)
  · exact .inr (.inl (UInt8.toNat_inj.1 h))
  · exact .inr (.inr (.inl (UInt8.toNat_inj.1 h)))
  · exact .inr (.inr (.inr (UInt8.toNat_inj.1 h)))
set_option maxRecDepth 100000 in
set_option maxHeartbeats 4000000 in
theorem good_ok {S : Nat → Prop} (w : World) (v : Value) (s : List UInt8) (k : Nat) (h : Bs S w v s) (hl1 : 128 ≤ s.length) (hl2 : s.length ≤ 128) (hk : k < 9223372036854775808) :
    Calls Try.prog 83 #[v, .int .i64 (k : Int)] w fun e w' => e = .returned (.bool (goodC s k)) ∧ Ext w w' := by
  obtain ⟨a, c, rfl, hc, hm⟩ := h.open
  obtain ⟨b, o, rfl, hb, c10⟩ := h.elem (k := 10) (by omega)
  obtain ⟨b', o', e, -, c11⟩ := h.elem (k := 11) (by omega)
  cases e
  have hg10 : s.getD 10 0 = s[10]'(by omega) := by rw [List.getD_eq_getElem?_getD, List.getElem?_eq_getElem]; rfl
  have hg11 : s.getD 11 0 = s[11]'(by omega) := by rw [List.getD_eq_getElem?_getD, List.getElem?_eq_getElem]; rfl
  have hgc := goodC_def s k
  rw [hg10, hg11] at hgc
  have HGC := Lib.hid hgc
  clear hg10 hg11 hgc
  have H := Lib.hid h; clear h
  have hx10 := s[10].toNat_lt
  have hx11 := s[11].toNat_lt
  have hp := H.out.sub 12 s[11].toNat (c - 12)
  have HP := Lib.hid hp; clear hp
  have hgt := H.out.sub 0 4 c (by omega) (by omega) hm
  rw [List.drop_zero, Nat.add_zero] at hgt
  have HGT := Lib.hid hgt; clear hgt
  generalize s[10] = x at *
  generalize s[11] = y at *
  have hlg := num_lt (s.take 4)
  rw [List.length_take, Nat.min_eq_left (by omega)] at hlg
  have HL := Lib.hid hlg; clear hlg
  have hl1' : (128 : Int) ≤ s.length := by omega
  clear hl1
  go_enter Try.func83, Try.ntmps83
  go_upto_region 2 with fail
  by_cases q1 : 112 < y.toNat
  · have q1' : (112 : Int) < y.toNat := by omega
    have Q := Lib.hid q1; clear q1
    first | go_quiet (fail) | skip
    go_wp2_with fail
    go_ret
    exact ⟨ret_b (by rw [HGC.out]; simp; intro h; exact absurd h (by have := Q.out; omega)), by first | exact Ext.refl _ | exact Ext.drewN _ _⟩
  have q1' : (y.toNat : Int) ≤ 112 := by omega
  by_cases q2 : 3 < x.toNat
  · have q2' : (3 : Int) < x.toNat := by omega
    have Q := Lib.hid q2; clear q2
    first | go_quiet (fail) | skip
    go_wp2_with fail
    go_ret
    exact ⟨ret_b (by rw [HGC.out]; simp; intro _ h; exact absurd h (by have := Q.out; omega)), by first | exact Ext.refl _ | exact Ext.drewN _ _⟩
  have hx4 : x = 0 ∨ x = 1 ∨ x = 2 ∨ x = 3 := byte4 x (by omega)
  have b02 : bits .and .u8 0 2 = 0 := by decide
  have b12 : bits .and .u8 1 2 = 0 := by decide
  have b22 : bits .and .u8 2 2 = 2 := by decide
  have b32 : bits .and .u8 3 2 = 2 := by decide
  have b01 : bits .and .u8 0 1 = 0 := by decide
  have b11 : bits .and .u8 1 1 = 1 := by decide
  have b21 : bits .and .u8 2 1 = 0 := by decide
  have b31 : bits .and .u8 3 1 = 1 := by decide
  clear q2 hx10
  rcases hx4 with rfl | rfl | rfl | rfl
  · have hxv : ((0 : UInt8).toNat : Int) = 0 := rfl
    rw [hxv] at c10
    by_cases q3 : y.toNat < 112
    · have q3' : (y.toNat : Int) < 112 := by omega
      have Q := Lib.hid q3; clear q3
      first | go_quiet (fail) | skip
      go_wp2_with fail
      go_ret
      exact ⟨ret_b (by rw [HGC.out]; simp [Q.out]), by first | exact Ext.refl _ | exact Ext.drewN _ _⟩
    have q3' : (112 : Int) ≤ y.toNat := by omega
    have q4' : ((y.toNat : Int) == 0) = false := by simp; omega
    have hgc : goodC s k = (decide (0 < num (s.take 4)) && decide (s = sect (num (s.take 4)) k 0 ((s.drop 12).take y.toNat))) := by
      rw [HGC.out, decide_eq_false (show ¬ y.toNat < 112 by omega), decide_eq_false (show ¬ y.toNat = 0 by omega), decide_eq_true (show y.toNat ≤ 112 by omega)]; rfl
    have HGD := Lib.hid hgc; clear hgc HGC
    go_upto_region 4 with fail
    go_wp2_with fail
    refine (get_ok w _ (s.take 4) HGT.out (by rw [List.length_take]; omega)).mono ?_
    rintro _ w' ⟨rfl, rfl⟩
    generalize num (s.take 4) = g at *
    have hg32 : g < 4294967296 := HL.out
    by_cases q5 : g = 0
    · subst q5
      go_wp2_with fail
      first | go_quiet (fail) | skip
      go_wp2_with fail
      go_ret
      exact ⟨ret_b (by rw [HGD.out]; rfl), by first | exact Ext.refl _ | exact Ext.drewN _ _⟩
    have q5' : decide ((0 : Int) < g) = true := by simp; omega
    have HG0 := Lib.hid (show 0 < g by omega)
    have q6 : decide (0 < g) = true := by simp; omega
    have HGE := Lib.hid (show goodC s k = decide (s = sect g k 0 ((s.drop 12).take y.toNat)) by rw [HGD.out, q6]; rfl)
    have hpl : ((s.drop 12).take y.toNat).length ≤ 112 := by rw [List.length_take]; omega
    have HP2 := Lib.hid (HP.out (by omega) (by omega) (by unfold maxLen; omega)); clear HP HGD q5
    generalize (s.drop 12).take y.toNat = p at *
    go_upto_region 5 with fail
    refine reg83_5 (S := S) _ _ _ _ _ _ _ _ _ _ _ _ _ _ _ _ _ _ _ _ _ _ _ _ _ _ _ _ _ _ _ _ _ _ _ _ _ _ _ _ _ _ _ _ _ _ _ _ _ _ _ _ _ _ _ _ w b o s.length c k g y.toNat 0 s p H.out HP2.out c10 (by omega) hc hm (by omega) hpl HG0.out hg32 hk ?_
    intro u0 u1 u2 u3 u4 u5 u6 u7 u8 u9 u10 u11 u12 u13 u14 u15 wx hxx
    dsimp only
    go_wp2_with fail
    go_ret
    exact ⟨ret_b HGE.out.symm, hxx⟩
  · have hxv : ((1 : UInt8).toNat : Int) = 1 := rfl
    rw [hxv] at c10
    by_cases q3 : y.toNat < 112
    · have q3' : (y.toNat : Int) < 112 := by omega
      have Q := Lib.hid q3; clear q3
      first | go_quiet (fail) | skip
      go_wp2_with fail
      go_ret
      exact ⟨ret_b (by rw [HGC.out]; simp [Q.out]), by first | exact Ext.refl _ | exact Ext.drewN _ _⟩
    have q3' : (112 : Int) ≤ y.toNat := by omega
    have q4' : ((y.toNat : Int) == 0) = false := by simp; omega
    have hgc : goodC s k = (decide (0 < num (s.take 4)) && decide (s = sect (num (s.take 4)) k 1 ((s.drop 12).take y.toNat))) := by
      rw [HGC.out, decide_eq_false (show ¬ y.toNat < 112 by omega), decide_eq_true (show y.toNat ≤ 112 by omega)]; rfl
    have HGD := Lib.hid hgc; clear hgc HGC
    go_upto_region 4 with fail
    go_wp2_with fail
    refine (get_ok w _ (s.take 4) HGT.out (by rw [List.length_take]; omega)).mono ?_
    rintro _ w' ⟨rfl, rfl⟩
    generalize num (s.take 4) = g at *
    have hg32 : g < 4294967296 := HL.out
    by_cases q5 : g = 0
    · subst q5
      go_wp2_with fail
      first | go_quiet (fail) | skip
      go_wp2_with fail
      go_ret
      exact ⟨ret_b (by rw [HGD.out]; rfl), by first | exact Ext.refl _ | exact Ext.drewN _ _⟩
    have q5' : decide ((0 : Int) < g) = true := by simp; omega
    have HG0 := Lib.hid (show 0 < g by omega)
    have q6 : decide (0 < g) = true := by simp; omega
    have HGE := Lib.hid (show goodC s k = decide (s = sect g k 1 ((s.drop 12).take y.toNat)) by rw [HGD.out, q6]; rfl)
    have hpl : ((s.drop 12).take y.toNat).length ≤ 112 := by rw [List.length_take]; omega
    have HP2 := Lib.hid (HP.out (by omega) (by omega) (by unfold maxLen; omega)); clear HP HGD q5
    generalize (s.drop 12).take y.toNat = p at *
    go_upto_region 5 with fail
    refine reg83_5 (S := S) _ _ _ _ _ _ _ _ _ _ _ _ _ _ _ _ _ _ _ _ _ _ _ _ _ _ _ _ _ _ _ _ _ _ _ _ _ _ _ _ _ _ _ _ _ _ _ _ _ _ _ _ _ _ _ _ w b o s.length c k g y.toNat 1 s p H.out HP2.out c10 (by omega) hc hm (by omega) hpl HG0.out hg32 hk ?_
    intro u0 u1 u2 u3 u4 u5 u6 u7 u8 u9 u10 u11 u12 u13 u14 u15 wx hxx
    dsimp only
    go_wp2_with fail
    go_ret
    exact ⟨ret_b HGE.out.symm, hxx⟩
  · have hxv : ((2 : UInt8).toNat : Int) = 2 := rfl
    rw [hxv] at c10
    by_cases q3 : y.toNat = 0
    · have q3' : ((y.toNat : Int) == 0) = true := by simp [q3]
      have Q := Lib.hid q3; clear q3
      first | go_quiet (fail) | skip
      go_wp2_with fail
      go_ret
      exact ⟨ret_b (by rw [HGC.out]; simp [Q.out]), by first | exact Ext.refl _ | exact Ext.drewN _ _⟩
    have q4' : ((y.toNat : Int) == 0) = false := by simp; omega
    have hgc : goodC s k = (decide (0 < num (s.take 4)) && decide (s = sect (num (s.take 4)) k 2 ((s.drop 12).take y.toNat))) := by
      rw [HGC.out, decide_eq_false (show ¬ y.toNat = 0 by omega), decide_eq_true (show y.toNat ≤ 112 by omega)]; rfl
    have HGD := Lib.hid hgc; clear hgc HGC
    go_upto_region 4 with fail
    go_wp2_with fail
    refine (get_ok w _ (s.take 4) HGT.out (by rw [List.length_take]; omega)).mono ?_
    rintro _ w' ⟨rfl, rfl⟩
    generalize num (s.take 4) = g at *
    have hg32 : g < 4294967296 := HL.out
    by_cases q5 : g = 0
    · subst q5
      go_wp2_with fail
      first | go_quiet (fail) | skip
      go_wp2_with fail
      go_ret
      exact ⟨ret_b (by rw [HGD.out]; rfl), by first | exact Ext.refl _ | exact Ext.drewN _ _⟩
    have q5' : decide ((0 : Int) < g) = true := by simp; omega
    have HG0 := Lib.hid (show 0 < g by omega)
    have q6 : decide (0 < g) = true := by simp; omega
    have HGE := Lib.hid (show goodC s k = decide (s = sect g k 2 ((s.drop 12).take y.toNat)) by rw [HGD.out, q6]; rfl)
    have hpl : ((s.drop 12).take y.toNat).length ≤ 112 := by rw [List.length_take]; omega
    have HP2 := Lib.hid (HP.out (by omega) (by omega) (by unfold maxLen; omega)); clear HP HGD q5
    generalize (s.drop 12).take y.toNat = p at *
    go_upto_region 5 with fail
    refine reg83_5 (S := S) _ _ _ _ _ _ _ _ _ _ _ _ _ _ _ _ _ _ _ _ _ _ _ _ _ _ _ _ _ _ _ _ _ _ _ _ _ _ _ _ _ _ _ _ _ _ _ _ _ _ _ _ _ _ _ _ w b o s.length c k g y.toNat 2 s p H.out HP2.out c10 (by omega) hc hm (by omega) hpl HG0.out hg32 hk ?_
    intro u0 u1 u2 u3 u4 u5 u6 u7 u8 u9 u10 u11 u12 u13 u14 u15 wx hxx
    dsimp only
    go_wp2_with fail
    go_ret
    exact ⟨ret_b HGE.out.symm, hxx⟩
  · have hxv : ((3 : UInt8).toNat : Int) = 3 := rfl
    rw [hxv] at c10
    have hgc : goodC s k = (decide (0 < num (s.take 4)) && decide (s = sect (num (s.take 4)) k 3 ((s.drop 12).take y.toNat))) := by
      rw [HGC.out, decide_eq_true (show y.toNat ≤ 112 by omega)]; rfl
    have HGD := Lib.hid hgc; clear hgc HGC
    go_upto_region 4 with fail
    go_wp2_with fail
    refine (get_ok w _ (s.take 4) HGT.out (by rw [List.length_take]; omega)).mono ?_
    rintro _ w' ⟨rfl, rfl⟩
    generalize num (s.take 4) = g at *
    have hg32 : g < 4294967296 := HL.out
    by_cases q5 : g = 0
    · subst q5
      go_wp2_with fail
      first | go_quiet (fail) | skip
      go_wp2_with fail
      go_ret
      exact ⟨ret_b (by rw [HGD.out]; rfl), by first | exact Ext.refl _ | exact Ext.drewN _ _⟩
    have q5' : decide ((0 : Int) < g) = true := by simp; omega
    have HG0 := Lib.hid (show 0 < g by omega)
    have q6 : decide (0 < g) = true := by simp; omega
    have HGE := Lib.hid (show goodC s k = decide (s = sect g k 3 ((s.drop 12).take y.toNat)) by rw [HGD.out, q6]; rfl)
    have hpl : ((s.drop 12).take y.toNat).length ≤ 112 := by rw [List.length_take]; omega
    have HP2 := Lib.hid (HP.out (by omega) (by omega) (by unfold maxLen; omega)); clear HP HGD q5
    generalize (s.drop 12).take y.toNat = p at *
    go_upto_region 5 with fail
    refine reg83_5 (S := S) _ _ _ _ _ _ _ _ _ _ _ _ _ _ _ _ _ _ _ _ _ _ _ _ _ _ _ _ _ _ _ _ _ _ _ _ _ _ _ _ _ _ _ _ _ _ _ _ _ _ _ _ _ _ _ _ w b o s.length c k g y.toNat 3 s p H.out HP2.out c10 (by omega) hc hm (by omega) hpl HG0.out hg32 hk ?_
    intro u0 u1 u2 u3 u4 u5 u6 u7 u8 u9 u10 u11 u12 u13 u14 u15 wx hxx
    dsimp only
    go_wp2_with fail
    go_ret
    exact ⟨ret_b HGE.out.symm, hxx⟩
end Go.Proofs.Ytpciankfpagnhaa
