/- Region 6 of records$1: does a sector go on with the record? -/
import Derived.Test.YtpciankfpagnhaaJ8
import Derived.Test.YtpciankfpagnhaaM8
namespace Go.Proofs.Ytpciankfpagnhaa
open Go.RowKit
theorem and1_u8 (x : UInt8) : bits .and .u8 (x.toNat : Int) 1 = ((x.toNat % 2 : Nat) : Int) := by
  have hx := x.toNat_lt
  have := bits_mask .u8 8 (by decide) wraps_u8 1 (by decide) (x.toNat : Int) (by omega) (by omega)
  rw [show (2 : Int) ^ 1 - 1 = 1 by decide, show (2 : Int) ^ 1 = 2 by decide] at this
  rw [this]; omega
noncomputable def code82_6 : Code := ((Try.f82.body.bind (regionOf 6)).getD .skip)
set_option maxRecDepth 100000 in
set_option maxHeartbeats 4000000 in
theorem reg82_6a {Q : Exit → Act → World → Prop} {S : Nat → Prop} (t0 t2 t5 t8 t9 t10 t11 t12 t13 t14 t15 t16 t17 t18 t19 t20 t21 t22 t23 t24 t25 t26 t27 t28 t29 t30 t31 t32 t33 t34 t35 t36 t37 t38 t39 t40 t41 t42 t43 t44 t45 t46 t47 t48 t49 t50 t51 t52 t53 t54 t55 t56 t57 t58 t59 t60 t61 t62 t63 t64 t65 t66 t67 t68 t69 t70 t71 t72 t73 t74 t75 t76 : Value) (w1 : World) (gB m at_ last b o ns cs : Nat) (s : List UInt8)
    (hs : Bs S w1 (.slice (some ⟨b, o, none⟩) ns cs) s) (hm : m < 9223372036854775808) (hsl : s.length = 128) (hgc : goodC s m = false)
    
    (hQ : ∀ (u19 u20 u21 u22 u23 u24 u25 u26 u27 u28 u29 u30 u31 u32 u33 u34 u35 u36 u37 u38 u39 u40 u41 u42 u43 u44 u45 u46 u47 u48 u49 u50 u51 : Value) (wx : World), Ext w1 wx → Q .normal ⟨#[t0, .pointer (some ⟨gB, 0, none⟩), t2, .int .i64 (at_ : Int), .int .u64 (last : Int), t5, .int .i64 (m : Int), .slice (some ⟨b, o, none⟩) ns cs, t8, t9, t10, t11, t12, t13, t14, t15, t16, t17, t18, u19, u20, u21, u22, u23, u24, u25, u26, u27, u28, u29, u30, u31, u32, u33, u34, u35, u36, u37, u38, u39, u40, u41, u42, u43, u44, u45, u46, u47, u48, u49, u50, u51, .bool true, t53, t54, t55, t56, t57, t58, t59, t60, t61, t62, t63, t64, t65, t66, t67, t68, t69, t70, t71, t72, t73, t74, t75, t76], []⟩ wx) :
    Code.wp Try.prog code82_6 Q ⟨#[t0, .pointer (some ⟨gB, 0, none⟩), t2, .int .i64 (at_ : Int), .int .u64 (last : Int), t5, .int .i64 (m : Int), .slice (some ⟨b, o, none⟩) ns cs, t8, t9, t10, t11, t12, t13, t14, t15, t16, t17, t18, t19, t20, t21, t22, t23, t24, t25, t26, t27, t28, t29, t30, t31, t32, t33, t34, t35, t36, t37, t38, t39, t40, t41, t42, t43, t44, t45, t46, t47, t48, t49, t50, t51, t52, t53, t54, t55, t56, t57, t58, t59, t60, t61, t62, t63, t64, t65, t66, t67, t68, t69, t70, t71, t72, t73, t74, t75, t76], []⟩ w1 := by
  conv => arg 2; whnf
  have HQ := Lib.hid hQ; clear hQ
  have H := Lib.hid hs; clear hs
  have HGC := Lib.hid hgc; clear hgc
  have hl1 : 128 ≤ s.length := by omega
  have hl2 : s.length ≤ 128 := by omega
  clear hsl
  refine wp_region_rg 34 (fun _ => none) (by kernel_rfl) (by kernel_rfl) (phi [fun v _ => v = .slice (some ⟨b, o, none⟩) ns cs,
      fun v _ => v = .int .i64 (m : Int),
      fun v _ => v = .bool false,
      fun v _ => v = .bool true,
      fun v _ => v = .bool true,
      fun v _ => v = undef,
      fun v _ => v = undef,
      fun v _ => v = undef,
      fun v _ => v = undef,
      fun v _ => v = undef,
      fun v _ => v = undef,
      fun v _ => v = undef,
      fun v _ => v = undef,
      fun v _ => v = undef,
      fun v _ => v = .bool true,
      fun v _ => v = .bool true,
      fun v _ => v = undef,
      fun v _ => v = undef,
      fun v _ => v = undef,
      fun v _ => v = undef,
      fun v _ => v = undef,
      fun v _ => v = undef,
      fun v _ => v = undef,
      fun v _ => v = undef,
      fun v _ => v = undef,
      fun v _ => v = undef,
      fun v _ => v = .bool true,
      fun v _ => v = .bool true,
      fun v _ => v = undef,
      fun v _ => v = undef,
      fun v _ => v = undef,
      fun v _ => v = undef,
      fun v _ => v = undef,
      fun v _ => v = .bool true]) (phi_stable ?stable) ?steps ?tail
  case stable =>
    exact List.forall_mem_cons.2 ⟨stab_eq _, List.forall_mem_cons.2 ⟨stab_eq _, List.forall_mem_cons.2 ⟨stab_eq _, List.forall_mem_cons.2 ⟨stab_eq _, List.forall_mem_cons.2 ⟨stab_eq _, List.forall_mem_cons.2 ⟨stab_eq _, List.forall_mem_cons.2 ⟨stab_eq _, List.forall_mem_cons.2 ⟨stab_eq _, List.forall_mem_cons.2 ⟨stab_eq _, List.forall_mem_cons.2 ⟨stab_eq _, List.forall_mem_cons.2 ⟨stab_eq _, List.forall_mem_cons.2 ⟨stab_eq _, List.forall_mem_cons.2 ⟨stab_eq _, List.forall_mem_cons.2 ⟨stab_eq _, List.forall_mem_cons.2 ⟨stab_eq _, List.forall_mem_cons.2 ⟨stab_eq _, List.forall_mem_cons.2 ⟨stab_eq _, List.forall_mem_cons.2 ⟨stab_eq _, List.forall_mem_cons.2 ⟨stab_eq _, List.forall_mem_cons.2 ⟨stab_eq _, List.forall_mem_cons.2 ⟨stab_eq _, List.forall_mem_cons.2 ⟨stab_eq _, List.forall_mem_cons.2 ⟨stab_eq _, List.forall_mem_cons.2 ⟨stab_eq _, List.forall_mem_cons.2 ⟨stab_eq _, List.forall_mem_cons.2 ⟨stab_eq _, List.forall_mem_cons.2 ⟨stab_eq _, List.forall_mem_cons.2 ⟨stab_eq _, List.forall_mem_cons.2 ⟨stab_eq _, List.forall_mem_cons.2 ⟨stab_eq _, List.forall_mem_cons.2 ⟨stab_eq _, List.forall_mem_cons.2 ⟨stab_eq _, List.forall_mem_cons.2 ⟨stab_eq _, List.forall_mem_cons.2 ⟨stab_eq _, fun _ h => by cases h⟩⟩⟩⟩⟩⟩⟩⟩⟩⟩⟩⟩⟩⟩⟩⟩⟩⟩⟩⟩⟩⟩⟩⟩⟩⟩⟩⟩⟩⟩⟩⟩⟩⟩
  case steps =>
    simp only [List.take_succ_cons, List.take_zero]
    -- 0: slot 19 := Op.move t7
    refine ⟨?_, ?_⟩
    · intro v w' hx hd
      simp only [List.take_succ_cons, List.take_zero, putF, Act.put, List.setIfInBounds_toArray, List.set_cons_zero, List.set_cons_succ, Nat.reduceAdd, Nat.zero_add]
      clear hd
      rw [if_pos (by rfl)]
      intro K hK
      have HK := Lib.hid hK; clear hK
      go_simp
      exact HK.out _ _ (.inl (Ext.refl _)) rfl
    -- 1: slot 20 := Op.move t6
    refine ⟨?_, ?_⟩
    · intro v w' hx hd
      simp only [List.take_succ_cons, List.take_zero, putF, Act.put, List.setIfInBounds_toArray, List.set_cons_zero, List.set_cons_succ, Nat.reduceAdd, Nat.zero_add]
      clear hd
      rw [if_pos (by rfl)]
      intro K hK
      have HK := Lib.hid hK; clear hK
      go_simp
      exact HK.out _ _ (.inl (Ext.refl _)) rfl
    -- 2: slot 21 := Op.call { value (Operand.func 83), args := #[t19, t20], argTypes := #[35, 3] }
    refine ⟨?_, ?_⟩
    · intro v w' hx hd
      have e0 : v 0 = .slice (some ⟨b, o, none⟩) ns cs := hd 0 (by kernel_rfl)
      have e1 : v 1 = .int .i64 (m : Int) := hd 1 (by kernel_rfl)
      simp only [List.take_succ_cons, List.take_zero, putF, Act.put, List.setIfInBounds_toArray, List.set_cons_zero, List.set_cons_succ, Nat.reduceAdd, Nat.zero_add]
      simp only [e0]
      simp only [e1]
      clear hd e0 e1
      rw [if_pos (by rfl)]
      intro K hK
      have HK := Lib.hid hK; clear hK
      go_simp
      refine (good_ok w' _ s m (H.out.keep hx) hl1 hl2 hm).mono ?_
      rintro e w2 ⟨rfl, hx2⟩
      rw [HGC.out]
      exact HK.out _ _ (.inl hx2) rfl
    -- 3: slot 22 := Op.unOp UnOp.not 4 t21
    refine ⟨?_, ?_⟩
    · intro v w' hx hd
      have e2 : v 2 = .bool false := hd 2 (by kernel_rfl)
      simp only [List.take_succ_cons, List.take_zero, putF, Act.put, List.setIfInBounds_toArray, List.set_cons_zero, List.set_cons_succ, Nat.reduceAdd, Nat.zero_add]
      simp only [e2]
      clear hd e2
      rw [if_pos (by rfl)]
      intro K hK
      have HK := Lib.hid hK; clear hK
      go_simp
      exact HK.out _ _ (.inl (Ext.refl _)) rfl
    -- 4: slot 23 := Op.move t22
    refine ⟨?_, ?_⟩
    · intro v w' hx hd
      have e3 : v 3 = .bool true := hd 3 (by kernel_rfl)
      simp only [List.take_succ_cons, List.take_zero, putF, Act.put, List.setIfInBounds_toArray, List.set_cons_zero, List.set_cons_succ, Nat.reduceAdd, Nat.zero_add]
      simp only [e3]
      clear hd e3
      rw [if_pos (by rfl)]
      intro K hK
      have HK := Lib.hid hK; clear hK
      go_simp
      exact HK.out _ _ (.inl (Ext.refl _)) rfl
    -- 5: slot 24 := Op.move t7   [guarded: some (4, false)]
    refine ⟨?_, ?_⟩
    · intro v w' hx hd
      have e4 : v 4 = .bool true := hd 4 (by kernel_rfl)
      simp only [List.take_succ_cons, List.take_zero, putF, Act.put, List.setIfInBounds_toArray, List.set_cons_zero, List.set_cons_succ, Nat.reduceAdd, Nat.zero_add]
      simp only [e4]
      clear hd e4
      rw [if_neg (ne_true_of_eq_false (by rfl))]
      exact rfl
    -- 6: slot 25 := Op.indexAddr 35 t24 (const (10:i64))   [guarded: some (4, false)]
    refine ⟨?_, ?_⟩
    · intro v w' hx hd
      have e4 : v 4 = .bool true := hd 4 (by kernel_rfl)
      simp only [List.take_succ_cons, List.take_zero, putF, Act.put, List.setIfInBounds_toArray, List.set_cons_zero, List.set_cons_succ, Nat.reduceAdd, Nat.zero_add]
      simp only [e4]
      clear hd e4
      rw [if_neg (ne_true_of_eq_false (by rfl))]
      exact rfl
    -- 7: slot 26 := Op.load 5 t25   [guarded: some (4, false)]
    refine ⟨?_, ?_⟩
    · intro v w' hx hd
      have e4 : v 4 = .bool true := hd 4 (by kernel_rfl)
      simp only [List.take_succ_cons, List.take_zero, putF, Act.put, List.setIfInBounds_toArray, List.set_cons_zero, List.set_cons_succ, Nat.reduceAdd, Nat.zero_add]
      simp only [e4]
      clear hd e4
      rw [if_neg (ne_true_of_eq_false (by rfl))]
      exact rfl
    -- 8: slot 27 := Op.binOp BinOp.and 5 t26 (const (1:u8)) 5   [guarded: some (4, false)]
    refine ⟨?_, ?_⟩
    · intro v w' hx hd
      have e4 : v 4 = .bool true := hd 4 (by kernel_rfl)
      simp only [List.take_succ_cons, List.take_zero, putF, Act.put, List.setIfInBounds_toArray, List.set_cons_zero, List.set_cons_succ, Nat.reduceAdd, Nat.zero_add]
      simp only [e4]
      clear hd e4
      rw [if_neg (ne_true_of_eq_false (by rfl))]
      exact rfl
    -- 9: slot 28 := Op.binOp BinOp.neq 5 t27 (const (0:u8)) 5   [guarded: some (4, false)]
    refine ⟨?_, ?_⟩
    · intro v w' hx hd
      have e4 : v 4 = .bool true := hd 4 (by kernel_rfl)
      simp only [List.take_succ_cons, List.take_zero, putF, Act.put, List.setIfInBounds_toArray, List.set_cons_zero, List.set_cons_succ, Nat.reduceAdd, Nat.zero_add]
      simp only [e4]
      clear hd e4
      rw [if_neg (ne_true_of_eq_false (by rfl))]
      exact rfl
    -- 10: slot 29 := Op.move t6   [guarded: some (4, false)]
    refine ⟨?_, ?_⟩
    · intro v w' hx hd
      have e4 : v 4 = .bool true := hd 4 (by kernel_rfl)
      simp only [List.take_succ_cons, List.take_zero, putF, Act.put, List.setIfInBounds_toArray, List.set_cons_zero, List.set_cons_succ, Nat.reduceAdd, Nat.zero_add]
      simp only [e4]
      clear hd e4
      rw [if_neg (ne_true_of_eq_false (by rfl))]
      exact rfl
    -- 11: slot 30 := Op.move t3   [guarded: some (4, false)]
    refine ⟨?_, ?_⟩
    · intro v w' hx hd
      have e4 : v 4 = .bool true := hd 4 (by kernel_rfl)
      simp only [List.take_succ_cons, List.take_zero, putF, Act.put, List.setIfInBounds_toArray, List.set_cons_zero, List.set_cons_succ, Nat.reduceAdd, Nat.zero_add]
      simp only [e4]
      clear hd e4
      rw [if_neg (ne_true_of_eq_false (by rfl))]
      exact rfl
    -- 12: slot 31 := Op.binOp BinOp.eql 3 t29 t30 3   [guarded: some (4, false)]
    refine ⟨?_, ?_⟩
    · intro v w' hx hd
      have e4 : v 4 = .bool true := hd 4 (by kernel_rfl)
      simp only [List.take_succ_cons, List.take_zero, putF, Act.put, List.setIfInBounds_toArray, List.set_cons_zero, List.set_cons_succ, Nat.reduceAdd, Nat.zero_add]
      simp only [e4]
      clear hd e4
      rw [if_neg (ne_true_of_eq_false (by rfl))]
      exact rfl
    -- 13: slot 32 := Op.binOp BinOp.neq 4 t28 t31 4   [guarded: some (4, false)]
    refine ⟨?_, ?_⟩
    · intro v w' hx hd
      have e4 : v 4 = .bool true := hd 4 (by kernel_rfl)
      simp only [List.take_succ_cons, List.take_zero, putF, Act.put, List.setIfInBounds_toArray, List.set_cons_zero, List.set_cons_succ, Nat.reduceAdd, Nat.zero_add]
      simp only [e4]
      clear hd e4
      rw [if_neg (ne_true_of_eq_false (by rfl))]
      exact rfl
    -- 14: slot 33 := Op.pick t23 (const (Value.bool true)) t32
    refine ⟨?_, ?_⟩
    · intro v w' hx hd
      have e4 : v 4 = .bool true := hd 4 (by kernel_rfl)
      have e13 : v 13 = undef := hd 13 (by kernel_rfl)
      simp only [List.take_succ_cons, List.take_zero, putF, Act.put, List.setIfInBounds_toArray, List.set_cons_zero, List.set_cons_succ, Nat.reduceAdd, Nat.zero_add]
      simp only [e4]
      simp only [e13]
      clear hd e4 e13
      rw [if_pos (by rfl)]
      intro K hK
      have HK := Lib.hid hK; clear hK
      go_simp
      exact HK.out _ _ (.inl (Ext.refl _)) rfl
    -- 15: slot 34 := Op.move t33
    refine ⟨?_, ?_⟩
    · intro v w' hx hd
      have e14 : v 14 = .bool true := hd 14 (by kernel_rfl)
      simp only [List.take_succ_cons, List.take_zero, putF, Act.put, List.setIfInBounds_toArray, List.set_cons_zero, List.set_cons_succ, Nat.reduceAdd, Nat.zero_add]
      simp only [e14]
      clear hd e14
      rw [if_pos (by rfl)]
      intro K hK
      have HK := Lib.hid hK; clear hK
      go_simp
      exact HK.out _ _ (.inl (Ext.refl _)) rfl
    -- 16: slot 35 := Op.move t7   [guarded: some (15, false)]
    refine ⟨?_, ?_⟩
    · intro v w' hx hd
      have e15 : v 15 = .bool true := hd 15 (by kernel_rfl)
      simp only [List.take_succ_cons, List.take_zero, putF, Act.put, List.setIfInBounds_toArray, List.set_cons_zero, List.set_cons_succ, Nat.reduceAdd, Nat.zero_add]
      simp only [e15]
      clear hd e15
      rw [if_neg (ne_true_of_eq_false (by rfl))]
      exact rfl
    -- 17: slot 36 := Op.slice 35 t35 none (some (const (4:i64))) none   [guarded: some (15, false)]
    refine ⟨?_, ?_⟩
    · intro v w' hx hd
      have e15 : v 15 = .bool true := hd 15 (by kernel_rfl)
      simp only [List.take_succ_cons, List.take_zero, putF, Act.put, List.setIfInBounds_toArray, List.set_cons_zero, List.set_cons_succ, Nat.reduceAdd, Nat.zero_add]
      simp only [e15]
      clear hd e15
      rw [if_neg (ne_true_of_eq_false (by rfl))]
      exact rfl
    -- 18: slot 37 := Op.call { value (Operand.func 71), args := #[t36], argTypes := #[35] }   [guarded: some (1
    refine ⟨?_, ?_⟩
    · intro v w' hx hd
      have e15 : v 15 = .bool true := hd 15 (by kernel_rfl)
      simp only [List.take_succ_cons, List.take_zero, putF, Act.put, List.setIfInBounds_toArray, List.set_cons_zero, List.set_cons_succ, Nat.reduceAdd, Nat.zero_add]
      simp only [e15]
      clear hd e15
      rw [if_neg (ne_true_of_eq_false (by rfl))]
      exact rfl
    -- 19: slot 38 := Op.load 22 t1   [guarded: some (15, false)]
    refine ⟨?_, ?_⟩
    · intro v w' hx hd
      have e15 : v 15 = .bool true := hd 15 (by kernel_rfl)
      simp only [List.take_succ_cons, List.take_zero, putF, Act.put, List.setIfInBounds_toArray, List.set_cons_zero, List.set_cons_succ, Nat.reduceAdd, Nat.zero_add]
      simp only [e15]
      clear hd e15
      rw [if_neg (ne_true_of_eq_false (by rfl))]
      exact rfl
    -- 20: slot 39 := Op.move t3   [guarded: some (15, false)]
    refine ⟨?_, ?_⟩
    · intro v w' hx hd
      have e15 : v 15 = .bool true := hd 15 (by kernel_rfl)
      simp only [List.take_succ_cons, List.take_zero, putF, Act.put, List.setIfInBounds_toArray, List.set_cons_zero, List.set_cons_succ, Nat.reduceAdd, Nat.zero_add]
      simp only [e15]
      clear hd e15
      rw [if_neg (ne_true_of_eq_false (by rfl))]
      exact rfl
    -- 21: slot 40 := Op.indexAddr 22 t38 t39   [guarded: some (15, false)]
    refine ⟨?_, ?_⟩
    · intro v w' hx hd
      have e15 : v 15 = .bool true := hd 15 (by kernel_rfl)
      simp only [List.take_succ_cons, List.take_zero, putF, Act.put, List.setIfInBounds_toArray, List.set_cons_zero, List.set_cons_succ, Nat.reduceAdd, Nat.zero_add]
      simp only [e15]
      clear hd e15
      rw [if_neg (ne_true_of_eq_false (by rfl))]
      exact rfl
    -- 22: slot 41 := Op.load 35 t40   [guarded: some (15, false)]
    refine ⟨?_, ?_⟩
    · intro v w' hx hd
      have e15 : v 15 = .bool true := hd 15 (by kernel_rfl)
      simp only [List.take_succ_cons, List.take_zero, putF, Act.put, List.setIfInBounds_toArray, List.set_cons_zero, List.set_cons_succ, Nat.reduceAdd, Nat.zero_add]
      simp only [e15]
      clear hd e15
      rw [if_neg (ne_true_of_eq_false (by rfl))]
      exact rfl
    -- 23: slot 42 := Op.slice 35 t41 none (some (const (4:i64))) none   [guarded: some (15, false)]
    refine ⟨?_, ?_⟩
    · intro v w' hx hd
      have e15 : v 15 = .bool true := hd 15 (by kernel_rfl)
      simp only [List.take_succ_cons, List.take_zero, putF, Act.put, List.setIfInBounds_toArray, List.set_cons_zero, List.set_cons_succ, Nat.reduceAdd, Nat.zero_add]
      simp only [e15]
      clear hd e15
      rw [if_neg (ne_true_of_eq_false (by rfl))]
      exact rfl
    -- 24: slot 43 := Op.call { value (Operand.func 71), args := #[t42], argTypes := #[35] }   [guarded: some (1
    refine ⟨?_, ?_⟩
    · intro v w' hx hd
      have e15 : v 15 = .bool true := hd 15 (by kernel_rfl)
      simp only [List.take_succ_cons, List.take_zero, putF, Act.put, List.setIfInBounds_toArray, List.set_cons_zero, List.set_cons_succ, Nat.reduceAdd, Nat.zero_add]
      simp only [e15]
      clear hd e15
      rw [if_neg (ne_true_of_eq_false (by rfl))]
      exact rfl
    -- 25: slot 44 := Op.binOp BinOp.neq 95 t37 t43 95   [guarded: some (15, false)]
    refine ⟨?_, ?_⟩
    · intro v w' hx hd
      have e15 : v 15 = .bool true := hd 15 (by kernel_rfl)
      simp only [List.take_succ_cons, List.take_zero, putF, Act.put, List.setIfInBounds_toArray, List.set_cons_zero, List.set_cons_succ, Nat.reduceAdd, Nat.zero_add]
      simp only [e15]
      clear hd e15
      rw [if_neg (ne_true_of_eq_false (by rfl))]
      exact rfl
    -- 26: slot 45 := Op.pick t34 (const (Value.bool true)) t44
    refine ⟨?_, ?_⟩
    · intro v w' hx hd
      have e15 : v 15 = .bool true := hd 15 (by kernel_rfl)
      have e25 : v 25 = undef := hd 25 (by kernel_rfl)
      simp only [List.take_succ_cons, List.take_zero, putF, Act.put, List.setIfInBounds_toArray, List.set_cons_zero, List.set_cons_succ, Nat.reduceAdd, Nat.zero_add]
      simp only [e15]
      simp only [e25]
      clear hd e15 e25
      rw [if_pos (by rfl)]
      intro K hK
      have HK := Lib.hid hK; clear hK
      go_simp
      exact HK.out _ _ (.inl (Ext.refl _)) rfl
    -- 27: slot 46 := Op.move t45
    refine ⟨?_, ?_⟩
    · intro v w' hx hd
      have e26 : v 26 = .bool true := hd 26 (by kernel_rfl)
      simp only [List.take_succ_cons, List.take_zero, putF, Act.put, List.setIfInBounds_toArray, List.set_cons_zero, List.set_cons_succ, Nat.reduceAdd, Nat.zero_add]
      simp only [e26]
      clear hd e26
      rw [if_pos (by rfl)]
      intro K hK
      have HK := Lib.hid hK; clear hK
      go_simp
      exact HK.out _ _ (.inl (Ext.refl _)) rfl
    -- 28: slot 47 := Op.move t7   [guarded: some (27, false)]
    refine ⟨?_, ?_⟩
    · intro v w' hx hd
      have e27 : v 27 = .bool true := hd 27 (by kernel_rfl)
      simp only [List.take_succ_cons, List.take_zero, putF, Act.put, List.setIfInBounds_toArray, List.set_cons_zero, List.set_cons_succ, Nat.reduceAdd, Nat.zero_add]
      simp only [e27]
      clear hd e27
      rw [if_neg (ne_true_of_eq_false (by rfl))]
      exact rfl
    -- 29: slot 48 := Op.slice 35 t47 none (some (const (4:i64))) none   [guarded: some (27, false)]
    refine ⟨?_, ?_⟩
    · intro v w' hx hd
      have e27 : v 27 = .bool true := hd 27 (by kernel_rfl)
      simp only [List.take_succ_cons, List.take_zero, putF, Act.put, List.setIfInBounds_toArray, List.set_cons_zero, List.set_cons_succ, Nat.reduceAdd, Nat.zero_add]
      simp only [e27]
      clear hd e27
      rw [if_neg (ne_true_of_eq_false (by rfl))]
      exact rfl
    -- 30: slot 49 := Op.call { value (Operand.func 71), args := #[t48], argTypes := #[35] }   [guarded: some (2
    refine ⟨?_, ?_⟩
    · intro v w' hx hd
      have e27 : v 27 = .bool true := hd 27 (by kernel_rfl)
      simp only [List.take_succ_cons, List.take_zero, putF, Act.put, List.setIfInBounds_toArray, List.set_cons_zero, List.set_cons_succ, Nat.reduceAdd, Nat.zero_add]
      simp only [e27]
      clear hd e27
      rw [if_neg (ne_true_of_eq_false (by rfl))]
      exact rfl
    -- 31: slot 50 := Op.move t4   [guarded: some (27, false)]
    refine ⟨?_, ?_⟩
    · intro v w' hx hd
      have e27 : v 27 = .bool true := hd 27 (by kernel_rfl)
      simp only [List.take_succ_cons, List.take_zero, putF, Act.put, List.setIfInBounds_toArray, List.set_cons_zero, List.set_cons_succ, Nat.reduceAdd, Nat.zero_add]
      simp only [e27]
      clear hd e27
      rw [if_neg (ne_true_of_eq_false (by rfl))]
      exact rfl
    -- 32: slot 51 := Op.binOp BinOp.lss 95 t49 t50 95   [guarded: some (27, false)]
    refine ⟨?_, ?_⟩
    · intro v w' hx hd
      have e27 : v 27 = .bool true := hd 27 (by kernel_rfl)
      simp only [List.take_succ_cons, List.take_zero, putF, Act.put, List.setIfInBounds_toArray, List.set_cons_zero, List.set_cons_succ, Nat.reduceAdd, Nat.zero_add]
      simp only [e27]
      clear hd e27
      rw [if_neg (ne_true_of_eq_false (by rfl))]
      exact rfl
    -- 33: slot 52 := Op.pick t46 (const (Value.bool true)) t51
    refine ⟨?_, ?_⟩
    · intro v w' hx hd
      have e27 : v 27 = .bool true := hd 27 (by kernel_rfl)
      have e32 : v 32 = undef := hd 32 (by kernel_rfl)
      simp only [List.take_succ_cons, List.take_zero, putF, Act.put, List.setIfInBounds_toArray, List.set_cons_zero, List.set_cons_succ, Nat.reduceAdd, Nat.zero_add]
      simp only [e27]
      simp only [e32]
      clear hd e27 e32
      rw [if_pos (by rfl)]
      intro K hK
      have HK := Lib.hid hK; clear hK
      go_simp
      exact HK.out _ _ (.inl (Ext.refl _)) rfl
    exact trivial
  case tail =>
    intro v w' hx hall
    simp only [List.drop_succ_cons, List.drop_zero, List.take_succ_cons, List.take_zero, putF, Act.put, List.setIfInBounds_toArray, List.set_cons_zero, List.set_cons_succ, Nat.reduceAdd, Nat.zero_add]
    have e33 : v 33 = .bool true := hall 33 (by decide) (fun k hk => by simp at hk)
    simp only [e33]
    have HX := Lib.hid hx; clear hx
    clear hall e33
    exact HQ.out _ _ _ _ _ _ _ _ _ _ _ _ _ _ _ _ _ _ _ _ _ _ _ _ _ _ _ _ _ _ _ _ _ w' HX.out
set_option maxRecDepth 100000 in
set_option maxHeartbeats 4000000 in
theorem reg82_6b {Q : Exit → Act → World → Prop} {S : Nat → Prop} (t0 t2 t5 t8 t9 t10 t11 t12 t13 t14 t15 t16 t17 t18 t19 t20 t21 t22 t23 t24 t25 t26 t27 t28 t29 t30 t31 t32 t33 t34 t35 t36 t37 t38 t39 t40 t41 t42 t43 t44 t45 t46 t47 t48 t49 t50 t51 t52 t53 t54 t55 t56 t57 t58 t59 t60 t61 t62 t63 t64 t65 t66 t67 t68 t69 t70 t71 t72 t73 t74 t75 t76 : Value) (w1 : World) (gB m at_ last b o ns cs : Nat) (x : UInt8) (bg fs : Bool) (s : List UInt8)
    (hs : Bs S w1 (.slice (some ⟨b, o, none⟩) ns cs) s) (hns : ns = 128) (hm : m < 9223372036854775808) (hsl : s.length = 128) (hgc : goodC s m = true)
    (hcell : w1.cell? ⟨b, o + 10, none⟩ = some (.int .u8 (x.toNat : Int))) (hbg : ((x.toNat : Int) % 2 != 0) = bg) (hfs : ((m : Int) == (at_ : Int)) = fs) (hc2 : (bg == fs) = false)
    (hQ : ∀ (u19 u20 u21 u22 u23 u24 u25 u26 u27 u28 u29 u30 u31 u32 u33 u34 u35 u36 u37 u38 u39 u40 u41 u42 u43 u44 u45 u46 u47 u48 u49 u50 u51 : Value) (wx : World), Ext w1 wx → Q .normal ⟨#[t0, .pointer (some ⟨gB, 0, none⟩), t2, .int .i64 (at_ : Int), .int .u64 (last : Int), t5, .int .i64 (m : Int), .slice (some ⟨b, o, none⟩) ns cs, t8, t9, t10, t11, t12, t13, t14, t15, t16, t17, t18, u19, u20, u21, u22, u23, u24, u25, u26, u27, u28, u29, u30, u31, u32, u33, u34, u35, u36, u37, u38, u39, u40, u41, u42, u43, u44, u45, u46, u47, u48, u49, u50, u51, .bool true, t53, t54, t55, t56, t57, t58, t59, t60, t61, t62, t63, t64, t65, t66, t67, t68, t69, t70, t71, t72, t73, t74, t75, t76], []⟩ wx) :
    Code.wp Try.prog code82_6 Q ⟨#[t0, .pointer (some ⟨gB, 0, none⟩), t2, .int .i64 (at_ : Int), .int .u64 (last : Int), t5, .int .i64 (m : Int), .slice (some ⟨b, o, none⟩) ns cs, t8, t9, t10, t11, t12, t13, t14, t15, t16, t17, t18, t19, t20, t21, t22, t23, t24, t25, t26, t27, t28, t29, t30, t31, t32, t33, t34, t35, t36, t37, t38, t39, t40, t41, t42, t43, t44, t45, t46, t47, t48, t49, t50, t51, t52, t53, t54, t55, t56, t57, t58, t59, t60, t61, t62, t63, t64, t65, t66, t67, t68, t69, t70, t71, t72, t73, t74, t75, t76], []⟩ w1 := by
  conv => arg 2; whnf
  have HQ := Lib.hid hQ; clear hQ
  have H := Lib.hid hs; clear hs
  have HGC := Lib.hid hgc; clear hgc
  have hl1 : 128 ≤ s.length := by omega
  have hl2 : s.length ≤ 128 := by omega
  clear hsl
  have hax := and1_u8 x
  have h10 : (10 : Int) < ns := by omega
  clear hns
  refine wp_region_rg 34 (fun _ => none) (by kernel_rfl) (by kernel_rfl) (phi [fun v _ => v = .slice (some ⟨b, o, none⟩) ns cs,
      fun v _ => v = .int .i64 (m : Int),
      fun v _ => v = .bool true,
      fun v _ => v = .bool false,
      fun v _ => v = .bool false,
      fun v _ => v = .slice (some ⟨b, o, none⟩) ns cs,
      fun v _ => v = .pointer (some ⟨b, o + 10, none⟩),
      fun v _ => v = .int .u8 (x.toNat : Int),
      fun v _ => v = .int .u8 ((x.toNat % 2 : Nat) : Int),
      fun v _ => v = .bool bg,
      fun v _ => v = .int .i64 (m : Int),
      fun v _ => v = .int .i64 (at_ : Int),
      fun v _ => v = .bool fs,
      fun v _ => v = .bool true,
      fun v _ => v = .bool true,
      fun v _ => v = .bool true,
      fun v _ => v = undef,
      fun v _ => v = undef,
      fun v _ => v = undef,
      fun v _ => v = undef,
      fun v _ => v = undef,
      fun v _ => v = undef,
      fun v _ => v = undef,
      fun v _ => v = undef,
      fun v _ => v = undef,
      fun v _ => v = undef,
      fun v _ => v = .bool true,
      fun v _ => v = .bool true,
      fun v _ => v = undef,
      fun v _ => v = undef,
      fun v _ => v = undef,
      fun v _ => v = undef,
      fun v _ => v = undef,
      fun v _ => v = .bool true]) (phi_stable ?stable) ?steps ?tail
  case stable =>
    exact List.forall_mem_cons.2 ⟨stab_eq _, List.forall_mem_cons.2 ⟨stab_eq _, List.forall_mem_cons.2 ⟨stab_eq _, List.forall_mem_cons.2 ⟨stab_eq _, List.forall_mem_cons.2 ⟨stab_eq _, List.forall_mem_cons.2 ⟨stab_eq _, List.forall_mem_cons.2 ⟨stab_eq _, List.forall_mem_cons.2 ⟨stab_eq _, List.forall_mem_cons.2 ⟨stab_eq _, List.forall_mem_cons.2 ⟨stab_eq _, List.forall_mem_cons.2 ⟨stab_eq _, List.forall_mem_cons.2 ⟨stab_eq _, List.forall_mem_cons.2 ⟨stab_eq _, List.forall_mem_cons.2 ⟨stab_eq _, List.forall_mem_cons.2 ⟨stab_eq _, List.forall_mem_cons.2 ⟨stab_eq _, List.forall_mem_cons.2 ⟨stab_eq _, List.forall_mem_cons.2 ⟨stab_eq _, List.forall_mem_cons.2 ⟨stab_eq _, List.forall_mem_cons.2 ⟨stab_eq _, List.forall_mem_cons.2 ⟨stab_eq _, List.forall_mem_cons.2 ⟨stab_eq _, List.forall_mem_cons.2 ⟨stab_eq _, List.forall_mem_cons.2 ⟨stab_eq _, List.forall_mem_cons.2 ⟨stab_eq _, List.forall_mem_cons.2 ⟨stab_eq _, List.forall_mem_cons.2 ⟨stab_eq _, List.forall_mem_cons.2 ⟨stab_eq _, List.forall_mem_cons.2 ⟨stab_eq _, List.forall_mem_cons.2 ⟨stab_eq _, List.forall_mem_cons.2 ⟨stab_eq _, List.forall_mem_cons.2 ⟨stab_eq _, List.forall_mem_cons.2 ⟨stab_eq _, List.forall_mem_cons.2 ⟨stab_eq _, fun _ h => by cases h⟩⟩⟩⟩⟩⟩⟩⟩⟩⟩⟩⟩⟩⟩⟩⟩⟩⟩⟩⟩⟩⟩⟩⟩⟩⟩⟩⟩⟩⟩⟩⟩⟩⟩
  case steps =>
    simp only [List.take_succ_cons, List.take_zero]
    -- 0: slot 19 := Op.move t7
    refine ⟨?_, ?_⟩
    · intro v w' hx hd
      simp only [List.take_succ_cons, List.take_zero, putF, Act.put, List.setIfInBounds_toArray, List.set_cons_zero, List.set_cons_succ, Nat.reduceAdd, Nat.zero_add]
      clear hd
      rw [if_pos (by rfl)]
      intro K hK
      have qc := hx.cell hcell
      have HK := Lib.hid hK; clear hK
      go_simp
      exact HK.out _ _ (.inl (Ext.refl _)) rfl
    -- 1: slot 20 := Op.move t6
    refine ⟨?_, ?_⟩
    · intro v w' hx hd
      simp only [List.take_succ_cons, List.take_zero, putF, Act.put, List.setIfInBounds_toArray, List.set_cons_zero, List.set_cons_succ, Nat.reduceAdd, Nat.zero_add]
      clear hd
      rw [if_pos (by rfl)]
      intro K hK
      have qc := hx.cell hcell
      have HK := Lib.hid hK; clear hK
      go_simp
      exact HK.out _ _ (.inl (Ext.refl _)) rfl
    -- 2: slot 21 := Op.call { value (Operand.func 83), args := #[t19, t20], argTypes := #[35, 3] }
    refine ⟨?_, ?_⟩
    · intro v w' hx hd
      have e0 : v 0 = .slice (some ⟨b, o, none⟩) ns cs := hd 0 (by kernel_rfl)
      have e1 : v 1 = .int .i64 (m : Int) := hd 1 (by kernel_rfl)
      simp only [List.take_succ_cons, List.take_zero, putF, Act.put, List.setIfInBounds_toArray, List.set_cons_zero, List.set_cons_succ, Nat.reduceAdd, Nat.zero_add]
      simp only [e0]
      simp only [e1]
      clear hd e0 e1
      rw [if_pos (by rfl)]
      intro K hK
      have qc := hx.cell hcell
      have HK := Lib.hid hK; clear hK
      go_simp
      refine (good_ok w' _ s m (H.out.keep hx) hl1 hl2 hm).mono ?_
      rintro e w2 ⟨rfl, hx2⟩
      rw [HGC.out]
      exact HK.out _ _ (.inl hx2) rfl
    -- 3: slot 22 := Op.unOp UnOp.not 4 t21
    refine ⟨?_, ?_⟩
    · intro v w' hx hd
      have e2 : v 2 = .bool true := hd 2 (by kernel_rfl)
      simp only [List.take_succ_cons, List.take_zero, putF, Act.put, List.setIfInBounds_toArray, List.set_cons_zero, List.set_cons_succ, Nat.reduceAdd, Nat.zero_add]
      simp only [e2]
      clear hd e2
      rw [if_pos (by rfl)]
      intro K hK
      have qc := hx.cell hcell
      have HK := Lib.hid hK; clear hK
      go_simp
      exact HK.out _ _ (.inl (Ext.refl _)) rfl
    -- 4: slot 23 := Op.move t22
    refine ⟨?_, ?_⟩
    · intro v w' hx hd
      have e3 : v 3 = .bool false := hd 3 (by kernel_rfl)
      simp only [List.take_succ_cons, List.take_zero, putF, Act.put, List.setIfInBounds_toArray, List.set_cons_zero, List.set_cons_succ, Nat.reduceAdd, Nat.zero_add]
      simp only [e3]
      clear hd e3
      rw [if_pos (by rfl)]
      intro K hK
      have qc := hx.cell hcell
      have HK := Lib.hid hK; clear hK
      go_simp
      exact HK.out _ _ (.inl (Ext.refl _)) rfl
    -- 5: slot 24 := Op.move t7   [guarded: some (4, false)]
    refine ⟨?_, ?_⟩
    · intro v w' hx hd
      have e4 : v 4 = .bool false := hd 4 (by kernel_rfl)
      simp only [List.take_succ_cons, List.take_zero, putF, Act.put, List.setIfInBounds_toArray, List.set_cons_zero, List.set_cons_succ, Nat.reduceAdd, Nat.zero_add]
      simp only [e4]
      clear hd e4
      rw [if_pos (by rfl)]
      intro K hK
      have qc := hx.cell hcell
      have HK := Lib.hid hK; clear hK
      go_simp
      exact HK.out _ _ (.inl (Ext.refl _)) rfl
    -- 6: slot 25 := Op.indexAddr 35 t24 (const (10:i64))   [guarded: some (4, false)]
    refine ⟨?_, ?_⟩
    · intro v w' hx hd
      have e5 : v 5 = .slice (some ⟨b, o, none⟩) ns cs := hd 5 (by kernel_rfl)
      have e4 : v 4 = .bool false := hd 4 (by kernel_rfl)
      simp only [List.take_succ_cons, List.take_zero, putF, Act.put, List.setIfInBounds_toArray, List.set_cons_zero, List.set_cons_succ, Nat.reduceAdd, Nat.zero_add]
      simp only [e5]
      simp only [e4]
      clear hd e5 e4
      rw [if_pos (by rfl)]
      intro K hK
      have qc := hx.cell hcell
      have HK := Lib.hid hK; clear hK
      go_simp
      exact HK.out _ _ (.inl (Ext.refl _)) rfl
    -- 7: slot 26 := Op.load 5 t25   [guarded: some (4, false)]
    refine ⟨?_, ?_⟩
    · intro v w' hx hd
      have e6 : v 6 = .pointer (some ⟨b, o + 10, none⟩) := hd 6 (by kernel_rfl)
      have e4 : v 4 = .bool false := hd 4 (by kernel_rfl)
      simp only [List.take_succ_cons, List.take_zero, putF, Act.put, List.setIfInBounds_toArray, List.set_cons_zero, List.set_cons_succ, Nat.reduceAdd, Nat.zero_add]
      simp only [e6]
      simp only [e4]
      clear hd e6 e4
      rw [if_pos (by rfl)]
      intro K hK
      have qc := hx.cell hcell
      have HK := Lib.hid hK; clear hK
      go_simp
      exact HK.out _ _ (.inl (Ext.refl _)) rfl
    -- 8: slot 27 := Op.binOp BinOp.and 5 t26 (const (1:u8)) 5   [guarded: some (4, false)]
    refine ⟨?_, ?_⟩
    · intro v w' hx hd
      have e7 : v 7 = .int .u8 (x.toNat : Int) := hd 7 (by kernel_rfl)
      have e4 : v 4 = .bool false := hd 4 (by kernel_rfl)
      simp only [List.take_succ_cons, List.take_zero, putF, Act.put, List.setIfInBounds_toArray, List.set_cons_zero, List.set_cons_succ, Nat.reduceAdd, Nat.zero_add]
      simp only [e7]
      simp only [e4]
      clear hd e7 e4
      rw [if_pos (by rfl)]
      intro K hK
      have qc := hx.cell hcell
      have HK := Lib.hid hK; clear hK
      go_simp
      exact HK.out _ _ (.inl (Ext.refl _)) rfl
    -- 9: slot 28 := Op.binOp BinOp.neq 5 t27 (const (0:u8)) 5   [guarded: some (4, false)]
    refine ⟨?_, ?_⟩
    · intro v w' hx hd
      have e8 : v 8 = .int .u8 ((x.toNat % 2 : Nat) : Int) := hd 8 (by kernel_rfl)
      have e4 : v 4 = .bool false := hd 4 (by kernel_rfl)
      simp only [List.take_succ_cons, List.take_zero, putF, Act.put, List.setIfInBounds_toArray, List.set_cons_zero, List.set_cons_succ, Nat.reduceAdd, Nat.zero_add]
      simp only [e8]
      simp only [e4]
      clear hd e8 e4
      rw [if_pos (by rfl)]
      intro K hK
      have qc := hx.cell hcell
      have HK := Lib.hid hK; clear hK
      go_simp
      exact HK.out _ _ (.inl (Ext.refl _)) rfl
    -- 10: slot 29 := Op.move t6   [guarded: some (4, false)]
    refine ⟨?_, ?_⟩
    · intro v w' hx hd
      have e4 : v 4 = .bool false := hd 4 (by kernel_rfl)
      simp only [List.take_succ_cons, List.take_zero, putF, Act.put, List.setIfInBounds_toArray, List.set_cons_zero, List.set_cons_succ, Nat.reduceAdd, Nat.zero_add]
      simp only [e4]
      clear hd e4
      rw [if_pos (by rfl)]
      intro K hK
      have qc := hx.cell hcell
      have HK := Lib.hid hK; clear hK
      go_simp
      exact HK.out _ _ (.inl (Ext.refl _)) rfl
    -- 11: slot 30 := Op.move t3   [guarded: some (4, false)]
    refine ⟨?_, ?_⟩
    · intro v w' hx hd
      have e4 : v 4 = .bool false := hd 4 (by kernel_rfl)
      simp only [List.take_succ_cons, List.take_zero, putF, Act.put, List.setIfInBounds_toArray, List.set_cons_zero, List.set_cons_succ, Nat.reduceAdd, Nat.zero_add]
      simp only [e4]
      clear hd e4
      rw [if_pos (by rfl)]
      intro K hK
      have qc := hx.cell hcell
      have HK := Lib.hid hK; clear hK
      go_simp
      exact HK.out _ _ (.inl (Ext.refl _)) rfl
    -- 12: slot 31 := Op.binOp BinOp.eql 3 t29 t30 3   [guarded: some (4, false)]
    refine ⟨?_, ?_⟩
    · intro v w' hx hd
      have e10 : v 10 = .int .i64 (m : Int) := hd 10 (by kernel_rfl)
      have e11 : v 11 = .int .i64 (at_ : Int) := hd 11 (by kernel_rfl)
      have e4 : v 4 = .bool false := hd 4 (by kernel_rfl)
      simp only [List.take_succ_cons, List.take_zero, putF, Act.put, List.setIfInBounds_toArray, List.set_cons_zero, List.set_cons_succ, Nat.reduceAdd, Nat.zero_add]
      simp only [e10]
      simp only [e11]
      simp only [e4]
      clear hd e10 e11 e4
      rw [if_pos (by rfl)]
      intro K hK
      have qc := hx.cell hcell
      have HK := Lib.hid hK; clear hK
      go_simp
      exact HK.out _ _ (.inl (Ext.refl _)) rfl
    -- 13: slot 32 := Op.binOp BinOp.neq 4 t28 t31 4   [guarded: some (4, false)]
    refine ⟨?_, ?_⟩
    · intro v w' hx hd
      have e9 : v 9 = .bool bg := hd 9 (by kernel_rfl)
      have e12 : v 12 = .bool fs := hd 12 (by kernel_rfl)
      have e4 : v 4 = .bool false := hd 4 (by kernel_rfl)
      simp only [List.take_succ_cons, List.take_zero, putF, Act.put, List.setIfInBounds_toArray, List.set_cons_zero, List.set_cons_succ, Nat.reduceAdd, Nat.zero_add]
      simp only [e9]
      simp only [e12]
      simp only [e4]
      clear hd e9 e12 e4
      rw [if_pos (by rfl)]
      intro K hK
      have qc := hx.cell hcell
      have HK := Lib.hid hK; clear hK
      go_simp
      exact HK.out _ _ (.inl (Ext.refl _)) rfl
    -- 14: slot 33 := Op.pick t23 (const (Value.bool true)) t32
    refine ⟨?_, ?_⟩
    · intro v w' hx hd
      have e4 : v 4 = .bool false := hd 4 (by kernel_rfl)
      have e13 : v 13 = .bool true := hd 13 (by kernel_rfl)
      simp only [List.take_succ_cons, List.take_zero, putF, Act.put, List.setIfInBounds_toArray, List.set_cons_zero, List.set_cons_succ, Nat.reduceAdd, Nat.zero_add]
      simp only [e4]
      simp only [e13]
      clear hd e4 e13
      rw [if_pos (by rfl)]
      intro K hK
      have qc := hx.cell hcell
      have HK := Lib.hid hK; clear hK
      go_simp
      exact HK.out _ _ (.inl (Ext.refl _)) rfl
    -- 15: slot 34 := Op.move t33
    refine ⟨?_, ?_⟩
    · intro v w' hx hd
      have e14 : v 14 = .bool true := hd 14 (by kernel_rfl)
      simp only [List.take_succ_cons, List.take_zero, putF, Act.put, List.setIfInBounds_toArray, List.set_cons_zero, List.set_cons_succ, Nat.reduceAdd, Nat.zero_add]
      simp only [e14]
      clear hd e14
      rw [if_pos (by rfl)]
      intro K hK
      have qc := hx.cell hcell
      have HK := Lib.hid hK; clear hK
      go_simp
      exact HK.out _ _ (.inl (Ext.refl _)) rfl
    -- 16: slot 35 := Op.move t7   [guarded: some (15, false)]
    refine ⟨?_, ?_⟩
    · intro v w' hx hd
      have e15 : v 15 = .bool true := hd 15 (by kernel_rfl)
      simp only [List.take_succ_cons, List.take_zero, putF, Act.put, List.setIfInBounds_toArray, List.set_cons_zero, List.set_cons_succ, Nat.reduceAdd, Nat.zero_add]
      simp only [e15]
      clear hd e15
      rw [if_neg (ne_true_of_eq_false (by rfl))]
      exact rfl
    -- 17: slot 36 := Op.slice 35 t35 none (some (const (4:i64))) none   [guarded: some (15, false)]
    refine ⟨?_, ?_⟩
    · intro v w' hx hd
      have e15 : v 15 = .bool true := hd 15 (by kernel_rfl)
      simp only [List.take_succ_cons, List.take_zero, putF, Act.put, List.setIfInBounds_toArray, List.set_cons_zero, List.set_cons_succ, Nat.reduceAdd, Nat.zero_add]
      simp only [e15]
      clear hd e15
      rw [if_neg (ne_true_of_eq_false (by rfl))]
      exact rfl
    -- 18: slot 37 := Op.call { value (Operand.func 71), args := #[t36], argTypes := #[35] }   [guarded: some (1
    refine ⟨?_, ?_⟩
    · intro v w' hx hd
      have e15 : v 15 = .bool true := hd 15 (by kernel_rfl)
      simp only [List.take_succ_cons, List.take_zero, putF, Act.put, List.setIfInBounds_toArray, List.set_cons_zero, List.set_cons_succ, Nat.reduceAdd, Nat.zero_add]
      simp only [e15]
      clear hd e15
      rw [if_neg (ne_true_of_eq_false (by rfl))]
      exact rfl
    -- 19: slot 38 := Op.load 22 t1   [guarded: some (15, false)]
    refine ⟨?_, ?_⟩
    · intro v w' hx hd
      have e15 : v 15 = .bool true := hd 15 (by kernel_rfl)
      simp only [List.take_succ_cons, List.take_zero, putF, Act.put, List.setIfInBounds_toArray, List.set_cons_zero, List.set_cons_succ, Nat.reduceAdd, Nat.zero_add]
      simp only [e15]
      clear hd e15
      rw [if_neg (ne_true_of_eq_false (by rfl))]
      exact rfl
    -- 20: slot 39 := Op.move t3   [guarded: some (15, false)]
    refine ⟨?_, ?_⟩
    · intro v w' hx hd
      have e15 : v 15 = .bool true := hd 15 (by kernel_rfl)
      simp only [List.take_succ_cons, List.take_zero, putF, Act.put, List.setIfInBounds_toArray, List.set_cons_zero, List.set_cons_succ, Nat.reduceAdd, Nat.zero_add]
      simp only [e15]
      clear hd e15
      rw [if_neg (ne_true_of_eq_false (by rfl))]
      exact rfl
    -- 21: slot 40 := Op.indexAddr 22 t38 t39   [guarded: some (15, false)]
    refine ⟨?_, ?_⟩
    · intro v w' hx hd
      have e15 : v 15 = .bool true := hd 15 (by kernel_rfl)
      simp only [List.take_succ_cons, List.take_zero, putF, Act.put, List.setIfInBounds_toArray, List.set_cons_zero, List.set_cons_succ, Nat.reduceAdd, Nat.zero_add]
      simp only [e15]
      clear hd e15
      rw [if_neg (ne_true_of_eq_false (by rfl))]
      exact rfl
    -- 22: slot 41 := Op.load 35 t40   [guarded: some (15, false)]
    refine ⟨?_, ?_⟩
    · intro v w' hx hd
      have e15 : v 15 = .bool true := hd 15 (by kernel_rfl)
      simp only [List.take_succ_cons, List.take_zero, putF, Act.put, List.setIfInBounds_toArray, List.set_cons_zero, List.set_cons_succ, Nat.reduceAdd, Nat.zero_add]
      simp only [e15]
      clear hd e15
      rw [if_neg (ne_true_of_eq_false (by rfl))]
      exact rfl
    -- 23: slot 42 := Op.slice 35 t41 none (some (const (4:i64))) none   [guarded: some (15, false)]
    refine ⟨?_, ?_⟩
    · intro v w' hx hd
      have e15 : v 15 = .bool true := hd 15 (by kernel_rfl)
      simp only [List.take_succ_cons, List.take_zero, putF, Act.put, List.setIfInBounds_toArray, List.set_cons_zero, List.set_cons_succ, Nat.reduceAdd, Nat.zero_add]
      simp only [e15]
      clear hd e15
      rw [if_neg (ne_true_of_eq_false (by rfl))]
      exact rfl
    -- 24: slot 43 := Op.call { value (Operand.func 71), args := #[t42], argTypes := #[35] }   [guarded: some (1
    refine ⟨?_, ?_⟩
    · intro v w' hx hd
      have e15 : v 15 = .bool true := hd 15 (by kernel_rfl)
      simp only [List.take_succ_cons, List.take_zero, putF, Act.put, List.setIfInBounds_toArray, List.set_cons_zero, List.set_cons_succ, Nat.reduceAdd, Nat.zero_add]
      simp only [e15]
      clear hd e15
      rw [if_neg (ne_true_of_eq_false (by rfl))]
      exact rfl
    -- 25: slot 44 := Op.binOp BinOp.neq 95 t37 t43 95   [guarded: some (15, false)]
    refine ⟨?_, ?_⟩
    · intro v w' hx hd
      have e15 : v 15 = .bool true := hd 15 (by kernel_rfl)
      simp only [List.take_succ_cons, List.take_zero, putF, Act.put, List.setIfInBounds_toArray, List.set_cons_zero, List.set_cons_succ, Nat.reduceAdd, Nat.zero_add]
      simp only [e15]
      clear hd e15
      rw [if_neg (ne_true_of_eq_false (by rfl))]
      exact rfl
    -- 26: slot 45 := Op.pick t34 (const (Value.bool true)) t44
    refine ⟨?_, ?_⟩
    · intro v w' hx hd
      have e15 : v 15 = .bool true := hd 15 (by kernel_rfl)
      have e25 : v 25 = undef := hd 25 (by kernel_rfl)
      simp only [List.take_succ_cons, List.take_zero, putF, Act.put, List.setIfInBounds_toArray, List.set_cons_zero, List.set_cons_succ, Nat.reduceAdd, Nat.zero_add]
      simp only [e15]
      simp only [e25]
      clear hd e15 e25
      rw [if_pos (by rfl)]
      intro K hK
      have qc := hx.cell hcell
      have HK := Lib.hid hK; clear hK
      go_simp
      exact HK.out _ _ (.inl (Ext.refl _)) rfl
    -- 27: slot 46 := Op.move t45
    refine ⟨?_, ?_⟩
    · intro v w' hx hd
      have e26 : v 26 = .bool true := hd 26 (by kernel_rfl)
      simp only [List.take_succ_cons, List.take_zero, putF, Act.put, List.setIfInBounds_toArray, List.set_cons_zero, List.set_cons_succ, Nat.reduceAdd, Nat.zero_add]
      simp only [e26]
      clear hd e26
      rw [if_pos (by rfl)]
      intro K hK
      have qc := hx.cell hcell
      have HK := Lib.hid hK; clear hK
      go_simp
      exact HK.out _ _ (.inl (Ext.refl _)) rfl
    -- 28: slot 47 := Op.move t7   [guarded: some (27, false)]
    refine ⟨?_, ?_⟩
    · intro v w' hx hd
      have e27 : v 27 = .bool true := hd 27 (by kernel_rfl)
      simp only [List.take_succ_cons, List.take_zero, putF, Act.put, List.setIfInBounds_toArray, List.set_cons_zero, List.set_cons_succ, Nat.reduceAdd, Nat.zero_add]
      simp only [e27]
      clear hd e27
      rw [if_neg (ne_true_of_eq_false (by rfl))]
      exact rfl
    -- 29: slot 48 := Op.slice 35 t47 none (some (const (4:i64))) none   [guarded: some (27, false)]
    refine ⟨?_, ?_⟩
    · intro v w' hx hd
      have e27 : v 27 = .bool true := hd 27 (by kernel_rfl)
      simp only [List.take_succ_cons, List.take_zero, putF, Act.put, List.setIfInBounds_toArray, List.set_cons_zero, List.set_cons_succ, Nat.reduceAdd, Nat.zero_add]
      simp only [e27]
      clear hd e27
      rw [if_neg (ne_true_of_eq_false (by rfl))]
      exact rfl
    -- 30: slot 49 := Op.call { value (Operand.func 71), args := #[t48], argTypes := #[35] }   [guarded: some (2
    refine ⟨?_, ?_⟩
    · intro v w' hx hd
      have e27 : v 27 = .bool true := hd 27 (by kernel_rfl)
      simp only [List.take_succ_cons, List.take_zero, putF, Act.put, List.setIfInBounds_toArray, List.set_cons_zero, List.set_cons_succ, Nat.reduceAdd, Nat.zero_add]
      simp only [e27]
      clear hd e27
      rw [if_neg (ne_true_of_eq_false (by rfl))]
      exact rfl
    -- 31: slot 50 := Op.move t4   [guarded: some (27, false)]
    refine ⟨?_, ?_⟩
    · intro v w' hx hd
      have e27 : v 27 = .bool true := hd 27 (by kernel_rfl)
      simp only [List.take_succ_cons, List.take_zero, putF, Act.put, List.setIfInBounds_toArray, List.set_cons_zero, List.set_cons_succ, Nat.reduceAdd, Nat.zero_add]
      simp only [e27]
      clear hd e27
      rw [if_neg (ne_true_of_eq_false (by rfl))]
      exact rfl
    -- 32: slot 51 := Op.binOp BinOp.lss 95 t49 t50 95   [guarded: some (27, false)]
    refine ⟨?_, ?_⟩
    · intro v w' hx hd
      have e27 : v 27 = .bool true := hd 27 (by kernel_rfl)
      simp only [List.take_succ_cons, List.take_zero, putF, Act.put, List.setIfInBounds_toArray, List.set_cons_zero, List.set_cons_succ, Nat.reduceAdd, Nat.zero_add]
      simp only [e27]
      clear hd e27
      rw [if_neg (ne_true_of_eq_false (by rfl))]
      exact rfl
    -- 33: slot 52 := Op.pick t46 (const (Value.bool true)) t51
    refine ⟨?_, ?_⟩
    · intro v w' hx hd
      have e27 : v 27 = .bool true := hd 27 (by kernel_rfl)
      have e32 : v 32 = undef := hd 32 (by kernel_rfl)
      simp only [List.take_succ_cons, List.take_zero, putF, Act.put, List.setIfInBounds_toArray, List.set_cons_zero, List.set_cons_succ, Nat.reduceAdd, Nat.zero_add]
      simp only [e27]
      simp only [e32]
      clear hd e27 e32
      rw [if_pos (by rfl)]
      intro K hK
      have qc := hx.cell hcell
      have HK := Lib.hid hK; clear hK
      go_simp
      exact HK.out _ _ (.inl (Ext.refl _)) rfl
    exact trivial
  case tail =>
    intro v w' hx hall
    simp only [List.drop_succ_cons, List.drop_zero, List.take_succ_cons, List.take_zero, putF, Act.put, List.setIfInBounds_toArray, List.set_cons_zero, List.set_cons_succ, Nat.reduceAdd, Nat.zero_add]
    have e33 : v 33 = .bool true := hall 33 (by decide) (fun k hk => by simp at hk)
    simp only [e33]
    have HX := Lib.hid hx; clear hx
    clear hall e33
    exact HQ.out _ _ _ _ _ _ _ _ _ _ _ _ _ _ _ _ _ _ _ _ _ _ _ _ _ _ _ _ _ _ _ _ _ w' HX.out
set_option maxRecDepth 100000 in
set_option maxHeartbeats 4000000 in
theorem reg82_6c {Q : Exit → Act → World → Prop} {S : Nat → Prop} (t0 t2 t5 t8 t9 t10 t11 t12 t13 t14 t15 t16 t17 t18 t19 t20 t21 t22 t23 t24 t25 t26 t27 t28 t29 t30 t31 t32 t33 t34 t35 t36 t37 t38 t39 t40 t41 t42 t43 t44 t45 t46 t47 t48 t49 t50 t51 t52 t53 t54 t55 t56 t57 t58 t59 t60 t61 t62 t63 t64 t65 t66 t67 t68 t69 t70 t71 t72 t73 t74 t75 t76 : Value) (w1 : World) (gB m at_ last b o ns cs bl ol nl cl ba oa na ca gs ga : Nat) (x : UInt8) (bg fs : Bool) (s s2 : List UInt8)
    (hs : Bs S w1 (.slice (some ⟨b, o, none⟩) ns cs) s) (hns : ns = 128) (hnc : ns ≤ cs) (hcm : cs ≤ 9223372036854775807) (hm : m < 9223372036854775808) (hsl : s.length = 128) (hgc : goodC s m = true)
    (hcell : w1.cell? ⟨b, o + 10, none⟩ = some (.int .u8 (x.toNat : Int))) (hbg : ((x.toNat : Int) % 2 != 0) = bg) (hfs : ((m : Int) == (at_ : Int)) = fs) (hc2 : (bg == fs) = true) (hgs : num (s.take 4) = gs) (hga : num (s2.take 4) = ga) (hs2 : Bs S w1 (.slice (some ⟨ba, oa, none⟩) na ca) s2) (hl2 : s2.length = 128) (hna : na = 128) (hnca : na ≤ ca) (hcma : ca ≤ 9223372036854775807) (hB : w1.cell? ⟨gB, 0, none⟩ = some (.slice (some ⟨bl, ol, none⟩) nl cl)) (hA : w1.cell? ⟨bl, ol + at_, none⟩ = some (.slice (some ⟨ba, oa, none⟩) na ca)) (hat : at_ < nl) (hc3 : ((gs : Int) != (ga : Int)) = true)
    (hQ : ∀ (u19 u20 u21 u22 u23 u24 u25 u26 u27 u28 u29 u30 u31 u32 u33 u34 u35 u36 u37 u38 u39 u40 u41 u42 u43 u44 u45 u46 u47 u48 u49 u50 u51 : Value) (wx : World), Ext w1 wx → Q .normal ⟨#[t0, .pointer (some ⟨gB, 0, none⟩), t2, .int .i64 (at_ : Int), .int .u64 (last : Int), t5, .int .i64 (m : Int), .slice (some ⟨b, o, none⟩) ns cs, t8, t9, t10, t11, t12, t13, t14, t15, t16, t17, t18, u19, u20, u21, u22, u23, u24, u25, u26, u27, u28, u29, u30, u31, u32, u33, u34, u35, u36, u37, u38, u39, u40, u41, u42, u43, u44, u45, u46, u47, u48, u49, u50, u51, .bool true, t53, t54, t55, t56, t57, t58, t59, t60, t61, t62, t63, t64, t65, t66, t67, t68, t69, t70, t71, t72, t73, t74, t75, t76], []⟩ wx) :
    Code.wp Try.prog code82_6 Q ⟨#[t0, .pointer (some ⟨gB, 0, none⟩), t2, .int .i64 (at_ : Int), .int .u64 (last : Int), t5, .int .i64 (m : Int), .slice (some ⟨b, o, none⟩) ns cs, t8, t9, t10, t11, t12, t13, t14, t15, t16, t17, t18, t19, t20, t21, t22, t23, t24, t25, t26, t27, t28, t29, t30, t31, t32, t33, t34, t35, t36, t37, t38, t39, t40, t41, t42, t43, t44, t45, t46, t47, t48, t49, t50, t51, t52, t53, t54, t55, t56, t57, t58, t59, t60, t61, t62, t63, t64, t65, t66, t67, t68, t69, t70, t71, t72, t73, t74, t75, t76], []⟩ w1 := by
  conv => arg 2; whnf
  have HQ := Lib.hid hQ; clear hQ
  have H := Lib.hid hs; clear hs
  have HGC := Lib.hid hgc; clear hgc
  have hl1 : 128 ≤ s.length := by omega
  have hlB : 128 ≤ s2.length := by omega
  clear hl2
  have hl2 : s.length ≤ 128 := by omega
  clear hsl
  have hax := and1_u8 x
  have h10 : (10 : Int) < ns := by omega
  have h4 := H.out.sub 0 4 cs (by omega) (by omega) hcm
  rw [List.drop_zero, Nat.add_zero] at h4
  have H4 := Lib.hid h4; clear h4
  have ha4 := hs2.sub 0 4 ca (by omega) (by omega) hcma
  rw [List.drop_zero, Nat.add_zero] at ha4
  have HA4 := Lib.hid ha4; clear ha4 hs2
  have HGS := Lib.hid hgs; clear hgs
  have HGA := Lib.hid hga; clear hga
  have i1 : (4 : Int) ≤ cs := by omega
  have i2 : (4 : Int) ≤ ca := by omega
  have i3 : (at_ : Int) < nl := by omega
  have i4 : (0 : Int) ≤ at_ := by omega
  clear hns hna
  refine wp_region_rg 34 (fun _ => none) (by kernel_rfl) (by kernel_rfl) (phi [fun v _ => v = .slice (some ⟨b, o, none⟩) ns cs,
      fun v _ => v = .int .i64 (m : Int),
      fun v _ => v = .bool true,
      fun v _ => v = .bool false,
      fun v _ => v = .bool false,
      fun v _ => v = .slice (some ⟨b, o, none⟩) ns cs,
      fun v _ => v = .pointer (some ⟨b, o + 10, none⟩),
      fun v _ => v = .int .u8 (x.toNat : Int),
      fun v _ => v = .int .u8 ((x.toNat % 2 : Nat) : Int),
      fun v _ => v = .bool bg,
      fun v _ => v = .int .i64 (m : Int),
      fun v _ => v = .int .i64 (at_ : Int),
      fun v _ => v = .bool fs,
      fun v _ => v = .bool false,
      fun v _ => v = .bool false,
      fun v _ => v = .bool false,
      fun v _ => v = .slice (some ⟨b, o, none⟩) ns cs,
      fun v _ => v = .slice (some ⟨b, o, none⟩) 4 cs,
      fun v _ => v = .int .u64 (gs : Int),
      fun v _ => v = .slice (some ⟨bl, ol, none⟩) nl cl,
      fun v _ => v = .int .i64 (at_ : Int),
      fun v _ => v = .pointer (some ⟨bl, ol + at_, none⟩),
      fun v _ => v = .slice (some ⟨ba, oa, none⟩) na ca,
      fun v _ => v = .slice (some ⟨ba, oa, none⟩) 4 ca,
      fun v _ => v = .int .u64 (ga : Int),
      fun v _ => v = .bool true,
      fun v _ => v = .bool true,
      fun v _ => v = .bool true,
      fun v _ => v = undef,
      fun v _ => v = undef,
      fun v _ => v = undef,
      fun v _ => v = undef,
      fun v _ => v = undef,
      fun v _ => v = .bool true]) (phi_stable ?stable) ?steps ?tail
  case stable =>
    exact List.forall_mem_cons.2 ⟨stab_eq _, List.forall_mem_cons.2 ⟨stab_eq _, List.forall_mem_cons.2 ⟨stab_eq _, List.forall_mem_cons.2 ⟨stab_eq _, List.forall_mem_cons.2 ⟨stab_eq _, List.forall_mem_cons.2 ⟨stab_eq _, List.forall_mem_cons.2 ⟨stab_eq _, List.forall_mem_cons.2 ⟨stab_eq _, List.forall_mem_cons.2 ⟨stab_eq _, List.forall_mem_cons.2 ⟨stab_eq _, List.forall_mem_cons.2 ⟨stab_eq _, List.forall_mem_cons.2 ⟨stab_eq _, List.forall_mem_cons.2 ⟨stab_eq _, List.forall_mem_cons.2 ⟨stab_eq _, List.forall_mem_cons.2 ⟨stab_eq _, List.forall_mem_cons.2 ⟨stab_eq _, List.forall_mem_cons.2 ⟨stab_eq _, List.forall_mem_cons.2 ⟨stab_eq _, List.forall_mem_cons.2 ⟨stab_eq _, List.forall_mem_cons.2 ⟨stab_eq _, List.forall_mem_cons.2 ⟨stab_eq _, List.forall_mem_cons.2 ⟨stab_eq _, List.forall_mem_cons.2 ⟨stab_eq _, List.forall_mem_cons.2 ⟨stab_eq _, List.forall_mem_cons.2 ⟨stab_eq _, List.forall_mem_cons.2 ⟨stab_eq _, List.forall_mem_cons.2 ⟨stab_eq _, List.forall_mem_cons.2 ⟨stab_eq _, List.forall_mem_cons.2 ⟨stab_eq _, List.forall_mem_cons.2 ⟨stab_eq _, List.forall_mem_cons.2 ⟨stab_eq _, List.forall_mem_cons.2 ⟨stab_eq _, List.forall_mem_cons.2 ⟨stab_eq _, List.forall_mem_cons.2 ⟨stab_eq _, fun _ h => by cases h⟩⟩⟩⟩⟩⟩⟩⟩⟩⟩⟩⟩⟩⟩⟩⟩⟩⟩⟩⟩⟩⟩⟩⟩⟩⟩⟩⟩⟩⟩⟩⟩⟩⟩
  case steps =>
    simp only [List.take_succ_cons, List.take_zero]
    -- 0: slot 19 := Op.move t7
    refine ⟨?_, ?_⟩
    · intro v w' hx hd
      simp only [List.take_succ_cons, List.take_zero, putF, Act.put, List.setIfInBounds_toArray, List.set_cons_zero, List.set_cons_succ, Nat.reduceAdd, Nat.zero_add]
      clear hd
      rw [if_pos (by rfl)]
      intro K hK
      have qc := hx.cell hcell
      have qB := hx.cell hB
      have qA := hx.cell hA
      have HK := Lib.hid hK; clear hK
      go_simp
      exact HK.out _ _ (.inl (Ext.refl _)) rfl
    -- 1: slot 20 := Op.move t6
    refine ⟨?_, ?_⟩
    · intro v w' hx hd
      simp only [List.take_succ_cons, List.take_zero, putF, Act.put, List.setIfInBounds_toArray, List.set_cons_zero, List.set_cons_succ, Nat.reduceAdd, Nat.zero_add]
      clear hd
      rw [if_pos (by rfl)]
      intro K hK
      have qc := hx.cell hcell
      have qB := hx.cell hB
      have qA := hx.cell hA
      have HK := Lib.hid hK; clear hK
      go_simp
      exact HK.out _ _ (.inl (Ext.refl _)) rfl
    -- 2: slot 21 := Op.call { value (Operand.func 83), args := #[t19, t20], argTypes := #[35, 3] }
    refine ⟨?_, ?_⟩
    · intro v w' hx hd
      have e0 : v 0 = .slice (some ⟨b, o, none⟩) ns cs := hd 0 (by kernel_rfl)
      have e1 : v 1 = .int .i64 (m : Int) := hd 1 (by kernel_rfl)
      simp only [List.take_succ_cons, List.take_zero, putF, Act.put, List.setIfInBounds_toArray, List.set_cons_zero, List.set_cons_succ, Nat.reduceAdd, Nat.zero_add]
      simp only [e0]
      simp only [e1]
      clear hd e0 e1
      rw [if_pos (by rfl)]
      intro K hK
      have qc := hx.cell hcell
      have qB := hx.cell hB
      have qA := hx.cell hA
      have HK := Lib.hid hK; clear hK
      go_simp
      refine (good_ok w' _ s m (H.out.keep hx) hl1 hl2 hm).mono ?_
      rintro e w2 ⟨rfl, hx2⟩
      rw [HGC.out]
      exact HK.out _ _ (.inl hx2) rfl
    -- 3: slot 22 := Op.unOp UnOp.not 4 t21
    refine ⟨?_, ?_⟩
    · intro v w' hx hd
      have e2 : v 2 = .bool true := hd 2 (by kernel_rfl)
      simp only [List.take_succ_cons, List.take_zero, putF, Act.put, List.setIfInBounds_toArray, List.set_cons_zero, List.set_cons_succ, Nat.reduceAdd, Nat.zero_add]
      simp only [e2]
      clear hd e2
      rw [if_pos (by rfl)]
      intro K hK
      have qc := hx.cell hcell
      have qB := hx.cell hB
      have qA := hx.cell hA
      have HK := Lib.hid hK; clear hK
      go_simp
      exact HK.out _ _ (.inl (Ext.refl _)) rfl
    -- 4: slot 23 := Op.move t22
    refine ⟨?_, ?_⟩
    · intro v w' hx hd
      have e3 : v 3 = .bool false := hd 3 (by kernel_rfl)
      simp only [List.take_succ_cons, List.take_zero, putF, Act.put, List.setIfInBounds_toArray, List.set_cons_zero, List.set_cons_succ, Nat.reduceAdd, Nat.zero_add]
      simp only [e3]
      clear hd e3
      rw [if_pos (by rfl)]
      intro K hK
      have qc := hx.cell hcell
      have qB := hx.cell hB
      have qA := hx.cell hA
      have HK := Lib.hid hK; clear hK
      go_simp
      exact HK.out _ _ (.inl (Ext.refl _)) rfl
    -- 5: slot 24 := Op.move t7   [guarded: some (4, false)]
    refine ⟨?_, ?_⟩
    · intro v w' hx hd
      have e4 : v 4 = .bool false := hd 4 (by kernel_rfl)
      simp only [List.take_succ_cons, List.take_zero, putF, Act.put, List.setIfInBounds_toArray, List.set_cons_zero, List.set_cons_succ, Nat.reduceAdd, Nat.zero_add]
      simp only [e4]
      clear hd e4
      rw [if_pos (by rfl)]
      intro K hK
      have qc := hx.cell hcell
      have qB := hx.cell hB
      have qA := hx.cell hA
      have HK := Lib.hid hK; clear hK
      go_simp
      exact HK.out _ _ (.inl (Ext.refl _)) rfl
    -- 6: slot 25 := Op.indexAddr 35 t24 (const (10:i64))   [guarded: some (4, false)]
    refine ⟨?_, ?_⟩
    · intro v w' hx hd
      have e5 : v 5 = .slice (some ⟨b, o, none⟩) ns cs := hd 5 (by kernel_rfl)
      have e4 : v 4 = .bool false := hd 4 (by kernel_rfl)
      simp only [List.take_succ_cons, List.take_zero, putF, Act.put, List.setIfInBounds_toArray, List.set_cons_zero, List.set_cons_succ, Nat.reduceAdd, Nat.zero_add]
      simp only [e5]
      simp only [e4]
      clear hd e5 e4
      rw [if_pos (by rfl)]
      intro K hK
      have qc := hx.cell hcell
      have qB := hx.cell hB
      have qA := hx.cell hA
      have HK := Lib.hid hK; clear hK
      go_simp
      exact HK.out _ _ (.inl (Ext.refl _)) rfl
    -- 7: slot 26 := Op.load 5 t25   [guarded: some (4, false)]
    refine ⟨?_, ?_⟩
    · intro v w' hx hd
      have e6 : v 6 = .pointer (some ⟨b, o + 10, none⟩) := hd 6 (by kernel_rfl)
      have e4 : v 4 = .bool false := hd 4 (by kernel_rfl)
      simp only [List.take_succ_cons, List.take_zero, putF, Act.put, List.setIfInBounds_toArray, List.set_cons_zero, List.set_cons_succ, Nat.reduceAdd, Nat.zero_add]
      simp only [e6]
      simp only [e4]
      clear hd e6 e4
      rw [if_pos (by rfl)]
      intro K hK
      have qc := hx.cell hcell
      have qB := hx.cell hB
      have qA := hx.cell hA
      have HK := Lib.hid hK; clear hK
      go_simp
      exact HK.out _ _ (.inl (Ext.refl _)) rfl
    -- 8: slot 27 := Op.binOp BinOp.and 5 t26 (const (1:u8)) 5   [guarded: some (4, false)]
    refine ⟨?_, ?_⟩
    · intro v w' hx hd
      have e7 : v 7 = .int .u8 (x.toNat : Int) := hd 7 (by kernel_rfl)
      have e4 : v 4 = .bool false := hd 4 (by kernel_rfl)
      simp only [List.take_succ_cons, List.take_zero, putF, Act.put, List.setIfInBounds_toArray, List.set_cons_zero, List.set_cons_succ, Nat.reduceAdd, Nat.zero_add]
      simp only [e7]
      simp only [e4]
      clear hd e7 e4
      rw [if_pos (by rfl)]
      intro K hK
      have qc := hx.cell hcell
      have qB := hx.cell hB
      have qA := hx.cell hA
      have HK := Lib.hid hK; clear hK
      go_simp
      exact HK.out _ _ (.inl (Ext.refl _)) rfl
    -- 9: slot 28 := Op.binOp BinOp.neq 5 t27 (const (0:u8)) 5   [guarded: some (4, false)]
    refine ⟨?_, ?_⟩
    · intro v w' hx hd
      have e8 : v 8 = .int .u8 ((x.toNat % 2 : Nat) : Int) := hd 8 (by kernel_rfl)
      have e4 : v 4 = .bool false := hd 4 (by kernel_rfl)
      simp only [List.take_succ_cons, List.take_zero, putF, Act.put, List.setIfInBounds_toArray, List.set_cons_zero, List.set_cons_succ, Nat.reduceAdd, Nat.zero_add]
      simp only [e8]
      simp only [e4]
      clear hd e8 e4
      rw [if_pos (by rfl)]
      intro K hK
      have qc := hx.cell hcell
      have qB := hx.cell hB
      have qA := hx.cell hA
      have HK := Lib.hid hK; clear hK
      go_simp
      exact HK.out _ _ (.inl (Ext.refl _)) rfl
    -- 10: slot 29 := Op.move t6   [guarded: some (4, false)]
    refine ⟨?_, ?_⟩
    · intro v w' hx hd
      have e4 : v 4 = .bool false := hd 4 (by kernel_rfl)
      simp only [List.take_succ_cons, List.take_zero, putF, Act.put, List.setIfInBounds_toArray, List.set_cons_zero, List.set_cons_succ, Nat.reduceAdd, Nat.zero_add]
      simp only [e4]
      clear hd e4
      rw [if_pos (by rfl)]
      intro K hK
      have qc := hx.cell hcell
      have qB := hx.cell hB
      have qA := hx.cell hA
      have HK := Lib.hid hK; clear hK
      go_simp
      exact HK.out _ _ (.inl (Ext.refl _)) rfl
    -- 11: slot 30 := Op.move t3   [guarded: some (4, false)]
    refine ⟨?_, ?_⟩
    · intro v w' hx hd
      have e4 : v 4 = .bool false := hd 4 (by kernel_rfl)
      simp only [List.take_succ_cons, List.take_zero, putF, Act.put, List.setIfInBounds_toArray, List.set_cons_zero, List.set_cons_succ, Nat.reduceAdd, Nat.zero_add]
      simp only [e4]
      clear hd e4
      rw [if_pos (by rfl)]
      intro K hK
      have qc := hx.cell hcell
      have qB := hx.cell hB
      have qA := hx.cell hA
      have HK := Lib.hid hK; clear hK
      go_simp
      exact HK.out _ _ (.inl (Ext.refl _)) rfl
    -- 12: slot 31 := Op.binOp BinOp.eql 3 t29 t30 3   [guarded: some (4, false)]
    refine ⟨?_, ?_⟩
    · intro v w' hx hd
      have e10 : v 10 = .int .i64 (m : Int) := hd 10 (by kernel_rfl)
      have e11 : v 11 = .int .i64 (at_ : Int) := hd 11 (by kernel_rfl)
      have e4 : v 4 = .bool false := hd 4 (by kernel_rfl)
      simp only [List.take_succ_cons, List.take_zero, putF, Act.put, List.setIfInBounds_toArray, List.set_cons_zero, List.set_cons_succ, Nat.reduceAdd, Nat.zero_add]
      simp only [e10]
      simp only [e11]
      simp only [e4]
      clear hd e10 e11 e4
      rw [if_pos (by rfl)]
      intro K hK
      have qc := hx.cell hcell
      have qB := hx.cell hB
      have qA := hx.cell hA
      have HK := Lib.hid hK; clear hK
      go_simp
      exact HK.out _ _ (.inl (Ext.refl _)) rfl
    -- 13: slot 32 := Op.binOp BinOp.neq 4 t28 t31 4   [guarded: some (4, false)]
    refine ⟨?_, ?_⟩
    · intro v w' hx hd
      have e9 : v 9 = .bool bg := hd 9 (by kernel_rfl)
      have e12 : v 12 = .bool fs := hd 12 (by kernel_rfl)
      have e4 : v 4 = .bool false := hd 4 (by kernel_rfl)
      simp only [List.take_succ_cons, List.take_zero, putF, Act.put, List.setIfInBounds_toArray, List.set_cons_zero, List.set_cons_succ, Nat.reduceAdd, Nat.zero_add]
      simp only [e9]
      simp only [e12]
      simp only [e4]
      clear hd e9 e12 e4
      rw [if_pos (by rfl)]
      intro K hK
      have qc := hx.cell hcell
      have qB := hx.cell hB
      have qA := hx.cell hA
      have HK := Lib.hid hK; clear hK
      go_simp
      exact HK.out _ _ (.inl (Ext.refl _)) rfl
    -- 14: slot 33 := Op.pick t23 (const (Value.bool true)) t32
    refine ⟨?_, ?_⟩
    · intro v w' hx hd
      have e4 : v 4 = .bool false := hd 4 (by kernel_rfl)
      have e13 : v 13 = .bool false := hd 13 (by kernel_rfl)
      simp only [List.take_succ_cons, List.take_zero, putF, Act.put, List.setIfInBounds_toArray, List.set_cons_zero, List.set_cons_succ, Nat.reduceAdd, Nat.zero_add]
      simp only [e4]
      simp only [e13]
      clear hd e4 e13
      rw [if_pos (by rfl)]
      intro K hK
      have qc := hx.cell hcell
      have qB := hx.cell hB
      have qA := hx.cell hA
      have HK := Lib.hid hK; clear hK
      go_simp
      exact HK.out _ _ (.inl (Ext.refl _)) rfl
    -- 15: slot 34 := Op.move t33
    refine ⟨?_, ?_⟩
    · intro v w' hx hd
      have e14 : v 14 = .bool false := hd 14 (by kernel_rfl)
      simp only [List.take_succ_cons, List.take_zero, putF, Act.put, List.setIfInBounds_toArray, List.set_cons_zero, List.set_cons_succ, Nat.reduceAdd, Nat.zero_add]
      simp only [e14]
      clear hd e14
      rw [if_pos (by rfl)]
      intro K hK
      have qc := hx.cell hcell
      have qB := hx.cell hB
      have qA := hx.cell hA
      have HK := Lib.hid hK; clear hK
      go_simp
      exact HK.out _ _ (.inl (Ext.refl _)) rfl
    -- 16: slot 35 := Op.move t7   [guarded: some (15, false)]
    refine ⟨?_, ?_⟩
    · intro v w' hx hd
      have e15 : v 15 = .bool false := hd 15 (by kernel_rfl)
      simp only [List.take_succ_cons, List.take_zero, putF, Act.put, List.setIfInBounds_toArray, List.set_cons_zero, List.set_cons_succ, Nat.reduceAdd, Nat.zero_add]
      simp only [e15]
      clear hd e15
      rw [if_pos (by rfl)]
      intro K hK
      have qc := hx.cell hcell
      have qB := hx.cell hB
      have qA := hx.cell hA
      have HK := Lib.hid hK; clear hK
      go_simp
      exact HK.out _ _ (.inl (Ext.refl _)) rfl
    -- 17: slot 36 := Op.slice 35 t35 none (some (const (4:i64))) none   [guarded: some (15, false)]
    refine ⟨?_, ?_⟩
    · intro v w' hx hd
      have e16 : v 16 = .slice (some ⟨b, o, none⟩) ns cs := hd 16 (by kernel_rfl)
      have e15 : v 15 = .bool false := hd 15 (by kernel_rfl)
      simp only [List.take_succ_cons, List.take_zero, putF, Act.put, List.setIfInBounds_toArray, List.set_cons_zero, List.set_cons_succ, Nat.reduceAdd, Nat.zero_add]
      simp only [e16]
      simp only [e15]
      clear hd e16 e15
      rw [if_pos (by rfl)]
      intro K hK
      have qc := hx.cell hcell
      have qB := hx.cell hB
      have qA := hx.cell hA
      have HK := Lib.hid hK; clear hK
      go_simp
      exact HK.out _ _ (.inl (Ext.refl _)) rfl
    -- 18: slot 37 := Op.call { value (Operand.func 71), args := #[t36], argTypes := #[35] }   [guarded: some (1
    refine ⟨?_, ?_⟩
    · intro v w' hx hd
      have e17 : v 17 = .slice (some ⟨b, o, none⟩) 4 cs := hd 17 (by kernel_rfl)
      have e15 : v 15 = .bool false := hd 15 (by kernel_rfl)
      simp only [List.take_succ_cons, List.take_zero, putF, Act.put, List.setIfInBounds_toArray, List.set_cons_zero, List.set_cons_succ, Nat.reduceAdd, Nat.zero_add]
      simp only [e17]
      simp only [e15]
      clear hd e17 e15
      rw [if_pos (by rfl)]
      intro K hK
      have qc := hx.cell hcell
      have qB := hx.cell hB
      have qA := hx.cell hA
      have HK := Lib.hid hK; clear hK
      go_simp
      refine (get_ok w' _ (s.take 4) (H4.out.keep hx) (by rw [List.length_take]; omega)).mono ?_
      rintro e w2 ⟨rfl, rfl⟩
      rw [HGS.out]
      exact HK.out _ _ (.inl (Ext.refl _)) rfl
    -- 19: slot 38 := Op.load 22 t1   [guarded: some (15, false)]
    refine ⟨?_, ?_⟩
    · intro v w' hx hd
      have e15 : v 15 = .bool false := hd 15 (by kernel_rfl)
      simp only [List.take_succ_cons, List.take_zero, putF, Act.put, List.setIfInBounds_toArray, List.set_cons_zero, List.set_cons_succ, Nat.reduceAdd, Nat.zero_add]
      simp only [e15]
      clear hd e15
      rw [if_pos (by rfl)]
      intro K hK
      have qc := hx.cell hcell
      have qB := hx.cell hB
      have qA := hx.cell hA
      have HK := Lib.hid hK; clear hK
      go_simp
      exact HK.out _ _ (.inl (Ext.refl _)) rfl
    -- 20: slot 39 := Op.move t3   [guarded: some (15, false)]
    refine ⟨?_, ?_⟩
    · intro v w' hx hd
      have e15 : v 15 = .bool false := hd 15 (by kernel_rfl)
      simp only [List.take_succ_cons, List.take_zero, putF, Act.put, List.setIfInBounds_toArray, List.set_cons_zero, List.set_cons_succ, Nat.reduceAdd, Nat.zero_add]
      simp only [e15]
      clear hd e15
      rw [if_pos (by rfl)]
      intro K hK
      have qc := hx.cell hcell
      have qB := hx.cell hB
      have qA := hx.cell hA
      have HK := Lib.hid hK; clear hK
      go_simp
      exact HK.out _ _ (.inl (Ext.refl _)) rfl
    -- 21: slot 40 := Op.indexAddr 22 t38 t39   [guarded: some (15, false)]
    refine ⟨?_, ?_⟩
    · intro v w' hx hd
      have e19 : v 19 = .slice (some ⟨bl, ol, none⟩) nl cl := hd 19 (by kernel_rfl)
      have e20 : v 20 = .int .i64 (at_ : Int) := hd 20 (by kernel_rfl)
      have e15 : v 15 = .bool false := hd 15 (by kernel_rfl)
      simp only [List.take_succ_cons, List.take_zero, putF, Act.put, List.setIfInBounds_toArray, List.set_cons_zero, List.set_cons_succ, Nat.reduceAdd, Nat.zero_add]
      simp only [e19]
      simp only [e20]
      simp only [e15]
      clear hd e19 e20 e15
      rw [if_pos (by rfl)]
      intro K hK
      have qc := hx.cell hcell
      have qB := hx.cell hB
      have qA := hx.cell hA
      have HK := Lib.hid hK; clear hK
      go_simp
      exact HK.out _ _ (.inl (Ext.refl _)) rfl
    -- 22: slot 41 := Op.load 35 t40   [guarded: some (15, false)]
    refine ⟨?_, ?_⟩
    · intro v w' hx hd
      have e21 : v 21 = .pointer (some ⟨bl, ol + at_, none⟩) := hd 21 (by kernel_rfl)
      have e15 : v 15 = .bool false := hd 15 (by kernel_rfl)
      simp only [List.take_succ_cons, List.take_zero, putF, Act.put, List.setIfInBounds_toArray, List.set_cons_zero, List.set_cons_succ, Nat.reduceAdd, Nat.zero_add]
      simp only [e21]
      simp only [e15]
      clear hd e21 e15
      rw [if_pos (by rfl)]
      intro K hK
      have qc := hx.cell hcell
      have qB := hx.cell hB
      have qA := hx.cell hA
      have HK := Lib.hid hK; clear hK
      go_simp
      exact HK.out _ _ (.inl (Ext.refl _)) rfl
    -- 23: slot 42 := Op.slice 35 t41 none (some (const (4:i64))) none   [guarded: some (15, false)]
    refine ⟨?_, ?_⟩
    · intro v w' hx hd
      have e22 : v 22 = .slice (some ⟨ba, oa, none⟩) na ca := hd 22 (by kernel_rfl)
      have e15 : v 15 = .bool false := hd 15 (by kernel_rfl)
      simp only [List.take_succ_cons, List.take_zero, putF, Act.put, List.setIfInBounds_toArray, List.set_cons_zero, List.set_cons_succ, Nat.reduceAdd, Nat.zero_add]
      simp only [e22]
      simp only [e15]
      clear hd e22 e15
      rw [if_pos (by rfl)]
      intro K hK
      have qc := hx.cell hcell
      have qB := hx.cell hB
      have qA := hx.cell hA
      have HK := Lib.hid hK; clear hK
      go_simp
      exact HK.out _ _ (.inl (Ext.refl _)) rfl
    -- 24: slot 43 := Op.call { value (Operand.func 71), args := #[t42], argTypes := #[35] }   [guarded: some (1
    refine ⟨?_, ?_⟩
    · intro v w' hx hd
      have e23 : v 23 = .slice (some ⟨ba, oa, none⟩) 4 ca := hd 23 (by kernel_rfl)
      have e15 : v 15 = .bool false := hd 15 (by kernel_rfl)
      simp only [List.take_succ_cons, List.take_zero, putF, Act.put, List.setIfInBounds_toArray, List.set_cons_zero, List.set_cons_succ, Nat.reduceAdd, Nat.zero_add]
      simp only [e23]
      simp only [e15]
      clear hd e23 e15
      rw [if_pos (by rfl)]
      intro K hK
      have qc := hx.cell hcell
      have qB := hx.cell hB
      have qA := hx.cell hA
      have HK := Lib.hid hK; clear hK
      go_simp
      refine (get_ok w' _ (s2.take 4) (HA4.out.keep hx) (by rw [List.length_take]; omega)).mono ?_
      rintro e w2 ⟨rfl, rfl⟩
      rw [HGA.out]
      exact HK.out _ _ (.inl (Ext.refl _)) rfl
    -- 25: slot 44 := Op.binOp BinOp.neq 95 t37 t43 95   [guarded: some (15, false)]
    refine ⟨?_, ?_⟩
    · intro v w' hx hd
      have e18 : v 18 = .int .u64 (gs : Int) := hd 18 (by kernel_rfl)
      have e24 : v 24 = .int .u64 (ga : Int) := hd 24 (by kernel_rfl)
      have e15 : v 15 = .bool false := hd 15 (by kernel_rfl)
      simp only [List.take_succ_cons, List.take_zero, putF, Act.put, List.setIfInBounds_toArray, List.set_cons_zero, List.set_cons_succ, Nat.reduceAdd, Nat.zero_add]
      simp only [e18]
      simp only [e24]
      simp only [e15]
      clear hd e18 e24 e15
      rw [if_pos (by rfl)]
      intro K hK
      have qc := hx.cell hcell
      have qB := hx.cell hB
      have qA := hx.cell hA
      have HK := Lib.hid hK; clear hK
      go_simp
      exact HK.out _ _ (.inl (Ext.refl _)) rfl
    -- 26: slot 45 := Op.pick t34 (const (Value.bool true)) t44
    refine ⟨?_, ?_⟩
    · intro v w' hx hd
      have e15 : v 15 = .bool false := hd 15 (by kernel_rfl)
      have e25 : v 25 = .bool true := hd 25 (by kernel_rfl)
      simp only [List.take_succ_cons, List.take_zero, putF, Act.put, List.setIfInBounds_toArray, List.set_cons_zero, List.set_cons_succ, Nat.reduceAdd, Nat.zero_add]
      simp only [e15]
      simp only [e25]
      clear hd e15 e25
      rw [if_pos (by rfl)]
      intro K hK
      have qc := hx.cell hcell
      have qB := hx.cell hB
      have qA := hx.cell hA
      have HK := Lib.hid hK; clear hK
      go_simp
      exact HK.out _ _ (.inl (Ext.refl _)) rfl
    -- 27: slot 46 := Op.move t45
    refine ⟨?_, ?_⟩
    · intro v w' hx hd
      have e26 : v 26 = .bool true := hd 26 (by kernel_rfl)
      simp only [List.take_succ_cons, List.take_zero, putF, Act.put, List.setIfInBounds_toArray, List.set_cons_zero, List.set_cons_succ, Nat.reduceAdd, Nat.zero_add]
      simp only [e26]
      clear hd e26
      rw [if_pos (by rfl)]
      intro K hK
      have qc := hx.cell hcell
      have qB := hx.cell hB
      have qA := hx.cell hA
      have HK := Lib.hid hK; clear hK
      go_simp
      exact HK.out _ _ (.inl (Ext.refl _)) rfl
    -- 28: slot 47 := Op.move t7   [guarded: some (27, false)]
    refine ⟨?_, ?_⟩
    · intro v w' hx hd
      have e27 : v 27 = .bool true := hd 27 (by kernel_rfl)
      simp only [List.take_succ_cons, List.take_zero, putF, Act.put, List.setIfInBounds_toArray, List.set_cons_zero, List.set_cons_succ, Nat.reduceAdd, Nat.zero_add]
      simp only [e27]
      clear hd e27
      rw [if_neg (ne_true_of_eq_false (by rfl))]
      exact rfl
    -- 29: slot 48 := Op.slice 35 t47 none (some (const (4:i64))) none   [guarded: some (27, false)]
    refine ⟨?_, ?_⟩
    · intro v w' hx hd
      have e27 : v 27 = .bool true := hd 27 (by kernel_rfl)
      simp only [List.take_succ_cons, List.take_zero, putF, Act.put, List.setIfInBounds_toArray, List.set_cons_zero, List.set_cons_succ, Nat.reduceAdd, Nat.zero_add]
      simp only [e27]
      clear hd e27
      rw [if_neg (ne_true_of_eq_false (by rfl))]
      exact rfl
    -- 30: slot 49 := Op.call { value (Operand.func 71), args := #[t48], argTypes := #[35] }   [guarded: some (2
    refine ⟨?_, ?_⟩
    · intro v w' hx hd
      have e27 : v 27 = .bool true := hd 27 (by kernel_rfl)
      simp only [List.take_succ_cons, List.take_zero, putF, Act.put, List.setIfInBounds_toArray, List.set_cons_zero, List.set_cons_succ, Nat.reduceAdd, Nat.zero_add]
      simp only [e27]
      clear hd e27
      rw [if_neg (ne_true_of_eq_false (by rfl))]
      exact rfl
    -- 31: slot 50 := Op.move t4   [guarded: some (27, false)]
    refine ⟨?_, ?_⟩
    · intro v w' hx hd
      have e27 : v 27 = .bool true := hd 27 (by kernel_rfl)
      simp only [List.take_succ_cons, List.take_zero, putF, Act.put, List.setIfInBounds_toArray, List.set_cons_zero, List.set_cons_succ, Nat.reduceAdd, Nat.zero_add]
      simp only [e27]
      clear hd e27
      rw [if_neg (ne_true_of_eq_false (by rfl))]
      exact rfl
    -- 32: slot 51 := Op.binOp BinOp.lss 95 t49 t50 95   [guarded: some (27, false)]
    refine ⟨?_, ?_⟩
    · intro v w' hx hd
      have e27 : v 27 = .bool true := hd 27 (by kernel_rfl)
      simp only [List.take_succ_cons, List.take_zero, putF, Act.put, List.setIfInBounds_toArray, List.set_cons_zero, List.set_cons_succ, Nat.reduceAdd, Nat.zero_add]
      simp only [e27]
      clear hd e27
      rw [if_neg (ne_true_of_eq_false (by rfl))]
      exact rfl
    -- 33: slot 52 := Op.pick t46 (const (Value.bool true)) t51
    refine ⟨?_, ?_⟩
    · intro v w' hx hd
      have e27 : v 27 = .bool true := hd 27 (by kernel_rfl)
      have e32 : v 32 = undef := hd 32 (by kernel_rfl)
      simp only [List.take_succ_cons, List.take_zero, putF, Act.put, List.setIfInBounds_toArray, List.set_cons_zero, List.set_cons_succ, Nat.reduceAdd, Nat.zero_add]
      simp only [e27]
      simp only [e32]
      clear hd e27 e32
      rw [if_pos (by rfl)]
      intro K hK
      have qc := hx.cell hcell
      have qB := hx.cell hB
      have qA := hx.cell hA
      have HK := Lib.hid hK; clear hK
      go_simp
      exact HK.out _ _ (.inl (Ext.refl _)) rfl
    exact trivial
  case tail =>
    intro v w' hx hall
    simp only [List.drop_succ_cons, List.drop_zero, List.take_succ_cons, List.take_zero, putF, Act.put, List.setIfInBounds_toArray, List.set_cons_zero, List.set_cons_succ, Nat.reduceAdd, Nat.zero_add]
    have e33 : v 33 = .bool true := hall 33 (by decide) (fun k hk => by simp at hk)
    simp only [e33]
    have HX := Lib.hid hx; clear hx
    clear hall e33
    exact HQ.out _ _ _ _ _ _ _ _ _ _ _ _ _ _ _ _ _ _ _ _ _ _ _ _ _ _ _ _ _ _ _ _ _ w' HX.out
set_option maxRecDepth 100000 in
set_option maxHeartbeats 4000000 in
theorem reg82_6d {Q : Exit → Act → World → Prop} {S : Nat → Prop} (t0 t2 t5 t8 t9 t10 t11 t12 t13 t14 t15 t16 t17 t18 t19 t20 t21 t22 t23 t24 t25 t26 t27 t28 t29 t30 t31 t32 t33 t34 t35 t36 t37 t38 t39 t40 t41 t42 t43 t44 t45 t46 t47 t48 t49 t50 t51 t52 t53 t54 t55 t56 t57 t58 t59 t60 t61 t62 t63 t64 t65 t66 t67 t68 t69 t70 t71 t72 t73 t74 t75 t76 : Value) (w1 : World) (gB m at_ last b o ns cs bl ol nl cl ba oa na ca gs ga : Nat) (x : UInt8) (bg fs : Bool) (s s2 : List UInt8)
    (hs : Bs S w1 (.slice (some ⟨b, o, none⟩) ns cs) s) (hns : ns = 128) (hnc : ns ≤ cs) (hcm : cs ≤ 9223372036854775807) (hm : m < 9223372036854775808) (hsl : s.length = 128) (hgc : goodC s m = true)
    (hcell : w1.cell? ⟨b, o + 10, none⟩ = some (.int .u8 (x.toNat : Int))) (hbg : ((x.toNat : Int) % 2 != 0) = bg) (hfs : ((m : Int) == (at_ : Int)) = fs) (hc2 : (bg == fs) = true) (hgs : num (s.take 4) = gs) (hga : num (s2.take 4) = ga) (hs2 : Bs S w1 (.slice (some ⟨ba, oa, none⟩) na ca) s2) (hl2 : s2.length = 128) (hna : na = 128) (hnca : na ≤ ca) (hcma : ca ≤ 9223372036854775807) (hB : w1.cell? ⟨gB, 0, none⟩ = some (.slice (some ⟨bl, ol, none⟩) nl cl)) (hA : w1.cell? ⟨bl, ol + at_, none⟩ = some (.slice (some ⟨ba, oa, none⟩) na ca)) (hat : at_ < nl) (hc3 : ((gs : Int) != (ga : Int)) = false)
    (hQ : ∀ (u19 u20 u21 u22 u23 u24 u25 u26 u27 u28 u29 u30 u31 u32 u33 u34 u35 u36 u37 u38 u39 u40 u41 u42 u43 u44 u45 u46 u47 u48 u49 u50 u51 : Value) (wx : World), Ext w1 wx → Q .normal ⟨#[t0, .pointer (some ⟨gB, 0, none⟩), t2, .int .i64 (at_ : Int), .int .u64 (last : Int), t5, .int .i64 (m : Int), .slice (some ⟨b, o, none⟩) ns cs, t8, t9, t10, t11, t12, t13, t14, t15, t16, t17, t18, u19, u20, u21, u22, u23, u24, u25, u26, u27, u28, u29, u30, u31, u32, u33, u34, u35, u36, u37, u38, u39, u40, u41, u42, u43, u44, u45, u46, u47, u48, u49, u50, u51, .bool (decide (gs < last)), t53, t54, t55, t56, t57, t58, t59, t60, t61, t62, t63, t64, t65, t66, t67, t68, t69, t70, t71, t72, t73, t74, t75, t76], []⟩ wx) :
    Code.wp Try.prog code82_6 Q ⟨#[t0, .pointer (some ⟨gB, 0, none⟩), t2, .int .i64 (at_ : Int), .int .u64 (last : Int), t5, .int .i64 (m : Int), .slice (some ⟨b, o, none⟩) ns cs, t8, t9, t10, t11, t12, t13, t14, t15, t16, t17, t18, t19, t20, t21, t22, t23, t24, t25, t26, t27, t28, t29, t30, t31, t32, t33, t34, t35, t36, t37, t38, t39, t40, t41, t42, t43, t44, t45, t46, t47, t48, t49, t50, t51, t52, t53, t54, t55, t56, t57, t58, t59, t60, t61, t62, t63, t64, t65, t66, t67, t68, t69, t70, t71, t72, t73, t74, t75, t76], []⟩ w1 := by
  conv => arg 2; whnf
  have HQ := Lib.hid hQ; clear hQ
  have H := Lib.hid hs; clear hs
  have HGC := Lib.hid hgc; clear hgc
  have hl1 : 128 ≤ s.length := by omega
  have hlB : 128 ≤ s2.length := by omega
  clear hl2
  have hl2 : s.length ≤ 128 := by omega
  clear hsl
  have hax := and1_u8 x
  have h10 : (10 : Int) < ns := by omega
  have h4 := H.out.sub 0 4 cs (by omega) (by omega) hcm
  rw [List.drop_zero, Nat.add_zero] at h4
  have H4 := Lib.hid h4; clear h4
  have ha4 := hs2.sub 0 4 ca (by omega) (by omega) hcma
  rw [List.drop_zero, Nat.add_zero] at ha4
  have HA4 := Lib.hid ha4; clear ha4 hs2
  have HGS := Lib.hid hgs; clear hgs
  have HGA := Lib.hid hga; clear hga
  have i1 : (4 : Int) ≤ cs := by omega
  have i2 : (4 : Int) ≤ ca := by omega
  have i3 : (at_ : Int) < nl := by omega
  have i4 : (0 : Int) ≤ at_ := by omega
  clear hns hna
  refine wp_region_rg 34 (fun _ => none) (by kernel_rfl) (by kernel_rfl) (phi [fun v _ => v = .slice (some ⟨b, o, none⟩) ns cs,
      fun v _ => v = .int .i64 (m : Int),
      fun v _ => v = .bool true,
      fun v _ => v = .bool false,
      fun v _ => v = .bool false,
      fun v _ => v = .slice (some ⟨b, o, none⟩) ns cs,
      fun v _ => v = .pointer (some ⟨b, o + 10, none⟩),
      fun v _ => v = .int .u8 (x.toNat : Int),
      fun v _ => v = .int .u8 ((x.toNat % 2 : Nat) : Int),
      fun v _ => v = .bool bg,
      fun v _ => v = .int .i64 (m : Int),
      fun v _ => v = .int .i64 (at_ : Int),
      fun v _ => v = .bool fs,
      fun v _ => v = .bool false,
      fun v _ => v = .bool false,
      fun v _ => v = .bool false,
      fun v _ => v = .slice (some ⟨b, o, none⟩) ns cs,
      fun v _ => v = .slice (some ⟨b, o, none⟩) 4 cs,
      fun v _ => v = .int .u64 (gs : Int),
      fun v _ => v = .slice (some ⟨bl, ol, none⟩) nl cl,
      fun v _ => v = .int .i64 (at_ : Int),
      fun v _ => v = .pointer (some ⟨bl, ol + at_, none⟩),
      fun v _ => v = .slice (some ⟨ba, oa, none⟩) na ca,
      fun v _ => v = .slice (some ⟨ba, oa, none⟩) 4 ca,
      fun v _ => v = .int .u64 (ga : Int),
      fun v _ => v = .bool false,
      fun v _ => v = .bool false,
      fun v _ => v = .bool false,
      fun v _ => v = .slice (some ⟨b, o, none⟩) ns cs,
      fun v _ => v = .slice (some ⟨b, o, none⟩) 4 cs,
      fun v _ => v = .int .u64 (gs : Int),
      fun v _ => v = .int .u64 (last : Int),
      fun v _ => v = .bool (decide (gs < last)),
      fun v _ => v = .bool (decide (gs < last))]) (phi_stable ?stable) ?steps ?tail
  case stable =>
    exact List.forall_mem_cons.2 ⟨stab_eq _, List.forall_mem_cons.2 ⟨stab_eq _, List.forall_mem_cons.2 ⟨stab_eq _, List.forall_mem_cons.2 ⟨stab_eq _, List.forall_mem_cons.2 ⟨stab_eq _, List.forall_mem_cons.2 ⟨stab_eq _, List.forall_mem_cons.2 ⟨stab_eq _, List.forall_mem_cons.2 ⟨stab_eq _, List.forall_mem_cons.2 ⟨stab_eq _, List.forall_mem_cons.2 ⟨stab_eq _, List.forall_mem_cons.2 ⟨stab_eq _, List.forall_mem_cons.2 ⟨stab_eq _, List.forall_mem_cons.2 ⟨stab_eq _, List.forall_mem_cons.2 ⟨stab_eq _, List.forall_mem_cons.2 ⟨stab_eq _, List.forall_mem_cons.2 ⟨stab_eq _, List.forall_mem_cons.2 ⟨stab_eq _, List.forall_mem_cons.2 ⟨stab_eq _, List.forall_mem_cons.2 ⟨stab_eq _, List.forall_mem_cons.2 ⟨stab_eq _, List.forall_mem_cons.2 ⟨stab_eq _, List.forall_mem_cons.2 ⟨stab_eq _, List.forall_mem_cons.2 ⟨stab_eq _, List.forall_mem_cons.2 ⟨stab_eq _, List.forall_mem_cons.2 ⟨stab_eq _, List.forall_mem_cons.2 ⟨stab_eq _, List.forall_mem_cons.2 ⟨stab_eq _, List.forall_mem_cons.2 ⟨stab_eq _, List.forall_mem_cons.2 ⟨stab_eq _, List.forall_mem_cons.2 ⟨stab_eq _, List.forall_mem_cons.2 ⟨stab_eq _, List.forall_mem_cons.2 ⟨stab_eq _, List.forall_mem_cons.2 ⟨stab_eq _, List.forall_mem_cons.2 ⟨stab_eq _, fun _ h => by cases h⟩⟩⟩⟩⟩⟩⟩⟩⟩⟩⟩⟩⟩⟩⟩⟩⟩⟩⟩⟩⟩⟩⟩⟩⟩⟩⟩⟩⟩⟩⟩⟩⟩⟩
  case steps =>
    simp only [List.take_succ_cons, List.take_zero]
    -- 0: slot 19 := Op.move t7
    refine ⟨?_, ?_⟩
    · intro v w' hx hd
      simp only [List.take_succ_cons, List.take_zero, putF, Act.put, List.setIfInBounds_toArray, List.set_cons_zero, List.set_cons_succ, Nat.reduceAdd, Nat.zero_add]
      clear hd
      rw [if_pos (by rfl)]
      intro K hK
      have qc := hx.cell hcell
      have qB := hx.cell hB
      have qA := hx.cell hA
      have HK := Lib.hid hK; clear hK
      go_simp
      exact HK.out _ _ (.inl (Ext.refl _)) rfl
    -- 1: slot 20 := Op.move t6
    refine ⟨?_, ?_⟩
    · intro v w' hx hd
      simp only [List.take_succ_cons, List.take_zero, putF, Act.put, List.setIfInBounds_toArray, List.set_cons_zero, List.set_cons_succ, Nat.reduceAdd, Nat.zero_add]
      clear hd
      rw [if_pos (by rfl)]
      intro K hK
      have qc := hx.cell hcell
      have qB := hx.cell hB
      have qA := hx.cell hA
      have HK := Lib.hid hK; clear hK
      go_simp
      exact HK.out _ _ (.inl (Ext.refl _)) rfl
    -- 2: slot 21 := Op.call { value (Operand.func 83), args := #[t19, t20], argTypes := #[35, 3] }
    refine ⟨?_, ?_⟩
    · intro v w' hx hd
      have e0 : v 0 = .slice (some ⟨b, o, none⟩) ns cs := hd 0 (by kernel_rfl)
      have e1 : v 1 = .int .i64 (m : Int) := hd 1 (by kernel_rfl)
      simp only [List.take_succ_cons, List.take_zero, putF, Act.put, List.setIfInBounds_toArray, List.set_cons_zero, List.set_cons_succ, Nat.reduceAdd, Nat.zero_add]
      simp only [e0]
      simp only [e1]
      clear hd e0 e1
      rw [if_pos (by rfl)]
      intro K hK
      have qc := hx.cell hcell
      have qB := hx.cell hB
      have qA := hx.cell hA
      have HK := Lib.hid hK; clear hK
      go_simp
      refine (good_ok w' _ s m (H.out.keep hx) hl1 hl2 hm).mono ?_
      rintro e w2 ⟨rfl, hx2⟩
      rw [HGC.out]
      exact HK.out _ _ (.inl hx2) rfl
    -- 3: slot 22 := Op.unOp UnOp.not 4 t21
    refine ⟨?_, ?_⟩
    · intro v w' hx hd
      have e2 : v 2 = .bool true := hd 2 (by kernel_rfl)
      simp only [List.take_succ_cons, List.take_zero, putF, Act.put, List.setIfInBounds_toArray, List.set_cons_zero, List.set_cons_succ, Nat.reduceAdd, Nat.zero_add]
      simp only [e2]
      clear hd e2
      rw [if_pos (by rfl)]
      intro K hK
      have qc := hx.cell hcell
      have qB := hx.cell hB
      have qA := hx.cell hA
      have HK := Lib.hid hK; clear hK
      go_simp
      exact HK.out _ _ (.inl (Ext.refl _)) rfl
    -- 4: slot 23 := Op.move t22
    refine ⟨?_, ?_⟩
    · intro v w' hx hd
      have e3 : v 3 = .bool false := hd 3 (by kernel_rfl)
      simp only [List.take_succ_cons, List.take_zero, putF, Act.put, List.setIfInBounds_toArray, List.set_cons_zero, List.set_cons_succ, Nat.reduceAdd, Nat.zero_add]
      simp only [e3]
      clear hd e3
      rw [if_pos (by rfl)]
      intro K hK
      have qc := hx.cell hcell
      have qB := hx.cell hB
      have qA := hx.cell hA
      have HK := Lib.hid hK; clear hK
      go_simp
      exact HK.out _ _ (.inl (Ext.refl _)) rfl
    -- 5: slot 24 := Op.move t7   [guarded: some (4, false)]
    refine ⟨?_, ?_⟩
    · intro v w' hx hd
      have e4 : v 4 = .bool false := hd 4 (by kernel_rfl)
      simp only [List.take_succ_cons, List.take_zero, putF, Act.put, List.setIfInBounds_toArray, List.set_cons_zero, List.set_cons_succ, Nat.reduceAdd, Nat.zero_add]
      simp only [e4]
      clear hd e4
      rw [if_pos (by rfl)]
      intro K hK
      have qc := hx.cell hcell
      have qB := hx.cell hB
      have qA := hx.cell hA
      have HK := Lib.hid hK; clear hK
      go_simp
      exact HK.out _ _ (.inl (Ext.refl _)) rfl
    -- 6: slot 25 := Op.indexAddr 35 t24 (const (10:i64))   [guarded: some (4, false)]
    refine ⟨?_, ?_⟩
    · intro v w' hx hd
      have e5 : v 5 = .slice (some ⟨b, o, none⟩) ns cs := hd 5 (by kernel_rfl)
      have e4 : v 4 = .bool false := hd 4 (by kernel_rfl)
      simp only [List.take_succ_cons, List.take_zero, putF, Act.put, List.setIfInBounds_toArray, List.set_cons_zero, List.set_cons_succ, Nat.reduceAdd, Nat.zero_add]
      simp only [e5]
      simp only [e4]
      clear hd e5 e4
      rw [if_pos (by rfl)]
      intro K hK
      have qc := hx.cell hcell
      have qB := hx.cell hB
      have qA := hx.cell hA
      have HK := Lib.hid hK; clear hK
      go_simp
      exact HK.out _ _ (.inl (Ext.refl _)) rfl
    -- 7: slot 26 := Op.load 5 t25   [guarded: some (4, false)]
    refine ⟨?_, ?_⟩
    · intro v w' hx hd
      have e6 : v 6 = .pointer (some ⟨b, o + 10, none⟩) := hd 6 (by kernel_rfl)
      have e4 : v 4 = .bool false := hd 4 (by kernel_rfl)
      simp only [List.take_succ_cons, List.take_zero, putF, Act.put, List.setIfInBounds_toArray, List.set_cons_zero, List.set_cons_succ, Nat.reduceAdd, Nat.zero_add]
      simp only [e6]
      simp only [e4]
      clear hd e6 e4
      rw [if_pos (by rfl)]
      intro K hK
      have qc := hx.cell hcell
      have qB := hx.cell hB
      have qA := hx.cell hA
      have HK := Lib.hid hK; clear hK
      go_simp
      exact HK.out _ _ (.inl (Ext.refl _)) rfl
    -- 8: slot 27 := Op.binOp BinOp.and 5 t26 (const (1:u8)) 5   [guarded: some (4, false)]
    refine ⟨?_, ?_⟩
    · intro v w' hx hd
      have e7 : v 7 = .int .u8 (x.toNat : Int) := hd 7 (by kernel_rfl)
      have e4 : v 4 = .bool false := hd 4 (by kernel_rfl)
      simp only [List.take_succ_cons, List.take_zero, putF, Act.put, List.setIfInBounds_toArray, List.set_cons_zero, List.set_cons_succ, Nat.reduceAdd, Nat.zero_add]
      simp only [e7]
      simp only [e4]
      clear hd e7 e4
      rw [if_pos (by rfl)]
      intro K hK
      have qc := hx.cell hcell
      have qB := hx.cell hB
      have qA := hx.cell hA
      have HK := Lib.hid hK; clear hK
      go_simp
      exact HK.out _ _ (.inl (Ext.refl _)) rfl
    -- 9: slot 28 := Op.binOp BinOp.neq 5 t27 (const (0:u8)) 5   [guarded: some (4, false)]
    refine ⟨?_, ?_⟩
    · intro v w' hx hd
      have e8 : v 8 = .int .u8 ((x.toNat % 2 : Nat) : Int) := hd 8 (by kernel_rfl)
      have e4 : v 4 = .bool false := hd 4 (by kernel_rfl)
      simp only [List.take_succ_cons, List.take_zero, putF, Act.put, List.setIfInBounds_toArray, List.set_cons_zero, List.set_cons_succ, Nat.reduceAdd, Nat.zero_add]
      simp only [e8]
      simp only [e4]
      clear hd e8 e4
      rw [if_pos (by rfl)]
      intro K hK
      have qc := hx.cell hcell
      have qB := hx.cell hB
      have qA := hx.cell hA
      have HK := Lib.hid hK; clear hK
      go_simp
      exact HK.out _ _ (.inl (Ext.refl _)) rfl
    -- 10: slot 29 := Op.move t6   [guarded: some (4, false)]
    refine ⟨?_, ?_⟩
    · intro v w' hx hd
      have e4 : v 4 = .bool false := hd 4 (by kernel_rfl)
      simp only [List.take_succ_cons, List.take_zero, putF, Act.put, List.setIfInBounds_toArray, List.set_cons_zero, List.set_cons_succ, Nat.reduceAdd, Nat.zero_add]
      simp only [e4]
      clear hd e4
      rw [if_pos (by rfl)]
      intro K hK
      have qc := hx.cell hcell
      have qB := hx.cell hB
      have qA := hx.cell hA
      have HK := Lib.hid hK; clear hK
      go_simp
      exact HK.out _ _ (.inl (Ext.refl _)) rfl
    -- 11: slot 30 := Op.move t3   [guarded: some (4, false)]
    refine ⟨?_, ?_⟩
    · intro v w' hx hd
      have e4 : v 4 = .bool false := hd 4 (by kernel_rfl)
      simp only [List.take_succ_cons, List.take_zero, putF, Act.put, List.setIfInBounds_toArray, List.set_cons_zero, List.set_cons_succ, Nat.reduceAdd, Nat.zero_add]
      simp only [e4]
      clear hd e4
      rw [if_pos (by rfl)]
      intro K hK
      have qc := hx.cell hcell
      have qB := hx.cell hB
      have qA := hx.cell hA
      have HK := Lib.hid hK; clear hK
      go_simp
      exact HK.out _ _ (.inl (Ext.refl _)) rfl
    -- 12: slot 31 := Op.binOp BinOp.eql 3 t29 t30 3   [guarded: some (4, false)]
    refine ⟨?_, ?_⟩
    · intro v w' hx hd
      have e10 : v 10 = .int .i64 (m : Int) := hd 10 (by kernel_rfl)
      have e11 : v 11 = .int .i64 (at_ : Int) := hd 11 (by kernel_rfl)
      have e4 : v 4 = .bool false := hd 4 (by kernel_rfl)
      simp only [List.take_succ_cons, List.take_zero, putF, Act.put, List.setIfInBounds_toArray, List.set_cons_zero, List.set_cons_succ, Nat.reduceAdd, Nat.zero_add]
      simp only [e10]
      simp only [e11]
      simp only [e4]
      clear hd e10 e11 e4
      rw [if_pos (by rfl)]
      intro K hK
      have qc := hx.cell hcell
      have qB := hx.cell hB
      have qA := hx.cell hA
      have HK := Lib.hid hK; clear hK
      go_simp
      exact HK.out _ _ (.inl (Ext.refl _)) rfl
    -- 13: slot 32 := Op.binOp BinOp.neq 4 t28 t31 4   [guarded: some (4, false)]
    refine ⟨?_, ?_⟩
    · intro v w' hx hd
      have e9 : v 9 = .bool bg := hd 9 (by kernel_rfl)
      have e12 : v 12 = .bool fs := hd 12 (by kernel_rfl)
      have e4 : v 4 = .bool false := hd 4 (by kernel_rfl)
      simp only [List.take_succ_cons, List.take_zero, putF, Act.put, List.setIfInBounds_toArray, List.set_cons_zero, List.set_cons_succ, Nat.reduceAdd, Nat.zero_add]
      simp only [e9]
      simp only [e12]
      simp only [e4]
      clear hd e9 e12 e4
      rw [if_pos (by rfl)]
      intro K hK
      have qc := hx.cell hcell
      have qB := hx.cell hB
      have qA := hx.cell hA
      have HK := Lib.hid hK; clear hK
      go_simp
      exact HK.out _ _ (.inl (Ext.refl _)) rfl
    -- 14: slot 33 := Op.pick t23 (const (Value.bool true)) t32
    refine ⟨?_, ?_⟩
    · intro v w' hx hd
      have e4 : v 4 = .bool false := hd 4 (by kernel_rfl)
      have e13 : v 13 = .bool false := hd 13 (by kernel_rfl)
      simp only [List.take_succ_cons, List.take_zero, putF, Act.put, List.setIfInBounds_toArray, List.set_cons_zero, List.set_cons_succ, Nat.reduceAdd, Nat.zero_add]
      simp only [e4]
      simp only [e13]
      clear hd e4 e13
      rw [if_pos (by rfl)]
      intro K hK
      have qc := hx.cell hcell
      have qB := hx.cell hB
      have qA := hx.cell hA
      have HK := Lib.hid hK; clear hK
      go_simp
      exact HK.out _ _ (.inl (Ext.refl _)) rfl
    -- 15: slot 34 := Op.move t33
    refine ⟨?_, ?_⟩
    · intro v w' hx hd
      have e14 : v 14 = .bool false := hd 14 (by kernel_rfl)
      simp only [List.take_succ_cons, List.take_zero, putF, Act.put, List.setIfInBounds_toArray, List.set_cons_zero, List.set_cons_succ, Nat.reduceAdd, Nat.zero_add]
      simp only [e14]
      clear hd e14
      rw [if_pos (by rfl)]
      intro K hK
      have qc := hx.cell hcell
      have qB := hx.cell hB
      have qA := hx.cell hA
      have HK := Lib.hid hK; clear hK
      go_simp
      exact HK.out _ _ (.inl (Ext.refl _)) rfl
    -- 16: slot 35 := Op.move t7   [guarded: some (15, false)]
    refine ⟨?_, ?_⟩
    · intro v w' hx hd
      have e15 : v 15 = .bool false := hd 15 (by kernel_rfl)
      simp only [List.take_succ_cons, List.take_zero, putF, Act.put, List.setIfInBounds_toArray, List.set_cons_zero, List.set_cons_succ, Nat.reduceAdd, Nat.zero_add]
      simp only [e15]
      clear hd e15
      rw [if_pos (by rfl)]
      intro K hK
      have qc := hx.cell hcell
      have qB := hx.cell hB
      have qA := hx.cell hA
      have HK := Lib.hid hK; clear hK
      go_simp
      exact HK.out _ _ (.inl (Ext.refl _)) rfl
    -- 17: slot 36 := Op.slice 35 t35 none (some (const (4:i64))) none   [guarded: some (15, false)]
    refine ⟨?_, ?_⟩
    · intro v w' hx hd
      have e16 : v 16 = .slice (some ⟨b, o, none⟩) ns cs := hd 16 (by kernel_rfl)
      have e15 : v 15 = .bool false := hd 15 (by kernel_rfl)
      simp only [List.take_succ_cons, List.take_zero, putF, Act.put, List.setIfInBounds_toArray, List.set_cons_zero, List.set_cons_succ, Nat.reduceAdd, Nat.zero_add]
      simp only [e16]
      simp only [e15]
      clear hd e16 e15
      rw [if_pos (by rfl)]
      intro K hK
      have qc := hx.cell hcell
      have qB := hx.cell hB
      have qA := hx.cell hA
      have HK := Lib.hid hK; clear hK
      go_simp
      exact HK.out _ _ (.inl (Ext.refl _)) rfl
    -- 18: slot 37 := Op.call { value (Operand.func 71), args := #[t36], argTypes := #[35] }   [guarded: some (1
    refine ⟨?_, ?_⟩
    · intro v w' hx hd
      have e17 : v 17 = .slice (some ⟨b, o, none⟩) 4 cs := hd 17 (by kernel_rfl)
      have e15 : v 15 = .bool false := hd 15 (by kernel_rfl)
      simp only [List.take_succ_cons, List.take_zero, putF, Act.put, List.setIfInBounds_toArray, List.set_cons_zero, List.set_cons_succ, Nat.reduceAdd, Nat.zero_add]
      simp only [e17]
      simp only [e15]
      clear hd e17 e15
      rw [if_pos (by rfl)]
      intro K hK
      have qc := hx.cell hcell
      have qB := hx.cell hB
      have qA := hx.cell hA
      have HK := Lib.hid hK; clear hK
      go_simp
      refine (get_ok w' _ (s.take 4) (H4.out.keep hx) (by rw [List.length_take]; omega)).mono ?_
      rintro e w2 ⟨rfl, rfl⟩
      rw [HGS.out]
      exact HK.out _ _ (.inl (Ext.refl _)) rfl
    -- 19: slot 38 := Op.load 22 t1   [guarded: some (15, false)]
    refine ⟨?_, ?_⟩
    · intro v w' hx hd
      have e15 : v 15 = .bool false := hd 15 (by kernel_rfl)
      simp only [List.take_succ_cons, List.take_zero, putF, Act.put, List.setIfInBounds_toArray, List.set_cons_zero, List.set_cons_succ, Nat.reduceAdd, Nat.zero_add]
      simp only [e15]
      clear hd e15
      rw [if_pos (by rfl)]
      intro K hK
      have qc := hx.cell hcell
      have qB := hx.cell hB
      have qA := hx.cell hA
      have HK := Lib.hid hK; clear hK
      go_simp
      exact HK.out _ _ (.inl (Ext.refl _)) rfl
    -- 20: slot 39 := Op.move t3   [guarded: some (15, false)]
    refine ⟨?_, ?_⟩
    · intro v w' hx hd
      have e15 : v 15 = .bool false := hd 15 (by kernel_rfl)
      simp only [List.take_succ_cons, List.take_zero, putF, Act.put, List.setIfInBounds_toArray, List.set_cons_zero, List.set_cons_succ, Nat.reduceAdd, Nat.zero_add]
      simp only [e15]
      clear hd e15
      rw [if_pos (by rfl)]
      intro K hK
      have qc := hx.cell hcell
      have qB := hx.cell hB
      have qA := hx.cell hA
      have HK := Lib.hid hK; clear hK
      go_simp
      exact HK.out _ _ (.inl (Ext.refl _)) rfl
    -- 21: slot 40 := Op.indexAddr 22 t38 t39   [guarded: some (15, false)]
    refine ⟨?_, ?_⟩
    · intro v w' hx hd
      have e19 : v 19 = .slice (some ⟨bl, ol, none⟩) nl cl := hd 19 (by kernel_rfl)
      have e20 : v 20 = .int .i64 (at_ : Int) := hd 20 (by kernel_rfl)
      have e15 : v 15 = .bool false := hd 15 (by kernel_rfl)
      simp only [List.take_succ_cons, List.take_zero, putF, Act.put, List.setIfInBounds_toArray, List.set_cons_zero, List.set_cons_succ, Nat.reduceAdd, Nat.zero_add]
      simp only [e19]
      simp only [e20]
      simp only [e15]
      clear hd e19 e20 e15
      rw [if_pos (by rfl)]
      intro K hK
      have qc := hx.cell hcell
      have qB := hx.cell hB
      have qA := hx.cell hA
      have HK := Lib.hid hK; clear hK
      go_simp
      exact HK.out _ _ (.inl (Ext.refl _)) rfl
    -- 22: slot 41 := Op.load 35 t40   [guarded: some (15, false)]
    refine ⟨?_, ?_⟩
    · intro v w' hx hd
      have e21 : v 21 = .pointer (some ⟨bl, ol + at_, none⟩) := hd 21 (by kernel_rfl)
      have e15 : v 15 = .bool false := hd 15 (by kernel_rfl)
      simp only [List.take_succ_cons, List.take_zero, putF, Act.put, List.setIfInBounds_toArray, List.set_cons_zero, List.set_cons_succ, Nat.reduceAdd, Nat.zero_add]
      simp only [e21]
      simp only [e15]
      clear hd e21 e15
      rw [if_pos (by rfl)]
      intro K hK
      have qc := hx.cell hcell
      have qB := hx.cell hB
      have qA := hx.cell hA
      have HK := Lib.hid hK; clear hK
      go_simp
      exact HK.out _ _ (.inl (Ext.refl _)) rfl
    -- 23: slot 42 := Op.slice 35 t41 none (some (const (4:i64))) none   [guarded: some (15, false)]
    refine ⟨?_, ?_⟩
    · intro v w' hx hd
      have e22 : v 22 = .slice (some ⟨ba, oa, none⟩) na ca := hd 22 (by kernel_rfl)
      have e15 : v 15 = .bool false := hd 15 (by kernel_rfl)
      simp only [List.take_succ_cons, List.take_zero, putF, Act.put, List.setIfInBounds_toArray, List.set_cons_zero, List.set_cons_succ, Nat.reduceAdd, Nat.zero_add]
      simp only [e22]
      simp only [e15]
      clear hd e22 e15
      rw [if_pos (by rfl)]
      intro K hK
      have qc := hx.cell hcell
      have qB := hx.cell hB
      have qA := hx.cell hA
      have HK := Lib.hid hK; clear hK
      go_simp
      exact HK.out _ _ (.inl (Ext.refl _)) rfl
    -- 24: slot 43 := Op.call { value (Operand.func 71), args := #[t42], argTypes := #[35] }   [guarded: some (1
    refine ⟨?_, ?_⟩
    · intro v w' hx hd
      have e23 : v 23 = .slice (some ⟨ba, oa, none⟩) 4 ca := hd 23 (by kernel_rfl)
      have e15 : v 15 = .bool false := hd 15 (by kernel_rfl)
      simp only [List.take_succ_cons, List.take_zero, putF, Act.put, List.setIfInBounds_toArray, List.set_cons_zero, List.set_cons_succ, Nat.reduceAdd, Nat.zero_add]
      simp only [e23]
      simp only [e15]
      clear hd e23 e15
      rw [if_pos (by rfl)]
      intro K hK
      have qc := hx.cell hcell
      have qB := hx.cell hB
      have qA := hx.cell hA
      have HK := Lib.hid hK; clear hK
      go_simp
      refine (get_ok w' _ (s2.take 4) (HA4.out.keep hx) (by rw [List.length_take]; omega)).mono ?_
      rintro e w2 ⟨rfl, rfl⟩
      rw [HGA.out]
      exact HK.out _ _ (.inl (Ext.refl _)) rfl
    -- 25: slot 44 := Op.binOp BinOp.neq 95 t37 t43 95   [guarded: some (15, false)]
    refine ⟨?_, ?_⟩
    · intro v w' hx hd
      have e18 : v 18 = .int .u64 (gs : Int) := hd 18 (by kernel_rfl)
      have e24 : v 24 = .int .u64 (ga : Int) := hd 24 (by kernel_rfl)
      have e15 : v 15 = .bool false := hd 15 (by kernel_rfl)
      simp only [List.take_succ_cons, List.take_zero, putF, Act.put, List.setIfInBounds_toArray, List.set_cons_zero, List.set_cons_succ, Nat.reduceAdd, Nat.zero_add]
      simp only [e18]
      simp only [e24]
      simp only [e15]
      clear hd e18 e24 e15
      rw [if_pos (by rfl)]
      intro K hK
      have qc := hx.cell hcell
      have qB := hx.cell hB
      have qA := hx.cell hA
      have HK := Lib.hid hK; clear hK
      go_simp
      exact HK.out _ _ (.inl (Ext.refl _)) rfl
    -- 26: slot 45 := Op.pick t34 (const (Value.bool true)) t44
    refine ⟨?_, ?_⟩
    · intro v w' hx hd
      have e15 : v 15 = .bool false := hd 15 (by kernel_rfl)
      have e25 : v 25 = .bool false := hd 25 (by kernel_rfl)
      simp only [List.take_succ_cons, List.take_zero, putF, Act.put, List.setIfInBounds_toArray, List.set_cons_zero, List.set_cons_succ, Nat.reduceAdd, Nat.zero_add]
      simp only [e15]
      simp only [e25]
      clear hd e15 e25
      rw [if_pos (by rfl)]
      intro K hK
      have qc := hx.cell hcell
      have qB := hx.cell hB
      have qA := hx.cell hA
      have HK := Lib.hid hK; clear hK
      go_simp
      exact HK.out _ _ (.inl (Ext.refl _)) rfl
    -- 27: slot 46 := Op.move t45
    refine ⟨?_, ?_⟩
    · intro v w' hx hd
      have e26 : v 26 = .bool false := hd 26 (by kernel_rfl)
      simp only [List.take_succ_cons, List.take_zero, putF, Act.put, List.setIfInBounds_toArray, List.set_cons_zero, List.set_cons_succ, Nat.reduceAdd, Nat.zero_add]
      simp only [e26]
      clear hd e26
      rw [if_pos (by rfl)]
      intro K hK
      have qc := hx.cell hcell
      have qB := hx.cell hB
      have qA := hx.cell hA
      have HK := Lib.hid hK; clear hK
      go_simp
      exact HK.out _ _ (.inl (Ext.refl _)) rfl
    -- 28: slot 47 := Op.move t7   [guarded: some (27, false)]
    refine ⟨?_, ?_⟩
    · intro v w' hx hd
      have e27 : v 27 = .bool false := hd 27 (by kernel_rfl)
      simp only [List.take_succ_cons, List.take_zero, putF, Act.put, List.setIfInBounds_toArray, List.set_cons_zero, List.set_cons_succ, Nat.reduceAdd, Nat.zero_add]
      simp only [e27]
      clear hd e27
      rw [if_pos (by rfl)]
      intro K hK
      have qc := hx.cell hcell
      have qB := hx.cell hB
      have qA := hx.cell hA
      have HK := Lib.hid hK; clear hK
      go_simp
      exact HK.out _ _ (.inl (Ext.refl _)) rfl
    -- 29: slot 48 := Op.slice 35 t47 none (some (const (4:i64))) none   [guarded: some (27, false)]
    refine ⟨?_, ?_⟩
    · intro v w' hx hd
      have e28 : v 28 = .slice (some ⟨b, o, none⟩) ns cs := hd 28 (by kernel_rfl)
      have e27 : v 27 = .bool false := hd 27 (by kernel_rfl)
      simp only [List.take_succ_cons, List.take_zero, putF, Act.put, List.setIfInBounds_toArray, List.set_cons_zero, List.set_cons_succ, Nat.reduceAdd, Nat.zero_add]
      simp only [e28]
      simp only [e27]
      clear hd e28 e27
      rw [if_pos (by rfl)]
      intro K hK
      have qc := hx.cell hcell
      have qB := hx.cell hB
      have qA := hx.cell hA
      have HK := Lib.hid hK; clear hK
      go_simp
      exact HK.out _ _ (.inl (Ext.refl _)) rfl
    -- 30: slot 49 := Op.call { value (Operand.func 71), args := #[t48], argTypes := #[35] }   [guarded: some (2
    refine ⟨?_, ?_⟩
    · intro v w' hx hd
      have e29 : v 29 = .slice (some ⟨b, o, none⟩) 4 cs := hd 29 (by kernel_rfl)
      have e27 : v 27 = .bool false := hd 27 (by kernel_rfl)
      simp only [List.take_succ_cons, List.take_zero, putF, Act.put, List.setIfInBounds_toArray, List.set_cons_zero, List.set_cons_succ, Nat.reduceAdd, Nat.zero_add]
      simp only [e29]
      simp only [e27]
      clear hd e29 e27
      rw [if_pos (by rfl)]
      intro K hK
      have qc := hx.cell hcell
      have qB := hx.cell hB
      have qA := hx.cell hA
      have HK := Lib.hid hK; clear hK
      go_simp
      refine (get_ok w' _ (s.take 4) (H4.out.keep hx) (by rw [List.length_take]; omega)).mono ?_
      rintro e w2 ⟨rfl, rfl⟩
      rw [HGS.out]
      exact HK.out _ _ (.inl (Ext.refl _)) rfl
    -- 31: slot 50 := Op.move t4   [guarded: some (27, false)]
    refine ⟨?_, ?_⟩
    · intro v w' hx hd
      have e27 : v 27 = .bool false := hd 27 (by kernel_rfl)
      simp only [List.take_succ_cons, List.take_zero, putF, Act.put, List.setIfInBounds_toArray, List.set_cons_zero, List.set_cons_succ, Nat.reduceAdd, Nat.zero_add]
      simp only [e27]
      clear hd e27
      rw [if_pos (by rfl)]
      intro K hK
      have qc := hx.cell hcell
      have qB := hx.cell hB
      have qA := hx.cell hA
      have HK := Lib.hid hK; clear hK
      go_simp
      exact HK.out _ _ (.inl (Ext.refl _)) rfl
    -- 32: slot 51 := Op.binOp BinOp.lss 95 t49 t50 95   [guarded: some (27, false)]
    refine ⟨?_, ?_⟩
    · intro v w' hx hd
      have e30 : v 30 = .int .u64 (gs : Int) := hd 30 (by kernel_rfl)
      have e31 : v 31 = .int .u64 (last : Int) := hd 31 (by kernel_rfl)
      have e27 : v 27 = .bool false := hd 27 (by kernel_rfl)
      simp only [List.take_succ_cons, List.take_zero, putF, Act.put, List.setIfInBounds_toArray, List.set_cons_zero, List.set_cons_succ, Nat.reduceAdd, Nat.zero_add]
      simp only [e30]
      simp only [e31]
      simp only [e27]
      clear hd e30 e31 e27
      rw [if_pos (by rfl)]
      intro K hK
      have qc := hx.cell hcell
      have qB := hx.cell hB
      have qA := hx.cell hA
      have HK := Lib.hid hK; clear hK
      go_simp
      exact HK.out _ _ (.inl (Ext.refl _)) rfl
    -- 33: slot 52 := Op.pick t46 (const (Value.bool true)) t51
    refine ⟨?_, ?_⟩
    · intro v w' hx hd
      have e27 : v 27 = .bool false := hd 27 (by kernel_rfl)
      have e32 : v 32 = .bool (decide (gs < last)) := hd 32 (by kernel_rfl)
      simp only [List.take_succ_cons, List.take_zero, putF, Act.put, List.setIfInBounds_toArray, List.set_cons_zero, List.set_cons_succ, Nat.reduceAdd, Nat.zero_add]
      simp only [e27]
      simp only [e32]
      clear hd e27 e32
      rw [if_pos (by rfl)]
      intro K hK
      have qc := hx.cell hcell
      have qB := hx.cell hB
      have qA := hx.cell hA
      have HK := Lib.hid hK; clear hK
      go_simp
      exact HK.out _ _ (.inl (Ext.refl _)) rfl
    exact trivial
  case tail =>
    intro v w' hx hall
    simp only [List.drop_succ_cons, List.drop_zero, List.take_succ_cons, List.take_zero, putF, Act.put, List.setIfInBounds_toArray, List.set_cons_zero, List.set_cons_succ, Nat.reduceAdd, Nat.zero_add]
    have e33 : v 33 = .bool (decide (gs < last)) := hall 33 (by decide) (fun k hk => by simp at hk)
    simp only [e33]
    have HX := Lib.hid hx; clear hx
    clear hall e33
    exact HQ.out _ _ _ _ _ _ _ _ _ _ _ _ _ _ _ _ _ _ _ _ _ _ _ _ _ _ _ _ _ _ _ _ _ w' HX.out
end Go.Proofs.Ytpciankfpagnhaa
