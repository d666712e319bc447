/- Region 6 of record: does a sector go on with the record? -/
import Derived.Test.YtpciankfpagnhaaJ8
import Derived.Test.YtpciankfpagnhaaM8
import Derived.Test.YtpciankfpagnhaaD29a
namespace Go.Proofs.Ytpciankfpagnhaa
open Go.RowKit
noncomputable def code84_6 : Code := ((Try.f84.body.bind (regionOf 6)).getD .skip)
set_option maxRecDepth 100000 in
set_option maxHeartbeats 4000000 in
theorem reg84_6a {Q : Exit → Act → World → Prop} {S : Nat → Prop} (t0 t2 t3 t4 t5 t6 t9 t10 t11 t12 t13 t14 t15 t16 t17 t18 t19 t20 t21 t22 t23 t24 t25 t26 t27 t28 t29 t30 t31 t32 t33 t34 t35 t36 t37 t38 t39 t40 t41 t42 t43 t44 t45 t46 t47 t48 t49 t50 t51 t52 t53 t54 t55 t56 t57 t58 t59 t60 t61 t62 t63 t64 t65 t66 t67 t68 t69 t70 t71 : Value) (w1 : World) (n m at_ b o ns cs : Nat) (s : List UInt8)
    (hs : Bs S w1 (.slice (some ⟨b, o, none⟩) ns cs) s) (hm : m < 9223372036854775808) (hadd : (at_ : Int) + (n : Int) = (m : Int)) (hsl : s.length = 128) (hgc : goodS s m = false)
    
    (hQ : ∀ (u24 u25 u26 u27 u28 u29 u30 u31 u32 u33 u34 u35 u36 u37 u38 u39 u40 u41 u42 u43 u44 u45 u46 u47 u48 u49 u50 u51 u52 u53 u54 : Value) (wx : World), Ext w1 wx → Q .normal ⟨#[t0, .int .i64 (at_ : Int), t2, t3, t4, t5, t6, .int .i64 (n : Int), .slice (some ⟨b, o, none⟩) ns cs, t9, t10, t11, t12, t13, t14, t15, t16, t17, t18, t19, t20, t21, t22, t23, u24, u25, u26, u27, u28, u29, u30, u31, u32, u33, u34, u35, u36, u37, u38, u39, u40, u41, u42, u43, u44, u45, u46, u47, u48, u49, u50, u51, u52, u53, u54, .bool true, t56, t57, t58, t59, t60, t61, t62, t63, t64, t65, t66, t67, t68, t69, t70, t71], []⟩ wx) :
    Code.wp Try.prog code84_6 Q ⟨#[t0, .int .i64 (at_ : Int), t2, t3, t4, t5, t6, .int .i64 (n : Int), .slice (some ⟨b, o, none⟩) ns cs, t9, t10, t11, t12, t13, t14, t15, t16, t17, t18, t19, t20, t21, t22, t23, t24, t25, t26, t27, t28, t29, t30, t31, t32, t33, t34, t35, t36, t37, t38, t39, t40, t41, t42, t43, t44, t45, t46, t47, t48, t49, t50, t51, t52, t53, t54, t55, t56, t57, t58, t59, t60, t61, t62, t63, t64, t65, t66, t67, t68, t69, t70, t71], []⟩ w1 := by
  conv => arg 2; whnf
  have HQ := Lib.hid hQ; clear hQ
  have H := Lib.hid hs; clear hs
  have HGC := Lib.hid hgc; clear hgc
  have hl1 : 128 ≤ s.length := by omega
  have hwr : IntKind.i64.wrap (m : Int) = (m : Int) := wraps_i64 _ (by omega) (by omega)
  have hl2 : s.length ≤ 128 := by omega
  clear hsl
  refine wp_region_rg 32 (fun _ => none) (by kernel_rfl) (by kernel_rfl) (phi [fun v _ => v = .slice (some ⟨b, o, none⟩) ns cs,
      fun v _ => v = .int .i64 (at_ : Int),
      fun v _ => v = .int .i64 (n : Int),
      fun v _ => v = .int .i64 (m : Int),
      fun v _ => v = .bool false,
      fun v _ => v = .bool true,
      fun v _ => v = .bool true,
      fun v _ => v = undef,
      fun v _ => v = undef,
      fun v _ => v = undef,
      fun v _ => v = undef,
      fun v _ => v = undef,
      fun v _ => v = undef,
      fun v _ => v = undef,
      fun v _ => v = undef,
      fun v _ => v = .bool true,
      fun v _ => v = .bool true,
      fun v _ => v = undef,
      fun v _ => v = undef,
      fun v _ => v = undef,
      fun v _ => v = undef,
      fun v _ => v = undef,
      fun v _ => v = undef,
      fun v _ => v = undef,
      fun v _ => v = undef,
      fun v _ => v = undef,
      fun v _ => v = undef,
      fun v _ => v = undef,
      fun v _ => v = undef,
      fun v _ => v = undef,
      fun v _ => v = undef,
      fun v _ => v = .bool true]) (phi_stable ?stable) ?steps ?tail
  case stable =>
    exact List.forall_mem_cons.2 ⟨stab_eq _, List.forall_mem_cons.2 ⟨stab_eq _, List.forall_mem_cons.2 ⟨stab_eq _, List.forall_mem_cons.2 ⟨stab_eq _, List.forall_mem_cons.2 ⟨stab_eq _, List.forall_mem_cons.2 ⟨stab_eq _, List.forall_mem_cons.2 ⟨stab_eq _, List.forall_mem_cons.2 ⟨stab_eq _, List.forall_mem_cons.2 ⟨stab_eq _, List.forall_mem_cons.2 ⟨stab_eq _, List.forall_mem_cons.2 ⟨stab_eq _, List.forall_mem_cons.2 ⟨stab_eq _, List.forall_mem_cons.2 ⟨stab_eq _, List.forall_mem_cons.2 ⟨stab_eq _, List.forall_mem_cons.2 ⟨stab_eq _, List.forall_mem_cons.2 ⟨stab_eq _, List.forall_mem_cons.2 ⟨stab_eq _, List.forall_mem_cons.2 ⟨stab_eq _, List.forall_mem_cons.2 ⟨stab_eq _, List.forall_mem_cons.2 ⟨stab_eq _, List.forall_mem_cons.2 ⟨stab_eq _, List.forall_mem_cons.2 ⟨stab_eq _, List.forall_mem_cons.2 ⟨stab_eq _, List.forall_mem_cons.2 ⟨stab_eq _, List.forall_mem_cons.2 ⟨stab_eq _, List.forall_mem_cons.2 ⟨stab_eq _, List.forall_mem_cons.2 ⟨stab_eq _, List.forall_mem_cons.2 ⟨stab_eq _, List.forall_mem_cons.2 ⟨stab_eq _, List.forall_mem_cons.2 ⟨stab_eq _, List.forall_mem_cons.2 ⟨stab_eq _, List.forall_mem_cons.2 ⟨stab_eq _, fun _ h => by cases h⟩⟩⟩⟩⟩⟩⟩⟩⟩⟩⟩⟩⟩⟩⟩⟩⟩⟩⟩⟩⟩⟩⟩⟩⟩⟩⟩⟩⟩⟩⟩⟩
  case steps =>
    simp only [List.take_succ_cons, List.take_zero]
    -- 0: slot 24 := Op.move t8
    refine ⟨?_, ?_⟩
    · intro v w' hx hd
      simp only [List.take_succ_cons, List.take_zero, putF, Act.put, List.setIfInBounds_toArray, List.set_cons_zero, List.set_cons_succ, Nat.reduceAdd, Nat.zero_add]
      clear hd
      rw [if_pos (by rfl)]
      intro K hK
      have HK := Lib.hid hK; clear hK
      go_simp
      exact HK.out _ _ (.inl (Ext.refl _)) rfl
    -- 1: slot 25 := Op.move t1
    refine ⟨?_, ?_⟩
    · intro v w' hx hd
      simp only [List.take_succ_cons, List.take_zero, putF, Act.put, List.setIfInBounds_toArray, List.set_cons_zero, List.set_cons_succ, Nat.reduceAdd, Nat.zero_add]
      clear hd
      rw [if_pos (by rfl)]
      intro K hK
      have HK := Lib.hid hK; clear hK
      go_simp
      exact HK.out _ _ (.inl (Ext.refl _)) rfl
    -- 2: slot 26 := Op.move t7
    refine ⟨?_, ?_⟩
    · intro v w' hx hd
      simp only [List.take_succ_cons, List.take_zero, putF, Act.put, List.setIfInBounds_toArray, List.set_cons_zero, List.set_cons_succ, Nat.reduceAdd, Nat.zero_add]
      clear hd
      rw [if_pos (by rfl)]
      intro K hK
      have HK := Lib.hid hK; clear hK
      go_simp
      exact HK.out _ _ (.inl (Ext.refl _)) rfl
    -- 3: slot 27 := Op.binOp BinOp.add 3 t25 t26 3
    refine ⟨?_, ?_⟩
    · intro v w' hx hd
      have e1 : v 1 = .int .i64 (at_ : Int) := hd 1 (by kernel_rfl)
      have e2 : v 2 = .int .i64 (n : Int) := hd 2 (by kernel_rfl)
      simp only [List.take_succ_cons, List.take_zero, putF, Act.put, List.setIfInBounds_toArray, List.set_cons_zero, List.set_cons_succ, Nat.reduceAdd, Nat.zero_add]
      simp only [e1]
      simp only [e2]
      clear hd e1 e2
      rw [if_pos (by rfl)]
      intro K hK
      have HK := Lib.hid hK; clear hK
      go_simp
      exact HK.out _ _ (.inl (Ext.refl _)) rfl
    -- 4: slot 28 := Op.call { value (Operand.func 92), args := #[t24, t27], argTypes := #[35, 3] }
    refine ⟨?_, ?_⟩
    · intro v w' hx hd
      have e0 : v 0 = .slice (some ⟨b, o, none⟩) ns cs := hd 0 (by kernel_rfl)
      have e3 : v 3 = .int .i64 (m : Int) := hd 3 (by kernel_rfl)
      simp only [List.take_succ_cons, List.take_zero, putF, Act.put, List.setIfInBounds_toArray, List.set_cons_zero, List.set_cons_succ, Nat.reduceAdd, Nat.zero_add]
      simp only [e0]
      simp only [e3]
      clear hd e0 e3
      rw [if_pos (by rfl)]
      intro K hK
      have HK := Lib.hid hK; clear hK
      go_simp
      refine (refGood_ok w' _ s m (H.out.keep hx) hl1 hl2 hm).mono ?_
      rintro e w2 ⟨rfl, hx2⟩
      rw [HGC.out]
      exact HK.out _ _ (.inl hx2) rfl
    -- 5: slot 29 := Op.unOp UnOp.not 4 t28
    refine ⟨?_, ?_⟩
    · intro v w' hx hd
      have e4 : v 4 = .bool false := hd 4 (by kernel_rfl)
      simp only [List.take_succ_cons, List.take_zero, putF, Act.put, List.setIfInBounds_toArray, List.set_cons_zero, List.set_cons_succ, Nat.reduceAdd, Nat.zero_add]
      simp only [e4]
      clear hd e4
      rw [if_pos (by rfl)]
      intro K hK
      have HK := Lib.hid hK; clear hK
      go_simp
      exact HK.out _ _ (.inl (Ext.refl _)) rfl
    -- 6: slot 30 := Op.move t29
    refine ⟨?_, ?_⟩
    · intro v w' hx hd
      have e5 : v 5 = .bool true := hd 5 (by kernel_rfl)
      simp only [List.take_succ_cons, List.take_zero, putF, Act.put, List.setIfInBounds_toArray, List.set_cons_zero, List.set_cons_succ, Nat.reduceAdd, Nat.zero_add]
      simp only [e5]
      clear hd e5
      rw [if_pos (by rfl)]
      intro K hK
      have HK := Lib.hid hK; clear hK
      go_simp
      exact HK.out _ _ (.inl (Ext.refl _)) rfl
    -- 7: slot 31 := Op.move t8   [guarded: some (6, false)]
    refine ⟨?_, ?_⟩
    · intro v w' hx hd
      have e6 : v 6 = .bool true := hd 6 (by kernel_rfl)
      simp only [List.take_succ_cons, List.take_zero, putF, Act.put, List.setIfInBounds_toArray, List.set_cons_zero, List.set_cons_succ, Nat.reduceAdd, Nat.zero_add]
      simp only [e6]
      clear hd e6
      rw [if_neg (ne_true_of_eq_false (by rfl))]
      exact rfl
    -- 8: slot 32 := Op.indexAddr 35 t31 (const (10:i64))   [guarded: some (6, false)]
    refine ⟨?_, ?_⟩
    · intro v w' hx hd
      have e6 : v 6 = .bool true := hd 6 (by kernel_rfl)
      simp only [List.take_succ_cons, List.take_zero, putF, Act.put, List.setIfInBounds_toArray, List.set_cons_zero, List.set_cons_succ, Nat.reduceAdd, Nat.zero_add]
      simp only [e6]
      clear hd e6
      rw [if_neg (ne_true_of_eq_false (by rfl))]
      exact rfl
    -- 9: slot 33 := Op.load 5 t32   [guarded: some (6, false)]
    refine ⟨?_, ?_⟩
    · intro v w' hx hd
      have e6 : v 6 = .bool true := hd 6 (by kernel_rfl)
      simp only [List.take_succ_cons, List.take_zero, putF, Act.put, List.setIfInBounds_toArray, List.set_cons_zero, List.set_cons_succ, Nat.reduceAdd, Nat.zero_add]
      simp only [e6]
      clear hd e6
      rw [if_neg (ne_true_of_eq_false (by rfl))]
      exact rfl
    -- 10: slot 34 := Op.binOp BinOp.rem 5 t33 (const (2:u8)) 5   [guarded: some (6, false)]
    refine ⟨?_, ?_⟩
    · intro v w' hx hd
      have e6 : v 6 = .bool true := hd 6 (by kernel_rfl)
      simp only [List.take_succ_cons, List.take_zero, putF, Act.put, List.setIfInBounds_toArray, List.set_cons_zero, List.set_cons_succ, Nat.reduceAdd, Nat.zero_add]
      simp only [e6]
      clear hd e6
      rw [if_neg (ne_true_of_eq_false (by rfl))]
      exact rfl
    -- 11: slot 35 := Op.binOp BinOp.eql 5 t34 (const (1:u8)) 5   [guarded: some (6, false)]
    refine ⟨?_, ?_⟩
    · intro v w' hx hd
      have e6 : v 6 = .bool true := hd 6 (by kernel_rfl)
      simp only [List.take_succ_cons, List.take_zero, putF, Act.put, List.setIfInBounds_toArray, List.set_cons_zero, List.set_cons_succ, Nat.reduceAdd, Nat.zero_add]
      simp only [e6]
      clear hd e6
      rw [if_neg (ne_true_of_eq_false (by rfl))]
      exact rfl
    -- 12: slot 36 := Op.move t7   [guarded: some (6, false)]
    refine ⟨?_, ?_⟩
    · intro v w' hx hd
      have e6 : v 6 = .bool true := hd 6 (by kernel_rfl)
      simp only [List.take_succ_cons, List.take_zero, putF, Act.put, List.setIfInBounds_toArray, List.set_cons_zero, List.set_cons_succ, Nat.reduceAdd, Nat.zero_add]
      simp only [e6]
      clear hd e6
      rw [if_neg (ne_true_of_eq_false (by rfl))]
      exact rfl
    -- 13: slot 37 := Op.binOp BinOp.eql 3 t36 (const (0:i64)) 3   [guarded: some (6, false)]
    refine ⟨?_, ?_⟩
    · intro v w' hx hd
      have e6 : v 6 = .bool true := hd 6 (by kernel_rfl)
      simp only [List.take_succ_cons, List.take_zero, putF, Act.put, List.setIfInBounds_toArray, List.set_cons_zero, List.set_cons_succ, Nat.reduceAdd, Nat.zero_add]
      simp only [e6]
      clear hd e6
      rw [if_neg (ne_true_of_eq_false (by rfl))]
      exact rfl
    -- 14: slot 38 := Op.binOp BinOp.neq 4 t35 t37 4   [guarded: some (6, false)]
    refine ⟨?_, ?_⟩
    · intro v w' hx hd
      have e6 : v 6 = .bool true := hd 6 (by kernel_rfl)
      simp only [List.take_succ_cons, List.take_zero, putF, Act.put, List.setIfInBounds_toArray, List.set_cons_zero, List.set_cons_succ, Nat.reduceAdd, Nat.zero_add]
      simp only [e6]
      clear hd e6
      rw [if_neg (ne_true_of_eq_false (by rfl))]
      exact rfl
    -- 15: slot 39 := Op.pick t30 (const (Value.bool true)) t38
    refine ⟨?_, ?_⟩
    · intro v w' hx hd
      have e6 : v 6 = .bool true := hd 6 (by kernel_rfl)
      have e14 : v 14 = undef := hd 14 (by kernel_rfl)
      simp only [List.take_succ_cons, List.take_zero, putF, Act.put, List.setIfInBounds_toArray, List.set_cons_zero, List.set_cons_succ, Nat.reduceAdd, Nat.zero_add]
      simp only [e6]
      simp only [e14]
      clear hd e6 e14
      rw [if_pos (by rfl)]
      intro K hK
      have HK := Lib.hid hK; clear hK
      go_simp
      exact HK.out _ _ (.inl (Ext.refl _)) rfl
    -- 16: slot 40 := Op.move t39
    refine ⟨?_, ?_⟩
    · intro v w' hx hd
      have e15 : v 15 = .bool true := hd 15 (by kernel_rfl)
      simp only [List.take_succ_cons, List.take_zero, putF, Act.put, List.setIfInBounds_toArray, List.set_cons_zero, List.set_cons_succ, Nat.reduceAdd, Nat.zero_add]
      simp only [e15]
      clear hd e15
      rw [if_pos (by rfl)]
      intro K hK
      have HK := Lib.hid hK; clear hK
      go_simp
      exact HK.out _ _ (.inl (Ext.refl _)) rfl
    -- 17: slot 41 := Op.move t7   [guarded: some (16, false)]
    refine ⟨?_, ?_⟩
    · intro v w' hx hd
      have e16 : v 16 = .bool true := hd 16 (by kernel_rfl)
      simp only [List.take_succ_cons, List.take_zero, putF, Act.put, List.setIfInBounds_toArray, List.set_cons_zero, List.set_cons_succ, Nat.reduceAdd, Nat.zero_add]
      simp only [e16]
      clear hd e16
      rw [if_neg (ne_true_of_eq_false (by rfl))]
      exact rfl
    -- 18: slot 42 := Op.binOp BinOp.gtr 3 t41 (const (0:i64)) 3   [guarded: some (16, false)]
    refine ⟨?_, ?_⟩
    · intro v w' hx hd
      have e16 : v 16 = .bool true := hd 16 (by kernel_rfl)
      simp only [List.take_succ_cons, List.take_zero, putF, Act.put, List.setIfInBounds_toArray, List.set_cons_zero, List.set_cons_succ, Nat.reduceAdd, Nat.zero_add]
      simp only [e16]
      clear hd e16
      rw [if_neg (ne_true_of_eq_false (by rfl))]
      exact rfl
    -- 19: slot 43 := Op.move t42   [guarded: some (16, false)]
    refine ⟨?_, ?_⟩
    · intro v w' hx hd
      have e16 : v 16 = .bool true := hd 16 (by kernel_rfl)
      simp only [List.take_succ_cons, List.take_zero, putF, Act.put, List.setIfInBounds_toArray, List.set_cons_zero, List.set_cons_succ, Nat.reduceAdd, Nat.zero_add]
      simp only [e16]
      clear hd e16
      rw [if_neg (ne_true_of_eq_false (by rfl))]
      exact rfl
    -- 20: slot 44 := Op.move t8   [guarded: some (19, true)]
    refine ⟨?_, ?_⟩
    · intro v w' hx hd
      have e19 : v 19 = undef := hd 19 (by kernel_rfl)
      simp only [List.take_succ_cons, List.take_zero, putF, Act.put, List.setIfInBounds_toArray, List.set_cons_zero, List.set_cons_succ, Nat.reduceAdd, Nat.zero_add]
      simp only [e19]
      clear hd e19
      rw [if_neg (ne_true_of_eq_false (by rfl))]
      exact rfl
    -- 21: slot 45 := Op.slice 35 t44 none (some (const (4:i64))) none   [guarded: some (19, true)]
    refine ⟨?_, ?_⟩
    · intro v w' hx hd
      have e19 : v 19 = undef := hd 19 (by kernel_rfl)
      simp only [List.take_succ_cons, List.take_zero, putF, Act.put, List.setIfInBounds_toArray, List.set_cons_zero, List.set_cons_succ, Nat.reduceAdd, Nat.zero_add]
      simp only [e19]
      clear hd e19
      rw [if_neg (ne_true_of_eq_false (by rfl))]
      exact rfl
    -- 22: slot 46 := Op.call { value (Operand.func 85), args := #[t45], argTypes := #[35] }   [guarded: some (1
    refine ⟨?_, ?_⟩
    · intro v w' hx hd
      have e19 : v 19 = undef := hd 19 (by kernel_rfl)
      simp only [List.take_succ_cons, List.take_zero, putF, Act.put, List.setIfInBounds_toArray, List.set_cons_zero, List.set_cons_succ, Nat.reduceAdd, Nat.zero_add]
      simp only [e19]
      clear hd e19
      rw [if_neg (ne_true_of_eq_false (by rfl))]
      exact rfl
    -- 23: slot 47 := Op.move t0   [guarded: some (19, true)]
    refine ⟨?_, ?_⟩
    · intro v w' hx hd
      have e19 : v 19 = undef := hd 19 (by kernel_rfl)
      simp only [List.take_succ_cons, List.take_zero, putF, Act.put, List.setIfInBounds_toArray, List.set_cons_zero, List.set_cons_succ, Nat.reduceAdd, Nat.zero_add]
      simp only [e19]
      clear hd e19
      rw [if_neg (ne_true_of_eq_false (by rfl))]
      exact rfl
    -- 24: slot 48 := Op.move t1   [guarded: some (19, true)]
    refine ⟨?_, ?_⟩
    · intro v w' hx hd
      have e19 : v 19 = undef := hd 19 (by kernel_rfl)
      simp only [List.take_succ_cons, List.take_zero, putF, Act.put, List.setIfInBounds_toArray, List.set_cons_zero, List.set_cons_succ, Nat.reduceAdd, Nat.zero_add]
      simp only [e19]
      clear hd e19
      rw [if_neg (ne_true_of_eq_false (by rfl))]
      exact rfl
    -- 25: slot 49 := Op.indexAddr 22 t47 t48   [guarded: some (19, true)]
    refine ⟨?_, ?_⟩
    · intro v w' hx hd
      have e19 : v 19 = undef := hd 19 (by kernel_rfl)
      simp only [List.take_succ_cons, List.take_zero, putF, Act.put, List.setIfInBounds_toArray, List.set_cons_zero, List.set_cons_succ, Nat.reduceAdd, Nat.zero_add]
      simp only [e19]
      clear hd e19
      rw [if_neg (ne_true_of_eq_false (by rfl))]
      exact rfl
    -- 26: slot 50 := Op.load 35 t49   [guarded: some (19, true)]
    refine ⟨?_, ?_⟩
    · intro v w' hx hd
      have e19 : v 19 = undef := hd 19 (by kernel_rfl)
      simp only [List.take_succ_cons, List.take_zero, putF, Act.put, List.setIfInBounds_toArray, List.set_cons_zero, List.set_cons_succ, Nat.reduceAdd, Nat.zero_add]
      simp only [e19]
      clear hd e19
      rw [if_neg (ne_true_of_eq_false (by rfl))]
      exact rfl
    -- 27: slot 51 := Op.slice 35 t50 none (some (const (4:i64))) none   [guarded: some (19, true)]
    refine ⟨?_, ?_⟩
    · intro v w' hx hd
      have e19 : v 19 = undef := hd 19 (by kernel_rfl)
      simp only [List.take_succ_cons, List.take_zero, putF, Act.put, List.setIfInBounds_toArray, List.set_cons_zero, List.set_cons_succ, Nat.reduceAdd, Nat.zero_add]
      simp only [e19]
      clear hd e19
      rw [if_neg (ne_true_of_eq_false (by rfl))]
      exact rfl
    -- 28: slot 52 := Op.call { value (Operand.func 85), args := #[t51], argTypes := #[35] }   [guarded: some (1
    refine ⟨?_, ?_⟩
    · intro v w' hx hd
      have e19 : v 19 = undef := hd 19 (by kernel_rfl)
      simp only [List.take_succ_cons, List.take_zero, putF, Act.put, List.setIfInBounds_toArray, List.set_cons_zero, List.set_cons_succ, Nat.reduceAdd, Nat.zero_add]
      simp only [e19]
      clear hd e19
      rw [if_neg (ne_true_of_eq_false (by rfl))]
      exact rfl
    -- 29: slot 53 := Op.binOp BinOp.neq 95 t46 t52 95   [guarded: some (19, true)]
    refine ⟨?_, ?_⟩
    · intro v w' hx hd
      have e19 : v 19 = undef := hd 19 (by kernel_rfl)
      simp only [List.take_succ_cons, List.take_zero, putF, Act.put, List.setIfInBounds_toArray, List.set_cons_zero, List.set_cons_succ, Nat.reduceAdd, Nat.zero_add]
      simp only [e19]
      clear hd e19
      rw [if_neg (ne_true_of_eq_false (by rfl))]
      exact rfl
    -- 30: slot 54 := Op.pick t43 t53 (const (Value.bool false))   [guarded: some (16, false)]
    refine ⟨?_, ?_⟩
    · intro v w' hx hd
      have e16 : v 16 = .bool true := hd 16 (by kernel_rfl)
      simp only [List.take_succ_cons, List.take_zero, putF, Act.put, List.setIfInBounds_toArray, List.set_cons_zero, List.set_cons_succ, Nat.reduceAdd, Nat.zero_add]
      simp only [e16]
      clear hd e16
      rw [if_neg (ne_true_of_eq_false (by rfl))]
      exact rfl
    -- 31: slot 55 := Op.pick t40 (const (Value.bool true)) t54
    refine ⟨?_, ?_⟩
    · intro v w' hx hd
      have e16 : v 16 = .bool true := hd 16 (by kernel_rfl)
      have e30 : v 30 = undef := hd 30 (by kernel_rfl)
      simp only [List.take_succ_cons, List.take_zero, putF, Act.put, List.setIfInBounds_toArray, List.set_cons_zero, List.set_cons_succ, Nat.reduceAdd, Nat.zero_add]
      simp only [e16]
      simp only [e30]
      clear hd e16 e30
      rw [if_pos (by rfl)]
      intro K hK
      have HK := Lib.hid hK; clear hK
      go_simp
      exact HK.out _ _ (.inl (Ext.refl _)) rfl
    exact trivial
  case tail =>
    intro v w' hx hall
    simp only [List.drop_succ_cons, List.drop_zero, List.take_succ_cons, List.take_zero, putF, Act.put, List.setIfInBounds_toArray, List.set_cons_zero, List.set_cons_succ, Nat.reduceAdd, Nat.zero_add]
    have e31 : v 31 = .bool true := hall 31 (by decide) (fun k hk => by simp at hk)
    simp only [e31]
    have HX := Lib.hid hx; clear hx
    clear hall e31
    exact HQ.out _ _ _ _ _ _ _ _ _ _ _ _ _ _ _ _ _ _ _ _ _ _ _ _ _ _ _ _ _ _ _ w' HX.out
set_option maxRecDepth 100000 in
set_option maxHeartbeats 4000000 in
theorem reg84_6b {Q : Exit → Act → World → Prop} {S : Nat → Prop} (t0 t2 t3 t4 t5 t6 t9 t10 t11 t12 t13 t14 t15 t16 t17 t18 t19 t20 t21 t22 t23 t24 t25 t26 t27 t28 t29 t30 t31 t32 t33 t34 t35 t36 t37 t38 t39 t40 t41 t42 t43 t44 t45 t46 t47 t48 t49 t50 t51 t52 t53 t54 t55 t56 t57 t58 t59 t60 t61 t62 t63 t64 t65 t66 t67 t68 t69 t70 t71 : Value) (w1 : World) (n m at_ b o ns cs : Nat) (x : UInt8) (bg fs : Bool) (s : List UInt8)
    (hs : Bs S w1 (.slice (some ⟨b, o, none⟩) ns cs) s) (hm : m < 9223372036854775808) (hadd : (at_ : Int) + (n : Int) = (m : Int)) (hsl : s.length = 128) (hgc : goodS s m = true)
    (hns : ns = 128) (hcell : w1.cell? ⟨b, o + 10, none⟩ = some (.int .u8 (x.toNat : Int))) (hbg : ((x.toNat : Int) % 2 == 1) = bg) (hfs : ((n : Int) == 0) = fs) (hc2 : (bg == fs) = false)
    (hQ : ∀ (u24 u25 u26 u27 u28 u29 u30 u31 u32 u33 u34 u35 u36 u37 u38 u39 u40 u41 u42 u43 u44 u45 u46 u47 u48 u49 u50 u51 u52 u53 u54 : Value) (wx : World), Ext w1 wx → Q .normal ⟨#[t0, .int .i64 (at_ : Int), t2, t3, t4, t5, t6, .int .i64 (n : Int), .slice (some ⟨b, o, none⟩) ns cs, t9, t10, t11, t12, t13, t14, t15, t16, t17, t18, t19, t20, t21, t22, t23, u24, u25, u26, u27, u28, u29, u30, u31, u32, u33, u34, u35, u36, u37, u38, u39, u40, u41, u42, u43, u44, u45, u46, u47, u48, u49, u50, u51, u52, u53, u54, .bool true, t56, t57, t58, t59, t60, t61, t62, t63, t64, t65, t66, t67, t68, t69, t70, t71], []⟩ wx) :
    Code.wp Try.prog code84_6 Q ⟨#[t0, .int .i64 (at_ : Int), t2, t3, t4, t5, t6, .int .i64 (n : Int), .slice (some ⟨b, o, none⟩) ns cs, t9, t10, t11, t12, t13, t14, t15, t16, t17, t18, t19, t20, t21, t22, t23, t24, t25, t26, t27, t28, t29, t30, t31, t32, t33, t34, t35, t36, t37, t38, t39, t40, t41, t42, t43, t44, t45, t46, t47, t48, t49, t50, t51, t52, t53, t54, t55, t56, t57, t58, t59, t60, t61, t62, t63, t64, t65, t66, t67, t68, t69, t70, t71], []⟩ w1 := by
  conv => arg 2; whnf
  have HQ := Lib.hid hQ; clear hQ
  have H := Lib.hid hs; clear hs
  have HGC := Lib.hid hgc; clear hgc
  have hl1 : 128 ≤ s.length := by omega
  have hwr : IntKind.i64.wrap (m : Int) = (m : Int) := wraps_i64 _ (by omega) (by omega)
  have hl2 : s.length ≤ 128 := by omega
  clear hsl
  have h10 : (10 : Int) < ns := by omega
  clear hns
  refine wp_region_rg 32 (fun _ => none) (by kernel_rfl) (by kernel_rfl) (phi [fun v _ => v = .slice (some ⟨b, o, none⟩) ns cs,
      fun v _ => v = .int .i64 (at_ : Int),
      fun v _ => v = .int .i64 (n : Int),
      fun v _ => v = .int .i64 (m : Int),
      fun v _ => v = .bool true,
      fun v _ => v = .bool false,
      fun v _ => v = .bool false,
      fun v _ => v = .slice (some ⟨b, o, none⟩) ns cs,
      fun v _ => v = .pointer (some ⟨b, o + 10, none⟩),
      fun v _ => v = .int .u8 (x.toNat : Int),
      fun v _ => v = .int .u8 ((x.toNat : Int) % 2),
      fun v _ => v = .bool bg,
      fun v _ => v = .int .i64 (n : Int),
      fun v _ => v = .bool fs,
      fun v _ => v = .bool true,
      fun v _ => v = .bool true,
      fun v _ => v = .bool true,
      fun v _ => v = undef,
      fun v _ => v = undef,
      fun v _ => v = undef,
      fun v _ => v = undef,
      fun v _ => v = undef,
      fun v _ => v = undef,
      fun v _ => v = undef,
      fun v _ => v = undef,
      fun v _ => v = undef,
      fun v _ => v = undef,
      fun v _ => v = undef,
      fun v _ => v = undef,
      fun v _ => v = undef,
      fun v _ => v = undef,
      fun v _ => v = .bool true]) (phi_stable ?stable) ?steps ?tail
  case stable =>
    exact List.forall_mem_cons.2 ⟨stab_eq _, List.forall_mem_cons.2 ⟨stab_eq _, List.forall_mem_cons.2 ⟨stab_eq _, List.forall_mem_cons.2 ⟨stab_eq _, List.forall_mem_cons.2 ⟨stab_eq _, List.forall_mem_cons.2 ⟨stab_eq _, List.forall_mem_cons.2 ⟨stab_eq _, List.forall_mem_cons.2 ⟨stab_eq _, List.forall_mem_cons.2 ⟨stab_eq _, List.forall_mem_cons.2 ⟨stab_eq _, List.forall_mem_cons.2 ⟨stab_eq _, List.forall_mem_cons.2 ⟨stab_eq _, List.forall_mem_cons.2 ⟨stab_eq _, List.forall_mem_cons.2 ⟨stab_eq _, List.forall_mem_cons.2 ⟨stab_eq _, List.forall_mem_cons.2 ⟨stab_eq _, List.forall_mem_cons.2 ⟨stab_eq _, List.forall_mem_cons.2 ⟨stab_eq _, List.forall_mem_cons.2 ⟨stab_eq _, List.forall_mem_cons.2 ⟨stab_eq _, List.forall_mem_cons.2 ⟨stab_eq _, List.forall_mem_cons.2 ⟨stab_eq _, List.forall_mem_cons.2 ⟨stab_eq _, List.forall_mem_cons.2 ⟨stab_eq _, List.forall_mem_cons.2 ⟨stab_eq _, List.forall_mem_cons.2 ⟨stab_eq _, List.forall_mem_cons.2 ⟨stab_eq _, List.forall_mem_cons.2 ⟨stab_eq _, List.forall_mem_cons.2 ⟨stab_eq _, List.forall_mem_cons.2 ⟨stab_eq _, List.forall_mem_cons.2 ⟨stab_eq _, List.forall_mem_cons.2 ⟨stab_eq _, fun _ h => by cases h⟩⟩⟩⟩⟩⟩⟩⟩⟩⟩⟩⟩⟩⟩⟩⟩⟩⟩⟩⟩⟩⟩⟩⟩⟩⟩⟩⟩⟩⟩⟩⟩
  case steps =>
    simp only [List.take_succ_cons, List.take_zero]
    -- 0: slot 24 := Op.move t8
    refine ⟨?_, ?_⟩
    · intro v w' hx hd
      simp only [List.take_succ_cons, List.take_zero, putF, Act.put, List.setIfInBounds_toArray, List.set_cons_zero, List.set_cons_succ, Nat.reduceAdd, Nat.zero_add]
      clear hd
      rw [if_pos (by rfl)]
      intro K hK
      have qc := hx.cell hcell
      have HK := Lib.hid hK; clear hK
      go_simp
      exact HK.out _ _ (.inl (Ext.refl _)) rfl
    -- 1: slot 25 := Op.move t1
    refine ⟨?_, ?_⟩
    · intro v w' hx hd
      simp only [List.take_succ_cons, List.take_zero, putF, Act.put, List.setIfInBounds_toArray, List.set_cons_zero, List.set_cons_succ, Nat.reduceAdd, Nat.zero_add]
      clear hd
      rw [if_pos (by rfl)]
      intro K hK
      have qc := hx.cell hcell
      have HK := Lib.hid hK; clear hK
      go_simp
      exact HK.out _ _ (.inl (Ext.refl _)) rfl
    -- 2: slot 26 := Op.move t7
    refine ⟨?_, ?_⟩
    · intro v w' hx hd
      simp only [List.take_succ_cons, List.take_zero, putF, Act.put, List.setIfInBounds_toArray, List.set_cons_zero, List.set_cons_succ, Nat.reduceAdd, Nat.zero_add]
      clear hd
      rw [if_pos (by rfl)]
      intro K hK
      have qc := hx.cell hcell
      have HK := Lib.hid hK; clear hK
      go_simp
      exact HK.out _ _ (.inl (Ext.refl _)) rfl
    -- 3: slot 27 := Op.binOp BinOp.add 3 t25 t26 3
    refine ⟨?_, ?_⟩
    · intro v w' hx hd
      have e1 : v 1 = .int .i64 (at_ : Int) := hd 1 (by kernel_rfl)
      have e2 : v 2 = .int .i64 (n : Int) := hd 2 (by kernel_rfl)
      simp only [List.take_succ_cons, List.take_zero, putF, Act.put, List.setIfInBounds_toArray, List.set_cons_zero, List.set_cons_succ, Nat.reduceAdd, Nat.zero_add]
      simp only [e1]
      simp only [e2]
      clear hd e1 e2
      rw [if_pos (by rfl)]
      intro K hK
      have qc := hx.cell hcell
      have HK := Lib.hid hK; clear hK
      go_simp
      exact HK.out _ _ (.inl (Ext.refl _)) rfl
    -- 4: slot 28 := Op.call { value (Operand.func 92), args := #[t24, t27], argTypes := #[35, 3] }
    refine ⟨?_, ?_⟩
    · intro v w' hx hd
      have e0 : v 0 = .slice (some ⟨b, o, none⟩) ns cs := hd 0 (by kernel_rfl)
      have e3 : v 3 = .int .i64 (m : Int) := hd 3 (by kernel_rfl)
      simp only [List.take_succ_cons, List.take_zero, putF, Act.put, List.setIfInBounds_toArray, List.set_cons_zero, List.set_cons_succ, Nat.reduceAdd, Nat.zero_add]
      simp only [e0]
      simp only [e3]
      clear hd e0 e3
      rw [if_pos (by rfl)]
      intro K hK
      have qc := hx.cell hcell
      have HK := Lib.hid hK; clear hK
      go_simp
      refine (refGood_ok w' _ s m (H.out.keep hx) hl1 hl2 hm).mono ?_
      rintro e w2 ⟨rfl, hx2⟩
      rw [HGC.out]
      exact HK.out _ _ (.inl hx2) rfl
    -- 5: slot 29 := Op.unOp UnOp.not 4 t28
    refine ⟨?_, ?_⟩
    · intro v w' hx hd
      have e4 : v 4 = .bool true := hd 4 (by kernel_rfl)
      simp only [List.take_succ_cons, List.take_zero, putF, Act.put, List.setIfInBounds_toArray, List.set_cons_zero, List.set_cons_succ, Nat.reduceAdd, Nat.zero_add]
      simp only [e4]
      clear hd e4
      rw [if_pos (by rfl)]
      intro K hK
      have qc := hx.cell hcell
      have HK := Lib.hid hK; clear hK
      go_simp
      exact HK.out _ _ (.inl (Ext.refl _)) rfl
    -- 6: slot 30 := Op.move t29
    refine ⟨?_, ?_⟩
    · intro v w' hx hd
      have e5 : v 5 = .bool false := hd 5 (by kernel_rfl)
      simp only [List.take_succ_cons, List.take_zero, putF, Act.put, List.setIfInBounds_toArray, List.set_cons_zero, List.set_cons_succ, Nat.reduceAdd, Nat.zero_add]
      simp only [e5]
      clear hd e5
      rw [if_pos (by rfl)]
      intro K hK
      have qc := hx.cell hcell
      have HK := Lib.hid hK; clear hK
      go_simp
      exact HK.out _ _ (.inl (Ext.refl _)) rfl
    -- 7: slot 31 := Op.move t8   [guarded: some (6, false)]
    refine ⟨?_, ?_⟩
    · intro v w' hx hd
      have e6 : v 6 = .bool false := hd 6 (by kernel_rfl)
      simp only [List.take_succ_cons, List.take_zero, putF, Act.put, List.setIfInBounds_toArray, List.set_cons_zero, List.set_cons_succ, Nat.reduceAdd, Nat.zero_add]
      simp only [e6]
      clear hd e6
      rw [if_pos (by rfl)]
      intro K hK
      have qc := hx.cell hcell
      have HK := Lib.hid hK; clear hK
      go_simp
      exact HK.out _ _ (.inl (Ext.refl _)) rfl
    -- 8: slot 32 := Op.indexAddr 35 t31 (const (10:i64))   [guarded: some (6, false)]
    refine ⟨?_, ?_⟩
    · intro v w' hx hd
      have e7 : v 7 = .slice (some ⟨b, o, none⟩) ns cs := hd 7 (by kernel_rfl)
      have e6 : v 6 = .bool false := hd 6 (by kernel_rfl)
      simp only [List.take_succ_cons, List.take_zero, putF, Act.put, List.setIfInBounds_toArray, List.set_cons_zero, List.set_cons_succ, Nat.reduceAdd, Nat.zero_add]
      simp only [e7]
      simp only [e6]
      clear hd e7 e6
      rw [if_pos (by rfl)]
      intro K hK
      have qc := hx.cell hcell
      have HK := Lib.hid hK; clear hK
      go_simp
      exact HK.out _ _ (.inl (Ext.refl _)) rfl
    -- 9: slot 33 := Op.load 5 t32   [guarded: some (6, false)]
    refine ⟨?_, ?_⟩
    · intro v w' hx hd
      have e8 : v 8 = .pointer (some ⟨b, o + 10, none⟩) := hd 8 (by kernel_rfl)
      have e6 : v 6 = .bool false := hd 6 (by kernel_rfl)
      simp only [List.take_succ_cons, List.take_zero, putF, Act.put, List.setIfInBounds_toArray, List.set_cons_zero, List.set_cons_succ, Nat.reduceAdd, Nat.zero_add]
      simp only [e8]
      simp only [e6]
      clear hd e8 e6
      rw [if_pos (by rfl)]
      intro K hK
      have qc := hx.cell hcell
      have HK := Lib.hid hK; clear hK
      go_simp
      exact HK.out _ _ (.inl (Ext.refl _)) rfl
    -- 10: slot 34 := Op.binOp BinOp.rem 5 t33 (const (2:u8)) 5   [guarded: some (6, false)]
    refine ⟨?_, ?_⟩
    · intro v w' hx hd
      have e9 : v 9 = .int .u8 (x.toNat : Int) := hd 9 (by kernel_rfl)
      have e6 : v 6 = .bool false := hd 6 (by kernel_rfl)
      simp only [List.take_succ_cons, List.take_zero, putF, Act.put, List.setIfInBounds_toArray, List.set_cons_zero, List.set_cons_succ, Nat.reduceAdd, Nat.zero_add]
      simp only [e9]
      simp only [e6]
      clear hd e9 e6
      rw [if_pos (by rfl)]
      intro K hK
      have qc := hx.cell hcell
      have HK := Lib.hid hK; clear hK
      go_simp
      exact HK.out _ _ (.inl (Ext.refl _)) rfl
    -- 11: slot 35 := Op.binOp BinOp.eql 5 t34 (const (1:u8)) 5   [guarded: some (6, false)]
    refine ⟨?_, ?_⟩
    · intro v w' hx hd
      have e10 : v 10 = .int .u8 ((x.toNat : Int) % 2) := hd 10 (by kernel_rfl)
      have e6 : v 6 = .bool false := hd 6 (by kernel_rfl)
      simp only [List.take_succ_cons, List.take_zero, putF, Act.put, List.setIfInBounds_toArray, List.set_cons_zero, List.set_cons_succ, Nat.reduceAdd, Nat.zero_add]
      simp only [e10]
      simp only [e6]
      clear hd e10 e6
      rw [if_pos (by rfl)]
      intro K hK
      have qc := hx.cell hcell
      have HK := Lib.hid hK; clear hK
      go_simp
      exact HK.out _ _ (.inl (Ext.refl _)) rfl
    -- 12: slot 36 := Op.move t7   [guarded: some (6, false)]
    refine ⟨?_, ?_⟩
    · intro v w' hx hd
      have e6 : v 6 = .bool false := hd 6 (by kernel_rfl)
      simp only [List.take_succ_cons, List.take_zero, putF, Act.put, List.setIfInBounds_toArray, List.set_cons_zero, List.set_cons_succ, Nat.reduceAdd, Nat.zero_add]
      simp only [e6]
      clear hd e6
      rw [if_pos (by rfl)]
      intro K hK
      have qc := hx.cell hcell
      have HK := Lib.hid hK; clear hK
      go_simp
      exact HK.out _ _ (.inl (Ext.refl _)) rfl
    -- 13: slot 37 := Op.binOp BinOp.eql 3 t36 (const (0:i64)) 3   [guarded: some (6, false)]
    refine ⟨?_, ?_⟩
    · intro v w' hx hd
      have e12 : v 12 = .int .i64 (n : Int) := hd 12 (by kernel_rfl)
      have e6 : v 6 = .bool false := hd 6 (by kernel_rfl)
      simp only [List.take_succ_cons, List.take_zero, putF, Act.put, List.setIfInBounds_toArray, List.set_cons_zero, List.set_cons_succ, Nat.reduceAdd, Nat.zero_add]
      simp only [e12]
      simp only [e6]
      clear hd e12 e6
      rw [if_pos (by rfl)]
      intro K hK
      have qc := hx.cell hcell
      have HK := Lib.hid hK; clear hK
      go_simp
      exact HK.out _ _ (.inl (Ext.refl _)) rfl
    -- 14: slot 38 := Op.binOp BinOp.neq 4 t35 t37 4   [guarded: some (6, false)]
    refine ⟨?_, ?_⟩
    · intro v w' hx hd
      have e11 : v 11 = .bool bg := hd 11 (by kernel_rfl)
      have e13 : v 13 = .bool fs := hd 13 (by kernel_rfl)
      have e6 : v 6 = .bool false := hd 6 (by kernel_rfl)
      simp only [List.take_succ_cons, List.take_zero, putF, Act.put, List.setIfInBounds_toArray, List.set_cons_zero, List.set_cons_succ, Nat.reduceAdd, Nat.zero_add]
      simp only [e11]
      simp only [e13]
      simp only [e6]
      clear hd e11 e13 e6
      rw [if_pos (by rfl)]
      intro K hK
      have qc := hx.cell hcell
      have HK := Lib.hid hK; clear hK
      go_simp
      exact HK.out _ _ (.inl (Ext.refl _)) rfl
    -- 15: slot 39 := Op.pick t30 (const (Value.bool true)) t38
    refine ⟨?_, ?_⟩
    · intro v w' hx hd
      have e6 : v 6 = .bool false := hd 6 (by kernel_rfl)
      have e14 : v 14 = .bool true := hd 14 (by kernel_rfl)
      simp only [List.take_succ_cons, List.take_zero, putF, Act.put, List.setIfInBounds_toArray, List.set_cons_zero, List.set_cons_succ, Nat.reduceAdd, Nat.zero_add]
      simp only [e6]
      simp only [e14]
      clear hd e6 e14
      rw [if_pos (by rfl)]
      intro K hK
      have qc := hx.cell hcell
      have HK := Lib.hid hK; clear hK
      go_simp
      exact HK.out _ _ (.inl (Ext.refl _)) rfl
    -- 16: slot 40 := Op.move t39
    refine ⟨?_, ?_⟩
    · intro v w' hx hd
      have e15 : v 15 = .bool true := hd 15 (by kernel_rfl)
      simp only [List.take_succ_cons, List.take_zero, putF, Act.put, List.setIfInBounds_toArray, List.set_cons_zero, List.set_cons_succ, Nat.reduceAdd, Nat.zero_add]
      simp only [e15]
      clear hd e15
      rw [if_pos (by rfl)]
      intro K hK
      have qc := hx.cell hcell
      have HK := Lib.hid hK; clear hK
      go_simp
      exact HK.out _ _ (.inl (Ext.refl _)) rfl
    -- 17: slot 41 := Op.move t7   [guarded: some (16, false)]
    refine ⟨?_, ?_⟩
    · intro v w' hx hd
      have e16 : v 16 = .bool true := hd 16 (by kernel_rfl)
      simp only [List.take_succ_cons, List.take_zero, putF, Act.put, List.setIfInBounds_toArray, List.set_cons_zero, List.set_cons_succ, Nat.reduceAdd, Nat.zero_add]
      simp only [e16]
      clear hd e16
      rw [if_neg (ne_true_of_eq_false (by rfl))]
      exact rfl
    -- 18: slot 42 := Op.binOp BinOp.gtr 3 t41 (const (0:i64)) 3   [guarded: some (16, false)]
    refine ⟨?_, ?_⟩
    · intro v w' hx hd
      have e16 : v 16 = .bool true := hd 16 (by kernel_rfl)
      simp only [List.take_succ_cons, List.take_zero, putF, Act.put, List.setIfInBounds_toArray, List.set_cons_zero, List.set_cons_succ, Nat.reduceAdd, Nat.zero_add]
      simp only [e16]
      clear hd e16
      rw [if_neg (ne_true_of_eq_false (by rfl))]
      exact rfl
    -- 19: slot 43 := Op.move t42   [guarded: some (16, false)]
    refine ⟨?_, ?_⟩
    · intro v w' hx hd
      have e16 : v 16 = .bool true := hd 16 (by kernel_rfl)
      simp only [List.take_succ_cons, List.take_zero, putF, Act.put, List.setIfInBounds_toArray, List.set_cons_zero, List.set_cons_succ, Nat.reduceAdd, Nat.zero_add]
      simp only [e16]
      clear hd e16
      rw [if_neg (ne_true_of_eq_false (by rfl))]
      exact rfl
    -- 20: slot 44 := Op.move t8   [guarded: some (19, true)]
    refine ⟨?_, ?_⟩
    · intro v w' hx hd
      have e19 : v 19 = undef := hd 19 (by kernel_rfl)
      simp only [List.take_succ_cons, List.take_zero, putF, Act.put, List.setIfInBounds_toArray, List.set_cons_zero, List.set_cons_succ, Nat.reduceAdd, Nat.zero_add]
      simp only [e19]
      clear hd e19
      rw [if_neg (ne_true_of_eq_false (by rfl))]
      exact rfl
    -- 21: slot 45 := Op.slice 35 t44 none (some (const (4:i64))) none   [guarded: some (19, true)]
    refine ⟨?_, ?_⟩
    · intro v w' hx hd
      have e19 : v 19 = undef := hd 19 (by kernel_rfl)
      simp only [List.take_succ_cons, List.take_zero, putF, Act.put, List.setIfInBounds_toArray, List.set_cons_zero, List.set_cons_succ, Nat.reduceAdd, Nat.zero_add]
      simp only [e19]
      clear hd e19
      rw [if_neg (ne_true_of_eq_false (by rfl))]
      exact rfl
    -- 22: slot 46 := Op.call { value (Operand.func 85), args := #[t45], argTypes := #[35] }   [guarded: some (1
    refine ⟨?_, ?_⟩
    · intro v w' hx hd
      have e19 : v 19 = undef := hd 19 (by kernel_rfl)
      simp only [List.take_succ_cons, List.take_zero, putF, Act.put, List.setIfInBounds_toArray, List.set_cons_zero, List.set_cons_succ, Nat.reduceAdd, Nat.zero_add]
      simp only [e19]
      clear hd e19
      rw [if_neg (ne_true_of_eq_false (by rfl))]
      exact rfl
    -- 23: slot 47 := Op.move t0   [guarded: some (19, true)]
    refine ⟨?_, ?_⟩
    · intro v w' hx hd
      have e19 : v 19 = undef := hd 19 (by kernel_rfl)
      simp only [List.take_succ_cons, List.take_zero, putF, Act.put, List.setIfInBounds_toArray, List.set_cons_zero, List.set_cons_succ, Nat.reduceAdd, Nat.zero_add]
      simp only [e19]
      clear hd e19
      rw [if_neg (ne_true_of_eq_false (by rfl))]
      exact rfl
    -- 24: slot 48 := Op.move t1   [guarded: some (19, true)]
    refine ⟨?_, ?_⟩
    · intro v w' hx hd
      have e19 : v 19 = undef := hd 19 (by kernel_rfl)
      simp only [List.take_succ_cons, List.take_zero, putF, Act.put, List.setIfInBounds_toArray, List.set_cons_zero, List.set_cons_succ, Nat.reduceAdd, Nat.zero_add]
      simp only [e19]
      clear hd e19
      rw [if_neg (ne_true_of_eq_false (by rfl))]
      exact rfl
    -- 25: slot 49 := Op.indexAddr 22 t47 t48   [guarded: some (19, true)]
    refine ⟨?_, ?_⟩
    · intro v w' hx hd
      have e19 : v 19 = undef := hd 19 (by kernel_rfl)
      simp only [List.take_succ_cons, List.take_zero, putF, Act.put, List.setIfInBounds_toArray, List.set_cons_zero, List.set_cons_succ, Nat.reduceAdd, Nat.zero_add]
      simp only [e19]
      clear hd e19
      rw [if_neg (ne_true_of_eq_false (by rfl))]
      exact rfl
    -- 26: slot 50 := Op.load 35 t49   [guarded: some (19, true)]
    refine ⟨?_, ?_⟩
    · intro v w' hx hd
      have e19 : v 19 = undef := hd 19 (by kernel_rfl)
      simp only [List.take_succ_cons, List.take_zero, putF, Act.put, List.setIfInBounds_toArray, List.set_cons_zero, List.set_cons_succ, Nat.reduceAdd, Nat.zero_add]
      simp only [e19]
      clear hd e19
      rw [if_neg (ne_true_of_eq_false (by rfl))]
      exact rfl
    -- 27: slot 51 := Op.slice 35 t50 none (some (const (4:i64))) none   [guarded: some (19, true)]
    refine ⟨?_, ?_⟩
    · intro v w' hx hd
      have e19 : v 19 = undef := hd 19 (by kernel_rfl)
      simp only [List.take_succ_cons, List.take_zero, putF, Act.put, List.setIfInBounds_toArray, List.set_cons_zero, List.set_cons_succ, Nat.reduceAdd, Nat.zero_add]
      simp only [e19]
      clear hd e19
      rw [if_neg (ne_true_of_eq_false (by rfl))]
      exact rfl
    -- 28: slot 52 := Op.call { value (Operand.func 85), args := #[t51], argTypes := #[35] }   [guarded: some (1
    refine ⟨?_, ?_⟩
    · intro v w' hx hd
      have e19 : v 19 = undef := hd 19 (by kernel_rfl)
      simp only [List.take_succ_cons, List.take_zero, putF, Act.put, List.setIfInBounds_toArray, List.set_cons_zero, List.set_cons_succ, Nat.reduceAdd, Nat.zero_add]
      simp only [e19]
      clear hd e19
      rw [if_neg (ne_true_of_eq_false (by rfl))]
      exact rfl
    -- 29: slot 53 := Op.binOp BinOp.neq 95 t46 t52 95   [guarded: some (19, true)]
    refine ⟨?_, ?_⟩
    · intro v w' hx hd
      have e19 : v 19 = undef := hd 19 (by kernel_rfl)
      simp only [List.take_succ_cons, List.take_zero, putF, Act.put, List.setIfInBounds_toArray, List.set_cons_zero, List.set_cons_succ, Nat.reduceAdd, Nat.zero_add]
      simp only [e19]
      clear hd e19
      rw [if_neg (ne_true_of_eq_false (by rfl))]
      exact rfl
    -- 30: slot 54 := Op.pick t43 t53 (const (Value.bool false))   [guarded: some (16, false)]
    refine ⟨?_, ?_⟩
    · intro v w' hx hd
      have e16 : v 16 = .bool true := hd 16 (by kernel_rfl)
      simp only [List.take_succ_cons, List.take_zero, putF, Act.put, List.setIfInBounds_toArray, List.set_cons_zero, List.set_cons_succ, Nat.reduceAdd, Nat.zero_add]
      simp only [e16]
      clear hd e16
      rw [if_neg (ne_true_of_eq_false (by rfl))]
      exact rfl
    -- 31: slot 55 := Op.pick t40 (const (Value.bool true)) t54
    refine ⟨?_, ?_⟩
    · intro v w' hx hd
      have e16 : v 16 = .bool true := hd 16 (by kernel_rfl)
      have e30 : v 30 = undef := hd 30 (by kernel_rfl)
      simp only [List.take_succ_cons, List.take_zero, putF, Act.put, List.setIfInBounds_toArray, List.set_cons_zero, List.set_cons_succ, Nat.reduceAdd, Nat.zero_add]
      simp only [e16]
      simp only [e30]
      clear hd e16 e30
      rw [if_pos (by rfl)]
      intro K hK
      have qc := hx.cell hcell
      have HK := Lib.hid hK; clear hK
      go_simp
      exact HK.out _ _ (.inl (Ext.refl _)) rfl
    exact trivial
  case tail =>
    intro v w' hx hall
    simp only [List.drop_succ_cons, List.drop_zero, List.take_succ_cons, List.take_zero, putF, Act.put, List.setIfInBounds_toArray, List.set_cons_zero, List.set_cons_succ, Nat.reduceAdd, Nat.zero_add]
    have e31 : v 31 = .bool true := hall 31 (by decide) (fun k hk => by simp at hk)
    simp only [e31]
    have HX := Lib.hid hx; clear hx
    clear hall e31
    exact HQ.out _ _ _ _ _ _ _ _ _ _ _ _ _ _ _ _ _ _ _ _ _ _ _ _ _ _ _ _ _ _ _ w' HX.out
set_option maxRecDepth 100000 in
set_option maxHeartbeats 4000000 in
theorem reg84_6c {Q : Exit → Act → World → Prop} {S : Nat → Prop} (t0 t2 t3 t4 t5 t6 t9 t10 t11 t12 t13 t14 t15 t16 t17 t18 t19 t20 t21 t22 t23 t24 t25 t26 t27 t28 t29 t30 t31 t32 t33 t34 t35 t36 t37 t38 t39 t40 t41 t42 t43 t44 t45 t46 t47 t48 t49 t50 t51 t52 t53 t54 t55 t56 t57 t58 t59 t60 t61 t62 t63 t64 t65 t66 t67 t68 t69 t70 t71 : Value) (w1 : World) (n m at_ b o ns cs : Nat) (x : UInt8) (bg fs : Bool) (s : List UInt8)
    (hs : Bs S w1 (.slice (some ⟨b, o, none⟩) ns cs) s) (hm : m < 9223372036854775808) (hadd : (at_ : Int) + (n : Int) = (m : Int)) (hsl : s.length = 128) (hgc : goodS s m = true)
    (hns : ns = 128) (hcell : w1.cell? ⟨b, o + 10, none⟩ = some (.int .u8 (x.toNat : Int))) (hbg : ((x.toNat : Int) % 2 == 1) = bg) (hfs : ((n : Int) == 0) = fs) (hc2 : (bg == fs) = true) (hn0 : n = 0)
    (hQ : ∀ (u24 u25 u26 u27 u28 u29 u30 u31 u32 u33 u34 u35 u36 u37 u38 u39 u40 u41 u42 u43 u44 u45 u46 u47 u48 u49 u50 u51 u52 u53 u54 : Value) (wx : World), Ext w1 wx → Q .normal ⟨#[t0, .int .i64 (at_ : Int), t2, t3, t4, t5, t6, .int .i64 (n : Int), .slice (some ⟨b, o, none⟩) ns cs, t9, t10, t11, t12, t13, t14, t15, t16, t17, t18, t19, t20, t21, t22, t23, u24, u25, u26, u27, u28, u29, u30, u31, u32, u33, u34, u35, u36, u37, u38, u39, u40, u41, u42, u43, u44, u45, u46, u47, u48, u49, u50, u51, u52, u53, u54, .bool false, t56, t57, t58, t59, t60, t61, t62, t63, t64, t65, t66, t67, t68, t69, t70, t71], []⟩ wx) :
    Code.wp Try.prog code84_6 Q ⟨#[t0, .int .i64 (at_ : Int), t2, t3, t4, t5, t6, .int .i64 (n : Int), .slice (some ⟨b, o, none⟩) ns cs, t9, t10, t11, t12, t13, t14, t15, t16, t17, t18, t19, t20, t21, t22, t23, t24, t25, t26, t27, t28, t29, t30, t31, t32, t33, t34, t35, t36, t37, t38, t39, t40, t41, t42, t43, t44, t45, t46, t47, t48, t49, t50, t51, t52, t53, t54, t55, t56, t57, t58, t59, t60, t61, t62, t63, t64, t65, t66, t67, t68, t69, t70, t71], []⟩ w1 := by
  conv => arg 2; whnf
  have HQ := Lib.hid hQ; clear hQ
  have H := Lib.hid hs; clear hs
  have HGC := Lib.hid hgc; clear hgc
  have hl1 : 128 ≤ s.length := by omega
  have hwr : IntKind.i64.wrap (m : Int) = (m : Int) := wraps_i64 _ (by omega) (by omega)
  have hl2 : s.length ≤ 128 := by omega
  clear hsl
  have h10 : (10 : Int) < ns := by omega
  have hnp : decide ((0 : Int) < (n : Int)) = false := by simp; omega
  have hnp2 : decide (0 < n) = false := by simp; omega
  clear hn0
  clear hns
  refine wp_region_rg 32 (fun _ => none) (by kernel_rfl) (by kernel_rfl) (phi [fun v _ => v = .slice (some ⟨b, o, none⟩) ns cs,
      fun v _ => v = .int .i64 (at_ : Int),
      fun v _ => v = .int .i64 (n : Int),
      fun v _ => v = .int .i64 (m : Int),
      fun v _ => v = .bool true,
      fun v _ => v = .bool false,
      fun v _ => v = .bool false,
      fun v _ => v = .slice (some ⟨b, o, none⟩) ns cs,
      fun v _ => v = .pointer (some ⟨b, o + 10, none⟩),
      fun v _ => v = .int .u8 (x.toNat : Int),
      fun v _ => v = .int .u8 ((x.toNat : Int) % 2),
      fun v _ => v = .bool bg,
      fun v _ => v = .int .i64 (n : Int),
      fun v _ => v = .bool fs,
      fun v _ => v = .bool false,
      fun v _ => v = .bool false,
      fun v _ => v = .bool false,
      fun v _ => v = .int .i64 (n : Int),
      fun v _ => v = .bool false,
      fun v _ => v = .bool false,
      fun v _ => v = undef,
      fun v _ => v = undef,
      fun v _ => v = undef,
      fun v _ => v = undef,
      fun v _ => v = undef,
      fun v _ => v = undef,
      fun v _ => v = undef,
      fun v _ => v = undef,
      fun v _ => v = undef,
      fun v _ => v = undef,
      fun v _ => v = .bool false,
      fun v _ => v = .bool false]) (phi_stable ?stable) ?steps ?tail
  case stable =>
    exact List.forall_mem_cons.2 ⟨stab_eq _, List.forall_mem_cons.2 ⟨stab_eq _, List.forall_mem_cons.2 ⟨stab_eq _, List.forall_mem_cons.2 ⟨stab_eq _, List.forall_mem_cons.2 ⟨stab_eq _, List.forall_mem_cons.2 ⟨stab_eq _, List.forall_mem_cons.2 ⟨stab_eq _, List.forall_mem_cons.2 ⟨stab_eq _, List.forall_mem_cons.2 ⟨stab_eq _, List.forall_mem_cons.2 ⟨stab_eq _, List.forall_mem_cons.2 ⟨stab_eq _, List.forall_mem_cons.2 ⟨stab_eq _, List.forall_mem_cons.2 ⟨stab_eq _, List.forall_mem_cons.2 ⟨stab_eq _, List.forall_mem_cons.2 ⟨stab_eq _, List.forall_mem_cons.2 ⟨stab_eq _, List.forall_mem_cons.2 ⟨stab_eq _, List.forall_mem_cons.2 ⟨stab_eq _, List.forall_mem_cons.2 ⟨stab_eq _, List.forall_mem_cons.2 ⟨stab_eq _, List.forall_mem_cons.2 ⟨stab_eq _, List.forall_mem_cons.2 ⟨stab_eq _, List.forall_mem_cons.2 ⟨stab_eq _, List.forall_mem_cons.2 ⟨stab_eq _, List.forall_mem_cons.2 ⟨stab_eq _, List.forall_mem_cons.2 ⟨stab_eq _, List.forall_mem_cons.2 ⟨stab_eq _, List.forall_mem_cons.2 ⟨stab_eq _, List.forall_mem_cons.2 ⟨stab_eq _, List.forall_mem_cons.2 ⟨stab_eq _, List.forall_mem_cons.2 ⟨stab_eq _, List.forall_mem_cons.2 ⟨stab_eq _, fun _ h => by cases h⟩⟩⟩⟩⟩⟩⟩⟩⟩⟩⟩⟩⟩⟩⟩⟩⟩⟩⟩⟩⟩⟩⟩⟩⟩⟩⟩⟩⟩⟩⟩⟩
  case steps =>
    simp only [List.take_succ_cons, List.take_zero]
    -- 0: slot 24 := Op.move t8
    refine ⟨?_, ?_⟩
    · intro v w' hx hd
      simp only [List.take_succ_cons, List.take_zero, putF, Act.put, List.setIfInBounds_toArray, List.set_cons_zero, List.set_cons_succ, Nat.reduceAdd, Nat.zero_add]
      clear hd
      rw [if_pos (by rfl)]
      intro K hK
      have qc := hx.cell hcell
      have HK := Lib.hid hK; clear hK
      go_simp
      exact HK.out _ _ (.inl (Ext.refl _)) rfl
    -- 1: slot 25 := Op.move t1
    refine ⟨?_, ?_⟩
    · intro v w' hx hd
      simp only [List.take_succ_cons, List.take_zero, putF, Act.put, List.setIfInBounds_toArray, List.set_cons_zero, List.set_cons_succ, Nat.reduceAdd, Nat.zero_add]
      clear hd
      rw [if_pos (by rfl)]
      intro K hK
      have qc := hx.cell hcell
      have HK := Lib.hid hK; clear hK
      go_simp
      exact HK.out _ _ (.inl (Ext.refl _)) rfl
    -- 2: slot 26 := Op.move t7
    refine ⟨?_, ?_⟩
    · intro v w' hx hd
      simp only [List.take_succ_cons, List.take_zero, putF, Act.put, List.setIfInBounds_toArray, List.set_cons_zero, List.set_cons_succ, Nat.reduceAdd, Nat.zero_add]
      clear hd
      rw [if_pos (by rfl)]
      intro K hK
      have qc := hx.cell hcell
      have HK := Lib.hid hK; clear hK
      go_simp
      exact HK.out _ _ (.inl (Ext.refl _)) rfl
    -- 3: slot 27 := Op.binOp BinOp.add 3 t25 t26 3
    refine ⟨?_, ?_⟩
    · intro v w' hx hd
      have e1 : v 1 = .int .i64 (at_ : Int) := hd 1 (by kernel_rfl)
      have e2 : v 2 = .int .i64 (n : Int) := hd 2 (by kernel_rfl)
      simp only [List.take_succ_cons, List.take_zero, putF, Act.put, List.setIfInBounds_toArray, List.set_cons_zero, List.set_cons_succ, Nat.reduceAdd, Nat.zero_add]
      simp only [e1]
      simp only [e2]
      clear hd e1 e2
      rw [if_pos (by rfl)]
      intro K hK
      have qc := hx.cell hcell
      have HK := Lib.hid hK; clear hK
      go_simp
      exact HK.out _ _ (.inl (Ext.refl _)) rfl
    -- 4: slot 28 := Op.call { value (Operand.func 92), args := #[t24, t27], argTypes := #[35, 3] }
    refine ⟨?_, ?_⟩
    · intro v w' hx hd
      have e0 : v 0 = .slice (some ⟨b, o, none⟩) ns cs := hd 0 (by kernel_rfl)
      have e3 : v 3 = .int .i64 (m : Int) := hd 3 (by kernel_rfl)
      simp only [List.take_succ_cons, List.take_zero, putF, Act.put, List.setIfInBounds_toArray, List.set_cons_zero, List.set_cons_succ, Nat.reduceAdd, Nat.zero_add]
      simp only [e0]
      simp only [e3]
      clear hd e0 e3
      rw [if_pos (by rfl)]
      intro K hK
      have qc := hx.cell hcell
      have HK := Lib.hid hK; clear hK
      go_simp
      refine (refGood_ok w' _ s m (H.out.keep hx) hl1 hl2 hm).mono ?_
      rintro e w2 ⟨rfl, hx2⟩
      rw [HGC.out]
      exact HK.out _ _ (.inl hx2) rfl
    -- 5: slot 29 := Op.unOp UnOp.not 4 t28
    refine ⟨?_, ?_⟩
    · intro v w' hx hd
      have e4 : v 4 = .bool true := hd 4 (by kernel_rfl)
      simp only [List.take_succ_cons, List.take_zero, putF, Act.put, List.setIfInBounds_toArray, List.set_cons_zero, List.set_cons_succ, Nat.reduceAdd, Nat.zero_add]
      simp only [e4]
      clear hd e4
      rw [if_pos (by rfl)]
      intro K hK
      have qc := hx.cell hcell
      have HK := Lib.hid hK; clear hK
      go_simp
      exact HK.out _ _ (.inl (Ext.refl _)) rfl
    -- 6: slot 30 := Op.move t29
    refine ⟨?_, ?_⟩
    · intro v w' hx hd
      have e5 : v 5 = .bool false := hd 5 (by kernel_rfl)
      simp only [List.take_succ_cons, List.take_zero, putF, Act.put, List.setIfInBounds_toArray, List.set_cons_zero, List.set_cons_succ, Nat.reduceAdd, Nat.zero_add]
      simp only [e5]
      clear hd e5
      rw [if_pos (by rfl)]
      intro K hK
      have qc := hx.cell hcell
      have HK := Lib.hid hK; clear hK
      go_simp
      exact HK.out _ _ (.inl (Ext.refl _)) rfl
    -- 7: slot 31 := Op.move t8   [guarded: some (6, false)]
    refine ⟨?_, ?_⟩
    · intro v w' hx hd
      have e6 : v 6 = .bool false := hd 6 (by kernel_rfl)
      simp only [List.take_succ_cons, List.take_zero, putF, Act.put, List.setIfInBounds_toArray, List.set_cons_zero, List.set_cons_succ, Nat.reduceAdd, Nat.zero_add]
      simp only [e6]
      clear hd e6
      rw [if_pos (by rfl)]
      intro K hK
      have qc := hx.cell hcell
      have HK := Lib.hid hK; clear hK
      go_simp
      exact HK.out _ _ (.inl (Ext.refl _)) rfl
    -- 8: slot 32 := Op.indexAddr 35 t31 (const (10:i64))   [guarded: some (6, false)]
    refine ⟨?_, ?_⟩
    · intro v w' hx hd
      have e7 : v 7 = .slice (some ⟨b, o, none⟩) ns cs := hd 7 (by kernel_rfl)
      have e6 : v 6 = .bool false := hd 6 (by kernel_rfl)
      simp only [List.take_succ_cons, List.take_zero, putF, Act.put, List.setIfInBounds_toArray, List.set_cons_zero, List.set_cons_succ, Nat.reduceAdd, Nat.zero_add]
      simp only [e7]
      simp only [e6]
      clear hd e7 e6
      rw [if_pos (by rfl)]
      intro K hK
      have qc := hx.cell hcell
      have HK := Lib.hid hK; clear hK
      go_simp
      exact HK.out _ _ (.inl (Ext.refl _)) rfl
    -- 9: slot 33 := Op.load 5 t32   [guarded: some (6, false)]
    refine ⟨?_, ?_⟩
    · intro v w' hx hd
      have e8 : v 8 = .pointer (some ⟨b, o + 10, none⟩) := hd 8 (by kernel_rfl)
      have e6 : v 6 = .bool false := hd 6 (by kernel_rfl)
      simp only [List.take_succ_cons, List.take_zero, putF, Act.put, List.setIfInBounds_toArray, List.set_cons_zero, List.set_cons_succ, Nat.reduceAdd, Nat.zero_add]
      simp only [e8]
      simp only [e6]
      clear hd e8 e6
      rw [if_pos (by rfl)]
      intro K hK
      have qc := hx.cell hcell
      have HK := Lib.hid hK; clear hK
      go_simp
      exact HK.out _ _ (.inl (Ext.refl _)) rfl
    -- 10: slot 34 := Op.binOp BinOp.rem 5 t33 (const (2:u8)) 5   [guarded: some (6, false)]
    refine ⟨?_, ?_⟩
    · intro v w' hx hd
      have e9 : v 9 = .int .u8 (x.toNat : Int) := hd 9 (by kernel_rfl)
      have e6 : v 6 = .bool false := hd 6 (by kernel_rfl)
      simp only [List.take_succ_cons, List.take_zero, putF, Act.put, List.setIfInBounds_toArray, List.set_cons_zero, List.set_cons_succ, Nat.reduceAdd, Nat.zero_add]
      simp only [e9]
      simp only [e6]
      clear hd e9 e6
      rw [if_pos (by rfl)]
      intro K hK
      have qc := hx.cell hcell
      have HK := Lib.hid hK; clear hK
      go_simp
      exact HK.out _ _ (.inl (Ext.refl _)) rfl
    -- 11: slot 35 := Op.binOp BinOp.eql 5 t34 (const (1:u8)) 5   [guarded: some (6, false)]
    refine ⟨?_, ?_⟩
    · intro v w' hx hd
      have e10 : v 10 = .int .u8 ((x.toNat : Int) % 2) := hd 10 (by kernel_rfl)
      have e6 : v 6 = .bool false := hd 6 (by kernel_rfl)
      simp only [List.take_succ_cons, List.take_zero, putF, Act.put, List.setIfInBounds_toArray, List.set_cons_zero, List.set_cons_succ, Nat.reduceAdd, Nat.zero_add]
      simp only [e10]
      simp only [e6]
      clear hd e10 e6
      rw [if_pos (by rfl)]
      intro K hK
      have qc := hx.cell hcell
      have HK := Lib.hid hK; clear hK
      go_simp
      exact HK.out _ _ (.inl (Ext.refl _)) rfl
    -- 12: slot 36 := Op.move t7   [guarded: some (6, false)]
    refine ⟨?_, ?_⟩
    · intro v w' hx hd
      have e6 : v 6 = .bool false := hd 6 (by kernel_rfl)
      simp only [List.take_succ_cons, List.take_zero, putF, Act.put, List.setIfInBounds_toArray, List.set_cons_zero, List.set_cons_succ, Nat.reduceAdd, Nat.zero_add]
      simp only [e6]
      clear hd e6
      rw [if_pos (by rfl)]
      intro K hK
      have qc := hx.cell hcell
      have HK := Lib.hid hK; clear hK
      go_simp
      exact HK.out _ _ (.inl (Ext.refl _)) rfl
    -- 13: slot 37 := Op.binOp BinOp.eql 3 t36 (const (0:i64)) 3   [guarded: some (6, false)]
    refine ⟨?_, ?_⟩
    · intro v w' hx hd
      have e12 : v 12 = .int .i64 (n : Int) := hd 12 (by kernel_rfl)
      have e6 : v 6 = .bool false := hd 6 (by kernel_rfl)
      simp only [List.take_succ_cons, List.take_zero, putF, Act.put, List.setIfInBounds_toArray, List.set_cons_zero, List.set_cons_succ, Nat.reduceAdd, Nat.zero_add]
      simp only [e12]
      simp only [e6]
      clear hd e12 e6
      rw [if_pos (by rfl)]
      intro K hK
      have qc := hx.cell hcell
      have HK := Lib.hid hK; clear hK
      go_simp
      exact HK.out _ _ (.inl (Ext.refl _)) rfl
    -- 14: slot 38 := Op.binOp BinOp.neq 4 t35 t37 4   [guarded: some (6, false)]
    refine ⟨?_, ?_⟩
    · intro v w' hx hd
      have e11 : v 11 = .bool bg := hd 11 (by kernel_rfl)
      have e13 : v 13 = .bool fs := hd 13 (by kernel_rfl)
      have e6 : v 6 = .bool false := hd 6 (by kernel_rfl)
      simp only [List.take_succ_cons, List.take_zero, putF, Act.put, List.setIfInBounds_toArray, List.set_cons_zero, List.set_cons_succ, Nat.reduceAdd, Nat.zero_add]
      simp only [e11]
      simp only [e13]
      simp only [e6]
      clear hd e11 e13 e6
      rw [if_pos (by rfl)]
      intro K hK
      have qc := hx.cell hcell
      have HK := Lib.hid hK; clear hK
      go_simp
      exact HK.out _ _ (.inl (Ext.refl _)) rfl
    -- 15: slot 39 := Op.pick t30 (const (Value.bool true)) t38
    refine ⟨?_, ?_⟩
    · intro v w' hx hd
      have e6 : v 6 = .bool false := hd 6 (by kernel_rfl)
      have e14 : v 14 = .bool false := hd 14 (by kernel_rfl)
      simp only [List.take_succ_cons, List.take_zero, putF, Act.put, List.setIfInBounds_toArray, List.set_cons_zero, List.set_cons_succ, Nat.reduceAdd, Nat.zero_add]
      simp only [e6]
      simp only [e14]
      clear hd e6 e14
      rw [if_pos (by rfl)]
      intro K hK
      have qc := hx.cell hcell
      have HK := Lib.hid hK; clear hK
      go_simp
      exact HK.out _ _ (.inl (Ext.refl _)) rfl
    -- 16: slot 40 := Op.move t39
    refine ⟨?_, ?_⟩
    · intro v w' hx hd
      have e15 : v 15 = .bool false := hd 15 (by kernel_rfl)
      simp only [List.take_succ_cons, List.take_zero, putF, Act.put, List.setIfInBounds_toArray, List.set_cons_zero, List.set_cons_succ, Nat.reduceAdd, Nat.zero_add]
      simp only [e15]
      clear hd e15
      rw [if_pos (by rfl)]
      intro K hK
      have qc := hx.cell hcell
      have HK := Lib.hid hK; clear hK
      go_simp
      exact HK.out _ _ (.inl (Ext.refl _)) rfl
    -- 17: slot 41 := Op.move t7   [guarded: some (16, false)]
    refine ⟨?_, ?_⟩
    · intro v w' hx hd
      have e16 : v 16 = .bool false := hd 16 (by kernel_rfl)
      simp only [List.take_succ_cons, List.take_zero, putF, Act.put, List.setIfInBounds_toArray, List.set_cons_zero, List.set_cons_succ, Nat.reduceAdd, Nat.zero_add]
      simp only [e16]
      clear hd e16
      rw [if_pos (by rfl)]
      intro K hK
      have qc := hx.cell hcell
      have HK := Lib.hid hK; clear hK
      go_simp
      exact HK.out _ _ (.inl (Ext.refl _)) rfl
    -- 18: slot 42 := Op.binOp BinOp.gtr 3 t41 (const (0:i64)) 3   [guarded: some (16, false)]
    refine ⟨?_, ?_⟩
    · intro v w' hx hd
      have e17 : v 17 = .int .i64 (n : Int) := hd 17 (by kernel_rfl)
      have e16 : v 16 = .bool false := hd 16 (by kernel_rfl)
      simp only [List.take_succ_cons, List.take_zero, putF, Act.put, List.setIfInBounds_toArray, List.set_cons_zero, List.set_cons_succ, Nat.reduceAdd, Nat.zero_add]
      simp only [e17]
      simp only [e16]
      clear hd e17 e16
      rw [if_pos (by rfl)]
      intro K hK
      have qc := hx.cell hcell
      have HK := Lib.hid hK; clear hK
      go_simp
      exact HK.out _ _ (.inl (Ext.refl _)) rfl
    -- 19: slot 43 := Op.move t42   [guarded: some (16, false)]
    refine ⟨?_, ?_⟩
    · intro v w' hx hd
      have e18 : v 18 = .bool false := hd 18 (by kernel_rfl)
      have e16 : v 16 = .bool false := hd 16 (by kernel_rfl)
      simp only [List.take_succ_cons, List.take_zero, putF, Act.put, List.setIfInBounds_toArray, List.set_cons_zero, List.set_cons_succ, Nat.reduceAdd, Nat.zero_add]
      simp only [e18]
      simp only [e16]
      clear hd e18 e16
      rw [if_pos (by rfl)]
      intro K hK
      have qc := hx.cell hcell
      have HK := Lib.hid hK; clear hK
      go_simp
      exact HK.out _ _ (.inl (Ext.refl _)) rfl
    -- 20: slot 44 := Op.move t8   [guarded: some (19, true)]
    refine ⟨?_, ?_⟩
    · intro v w' hx hd
      have e19 : v 19 = .bool false := hd 19 (by kernel_rfl)
      simp only [List.take_succ_cons, List.take_zero, putF, Act.put, List.setIfInBounds_toArray, List.set_cons_zero, List.set_cons_succ, Nat.reduceAdd, Nat.zero_add]
      simp only [e19]
      clear hd e19
      rw [if_neg (ne_true_of_eq_false (by rfl))]
      exact rfl
    -- 21: slot 45 := Op.slice 35 t44 none (some (const (4:i64))) none   [guarded: some (19, true)]
    refine ⟨?_, ?_⟩
    · intro v w' hx hd
      have e19 : v 19 = .bool false := hd 19 (by kernel_rfl)
      simp only [List.take_succ_cons, List.take_zero, putF, Act.put, List.setIfInBounds_toArray, List.set_cons_zero, List.set_cons_succ, Nat.reduceAdd, Nat.zero_add]
      simp only [e19]
      clear hd e19
      rw [if_neg (ne_true_of_eq_false (by rfl))]
      exact rfl
    -- 22: slot 46 := Op.call { value (Operand.func 85), args := #[t45], argTypes := #[35] }   [guarded: some (1
    refine ⟨?_, ?_⟩
    · intro v w' hx hd
      have e19 : v 19 = .bool false := hd 19 (by kernel_rfl)
      simp only [List.take_succ_cons, List.take_zero, putF, Act.put, List.setIfInBounds_toArray, List.set_cons_zero, List.set_cons_succ, Nat.reduceAdd, Nat.zero_add]
      simp only [e19]
      clear hd e19
      rw [if_neg (ne_true_of_eq_false (by rfl))]
      exact rfl
    -- 23: slot 47 := Op.move t0   [guarded: some (19, true)]
    refine ⟨?_, ?_⟩
    · intro v w' hx hd
      have e19 : v 19 = .bool false := hd 19 (by kernel_rfl)
      simp only [List.take_succ_cons, List.take_zero, putF, Act.put, List.setIfInBounds_toArray, List.set_cons_zero, List.set_cons_succ, Nat.reduceAdd, Nat.zero_add]
      simp only [e19]
      clear hd e19
      rw [if_neg (ne_true_of_eq_false (by rfl))]
      exact rfl
    -- 24: slot 48 := Op.move t1   [guarded: some (19, true)]
    refine ⟨?_, ?_⟩
    · intro v w' hx hd
      have e19 : v 19 = .bool false := hd 19 (by kernel_rfl)
      simp only [List.take_succ_cons, List.take_zero, putF, Act.put, List.setIfInBounds_toArray, List.set_cons_zero, List.set_cons_succ, Nat.reduceAdd, Nat.zero_add]
      simp only [e19]
      clear hd e19
      rw [if_neg (ne_true_of_eq_false (by rfl))]
      exact rfl
    -- 25: slot 49 := Op.indexAddr 22 t47 t48   [guarded: some (19, true)]
    refine ⟨?_, ?_⟩
    · intro v w' hx hd
      have e19 : v 19 = .bool false := hd 19 (by kernel_rfl)
      simp only [List.take_succ_cons, List.take_zero, putF, Act.put, List.setIfInBounds_toArray, List.set_cons_zero, List.set_cons_succ, Nat.reduceAdd, Nat.zero_add]
      simp only [e19]
      clear hd e19
      rw [if_neg (ne_true_of_eq_false (by rfl))]
      exact rfl
    -- 26: slot 50 := Op.load 35 t49   [guarded: some (19, true)]
    refine ⟨?_, ?_⟩
    · intro v w' hx hd
      have e19 : v 19 = .bool false := hd 19 (by kernel_rfl)
      simp only [List.take_succ_cons, List.take_zero, putF, Act.put, List.setIfInBounds_toArray, List.set_cons_zero, List.set_cons_succ, Nat.reduceAdd, Nat.zero_add]
      simp only [e19]
      clear hd e19
      rw [if_neg (ne_true_of_eq_false (by rfl))]
      exact rfl
    -- 27: slot 51 := Op.slice 35 t50 none (some (const (4:i64))) none   [guarded: some (19, true)]
    refine ⟨?_, ?_⟩
    · intro v w' hx hd
      have e19 : v 19 = .bool false := hd 19 (by kernel_rfl)
      simp only [List.take_succ_cons, List.take_zero, putF, Act.put, List.setIfInBounds_toArray, List.set_cons_zero, List.set_cons_succ, Nat.reduceAdd, Nat.zero_add]
      simp only [e19]
      clear hd e19
      rw [if_neg (ne_true_of_eq_false (by rfl))]
      exact rfl
    -- 28: slot 52 := Op.call { value (Operand.func 85), args := #[t51], argTypes := #[35] }   [guarded: some (1
    refine ⟨?_, ?_⟩
    · intro v w' hx hd
      have e19 : v 19 = .bool false := hd 19 (by kernel_rfl)
      simp only [List.take_succ_cons, List.take_zero, putF, Act.put, List.setIfInBounds_toArray, List.set_cons_zero, List.set_cons_succ, Nat.reduceAdd, Nat.zero_add]
      simp only [e19]
      clear hd e19
      rw [if_neg (ne_true_of_eq_false (by rfl))]
      exact rfl
    -- 29: slot 53 := Op.binOp BinOp.neq 95 t46 t52 95   [guarded: some (19, true)]
    refine ⟨?_, ?_⟩
    · intro v w' hx hd
      have e19 : v 19 = .bool false := hd 19 (by kernel_rfl)
      simp only [List.take_succ_cons, List.take_zero, putF, Act.put, List.setIfInBounds_toArray, List.set_cons_zero, List.set_cons_succ, Nat.reduceAdd, Nat.zero_add]
      simp only [e19]
      clear hd e19
      rw [if_neg (ne_true_of_eq_false (by rfl))]
      exact rfl
    -- 30: slot 54 := Op.pick t43 t53 (const (Value.bool false))   [guarded: some (16, false)]
    refine ⟨?_, ?_⟩
    · intro v w' hx hd
      have e19 : v 19 = .bool false := hd 19 (by kernel_rfl)
      have e29 : v 29 = undef := hd 29 (by kernel_rfl)
      have e16 : v 16 = .bool false := hd 16 (by kernel_rfl)
      simp only [List.take_succ_cons, List.take_zero, putF, Act.put, List.setIfInBounds_toArray, List.set_cons_zero, List.set_cons_succ, Nat.reduceAdd, Nat.zero_add]
      simp only [e19]
      simp only [e29]
      simp only [e16]
      clear hd e19 e29 e16
      rw [if_pos (by rfl)]
      intro K hK
      have qc := hx.cell hcell
      have HK := Lib.hid hK; clear hK
      go_simp
      exact HK.out _ _ (.inl (Ext.refl _)) rfl
    -- 31: slot 55 := Op.pick t40 (const (Value.bool true)) t54
    refine ⟨?_, ?_⟩
    · intro v w' hx hd
      have e16 : v 16 = .bool false := hd 16 (by kernel_rfl)
      have e30 : v 30 = .bool false := hd 30 (by kernel_rfl)
      simp only [List.take_succ_cons, List.take_zero, putF, Act.put, List.setIfInBounds_toArray, List.set_cons_zero, List.set_cons_succ, Nat.reduceAdd, Nat.zero_add]
      simp only [e16]
      simp only [e30]
      clear hd e16 e30
      rw [if_pos (by rfl)]
      intro K hK
      have qc := hx.cell hcell
      have HK := Lib.hid hK; clear hK
      go_simp
      exact HK.out _ _ (.inl (Ext.refl _)) rfl
    exact trivial
  case tail =>
    intro v w' hx hall
    simp only [List.drop_succ_cons, List.drop_zero, List.take_succ_cons, List.take_zero, putF, Act.put, List.setIfInBounds_toArray, List.set_cons_zero, List.set_cons_succ, Nat.reduceAdd, Nat.zero_add]
    have e31 : v 31 = .bool false := hall 31 (by decide) (fun k hk => by simp at hk)
    simp only [e31]
    have HX := Lib.hid hx; clear hx
    clear hall e31
    exact HQ.out _ _ _ _ _ _ _ _ _ _ _ _ _ _ _ _ _ _ _ _ _ _ _ _ _ _ _ _ _ _ _ w' HX.out
set_option maxRecDepth 100000 in
set_option maxHeartbeats 4000000 in
theorem reg84_6d {Q : Exit → Act → World → Prop} {S : Nat → Prop} (t2 t3 t4 t5 t6 t9 t10 t11 t12 t13 t14 t15 t16 t17 t18 t19 t20 t21 t22 t23 t24 t25 t26 t27 t28 t29 t30 t31 t32 t33 t34 t35 t36 t37 t38 t39 t40 t41 t42 t43 t44 t45 t46 t47 t48 t49 t50 t51 t52 t53 t54 t55 t56 t57 t58 t59 t60 t61 t62 t63 t64 t65 t66 t67 t68 t69 t70 t71 : Value) (w1 : World) (n m at_ b o ns cs bl ol nl cl ba oa na ca gs ga : Nat) (x : UInt8) (bg fs c3 : Bool) (s s2 : List UInt8)
    (hs : Bs S w1 (.slice (some ⟨b, o, none⟩) ns cs) s) (hm : m < 9223372036854775808) (hadd : (at_ : Int) + (n : Int) = (m : Int)) (hsl : s.length = 128) (hgc : goodS s m = true)
    (hns : ns = 128) (hcell : w1.cell? ⟨b, o + 10, none⟩ = some (.int .u8 (x.toNat : Int))) (hbg : ((x.toNat : Int) % 2 == 1) = bg) (hfs : ((n : Int) == 0) = fs) (hc2 : (bg == fs) = true) (hn0 : 0 < n) (hnc : ns ≤ cs) (hcm : cs ≤ 9223372036854775807) (hgs : num (s.take 4) = gs) (hga : num (s2.take 4) = ga) (hs2 : Bs S w1 (.slice (some ⟨ba, oa, none⟩) na ca) s2) (hl2 : s2.length = 128) (hna : na = 128) (hnca : na ≤ ca) (hcma : ca ≤ 9223372036854775807) (hA : w1.cell? ⟨bl, ol + at_, none⟩ = some (.slice (some ⟨ba, oa, none⟩) na ca)) (hat : at_ < nl) (hc3 : ((gs : Int) != (ga : Int)) = c3)
    (hQ : ∀ (u24 u25 u26 u27 u28 u29 u30 u31 u32 u33 u34 u35 u36 u37 u38 u39 u40 u41 u42 u43 u44 u45 u46 u47 u48 u49 u50 u51 u52 u53 u54 : Value) (wx : World), Ext w1 wx → Q .normal ⟨#[.slice (some ⟨bl, ol, none⟩) nl cl, .int .i64 (at_ : Int), t2, t3, t4, t5, t6, .int .i64 (n : Int), .slice (some ⟨b, o, none⟩) ns cs, t9, t10, t11, t12, t13, t14, t15, t16, t17, t18, t19, t20, t21, t22, t23, u24, u25, u26, u27, u28, u29, u30, u31, u32, u33, u34, u35, u36, u37, u38, u39, u40, u41, u42, u43, u44, u45, u46, u47, u48, u49, u50, u51, u52, u53, u54, .bool c3, t56, t57, t58, t59, t60, t61, t62, t63, t64, t65, t66, t67, t68, t69, t70, t71], []⟩ wx) :
    Code.wp Try.prog code84_6 Q ⟨#[.slice (some ⟨bl, ol, none⟩) nl cl, .int .i64 (at_ : Int), t2, t3, t4, t5, t6, .int .i64 (n : Int), .slice (some ⟨b, o, none⟩) ns cs, t9, t10, t11, t12, t13, t14, t15, t16, t17, t18, t19, t20, t21, t22, t23, t24, t25, t26, t27, t28, t29, t30, t31, t32, t33, t34, t35, t36, t37, t38, t39, t40, t41, t42, t43, t44, t45, t46, t47, t48, t49, t50, t51, t52, t53, t54, t55, t56, t57, t58, t59, t60, t61, t62, t63, t64, t65, t66, t67, t68, t69, t70, t71], []⟩ w1 := by
  conv => arg 2; whnf
  have HQ := Lib.hid hQ; clear hQ
  have H := Lib.hid hs; clear hs
  have HGC := Lib.hid hgc; clear hgc
  have hl1 : 128 ≤ s.length := by omega
  have hwr : IntKind.i64.wrap (m : Int) = (m : Int) := wraps_i64 _ (by omega) (by omega)
  have hlB : 128 ≤ s2.length := by omega
  clear hl2
  have hl2 : s.length ≤ 128 := by omega
  clear hsl
  have h10 : (10 : Int) < ns := by omega
  have hnp : decide ((0 : Int) < (n : Int)) = true := by simp; omega
  have hnp2 : decide (0 < n) = true := by simp; omega
  have h4 := H.out.sub 0 4 cs (by omega) (by omega) hcm
  rw [List.drop_zero, Nat.add_zero] at h4
  have H4 := Lib.hid h4; clear h4
  have ha4 := hs2.sub 0 4 ca (by omega) (by omega) hcma
  rw [List.drop_zero, Nat.add_zero] at ha4
  have HA4 := Lib.hid ha4; clear ha4 hs2
  have HGS := Lib.hid hgs; clear hgs
  have HGA := Lib.hid hga; clear hga
  have i1 : (4 : Int) ≤ cs := by omega
  have i2 : (4 : Int) ≤ ca := by omega
  have i3 : (at_ : Int) < nl := by omega
  have i4 : (0 : Int) ≤ at_ := by omega
  clear hna
  clear hns
  refine wp_region_rg 32 (fun _ => none) (by kernel_rfl) (by kernel_rfl) (phi [fun v _ => v = .slice (some ⟨b, o, none⟩) ns cs,
      fun v _ => v = .int .i64 (at_ : Int),
      fun v _ => v = .int .i64 (n : Int),
      fun v _ => v = .int .i64 (m : Int),
      fun v _ => v = .bool true,
      fun v _ => v = .bool false,
      fun v _ => v = .bool false,
      fun v _ => v = .slice (some ⟨b, o, none⟩) ns cs,
      fun v _ => v = .pointer (some ⟨b, o + 10, none⟩),
      fun v _ => v = .int .u8 (x.toNat : Int),
      fun v _ => v = .int .u8 ((x.toNat : Int) % 2),
      fun v _ => v = .bool bg,
      fun v _ => v = .int .i64 (n : Int),
      fun v _ => v = .bool fs,
      fun v _ => v = .bool false,
      fun v _ => v = .bool false,
      fun v _ => v = .bool false,
      fun v _ => v = .int .i64 (n : Int),
      fun v _ => v = .bool true,
      fun v _ => v = .bool true,
      fun v _ => v = .slice (some ⟨b, o, none⟩) ns cs,
      fun v _ => v = .slice (some ⟨b, o, none⟩) 4 cs,
      fun v _ => v = .int .u64 (gs : Int),
      fun v _ => v = .slice (some ⟨bl, ol, none⟩) nl cl,
      fun v _ => v = .int .i64 (at_ : Int),
      fun v _ => v = .pointer (some ⟨bl, ol + at_, none⟩),
      fun v _ => v = .slice (some ⟨ba, oa, none⟩) na ca,
      fun v _ => v = .slice (some ⟨ba, oa, none⟩) 4 ca,
      fun v _ => v = .int .u64 (ga : Int),
      fun v _ => v = .bool c3,
      fun v _ => v = .bool c3,
      fun v _ => v = .bool c3]) (phi_stable ?stable) ?steps ?tail
  case stable =>
    exact List.forall_mem_cons.2 ⟨stab_eq _, List.forall_mem_cons.2 ⟨stab_eq _, List.forall_mem_cons.2 ⟨stab_eq _, List.forall_mem_cons.2 ⟨stab_eq _, List.forall_mem_cons.2 ⟨stab_eq _, List.forall_mem_cons.2 ⟨stab_eq _, List.forall_mem_cons.2 ⟨stab_eq _, List.forall_mem_cons.2 ⟨stab_eq _, List.forall_mem_cons.2 ⟨stab_eq _, List.forall_mem_cons.2 ⟨stab_eq _, List.forall_mem_cons.2 ⟨stab_eq _, List.forall_mem_cons.2 ⟨stab_eq _, List.forall_mem_cons.2 ⟨stab_eq _, List.forall_mem_cons.2 ⟨stab_eq _, List.forall_mem_cons.2 ⟨stab_eq _, List.forall_mem_cons.2 ⟨stab_eq _, List.forall_mem_cons.2 ⟨stab_eq _, List.forall_mem_cons.2 ⟨stab_eq _, List.forall_mem_cons.2 ⟨stab_eq _, List.forall_mem_cons.2 ⟨stab_eq _, List.forall_mem_cons.2 ⟨stab_eq _, List.forall_mem_cons.2 ⟨stab_eq _, List.forall_mem_cons.2 ⟨stab_eq _, List.forall_mem_cons.2 ⟨stab_eq _, List.forall_mem_cons.2 ⟨stab_eq _, List.forall_mem_cons.2 ⟨stab_eq _, List.forall_mem_cons.2 ⟨stab_eq _, List.forall_mem_cons.2 ⟨stab_eq _, List.forall_mem_cons.2 ⟨stab_eq _, List.forall_mem_cons.2 ⟨stab_eq _, List.forall_mem_cons.2 ⟨stab_eq _, List.forall_mem_cons.2 ⟨stab_eq _, fun _ h => by cases h⟩⟩⟩⟩⟩⟩⟩⟩⟩⟩⟩⟩⟩⟩⟩⟩⟩⟩⟩⟩⟩⟩⟩⟩⟩⟩⟩⟩⟩⟩⟩⟩
  case steps =>
    simp only [List.take_succ_cons, List.take_zero]
    -- 0: slot 24 := Op.move t8
    refine ⟨?_, ?_⟩
    · intro v w' hx hd
      simp only [List.take_succ_cons, List.take_zero, putF, Act.put, List.setIfInBounds_toArray, List.set_cons_zero, List.set_cons_succ, Nat.reduceAdd, Nat.zero_add]
      clear hd
      rw [if_pos (by rfl)]
      intro K hK
      have qc := hx.cell hcell
      have qA := hx.cell hA
      have HK := Lib.hid hK; clear hK
      go_simp
      exact HK.out _ _ (.inl (Ext.refl _)) rfl
    -- 1: slot 25 := Op.move t1
    refine ⟨?_, ?_⟩
    · intro v w' hx hd
      simp only [List.take_succ_cons, List.take_zero, putF, Act.put, List.setIfInBounds_toArray, List.set_cons_zero, List.set_cons_succ, Nat.reduceAdd, Nat.zero_add]
      clear hd
      rw [if_pos (by rfl)]
      intro K hK
      have qc := hx.cell hcell
      have qA := hx.cell hA
      have HK := Lib.hid hK; clear hK
      go_simp
      exact HK.out _ _ (.inl (Ext.refl _)) rfl
    -- 2: slot 26 := Op.move t7
    refine ⟨?_, ?_⟩
    · intro v w' hx hd
      simp only [List.take_succ_cons, List.take_zero, putF, Act.put, List.setIfInBounds_toArray, List.set_cons_zero, List.set_cons_succ, Nat.reduceAdd, Nat.zero_add]
      clear hd
      rw [if_pos (by rfl)]
      intro K hK
      have qc := hx.cell hcell
      have qA := hx.cell hA
      have HK := Lib.hid hK; clear hK
      go_simp
      exact HK.out _ _ (.inl (Ext.refl _)) rfl
    -- 3: slot 27 := Op.binOp BinOp.add 3 t25 t26 3
    refine ⟨?_, ?_⟩
    · intro v w' hx hd
      have e1 : v 1 = .int .i64 (at_ : Int) := hd 1 (by kernel_rfl)
      have e2 : v 2 = .int .i64 (n : Int) := hd 2 (by kernel_rfl)
      simp only [List.take_succ_cons, List.take_zero, putF, Act.put, List.setIfInBounds_toArray, List.set_cons_zero, List.set_cons_succ, Nat.reduceAdd, Nat.zero_add]
      simp only [e1]
      simp only [e2]
      clear hd e1 e2
      rw [if_pos (by rfl)]
      intro K hK
      have qc := hx.cell hcell
      have qA := hx.cell hA
      have HK := Lib.hid hK; clear hK
      go_simp
      exact HK.out _ _ (.inl (Ext.refl _)) rfl
    -- 4: slot 28 := Op.call { value (Operand.func 92), args := #[t24, t27], argTypes := #[35, 3] }
    refine ⟨?_, ?_⟩
    · intro v w' hx hd
      have e0 : v 0 = .slice (some ⟨b, o, none⟩) ns cs := hd 0 (by kernel_rfl)
      have e3 : v 3 = .int .i64 (m : Int) := hd 3 (by kernel_rfl)
      simp only [List.take_succ_cons, List.take_zero, putF, Act.put, List.setIfInBounds_toArray, List.set_cons_zero, List.set_cons_succ, Nat.reduceAdd, Nat.zero_add]
      simp only [e0]
      simp only [e3]
      clear hd e0 e3
      rw [if_pos (by rfl)]
      intro K hK
      have qc := hx.cell hcell
      have qA := hx.cell hA
      have HK := Lib.hid hK; clear hK
      go_simp
      refine (refGood_ok w' _ s m (H.out.keep hx) hl1 hl2 hm).mono ?_
      rintro e w2 ⟨rfl, hx2⟩
      rw [HGC.out]
      exact HK.out _ _ (.inl hx2) rfl
    -- 5: slot 29 := Op.unOp UnOp.not 4 t28
    refine ⟨?_, ?_⟩
    · intro v w' hx hd
      have e4 : v 4 = .bool true := hd 4 (by kernel_rfl)
      simp only [List.take_succ_cons, List.take_zero, putF, Act.put, List.setIfInBounds_toArray, List.set_cons_zero, List.set_cons_succ, Nat.reduceAdd, Nat.zero_add]
      simp only [e4]
      clear hd e4
      rw [if_pos (by rfl)]
      intro K hK
      have qc := hx.cell hcell
      have qA := hx.cell hA
      have HK := Lib.hid hK; clear hK
      go_simp
      exact HK.out _ _ (.inl (Ext.refl _)) rfl
    -- 6: slot 30 := Op.move t29
    refine ⟨?_, ?_⟩
    · intro v w' hx hd
      have e5 : v 5 = .bool false := hd 5 (by kernel_rfl)
      simp only [List.take_succ_cons, List.take_zero, putF, Act.put, List.setIfInBounds_toArray, List.set_cons_zero, List.set_cons_succ, Nat.reduceAdd, Nat.zero_add]
      simp only [e5]
      clear hd e5
      rw [if_pos (by rfl)]
      intro K hK
      have qc := hx.cell hcell
      have qA := hx.cell hA
      have HK := Lib.hid hK; clear hK
      go_simp
      exact HK.out _ _ (.inl (Ext.refl _)) rfl
    -- 7: slot 31 := Op.move t8   [guarded: some (6, false)]
    refine ⟨?_, ?_⟩
    · intro v w' hx hd
      have e6 : v 6 = .bool false := hd 6 (by kernel_rfl)
      simp only [List.take_succ_cons, List.take_zero, putF, Act.put, List.setIfInBounds_toArray, List.set_cons_zero, List.set_cons_succ, Nat.reduceAdd, Nat.zero_add]
      simp only [e6]
      clear hd e6
      rw [if_pos (by rfl)]
      intro K hK
      have qc := hx.cell hcell
      have qA := hx.cell hA
      have HK := Lib.hid hK; clear hK
      go_simp
      exact HK.out _ _ (.inl (Ext.refl _)) rfl
    -- 8: slot 32 := Op.indexAddr 35 t31 (const (10:i64))   [guarded: some (6, false)]
    refine ⟨?_, ?_⟩
    · intro v w' hx hd
      have e7 : v 7 = .slice (some ⟨b, o, none⟩) ns cs := hd 7 (by kernel_rfl)
      have e6 : v 6 = .bool false := hd 6 (by kernel_rfl)
      simp only [List.take_succ_cons, List.take_zero, putF, Act.put, List.setIfInBounds_toArray, List.set_cons_zero, List.set_cons_succ, Nat.reduceAdd, Nat.zero_add]
      simp only [e7]
      simp only [e6]
      clear hd e7 e6
      rw [if_pos (by rfl)]
      intro K hK
      have qc := hx.cell hcell
      have qA := hx.cell hA
      have HK := Lib.hid hK; clear hK
      go_simp
      exact HK.out _ _ (.inl (Ext.refl _)) rfl
    -- 9: slot 33 := Op.load 5 t32   [guarded: some (6, false)]
    refine ⟨?_, ?_⟩
    · intro v w' hx hd
      have e8 : v 8 = .pointer (some ⟨b, o + 10, none⟩) := hd 8 (by kernel_rfl)
      have e6 : v 6 = .bool false := hd 6 (by kernel_rfl)
      simp only [List.take_succ_cons, List.take_zero, putF, Act.put, List.setIfInBounds_toArray, List.set_cons_zero, List.set_cons_succ, Nat.reduceAdd, Nat.zero_add]
      simp only [e8]
      simp only [e6]
      clear hd e8 e6
      rw [if_pos (by rfl)]
      intro K hK
      have qc := hx.cell hcell
      have qA := hx.cell hA
      have HK := Lib.hid hK; clear hK
      go_simp
      exact HK.out _ _ (.inl (Ext.refl _)) rfl
    -- 10: slot 34 := Op.binOp BinOp.rem 5 t33 (const (2:u8)) 5   [guarded: some (6, false)]
    refine ⟨?_, ?_⟩
    · intro v w' hx hd
      have e9 : v 9 = .int .u8 (x.toNat : Int) := hd 9 (by kernel_rfl)
      have e6 : v 6 = .bool false := hd 6 (by kernel_rfl)
      simp only [List.take_succ_cons, List.take_zero, putF, Act.put, List.setIfInBounds_toArray, List.set_cons_zero, List.set_cons_succ, Nat.reduceAdd, Nat.zero_add]
      simp only [e9]
      simp only [e6]
      clear hd e9 e6
      rw [if_pos (by rfl)]
      intro K hK
      have qc := hx.cell hcell
      have qA := hx.cell hA
      have HK := Lib.hid hK; clear hK
      go_simp
      exact HK.out _ _ (.inl (Ext.refl _)) rfl
    -- 11: slot 35 := Op.binOp BinOp.eql 5 t34 (const (1:u8)) 5   [guarded: some (6, false)]
    refine ⟨?_, ?_⟩
    · intro v w' hx hd
      have e10 : v 10 = .int .u8 ((x.toNat : Int) % 2) := hd 10 (by kernel_rfl)
      have e6 : v 6 = .bool false := hd 6 (by kernel_rfl)
      simp only [List.take_succ_cons, List.take_zero, putF, Act.put, List.setIfInBounds_toArray, List.set_cons_zero, List.set_cons_succ, Nat.reduceAdd, Nat.zero_add]
      simp only [e10]
      simp only [e6]
      clear hd e10 e6
      rw [if_pos (by rfl)]
      intro K hK
      have qc := hx.cell hcell
      have qA := hx.cell hA
      have HK := Lib.hid hK; clear hK
      go_simp
      exact HK.out _ _ (.inl (Ext.refl _)) rfl
    -- 12: slot 36 := Op.move t7   [guarded: some (6, false)]
    refine ⟨?_, ?_⟩
    · intro v w' hx hd
      have e6 : v 6 = .bool false := hd 6 (by kernel_rfl)
      simp only [List.take_succ_cons, List.take_zero, putF, Act.put, List.setIfInBounds_toArray, List.set_cons_zero, List.set_cons_succ, Nat.reduceAdd, Nat.zero_add]
      simp only [e6]
      clear hd e6
      rw [if_pos (by rfl)]
      intro K hK
      have qc := hx.cell hcell
      have qA := hx.cell hA
      have HK := Lib.hid hK; clear hK
      go_simp
      exact HK.out _ _ (.inl (Ext.refl _)) rfl
    -- 13: slot 37 := Op.binOp BinOp.eql 3 t36 (const (0:i64)) 3   [guarded: some (6, false)]
    refine ⟨?_, ?_⟩
    · intro v w' hx hd
      have e12 : v 12 = .int .i64 (n : Int) := hd 12 (by kernel_rfl)
      have e6 : v 6 = .bool false := hd 6 (by kernel_rfl)
      simp only [List.take_succ_cons, List.take_zero, putF, Act.put, List.setIfInBounds_toArray, List.set_cons_zero, List.set_cons_succ, Nat.reduceAdd, Nat.zero_add]
      simp only [e12]
      simp only [e6]
      clear hd e12 e6
      rw [if_pos (by rfl)]
      intro K hK
      have qc := hx.cell hcell
      have qA := hx.cell hA
      have HK := Lib.hid hK; clear hK
      go_simp
      exact HK.out _ _ (.inl (Ext.refl _)) rfl
    -- 14: slot 38 := Op.binOp BinOp.neq 4 t35 t37 4   [guarded: some (6, false)]
    refine ⟨?_, ?_⟩
    · intro v w' hx hd
      have e11 : v 11 = .bool bg := hd 11 (by kernel_rfl)
      have e13 : v 13 = .bool fs := hd 13 (by kernel_rfl)
      have e6 : v 6 = .bool false := hd 6 (by kernel_rfl)
      simp only [List.take_succ_cons, List.take_zero, putF, Act.put, List.setIfInBounds_toArray, List.set_cons_zero, List.set_cons_succ, Nat.reduceAdd, Nat.zero_add]
      simp only [e11]
      simp only [e13]
      simp only [e6]
      clear hd e11 e13 e6
      rw [if_pos (by rfl)]
      intro K hK
      have qc := hx.cell hcell
      have qA := hx.cell hA
      have HK := Lib.hid hK; clear hK
      go_simp
      exact HK.out _ _ (.inl (Ext.refl _)) rfl
    -- 15: slot 39 := Op.pick t30 (const (Value.bool true)) t38
    refine ⟨?_, ?_⟩
    · intro v w' hx hd
      have e6 : v 6 = .bool false := hd 6 (by kernel_rfl)
      have e14 : v 14 = .bool false := hd 14 (by kernel_rfl)
      simp only [List.take_succ_cons, List.take_zero, putF, Act.put, List.setIfInBounds_toArray, List.set_cons_zero, List.set_cons_succ, Nat.reduceAdd, Nat.zero_add]
      simp only [e6]
      simp only [e14]
      clear hd e6 e14
      rw [if_pos (by rfl)]
      intro K hK
      have qc := hx.cell hcell
      have qA := hx.cell hA
      have HK := Lib.hid hK; clear hK
      go_simp
      exact HK.out _ _ (.inl (Ext.refl _)) rfl
    -- 16: slot 40 := Op.move t39
    refine ⟨?_, ?_⟩
    · intro v w' hx hd
      have e15 : v 15 = .bool false := hd 15 (by kernel_rfl)
      simp only [List.take_succ_cons, List.take_zero, putF, Act.put, List.setIfInBounds_toArray, List.set_cons_zero, List.set_cons_succ, Nat.reduceAdd, Nat.zero_add]
      simp only [e15]
      clear hd e15
      rw [if_pos (by rfl)]
      intro K hK
      have qc := hx.cell hcell
      have qA := hx.cell hA
      have HK := Lib.hid hK; clear hK
      go_simp
      exact HK.out _ _ (.inl (Ext.refl _)) rfl
    -- 17: slot 41 := Op.move t7   [guarded: some (16, false)]
    refine ⟨?_, ?_⟩
    · intro v w' hx hd
      have e16 : v 16 = .bool false := hd 16 (by kernel_rfl)
      simp only [List.take_succ_cons, List.take_zero, putF, Act.put, List.setIfInBounds_toArray, List.set_cons_zero, List.set_cons_succ, Nat.reduceAdd, Nat.zero_add]
      simp only [e16]
      clear hd e16
      rw [if_pos (by rfl)]
      intro K hK
      have qc := hx.cell hcell
      have qA := hx.cell hA
      have HK := Lib.hid hK; clear hK
      go_simp
      exact HK.out _ _ (.inl (Ext.refl _)) rfl
    -- 18: slot 42 := Op.binOp BinOp.gtr 3 t41 (const (0:i64)) 3   [guarded: some (16, false)]
    refine ⟨?_, ?_⟩
    · intro v w' hx hd
      have e17 : v 17 = .int .i64 (n : Int) := hd 17 (by kernel_rfl)
      have e16 : v 16 = .bool false := hd 16 (by kernel_rfl)
      simp only [List.take_succ_cons, List.take_zero, putF, Act.put, List.setIfInBounds_toArray, List.set_cons_zero, List.set_cons_succ, Nat.reduceAdd, Nat.zero_add]
      simp only [e17]
      simp only [e16]
      clear hd e17 e16
      rw [if_pos (by rfl)]
      intro K hK
      have qc := hx.cell hcell
      have qA := hx.cell hA
      have HK := Lib.hid hK; clear hK
      go_simp
      exact HK.out _ _ (.inl (Ext.refl _)) rfl
    -- 19: slot 43 := Op.move t42   [guarded: some (16, false)]
    refine ⟨?_, ?_⟩
    · intro v w' hx hd
      have e18 : v 18 = .bool true := hd 18 (by kernel_rfl)
      have e16 : v 16 = .bool false := hd 16 (by kernel_rfl)
      simp only [List.take_succ_cons, List.take_zero, putF, Act.put, List.setIfInBounds_toArray, List.set_cons_zero, List.set_cons_succ, Nat.reduceAdd, Nat.zero_add]
      simp only [e18]
      simp only [e16]
      clear hd e18 e16
      rw [if_pos (by rfl)]
      intro K hK
      have qc := hx.cell hcell
      have qA := hx.cell hA
      have HK := Lib.hid hK; clear hK
      go_simp
      exact HK.out _ _ (.inl (Ext.refl _)) rfl
    -- 20: slot 44 := Op.move t8   [guarded: some (19, true)]
    refine ⟨?_, ?_⟩
    · intro v w' hx hd
      have e19 : v 19 = .bool true := hd 19 (by kernel_rfl)
      simp only [List.take_succ_cons, List.take_zero, putF, Act.put, List.setIfInBounds_toArray, List.set_cons_zero, List.set_cons_succ, Nat.reduceAdd, Nat.zero_add]
      simp only [e19]
      clear hd e19
      rw [if_pos (by rfl)]
      intro K hK
      have qc := hx.cell hcell
      have qA := hx.cell hA
      have HK := Lib.hid hK; clear hK
      go_simp
      exact HK.out _ _ (.inl (Ext.refl _)) rfl
    -- 21: slot 45 := Op.slice 35 t44 none (some (const (4:i64))) none   [guarded: some (19, true)]
    refine ⟨?_, ?_⟩
    · intro v w' hx hd
      have e20 : v 20 = .slice (some ⟨b, o, none⟩) ns cs := hd 20 (by kernel_rfl)
      have e19 : v 19 = .bool true := hd 19 (by kernel_rfl)
      simp only [List.take_succ_cons, List.take_zero, putF, Act.put, List.setIfInBounds_toArray, List.set_cons_zero, List.set_cons_succ, Nat.reduceAdd, Nat.zero_add]
      simp only [e20]
      simp only [e19]
      clear hd e20 e19
      rw [if_pos (by rfl)]
      intro K hK
      have qc := hx.cell hcell
      have qA := hx.cell hA
      have HK := Lib.hid hK; clear hK
      go_simp
      exact HK.out _ _ (.inl (Ext.refl _)) rfl
    -- 22: slot 46 := Op.call { value (Operand.func 85), args := #[t45], argTypes := #[35] }   [guarded: some (1
    refine ⟨?_, ?_⟩
    · intro v w' hx hd
      have e21 : v 21 = .slice (some ⟨b, o, none⟩) 4 cs := hd 21 (by kernel_rfl)
      have e19 : v 19 = .bool true := hd 19 (by kernel_rfl)
      simp only [List.take_succ_cons, List.take_zero, putF, Act.put, List.setIfInBounds_toArray, List.set_cons_zero, List.set_cons_succ, Nat.reduceAdd, Nat.zero_add]
      simp only [e21]
      simp only [e19]
      clear hd e21 e19
      rw [if_pos (by rfl)]
      intro K hK
      have qc := hx.cell hcell
      have qA := hx.cell hA
      have HK := Lib.hid hK; clear hK
      go_simp
      refine (number_ok w' _ (s.take 4) (H4.out.keep hx) (by rw [List.length_take]; omega)).mono ?_
      rintro e w2 ⟨rfl, rfl⟩
      rw [HGS.out]
      exact HK.out _ _ (.inl (Ext.refl _)) rfl
    -- 23: slot 47 := Op.move t0   [guarded: some (19, true)]
    refine ⟨?_, ?_⟩
    · intro v w' hx hd
      have e19 : v 19 = .bool true := hd 19 (by kernel_rfl)
      simp only [List.take_succ_cons, List.take_zero, putF, Act.put, List.setIfInBounds_toArray, List.set_cons_zero, List.set_cons_succ, Nat.reduceAdd, Nat.zero_add]
      simp only [e19]
      clear hd e19
      rw [if_pos (by rfl)]
      intro K hK
      have qc := hx.cell hcell
      have qA := hx.cell hA
      have HK := Lib.hid hK; clear hK
      go_simp
      exact HK.out _ _ (.inl (Ext.refl _)) rfl
    -- 24: slot 48 := Op.move t1   [guarded: some (19, true)]
    refine ⟨?_, ?_⟩
    · intro v w' hx hd
      have e19 : v 19 = .bool true := hd 19 (by kernel_rfl)
      simp only [List.take_succ_cons, List.take_zero, putF, Act.put, List.setIfInBounds_toArray, List.set_cons_zero, List.set_cons_succ, Nat.reduceAdd, Nat.zero_add]
      simp only [e19]
      clear hd e19
      rw [if_pos (by rfl)]
      intro K hK
      have qc := hx.cell hcell
      have qA := hx.cell hA
      have HK := Lib.hid hK; clear hK
      go_simp
      exact HK.out _ _ (.inl (Ext.refl _)) rfl
    -- 25: slot 49 := Op.indexAddr 22 t47 t48   [guarded: some (19, true)]
    refine ⟨?_, ?_⟩
    · intro v w' hx hd
      have e23 : v 23 = .slice (some ⟨bl, ol, none⟩) nl cl := hd 23 (by kernel_rfl)
      have e24 : v 24 = .int .i64 (at_ : Int) := hd 24 (by kernel_rfl)
      have e19 : v 19 = .bool true := hd 19 (by kernel_rfl)
      simp only [List.take_succ_cons, List.take_zero, putF, Act.put, List.setIfInBounds_toArray, List.set_cons_zero, List.set_cons_succ, Nat.reduceAdd, Nat.zero_add]
      simp only [e23]
      simp only [e24]
      simp only [e19]
      clear hd e23 e24 e19
      rw [if_pos (by rfl)]
      intro K hK
      have qc := hx.cell hcell
      have qA := hx.cell hA
      have HK := Lib.hid hK; clear hK
      go_simp
      exact HK.out _ _ (.inl (Ext.refl _)) rfl
    -- 26: slot 50 := Op.load 35 t49   [guarded: some (19, true)]
    refine ⟨?_, ?_⟩
    · intro v w' hx hd
      have e25 : v 25 = .pointer (some ⟨bl, ol + at_, none⟩) := hd 25 (by kernel_rfl)
      have e19 : v 19 = .bool true := hd 19 (by kernel_rfl)
      simp only [List.take_succ_cons, List.take_zero, putF, Act.put, List.setIfInBounds_toArray, List.set_cons_zero, List.set_cons_succ, Nat.reduceAdd, Nat.zero_add]
      simp only [e25]
      simp only [e19]
      clear hd e25 e19
      rw [if_pos (by rfl)]
      intro K hK
      have qc := hx.cell hcell
      have qA := hx.cell hA
      have HK := Lib.hid hK; clear hK
      go_simp
      exact HK.out _ _ (.inl (Ext.refl _)) rfl
    -- 27: slot 51 := Op.slice 35 t50 none (some (const (4:i64))) none   [guarded: some (19, true)]
    refine ⟨?_, ?_⟩
    · intro v w' hx hd
      have e26 : v 26 = .slice (some ⟨ba, oa, none⟩) na ca := hd 26 (by kernel_rfl)
      have e19 : v 19 = .bool true := hd 19 (by kernel_rfl)
      simp only [List.take_succ_cons, List.take_zero, putF, Act.put, List.setIfInBounds_toArray, List.set_cons_zero, List.set_cons_succ, Nat.reduceAdd, Nat.zero_add]
      simp only [e26]
      simp only [e19]
      clear hd e26 e19
      rw [if_pos (by rfl)]
      intro K hK
      have qc := hx.cell hcell
      have qA := hx.cell hA
      have HK := Lib.hid hK; clear hK
      go_simp
      exact HK.out _ _ (.inl (Ext.refl _)) rfl
    -- 28: slot 52 := Op.call { value (Operand.func 85), args := #[t51], argTypes := #[35] }   [guarded: some (1
    refine ⟨?_, ?_⟩
    · intro v w' hx hd
      have e27 : v 27 = .slice (some ⟨ba, oa, none⟩) 4 ca := hd 27 (by kernel_rfl)
      have e19 : v 19 = .bool true := hd 19 (by kernel_rfl)
      simp only [List.take_succ_cons, List.take_zero, putF, Act.put, List.setIfInBounds_toArray, List.set_cons_zero, List.set_cons_succ, Nat.reduceAdd, Nat.zero_add]
      simp only [e27]
      simp only [e19]
      clear hd e27 e19
      rw [if_pos (by rfl)]
      intro K hK
      have qc := hx.cell hcell
      have qA := hx.cell hA
      have HK := Lib.hid hK; clear hK
      go_simp
      refine (number_ok w' _ (s2.take 4) (HA4.out.keep hx) (by rw [List.length_take]; omega)).mono ?_
      rintro e w2 ⟨rfl, rfl⟩
      rw [HGA.out]
      exact HK.out _ _ (.inl (Ext.refl _)) rfl
    -- 29: slot 53 := Op.binOp BinOp.neq 95 t46 t52 95   [guarded: some (19, true)]
    refine ⟨?_, ?_⟩
    · intro v w' hx hd
      have e22 : v 22 = .int .u64 (gs : Int) := hd 22 (by kernel_rfl)
      have e28 : v 28 = .int .u64 (ga : Int) := hd 28 (by kernel_rfl)
      have e19 : v 19 = .bool true := hd 19 (by kernel_rfl)
      simp only [List.take_succ_cons, List.take_zero, putF, Act.put, List.setIfInBounds_toArray, List.set_cons_zero, List.set_cons_succ, Nat.reduceAdd, Nat.zero_add]
      simp only [e22]
      simp only [e28]
      simp only [e19]
      clear hd e22 e28 e19
      rw [if_pos (by rfl)]
      intro K hK
      have qc := hx.cell hcell
      have qA := hx.cell hA
      have HK := Lib.hid hK; clear hK
      go_simp
      exact HK.out _ _ (.inl (Ext.refl _)) rfl
    -- 30: slot 54 := Op.pick t43 t53 (const (Value.bool false))   [guarded: some (16, false)]
    refine ⟨?_, ?_⟩
    · intro v w' hx hd
      have e19 : v 19 = .bool true := hd 19 (by kernel_rfl)
      have e29 : v 29 = .bool c3 := hd 29 (by kernel_rfl)
      have e16 : v 16 = .bool false := hd 16 (by kernel_rfl)
      simp only [List.take_succ_cons, List.take_zero, putF, Act.put, List.setIfInBounds_toArray, List.set_cons_zero, List.set_cons_succ, Nat.reduceAdd, Nat.zero_add]
      simp only [e19]
      simp only [e29]
      simp only [e16]
      clear hd e19 e29 e16
      rw [if_pos (by rfl)]
      intro K hK
      have qc := hx.cell hcell
      have qA := hx.cell hA
      have HK := Lib.hid hK; clear hK
      go_simp
      exact HK.out _ _ (.inl (Ext.refl _)) rfl
    -- 31: slot 55 := Op.pick t40 (const (Value.bool true)) t54
    refine ⟨?_, ?_⟩
    · intro v w' hx hd
      have e16 : v 16 = .bool false := hd 16 (by kernel_rfl)
      have e30 : v 30 = .bool c3 := hd 30 (by kernel_rfl)
      simp only [List.take_succ_cons, List.take_zero, putF, Act.put, List.setIfInBounds_toArray, List.set_cons_zero, List.set_cons_succ, Nat.reduceAdd, Nat.zero_add]
      simp only [e16]
      simp only [e30]
      clear hd e16 e30
      rw [if_pos (by rfl)]
      intro K hK
      have qc := hx.cell hcell
      have qA := hx.cell hA
      have HK := Lib.hid hK; clear hK
      go_simp
      exact HK.out _ _ (.inl (Ext.refl _)) rfl
    exact trivial
  case tail =>
    intro v w' hx hall
    simp only [List.drop_succ_cons, List.drop_zero, List.take_succ_cons, List.take_zero, putF, Act.put, List.setIfInBounds_toArray, List.set_cons_zero, List.set_cons_succ, Nat.reduceAdd, Nat.zero_add]
    have e31 : v 31 = .bool c3 := hall 31 (by decide) (fun k hk => by simp at hk)
    simp only [e31]
    have HX := Lib.hid hx; clear hx
    clear hall e31
    exact HQ.out _ _ _ _ _ _ _ _ _ _ _ _ _ _ _ _ _ _ _ _ _ _ _ _ _ _ _ _ _ _ _ w' HX.out
end Go.Proofs.Ytpciankfpagnhaa
