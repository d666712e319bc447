/- The law JournalAppendSpec returns true on every input. -/
import Derived.Test.YtpciankfpagnhaaJ29
namespace Go.Proofs.Ytpciankfpagnhaa
open Go.RowKit

noncomputable def code11_7 : Code := ((Try.f11.body.bind (regionOf 7)).getD .skip)
set_option maxRecDepth 100000 in
set_option maxHeartbeats 4000000 in
theorem reg11_7 {Q : Exit → Act → World → Prop} (t0 t1 t3 t4 t9 t10 t11 t12 t13 t14 t15 t16 t17 t18 t19 t20 t21 t22 t23 t24 t25 t26 t27 t28 t29 t30 t31 t32 t33 t34 t35 t36 t37 t38 t39 t40 t41 t42 t43 t44 t45 t46 t47 t48 t49 t50 t51 t52 t53 t54 : Value) (w1 : World) (g2 g5 g7 ci cx cy : Nat) (ai ax ay : Option Addr) (j x : Jn) (xe : Int)
    (h2 : Box w1 g2 [.slice ai j.records.length ci, .int .i64 j.many, .int .i64 j.synced]) (h5 : Box w1 g5 [.slice ax x.records.length cx, .int .i64 x.many, .int .i64 x.synced]) (h7 : Box w1 g7 [.slice ay x.records.length cy, .int .i64 x.many, .int .i64 x.synced]) (hj : Journal No w1 (.agg #[.slice ai j.records.length ci, .int .i64 j.many, .int .i64 j.synced]) j) (hx0 : Journal No w1 (.agg #[.slice ax x.records.length cx, .int .i64 x.many, .int .i64 x.synced]) x) (hy : Journal No w1 (.agg #[.slice ay x.records.length cy, .int .i64 x.many, .int .i64 x.synced]) x) (hl : ReachB j.records)
    (hQ : ∀ (u33 u34 u35 u36 u37 u38 u39 u40 u41 u42 u43 u44 u45 u46 u47 u48 u49 u50 u51 u52 u53 u54 : Value) (wx : World), Ext w1 wx → Q .normal ⟨#[t0, t1, .pointer (some ⟨g2, 0, none⟩), t3, .bool true, .pointer (some ⟨g5, 0, none⟩), .int .i64 xe, .pointer (some ⟨g7, 0, none⟩), .int .i64 xe, t9, t10, t11, t12, t13, t14, t15, t16, t17, t18, t19, t20, t21, t22, t23, t24, t25, t26, t27, t28, t29, t30, t31, t32, u33, u34, u35, u36, u37, u38, u39, u40, u41, u42, u43, u44, u45, u46, u47, u48, u49, u50, u51, u52, u53, u54], []⟩ wx) :
    Code.wp Try.prog code11_7 Q ⟨#[t0, t1, .pointer (some ⟨g2, 0, none⟩), t3, t4, .pointer (some ⟨g5, 0, none⟩), .int .i64 xe, .pointer (some ⟨g7, 0, none⟩), .int .i64 xe, t9, t10, t11, t12, t13, t14, t15, t16, t17, t18, t19, t20, t21, t22, t23, t24, t25, t26, t27, t28, t29, t30, t31, t32, t33, t34, t35, t36, t37, t38, t39, t40, t41, t42, t43, t44, t45, t46, t47, t48, t49, t50, t51, t52, t53, t54], []⟩ w1 := by
  conv => arg 2; whnf
  have HQ := Lib.hid hQ; clear hQ
  have HJ := Lib.hid hj; clear hj
  have HX := Lib.hid hx0; clear hx0
  have HY := Lib.hid hy; clear hy
  have HL := Lib.hid hl; clear hl
  obtain ⟨c20, c21, c22, -, -, -⟩ := h2.three
  obtain ⟨c50, c51, c52, -, -, -⟩ := h5.three
  obtain ⟨c70, c71, c72, -, -, -⟩ := h7.three
  clear h2 h5 h7
  have r1 : (chkJ j == chkJ j) = true := beq_self_eq_true _
  have r2 : (roomJ j == roomJ j) = true := beq_self_eq_true _
  have r3 : (xe == xe) = true := beq_self_eq_true _
  generalize hck : chkJ j = ck at *
  generalize hrm : roomJ j = rm at *
  have HCK := Lib.hid hck; clear hck
  have HRM := Lib.hid hrm; clear hrm
  refine wp_region_rg 22 (fun _ => none) (by kernel_rfl) (by kernel_rfl) (phi [fun v _ => v = .agg #[.slice ai j.records.length ci, .int .i64 j.many, .int .i64 j.synced],
      fun v _ => v = .int .i64 ck,
      fun v _ => v = .agg #[.slice ai j.records.length ci, .int .i64 j.many, .int .i64 j.synced],
      fun v _ => v = .int .i64 ck,
      fun v _ => v = .bool true,
      fun v _ => v = .bool true,
      fun v _ => v = .agg #[.slice ai j.records.length ci, .int .i64 j.many, .int .i64 j.synced],
      fun v _ => v = .int .i64 rm,
      fun v _ => v = .agg #[.slice ai j.records.length ci, .int .i64 j.many, .int .i64 j.synced],
      fun v _ => v = .int .i64 rm,
      fun v _ => v = .bool true,
      fun v _ => v = .bool true,
      fun v _ => v = .bool true,
      fun v _ => v = .agg #[.slice ax x.records.length cx, .int .i64 x.many, .int .i64 x.synced],
      fun v _ => v = .agg #[.slice ay x.records.length cy, .int .i64 x.many, .int .i64 x.synced],
      fun v _ => v = .bool true,
      fun v _ => v = .bool true,
      fun v _ => v = .bool true,
      fun v _ => v = .int .i64 xe,
      fun v _ => v = .int .i64 xe,
      fun v _ => v = .bool true,
      fun v _ => v = .bool true]) (phi_stable ?stable) ?steps ?tail
  case stable =>
    exact List.forall_mem_cons.2 ⟨stab_eq _, List.forall_mem_cons.2 ⟨stab_eq _, List.forall_mem_cons.2 ⟨stab_eq _, List.forall_mem_cons.2 ⟨stab_eq _, List.forall_mem_cons.2 ⟨stab_eq _, List.forall_mem_cons.2 ⟨stab_eq _, List.forall_mem_cons.2 ⟨stab_eq _, List.forall_mem_cons.2 ⟨stab_eq _, List.forall_mem_cons.2 ⟨stab_eq _, List.forall_mem_cons.2 ⟨stab_eq _, List.forall_mem_cons.2 ⟨stab_eq _, List.forall_mem_cons.2 ⟨stab_eq _, List.forall_mem_cons.2 ⟨stab_eq _, List.forall_mem_cons.2 ⟨stab_eq _, List.forall_mem_cons.2 ⟨stab_eq _, List.forall_mem_cons.2 ⟨stab_eq _, List.forall_mem_cons.2 ⟨stab_eq _, List.forall_mem_cons.2 ⟨stab_eq _, List.forall_mem_cons.2 ⟨stab_eq _, List.forall_mem_cons.2 ⟨stab_eq _, List.forall_mem_cons.2 ⟨stab_eq _, List.forall_mem_cons.2 ⟨stab_eq _, fun _ h => by cases h⟩⟩⟩⟩⟩⟩⟩⟩⟩⟩⟩⟩⟩⟩⟩⟩⟩⟩⟩⟩⟩⟩
  case steps =>
    simp only [List.take_succ_cons, List.take_zero]
    -- 0: slot 33 := Op.load 55 t2
    refine ⟨?_, ?_⟩
    · intro v w' hx hd
      simp only [List.take_succ_cons, List.take_zero, putF, Act.put, List.setIfInBounds_toArray, List.set_cons_zero, List.set_cons_succ, Nat.reduceAdd, Nat.zero_add]
      clear hd
      rw [if_pos (by rfl)]
      intro K hK
      have q20 := hx.cell c20
      have q21 := hx.cell c21
      have q22 := hx.cell c22
      have q50 := hx.cell c50
      have q51 := hx.cell c51
      have q52 := hx.cell c52
      have q70 := hx.cell c70
      have q71 := hx.cell c71
      have q72 := hx.cell c72
      have HK := Lib.hid hK; clear hK
      go_simp
      exact HK.out _ _ (.inl (Ext.refl _)) rfl
    -- 1: slot 34 := Op.call { value (Operand.func 43), args := #[t33], argTypes := #[55] }
    refine ⟨?_, ?_⟩
    · intro v w' hx hd
      have e0 : v 0 = .agg #[.slice ai j.records.length ci, .int .i64 j.many, .int .i64 j.synced] := hd 0 (by kernel_rfl)
      simp only [List.take_succ_cons, List.take_zero, putF, Act.put, List.setIfInBounds_toArray, List.set_cons_zero, List.set_cons_succ, Nat.reduceAdd, Nat.zero_add]
      simp only [e0]
      clear hd e0
      rw [if_pos (by rfl)]
      intro K hK
      have q20 := hx.cell c20
      have q21 := hx.cell c21
      have q22 := hx.cell c22
      have q50 := hx.cell c50
      have q51 := hx.cell c51
      have q52 := hx.cell c52
      have q70 := hx.cell c70
      have q71 := hx.cell c71
      have q72 := hx.cell c72
      have HK := Lib.hid hK; clear hK
      go_simp
      have k0 := checkJ_ok w' _ j (HJ.out.keep hx) HL.out
      rw [HCK.out] at k0
      refine k0.mono ?_
      rintro e w2 ⟨rfl, hx2⟩
      exact HK.out _ _ (.inl hx2) rfl
    -- 2: slot 35 := Op.load 55 t2
    refine ⟨?_, ?_⟩
    · intro v w' hx hd
      simp only [List.take_succ_cons, List.take_zero, putF, Act.put, List.setIfInBounds_toArray, List.set_cons_zero, List.set_cons_succ, Nat.reduceAdd, Nat.zero_add]
      clear hd
      rw [if_pos (by rfl)]
      intro K hK
      have q20 := hx.cell c20
      have q21 := hx.cell c21
      have q22 := hx.cell c22
      have q50 := hx.cell c50
      have q51 := hx.cell c51
      have q52 := hx.cell c52
      have q70 := hx.cell c70
      have q71 := hx.cell c71
      have q72 := hx.cell c72
      have HK := Lib.hid hK; clear hK
      go_simp
      exact HK.out _ _ (.inl (Ext.refl _)) rfl
    -- 3: slot 36 := Op.call { value (Operand.func 44), args := #[t35], argTypes := #[55] }
    refine ⟨?_, ?_⟩
    · intro v w' hx hd
      have e2 : v 2 = .agg #[.slice ai j.records.length ci, .int .i64 j.many, .int .i64 j.synced] := hd 2 (by kernel_rfl)
      simp only [List.take_succ_cons, List.take_zero, putF, Act.put, List.setIfInBounds_toArray, List.set_cons_zero, List.set_cons_succ, Nat.reduceAdd, Nat.zero_add]
      simp only [e2]
      clear hd e2
      rw [if_pos (by rfl)]
      intro K hK
      have q20 := hx.cell c20
      have q21 := hx.cell c21
      have q22 := hx.cell c22
      have q50 := hx.cell c50
      have q51 := hx.cell c51
      have q52 := hx.cell c52
      have q70 := hx.cell c70
      have q71 := hx.cell c71
      have q72 := hx.cell c72
      have HK := Lib.hid hK; clear hK
      go_simp
      have k0 := refCheckJ_ok w' _ j (HJ.out.keep hx) HL.out
      rw [HCK.out] at k0
      refine k0.mono ?_
      rintro e w2 ⟨rfl, hx2⟩
      exact HK.out _ _ (.inl hx2) rfl
    -- 4: slot 37 := Op.binOp BinOp.eql 28 t34 t36 28
    refine ⟨?_, ?_⟩
    · intro v w' hx hd
      have e1 : v 1 = .int .i64 ck := hd 1 (by kernel_rfl)
      have e3 : v 3 = .int .i64 ck := hd 3 (by kernel_rfl)
      simp only [List.take_succ_cons, List.take_zero, putF, Act.put, List.setIfInBounds_toArray, List.set_cons_zero, List.set_cons_succ, Nat.reduceAdd, Nat.zero_add]
      simp only [e1]
      simp only [e3]
      clear hd e1 e3
      rw [if_pos (by rfl)]
      intro K hK
      have q20 := hx.cell c20
      have q21 := hx.cell c21
      have q22 := hx.cell c22
      have q50 := hx.cell c50
      have q51 := hx.cell c51
      have q52 := hx.cell c52
      have q70 := hx.cell c70
      have q71 := hx.cell c71
      have q72 := hx.cell c72
      have HK := Lib.hid hK; clear hK
      go_simp
      exact HK.out _ _ (.inl (Ext.refl _)) rfl
    -- 5: slot 38 := Op.move t37
    refine ⟨?_, ?_⟩
    · intro v w' hx hd
      have e4 : v 4 = .bool true := hd 4 (by kernel_rfl)
      simp only [List.take_succ_cons, List.take_zero, putF, Act.put, List.setIfInBounds_toArray, List.set_cons_zero, List.set_cons_succ, Nat.reduceAdd, Nat.zero_add]
      simp only [e4]
      clear hd e4
      rw [if_pos (by rfl)]
      intro K hK
      have q20 := hx.cell c20
      have q21 := hx.cell c21
      have q22 := hx.cell c22
      have q50 := hx.cell c50
      have q51 := hx.cell c51
      have q52 := hx.cell c52
      have q70 := hx.cell c70
      have q71 := hx.cell c71
      have q72 := hx.cell c72
      have HK := Lib.hid hK; clear hK
      go_simp
      exact HK.out _ _ (.inl (Ext.refl _)) rfl
    -- 6: slot 39 := Op.load 55 t2   [guarded: some (5, true)]
    refine ⟨?_, ?_⟩
    · intro v w' hx hd
      have e5 : v 5 = .bool true := hd 5 (by kernel_rfl)
      simp only [List.take_succ_cons, List.take_zero, putF, Act.put, List.setIfInBounds_toArray, List.set_cons_zero, List.set_cons_succ, Nat.reduceAdd, Nat.zero_add]
      simp only [e5]
      clear hd e5
      rw [if_pos (by rfl)]
      intro K hK
      have q20 := hx.cell c20
      have q21 := hx.cell c21
      have q22 := hx.cell c22
      have q50 := hx.cell c50
      have q51 := hx.cell c51
      have q52 := hx.cell c52
      have q70 := hx.cell c70
      have q71 := hx.cell c71
      have q72 := hx.cell c72
      have HK := Lib.hid hK; clear hK
      go_simp
      exact HK.out _ _ (.inl (Ext.refl _)) rfl
    -- 7: slot 40 := Op.call { value (Operand.func 45), args := #[t39], argTypes := #[55] }   [guarded: some (5
    refine ⟨?_, ?_⟩
    · intro v w' hx hd
      have e6 : v 6 = .agg #[.slice ai j.records.length ci, .int .i64 j.many, .int .i64 j.synced] := hd 6 (by kernel_rfl)
      have e5 : v 5 = .bool true := hd 5 (by kernel_rfl)
      simp only [List.take_succ_cons, List.take_zero, putF, Act.put, List.setIfInBounds_toArray, List.set_cons_zero, List.set_cons_succ, Nat.reduceAdd, Nat.zero_add]
      simp only [e6]
      simp only [e5]
      clear hd e6 e5
      rw [if_pos (by rfl)]
      intro K hK
      have q20 := hx.cell c20
      have q21 := hx.cell c21
      have q22 := hx.cell c22
      have q50 := hx.cell c50
      have q51 := hx.cell c51
      have q52 := hx.cell c52
      have q70 := hx.cell c70
      have q71 := hx.cell c71
      have q72 := hx.cell c72
      have HK := Lib.hid hK; clear hK
      go_simp
      have k0 := room_ok w' _ j (HJ.out.keep hx) HL.out
      rw [HRM.out] at k0
      refine k0.mono ?_
      rintro e w2 ⟨rfl, hx2⟩
      exact HK.out _ _ (.inl hx2) rfl
    -- 8: slot 41 := Op.load 55 t2   [guarded: some (5, true)]
    refine ⟨?_, ?_⟩
    · intro v w' hx hd
      have e5 : v 5 = .bool true := hd 5 (by kernel_rfl)
      simp only [List.take_succ_cons, List.take_zero, putF, Act.put, List.setIfInBounds_toArray, List.set_cons_zero, List.set_cons_succ, Nat.reduceAdd, Nat.zero_add]
      simp only [e5]
      clear hd e5
      rw [if_pos (by rfl)]
      intro K hK
      have q20 := hx.cell c20
      have q21 := hx.cell c21
      have q22 := hx.cell c22
      have q50 := hx.cell c50
      have q51 := hx.cell c51
      have q52 := hx.cell c52
      have q70 := hx.cell c70
      have q71 := hx.cell c71
      have q72 := hx.cell c72
      have HK := Lib.hid hK; clear hK
      go_simp
      exact HK.out _ _ (.inl (Ext.refl _)) rfl
    -- 9: slot 42 := Op.call { value (Operand.func 46), args := #[t41], argTypes := #[55] }   [guarded: some (5
    refine ⟨?_, ?_⟩
    · intro v w' hx hd
      have e8 : v 8 = .agg #[.slice ai j.records.length ci, .int .i64 j.many, .int .i64 j.synced] := hd 8 (by kernel_rfl)
      have e5 : v 5 = .bool true := hd 5 (by kernel_rfl)
      simp only [List.take_succ_cons, List.take_zero, putF, Act.put, List.setIfInBounds_toArray, List.set_cons_zero, List.set_cons_succ, Nat.reduceAdd, Nat.zero_add]
      simp only [e8]
      simp only [e5]
      clear hd e8 e5
      rw [if_pos (by rfl)]
      intro K hK
      have q20 := hx.cell c20
      have q21 := hx.cell c21
      have q22 := hx.cell c22
      have q50 := hx.cell c50
      have q51 := hx.cell c51
      have q52 := hx.cell c52
      have q70 := hx.cell c70
      have q71 := hx.cell c71
      have q72 := hx.cell c72
      have HK := Lib.hid hK; clear hK
      go_simp
      have k0 := refRoom_ok w' _ j (HJ.out.keep hx) HL.out
      rw [HRM.out] at k0
      refine k0.mono ?_
      rintro e w2 ⟨rfl, hx2⟩
      exact HK.out _ _ (.inl hx2) rfl
    -- 10: slot 43 := Op.binOp BinOp.eql 3 t40 t42 3   [guarded: some (5, true)]
    refine ⟨?_, ?_⟩
    · intro v w' hx hd
      have e7 : v 7 = .int .i64 rm := hd 7 (by kernel_rfl)
      have e9 : v 9 = .int .i64 rm := hd 9 (by kernel_rfl)
      have e5 : v 5 = .bool true := hd 5 (by kernel_rfl)
      simp only [List.take_succ_cons, List.take_zero, putF, Act.put, List.setIfInBounds_toArray, List.set_cons_zero, List.set_cons_succ, Nat.reduceAdd, Nat.zero_add]
      simp only [e7]
      simp only [e9]
      simp only [e5]
      clear hd e7 e9 e5
      rw [if_pos (by rfl)]
      intro K hK
      have q20 := hx.cell c20
      have q21 := hx.cell c21
      have q22 := hx.cell c22
      have q50 := hx.cell c50
      have q51 := hx.cell c51
      have q52 := hx.cell c52
      have q70 := hx.cell c70
      have q71 := hx.cell c71
      have q72 := hx.cell c72
      have HK := Lib.hid hK; clear hK
      go_simp
      exact HK.out _ _ (.inl (Ext.refl _)) rfl
    -- 11: slot 44 := Op.pick t38 t43 (const (Value.bool false))
    refine ⟨?_, ?_⟩
    · intro v w' hx hd
      have e5 : v 5 = .bool true := hd 5 (by kernel_rfl)
      have e10 : v 10 = .bool true := hd 10 (by kernel_rfl)
      simp only [List.take_succ_cons, List.take_zero, putF, Act.put, List.setIfInBounds_toArray, List.set_cons_zero, List.set_cons_succ, Nat.reduceAdd, Nat.zero_add]
      simp only [e5]
      simp only [e10]
      clear hd e5 e10
      rw [if_pos (by rfl)]
      intro K hK
      have q20 := hx.cell c20
      have q21 := hx.cell c21
      have q22 := hx.cell c22
      have q50 := hx.cell c50
      have q51 := hx.cell c51
      have q52 := hx.cell c52
      have q70 := hx.cell c70
      have q71 := hx.cell c71
      have q72 := hx.cell c72
      have HK := Lib.hid hK; clear hK
      go_simp
      exact HK.out _ _ (.inl (Ext.refl _)) rfl
    -- 12: slot 45 := Op.move t44
    refine ⟨?_, ?_⟩
    · intro v w' hx hd
      have e11 : v 11 = .bool true := hd 11 (by kernel_rfl)
      simp only [List.take_succ_cons, List.take_zero, putF, Act.put, List.setIfInBounds_toArray, List.set_cons_zero, List.set_cons_succ, Nat.reduceAdd, Nat.zero_add]
      simp only [e11]
      clear hd e11
      rw [if_pos (by rfl)]
      intro K hK
      have q20 := hx.cell c20
      have q21 := hx.cell c21
      have q22 := hx.cell c22
      have q50 := hx.cell c50
      have q51 := hx.cell c51
      have q52 := hx.cell c52
      have q70 := hx.cell c70
      have q71 := hx.cell c71
      have q72 := hx.cell c72
      have HK := Lib.hid hK; clear hK
      go_simp
      exact HK.out _ _ (.inl (Ext.refl _)) rfl
    -- 13: slot 46 := Op.load 55 t5   [guarded: some (12, true)]
    refine ⟨?_, ?_⟩
    · intro v w' hx hd
      have e12 : v 12 = .bool true := hd 12 (by kernel_rfl)
      simp only [List.take_succ_cons, List.take_zero, putF, Act.put, List.setIfInBounds_toArray, List.set_cons_zero, List.set_cons_succ, Nat.reduceAdd, Nat.zero_add]
      simp only [e12]
      clear hd e12
      rw [if_pos (by rfl)]
      intro K hK
      have q20 := hx.cell c20
      have q21 := hx.cell c21
      have q22 := hx.cell c22
      have q50 := hx.cell c50
      have q51 := hx.cell c51
      have q52 := hx.cell c52
      have q70 := hx.cell c70
      have q71 := hx.cell c71
      have q72 := hx.cell c72
      have HK := Lib.hid hK; clear hK
      go_simp
      exact HK.out _ _ (.inl (Ext.refl _)) rfl
    -- 14: slot 47 := Op.load 55 t7   [guarded: some (12, true)]
    refine ⟨?_, ?_⟩
    · intro v w' hx hd
      have e12 : v 12 = .bool true := hd 12 (by kernel_rfl)
      simp only [List.take_succ_cons, List.take_zero, putF, Act.put, List.setIfInBounds_toArray, List.set_cons_zero, List.set_cons_succ, Nat.reduceAdd, Nat.zero_add]
      simp only [e12]
      clear hd e12
      rw [if_pos (by rfl)]
      intro K hK
      have q20 := hx.cell c20
      have q21 := hx.cell c21
      have q22 := hx.cell c22
      have q50 := hx.cell c50
      have q51 := hx.cell c51
      have q52 := hx.cell c52
      have q70 := hx.cell c70
      have q71 := hx.cell c71
      have q72 := hx.cell c72
      have HK := Lib.hid hK; clear hK
      go_simp
      exact HK.out _ _ (.inl (Ext.refl _)) rfl
    -- 15: slot 48 := Op.call { value (Operand.func 40), args := #[t46, t47], argTypes := #[55, 55] }   [guarded
    refine ⟨?_, ?_⟩
    · intro v w' hx hd
      have e13 : v 13 = .agg #[.slice ax x.records.length cx, .int .i64 x.many, .int .i64 x.synced] := hd 13 (by kernel_rfl)
      have e14 : v 14 = .agg #[.slice ay x.records.length cy, .int .i64 x.many, .int .i64 x.synced] := hd 14 (by kernel_rfl)
      have e12 : v 12 = .bool true := hd 12 (by kernel_rfl)
      simp only [List.take_succ_cons, List.take_zero, putF, Act.put, List.setIfInBounds_toArray, List.set_cons_zero, List.set_cons_succ, Nat.reduceAdd, Nat.zero_add]
      simp only [e13]
      simp only [e14]
      simp only [e12]
      clear hd e13 e14 e12
      rw [if_pos (by rfl)]
      intro K hK
      have q20 := hx.cell c20
      have q21 := hx.cell c21
      have q22 := hx.cell c22
      have q50 := hx.cell c50
      have q51 := hx.cell c51
      have q52 := hx.cell c52
      have q70 := hx.cell c70
      have q71 := hx.cell c71
      have q72 := hx.cell c72
      have HK := Lib.hid hK; clear hK
      go_simp
      have k0 := sameJ_ok w' _ _ x x (HX.out.keep hx) (HY.out.keep hx)
      rw [decide_eq_true rfl] at k0
      refine k0.mono ?_
      rintro e w2 ⟨rfl, hx2⟩
      exact HK.out _ _ (.inl hx2) rfl
    -- 16: slot 49 := Op.pick t45 t48 (const (Value.bool false))
    refine ⟨?_, ?_⟩
    · intro v w' hx hd
      have e12 : v 12 = .bool true := hd 12 (by kernel_rfl)
      have e15 : v 15 = .bool true := hd 15 (by kernel_rfl)
      simp only [List.take_succ_cons, List.take_zero, putF, Act.put, List.setIfInBounds_toArray, List.set_cons_zero, List.set_cons_succ, Nat.reduceAdd, Nat.zero_add]
      simp only [e12]
      simp only [e15]
      clear hd e12 e15
      rw [if_pos (by rfl)]
      intro K hK
      have q20 := hx.cell c20
      have q21 := hx.cell c21
      have q22 := hx.cell c22
      have q50 := hx.cell c50
      have q51 := hx.cell c51
      have q52 := hx.cell c52
      have q70 := hx.cell c70
      have q71 := hx.cell c71
      have q72 := hx.cell c72
      have HK := Lib.hid hK; clear hK
      go_simp
      exact HK.out _ _ (.inl (Ext.refl _)) rfl
    -- 17: slot 50 := Op.move t49
    refine ⟨?_, ?_⟩
    · intro v w' hx hd
      have e16 : v 16 = .bool true := hd 16 (by kernel_rfl)
      simp only [List.take_succ_cons, List.take_zero, putF, Act.put, List.setIfInBounds_toArray, List.set_cons_zero, List.set_cons_succ, Nat.reduceAdd, Nat.zero_add]
      simp only [e16]
      clear hd e16
      rw [if_pos (by rfl)]
      intro K hK
      have q20 := hx.cell c20
      have q21 := hx.cell c21
      have q22 := hx.cell c22
      have q50 := hx.cell c50
      have q51 := hx.cell c51
      have q52 := hx.cell c52
      have q70 := hx.cell c70
      have q71 := hx.cell c71
      have q72 := hx.cell c72
      have HK := Lib.hid hK; clear hK
      go_simp
      exact HK.out _ _ (.inl (Ext.refl _)) rfl
    -- 18: slot 51 := Op.move t6   [guarded: some (17, true)]
    refine ⟨?_, ?_⟩
    · intro v w' hx hd
      have e17 : v 17 = .bool true := hd 17 (by kernel_rfl)
      simp only [List.take_succ_cons, List.take_zero, putF, Act.put, List.setIfInBounds_toArray, List.set_cons_zero, List.set_cons_succ, Nat.reduceAdd, Nat.zero_add]
      simp only [e17]
      clear hd e17
      rw [if_pos (by rfl)]
      intro K hK
      have q20 := hx.cell c20
      have q21 := hx.cell c21
      have q22 := hx.cell c22
      have q50 := hx.cell c50
      have q51 := hx.cell c51
      have q52 := hx.cell c52
      have q70 := hx.cell c70
      have q71 := hx.cell c71
      have q72 := hx.cell c72
      have HK := Lib.hid hK; clear hK
      go_simp
      exact HK.out _ _ (.inl (Ext.refl _)) rfl
    -- 19: slot 52 := Op.move t8   [guarded: some (17, true)]
    refine ⟨?_, ?_⟩
    · intro v w' hx hd
      have e17 : v 17 = .bool true := hd 17 (by kernel_rfl)
      simp only [List.take_succ_cons, List.take_zero, putF, Act.put, List.setIfInBounds_toArray, List.set_cons_zero, List.set_cons_succ, Nat.reduceAdd, Nat.zero_add]
      simp only [e17]
      clear hd e17
      rw [if_pos (by rfl)]
      intro K hK
      have q20 := hx.cell c20
      have q21 := hx.cell c21
      have q22 := hx.cell c22
      have q50 := hx.cell c50
      have q51 := hx.cell c51
      have q52 := hx.cell c52
      have q70 := hx.cell c70
      have q71 := hx.cell c71
      have q72 := hx.cell c72
      have HK := Lib.hid hK; clear hK
      go_simp
      exact HK.out _ _ (.inl (Ext.refl _)) rfl
    -- 20: slot 53 := Op.binOp BinOp.eql 28 t51 t52 28   [guarded: some (17, true)]
    refine ⟨?_, ?_⟩
    · intro v w' hx hd
      have e18 : v 18 = .int .i64 xe := hd 18 (by kernel_rfl)
      have e19 : v 19 = .int .i64 xe := hd 19 (by kernel_rfl)
      have e17 : v 17 = .bool true := hd 17 (by kernel_rfl)
      simp only [List.take_succ_cons, List.take_zero, putF, Act.put, List.setIfInBounds_toArray, List.set_cons_zero, List.set_cons_succ, Nat.reduceAdd, Nat.zero_add]
      simp only [e18]
      simp only [e19]
      simp only [e17]
      clear hd e18 e19 e17
      rw [if_pos (by rfl)]
      intro K hK
      have q20 := hx.cell c20
      have q21 := hx.cell c21
      have q22 := hx.cell c22
      have q50 := hx.cell c50
      have q51 := hx.cell c51
      have q52 := hx.cell c52
      have q70 := hx.cell c70
      have q71 := hx.cell c71
      have q72 := hx.cell c72
      have HK := Lib.hid hK; clear hK
      go_simp
      exact HK.out _ _ (.inl (Ext.refl _)) rfl
    -- 21: slot 54 := Op.pick t50 t53 (const (Value.bool false))
    refine ⟨?_, ?_⟩
    · intro v w' hx hd
      have e17 : v 17 = .bool true := hd 17 (by kernel_rfl)
      have e20 : v 20 = .bool true := hd 20 (by kernel_rfl)
      simp only [List.take_succ_cons, List.take_zero, putF, Act.put, List.setIfInBounds_toArray, List.set_cons_zero, List.set_cons_succ, Nat.reduceAdd, Nat.zero_add]
      simp only [e17]
      simp only [e20]
      clear hd e17 e20
      rw [if_pos (by rfl)]
      intro K hK
      have q20 := hx.cell c20
      have q21 := hx.cell c21
      have q22 := hx.cell c22
      have q50 := hx.cell c50
      have q51 := hx.cell c51
      have q52 := hx.cell c52
      have q70 := hx.cell c70
      have q71 := hx.cell c71
      have q72 := hx.cell c72
      have HK := Lib.hid hK; clear hK
      go_simp
      exact HK.out _ _ (.inl (Ext.refl _)) rfl
    exact trivial
  case tail =>
    intro v w' hx hall
    simp only [List.drop_succ_cons, List.drop_zero, List.take_succ_cons, List.take_zero, putF, Act.put, List.setIfInBounds_toArray, List.set_cons_zero, List.set_cons_succ, Nat.reduceAdd, Nat.zero_add]
    have e21 : v 21 = .bool true := hall 21 (by decide) (fun k hk => by simp at hk)
    simp only [e21]
    have HX2 := Lib.hid hx; clear hx
    clear hall e21
    go_wp2_with fail
    exact HQ.out _ _ _ _ _ _ _ _ _ _ _ _ _ _ _ _ _ _ _ _ _ _ w' HX2.out

set_option maxRecDepth 100000 in
set_option maxHeartbeats 2000000 in
theorem journalAppendSpec_ok (w : World) (v : Value) (j : Jn) (vb : Value) (b : List UInt8) (h : Journal No w v j) (hb : Bs No w vb b) (hr : ReachB j.records ∧ j.records.length * 24 ≤ 140737488351232) :
    Calls Try.prog 11 #[v, vb] w fun e w' => e = .returned (.bool true) ∧ Ext w w' := by
  obtain ⟨hl, hcn⟩ := hr
  obtain ⟨ai, ci, rfl, -, -, -⟩ := h.open
  obtain ⟨ab, cb, rfl, hcb, hmb⟩ := hb.open
  have HL := Lib.hid hl; clear hl
  have hE0 := (Ext.refl w).alloc (.cells #[.slice ai j.records.length ci, .int .i64 j.many, .int .i64 j.synced] 55)
  have Di := Lib.hid (h.keep hE0); clear h
  have Db := Lib.hid (hb.keep hE0); clear hb
  have Bi := Lib.hid (Box.new w [.slice ai j.records.length ci, .int .i64 j.many, .int .i64 j.synced] 55)
  go_enter Try.func11, Try.ntmps11
  go_upto_region 1 with fail
  generalize w.alloc (.cells #[.slice ai j.records.length ci, .int .i64 j.many, .int .i64 j.synced] 55) = wa at *
  generalize w.heap.size = ni at *
  go_wp2_with fail
  have k0 := sane42_ok wa
  refine k0.mono ?_
  clear k0 
  rintro e w1 ⟨rfl, hx⟩
  replace Bi := Lib.hid (Bi.out.keep hx)
  replace Di := Lib.hid (Di.out.keep hx)
  replace Db := Lib.hid (Db.out.keep hx)
  have hE1 := hE0.trans hx; clear hE0
  clear hx
  obtain ⟨vr, er, hbr⟩ := Di.out
  cases er
  obtain ⟨qi0, qi1, qi2, -, -, -⟩ := Bi.out.three
  go_wp2_with fail
  have k0 := few42_ok (S := No) (S2 := No) w1 _ _ zeroD j.records (zeroD_disk No w1) hbr HL.out
  refine k0.mono ?_
  clear k0 qi0 qi1 qi2
  rintro e w2 ⟨rfl, hx⟩
  replace Bi := Lib.hid (Bi.out.keep hx)
  replace Di := Lib.hid (Di.out.keep hx)
  replace Db := Lib.hid (Db.out.keep hx)
  have hE2 := hE1.trans hx; clear hE1
  clear hx
  clear hbr
  generalize few42 zeroD j.records = bf
  cases bf
  · go_wp2_with fail
    go_ret
    exact ⟨rfl, hE2⟩
  by_cases hlen : (70000 : Int) < b.length
  · go_wp2_with fail
    go_ret
    exact ⟨rfl, hE2⟩
  obtain ⟨X, hX⟩ : ∃ X, appendJ j b = X := ⟨_, rfl⟩
  have HX := Lib.hid hX; clear hX
  obtain ⟨x, xe⟩ := X
  obtain ⟨qi0, qi1, qi2, -, -, -⟩ := Bi.out.three
  go_wp2_with fail
  have k0 := append_ok (S := No) w2 _ _ j b Di.out Db.out HL.out (by omega) (by intro _; omega) (by omega) No.lt
  rw [HX.out] at k0
  refine k0.mono ?_
  clear k0 qi0 qi1 qi2
  rintro e w3 ⟨u0, rfl, hd0, hx⟩
  obtain ⟨ax, cx, rfl, -, -, -⟩ := hd0.open
  have hy := ((Ext.refl w3).alloc (.cells #[.slice ax x.records.length cx, .int .i64 x.many, .int .i64 x.synced] 55))
  have hx4 := hx.trans hy
  have Bx := Lib.hid (Box.new w3 [.slice ax x.records.length cx, .int .i64 x.many, .int .i64 x.synced] 55)
  have Dx := Lib.hid (hd0.keep hy)
  replace Bi := Lib.hid (Bi.out.keep hx4)
  replace Di := Lib.hid (Di.out.keep hx4)
  replace Db := Lib.hid (Db.out.keep hx4)
  have hE3 := hE2.trans hx4; clear hE2
  clear hx hy hx4 hd0
  go_upto_region 6 with fail
  generalize w3.alloc (.cells #[.slice ax x.records.length cx, .int .i64 x.many, .int .i64 x.synced] 55) = w4 at *
  generalize w3.heap.size = nx at *
  obtain ⟨qi0, qi1, qi2, -, -, -⟩ := Bi.out.three
  go_wp2_with fail
  have k0 := refAppend_ok (S := No) w4 _ _ j b Di.out Db.out HL.out (by omega) (by intro _; omega) (by omega) No.lt
  rw [HX.out] at k0
  refine k0.mono ?_
  clear k0 qi0 qi1 qi2
  rintro e w5 ⟨u0, rfl, hd0, hx⟩
  obtain ⟨ay, cy, rfl, -, -, -⟩ := hd0.open
  have hy := ((Ext.refl w5).alloc (.cells #[.slice ay x.records.length cy, .int .i64 x.many, .int .i64 x.synced] 55))
  have hx4 := hx.trans hy
  have By := Lib.hid (Box.new w5 [.slice ay x.records.length cy, .int .i64 x.many, .int .i64 x.synced] 55)
  have Dy := Lib.hid (hd0.keep hy)
  replace Bi := Lib.hid (Bi.out.keep hx4)
  replace Bx := Lib.hid (Bx.out.keep hx4)
  replace Di := Lib.hid (Di.out.keep hx4)
  replace Dx := Lib.hid (Dx.out.keep hx4)
  replace Db := Lib.hid (Db.out.keep hx4)
  have hE4 := hE3.trans hx4; clear hE3
  clear hx hy hx4 hd0
  go_upto_region 7 with fail
  generalize w5.alloc (.cells #[.slice ay x.records.length cy, .int .i64 x.many, .int .i64 x.synced] 55) = w6 at *
  generalize w5.heap.size = ny at *
  refine reg11_7 _ _ _ _ _ _ _ _ _ _ _ _ _ _ _ _ _ _ _ _ _ _ _ _ _ _ _ _ _ _ _ _ _ _ _ _ _ _ _ _ _ _ _ _ _ _ _ _ _ _ w6 ni nx ny ci cx cy ai ax ay j x xe Bi.out Bx.out By.out Di.out Dx.out Dy.out HL.out ?_
  intro z0 z1 z2 z3 z4 z5 z6 z7 z8 z9 z10 z11 z12 z13 z14 z15 z16 z17 z18 z19 z20 z21 wz hxx
  go_wp2_with fail
  go_ret
  exact ⟨rfl, hE4.trans hxx⟩
end Go.Proofs.Ytpciankfpagnhaa
