/- The law JournalRoom returns true on every input of small bulk. -/
import Derived.Test.YtpciankfpagnhaaJ28
import Derived.Test.YtpciankfpagnhaaJ25
import Derived.Test.YtpciankfpagnhaaR4
namespace Go.Proofs.Ytpciankfpagnhaa
open Go.RowKit

theorem nice_of_ok {j : Jn} (h : okJ j = true) (hs : SmallR j.records) : Nice j := by
  have hu := hs.used
  have hw : usedW j.records = usedN j.records := usedW_eq _ (by omega)
  unfold okJ at h
  simp only [Bool.and_eq_true, decide_eq_true_eq, hw] at h
  exact ⟨h.1.1.1.1, h.1.1.1.2, h.1.1.2, h.1.2, h.2⟩
theorem Nice.room {j : Jn} (h : Nice j) : roomJ j = 112 * (j.many - usedN j.records) := by
  have h1 := h.many1; have h2 := h.many2; have h3 := h.used
  unfold roomJ; rw [h.ok, h.left, if_pos rfl]; unfold wrap64; omega
theorem Nice.chk {j : Jn} (h : Nice j) : chkJ j = 0 := chkJ_yes h.ok

noncomputable def code13_12 : Code := ((Try.f13.body.bind (regionOf 12)).getD .skip)
set_option maxRecDepth 100000 in
set_option maxHeartbeats 4000000 in
theorem reg13_12 {Q : Exit → Act → World → Prop} (t0 t3 t4 t6 t9 t10 t11 t12 t13 t14 t15 t16 t17 t18 t19 t20 t21 t22 t23 t24 t25 t26 t27 t28 t29 t30 t31 t32 t33 t34 t35 t36 t37 t38 t39 t40 t41 t42 t43 t44 t45 t46 t47 t48 t49 t50 t51 t52 t53 t54 t55 t56 t57 t58 t59 t60 t61 t62 t63 t64 t65 t66 t67 t68 t69 t70 t71 t72 t73 t74 t75 t76 t77 t78 t79 t80 t81 t82 t83 t84 t85 t86 t87 t88 t89 t90 t91 t92 t93 t94 t95 t96 t97 t98 t99 t100 t101 t102 t103 t104 t105 t106 t107 t108 : Value) (w1 : World) (g2 g5 ci cx cy cb n bx ox : Nat) (ai ay ab : Option Addr) (j x : Jn) (b : List UInt8) (rm rm2 : Int)
    (h2 : Box w1 g2 [.slice ai j.records.length ci, .int .i64 j.many, .int .i64 j.synced]) (h5 : Box w1 g5 [.slice (some ⟨bx, ox, none⟩) x.records.length cx, .int .i64 x.many, .int .i64 x.synced]) (hx0 : Journal No w1 (.agg #[.slice (some ⟨bx, ox, none⟩) x.records.length cx, .int .i64 x.many, .int .i64 x.synced]) x) (hjr : Bss No w1 (.slice ai j.records.length ci) j.records) (hxr : Bss No w1 (.slice (some ⟨bx, ox, none⟩) n cx) j.records) (hcl : w1.cell? ⟨bx, ox + n, none⟩ = some (.slice ay b.length cy)) (hby : Bs No w1 (.slice ay b.length cy) b) (hb : Bs No w1 (.slice ab b.length cb) b) (hl : ReachB x.records) (hn : x.records.length = n + 1) (hnc : x.records.length ≤ cx) (hcm : cx ≤ 9223372036854775807) (hm : x.many = j.many) (hs : x.synced = j.synced) (hk : chkJ x = 0) (hr2 : roomJ x = rm2) (hlt : rm2 < rm)
    (hQ : ∀ (u58 u59 u60 u61 u62 u63 u64 u65 u66 u67 u68 u69 u70 u71 u72 u73 u74 u75 u76 u77 u78 u79 u80 u81 u82 u83 u84 u85 u86 u87 u88 u89 u90 u91 u92 u93 u94 u95 u96 u97 u98 u99 u100 u101 u102 u103 u104 u105 u106 u107 u108 : Value) (wx : World), Ext w1 wx → Q .normal ⟨#[t0, .slice ab b.length cb, .pointer (some ⟨g2, 0, none⟩), t3, .bool true, .pointer (some ⟨g5, 0, none⟩), t6, .int .i64 rm, .int .i64 (n : Int), t9, t10, t11, t12, t13, t14, t15, t16, t17, t18, t19, t20, t21, t22, t23, t24, t25, t26, t27, t28, t29, t30, t31, t32, t33, t34, t35, t36, t37, t38, t39, t40, t41, t42, t43, t44, t45, t46, t47, t48, t49, t50, t51, t52, t53, t54, t55, t56, t57, u58, u59, u60, u61, u62, u63, u64, u65, u66, u67, u68, u69, u70, u71, u72, u73, u74, u75, u76, u77, u78, u79, u80, u81, u82, u83, u84, u85, u86, u87, u88, u89, u90, u91, u92, u93, u94, u95, u96, u97, u98, u99, u100, u101, u102, u103, u104, u105, u106, u107, u108], []⟩ wx) :
    Code.wp Try.prog code13_12 Q ⟨#[t0, .slice ab b.length cb, .pointer (some ⟨g2, 0, none⟩), t3, t4, .pointer (some ⟨g5, 0, none⟩), t6, .int .i64 rm, .int .i64 (n : Int), t9, t10, t11, t12, t13, t14, t15, t16, t17, t18, t19, t20, t21, t22, t23, t24, t25, t26, t27, t28, t29, t30, t31, t32, t33, t34, t35, t36, t37, t38, t39, t40, t41, t42, t43, t44, t45, t46, t47, t48, t49, t50, t51, t52, t53, t54, t55, t56, t57, t58, t59, t60, t61, t62, t63, t64, t65, t66, t67, t68, t69, t70, t71, t72, t73, t74, t75, t76, t77, t78, t79, t80, t81, t82, t83, t84, t85, t86, t87, t88, t89, t90, t91, t92, t93, t94, t95, t96, t97, t98, t99, t100, t101, t102, t103, t104, t105, t106, t107, t108], []⟩ w1 := by
  conv => arg 2; whnf
  have HQ := Lib.hid hQ; clear hQ
  have HX := Lib.hid hx0; clear hx0
  have HJR := Lib.hid hjr; clear hjr
  have HXR := Lib.hid hxr; clear hxr
  have HBY := Lib.hid hby; clear hby
  have HB := Lib.hid hb; clear hb
  have HL := Lib.hid hl; clear hl
  have HCK := Lib.hid hk; clear hk
  have HRM := Lib.hid hr2; clear hr2
  obtain ⟨c20, c21, c22, -, -, -⟩ := h2.three
  obtain ⟨c50, c51, c52, -, -, -⟩ := h5.three
  clear h2 h5
  have r1 : (x.many == j.many) = true := by rw [hm]; exact beq_self_eq_true _
  have r2 : (x.synced == j.synced) = true := by rw [hs]; exact beq_self_eq_true _
  have r3 : ((x.records.length : Int) == (n : Int) + 1) = true := by simp; omega
  have r4 : (n : Int) ≤ x.records.length := by omega
  have r5 : (n : Int) ≤ cx := by omega
  have r6 : (n : Int) < x.records.length := by omega
  have r7 : IntKind.i64.wrap ((n : Int) + 1) = (n : Int) + 1 := wraps_i64 _ (by omega) (by omega)
  have r8 : decide (rm2 < rm) = true := by simp [hlt]
  clear hm hs hn
  refine wp_region_rg 51 (fun _ => none) (by kernel_rfl) (by kernel_rfl) (phi [fun v _ => v = .agg #[.slice (some ⟨bx, ox, none⟩) x.records.length cx, .int .i64 x.many, .int .i64 x.synced],
      fun v _ => v = .int .i64 0,
      fun v _ => v = .bool true,
      fun v _ => v = .bool true,
      fun v _ => v = .pointer (some ⟨g5, 1, none⟩),
      fun v _ => v = .int .i64 x.many,
      fun v _ => v = .pointer (some ⟨g2, 1, none⟩),
      fun v _ => v = .int .i64 j.many,
      fun v _ => v = .bool true,
      fun v _ => v = .bool true,
      fun v _ => v = .bool true,
      fun v _ => v = .pointer (some ⟨g5, 2, none⟩),
      fun v _ => v = .int .i64 x.synced,
      fun v _ => v = .pointer (some ⟨g2, 2, none⟩),
      fun v _ => v = .int .i64 j.synced,
      fun v _ => v = .bool true,
      fun v _ => v = .bool true,
      fun v _ => v = .bool true,
      fun v _ => v = .pointer (some ⟨g5, 0, none⟩),
      fun v _ => v = .slice (some ⟨bx, ox, none⟩) x.records.length cx,
      fun v _ => v = .int .i64 (x.records.length : Int),
      fun v _ => v = .int .i64 (n : Int),
      fun v _ => v = .int .i64 ((n : Int) + 1),
      fun v _ => v = .bool true,
      fun v _ => v = .bool true,
      fun v _ => v = .bool true,
      fun v _ => v = .pointer (some ⟨g5, 0, none⟩),
      fun v _ => v = .slice (some ⟨bx, ox, none⟩) x.records.length cx,
      fun v _ => v = .int .i64 (n : Int),
      fun v _ => v = .slice (some ⟨bx, ox, none⟩) n cx,
      fun v _ => v = .pointer (some ⟨g2, 0, none⟩),
      fun v _ => v = .slice ai j.records.length ci,
      fun v _ => v = .bool true,
      fun v _ => v = .bool true,
      fun v _ => v = .bool true,
      fun v _ => v = .pointer (some ⟨g5, 0, none⟩),
      fun v _ => v = .slice (some ⟨bx, ox, none⟩) x.records.length cx,
      fun v _ => v = .int .i64 (n : Int),
      fun v _ => v = .pointer (some ⟨bx, ox + n, none⟩),
      fun v _ => v = .slice ay b.length cy,
      fun v _ => v = .string ⟨b.toArray⟩,
      fun v _ => v = .slice ab b.length cb,
      fun v _ => v = .string ⟨b.toArray⟩,
      fun v _ => v = .bool true,
      fun v _ => v = .bool true,
      fun v _ => v = .bool true,
      fun v _ => v = .agg #[.slice (some ⟨bx, ox, none⟩) x.records.length cx, .int .i64 x.many, .int .i64 x.synced],
      fun v _ => v = .int .i64 rm2,
      fun v _ => v = .int .i64 rm,
      fun v _ => v = .bool true,
      fun v _ => v = .bool true]) (phi_stable ?stable) ?steps ?tail
  case stable =>
    exact List.forall_mem_cons.2 ⟨stab_eq _, List.forall_mem_cons.2 ⟨stab_eq _, List.forall_mem_cons.2 ⟨stab_eq _, List.forall_mem_cons.2 ⟨stab_eq _, List.forall_mem_cons.2 ⟨stab_eq _, List.forall_mem_cons.2 ⟨stab_eq _, List.forall_mem_cons.2 ⟨stab_eq _, List.forall_mem_cons.2 ⟨stab_eq _, List.forall_mem_cons.2 ⟨stab_eq _, List.forall_mem_cons.2 ⟨stab_eq _, List.forall_mem_cons.2 ⟨stab_eq _, List.forall_mem_cons.2 ⟨stab_eq _, List.forall_mem_cons.2 ⟨stab_eq _, List.forall_mem_cons.2 ⟨stab_eq _, List.forall_mem_cons.2 ⟨stab_eq _, List.forall_mem_cons.2 ⟨stab_eq _, List.forall_mem_cons.2 ⟨stab_eq _, List.forall_mem_cons.2 ⟨stab_eq _, List.forall_mem_cons.2 ⟨stab_eq _, List.forall_mem_cons.2 ⟨stab_eq _, List.forall_mem_cons.2 ⟨stab_eq _, List.forall_mem_cons.2 ⟨stab_eq _, List.forall_mem_cons.2 ⟨stab_eq _, List.forall_mem_cons.2 ⟨stab_eq _, List.forall_mem_cons.2 ⟨stab_eq _, List.forall_mem_cons.2 ⟨stab_eq _, List.forall_mem_cons.2 ⟨stab_eq _, List.forall_mem_cons.2 ⟨stab_eq _, List.forall_mem_cons.2 ⟨stab_eq _, List.forall_mem_cons.2 ⟨stab_eq _, List.forall_mem_cons.2 ⟨stab_eq _, List.forall_mem_cons.2 ⟨stab_eq _, List.forall_mem_cons.2 ⟨stab_eq _, List.forall_mem_cons.2 ⟨stab_eq _, List.forall_mem_cons.2 ⟨stab_eq _, List.forall_mem_cons.2 ⟨stab_eq _, List.forall_mem_cons.2 ⟨stab_eq _, List.forall_mem_cons.2 ⟨stab_eq _, List.forall_mem_cons.2 ⟨stab_eq _, List.forall_mem_cons.2 ⟨stab_eq _, List.forall_mem_cons.2 ⟨stab_eq _, List.forall_mem_cons.2 ⟨stab_eq _, List.forall_mem_cons.2 ⟨stab_eq _, List.forall_mem_cons.2 ⟨stab_eq _, List.forall_mem_cons.2 ⟨stab_eq _, List.forall_mem_cons.2 ⟨stab_eq _, List.forall_mem_cons.2 ⟨stab_eq _, List.forall_mem_cons.2 ⟨stab_eq _, List.forall_mem_cons.2 ⟨stab_eq _, List.forall_mem_cons.2 ⟨stab_eq _, List.forall_mem_cons.2 ⟨stab_eq _, fun _ h => by cases h⟩⟩⟩⟩⟩⟩⟩⟩⟩⟩⟩⟩⟩⟩⟩⟩⟩⟩⟩⟩⟩⟩⟩⟩⟩⟩⟩⟩⟩⟩⟩⟩⟩⟩⟩⟩⟩⟩⟩⟩⟩⟩⟩⟩⟩⟩⟩⟩⟩⟩⟩
  case steps =>
    simp only [List.take_succ_cons, List.take_zero]
    -- 0: slot 58 := Op.load 55 t5
    refine ⟨?_, ?_⟩
    · intro v w' hx hd
      simp only [List.take_succ_cons, List.take_zero, putF, Act.put, List.setIfInBounds_toArray, List.set_cons_zero, List.set_cons_succ, Nat.reduceAdd, Nat.zero_add]
      clear hd
      rw [if_pos (by rfl)]
      intro K hK
      have q20 := hx.cell c20
      have q21 := hx.cell c21
      have q22 := hx.cell c22
      have q50 := hx.cell c50
      have q51 := hx.cell c51
      have q52 := hx.cell c52
      have qcl := hx.cell hcl
      have HK := Lib.hid hK; clear hK
      go_simp
      exact HK.out _ _ (.inl (Ext.refl _)) rfl
    -- 1: slot 59 := Op.call { value (Operand.func 43), args := #[t58], argTypes := #[55] }
    refine ⟨?_, ?_⟩
    · intro v w' hx hd
      have e0 : v 0 = .agg #[.slice (some ⟨bx, ox, none⟩) x.records.length cx, .int .i64 x.many, .int .i64 x.synced] := hd 0 (by kernel_rfl)
      simp only [List.take_succ_cons, List.take_zero, putF, Act.put, List.setIfInBounds_toArray, List.set_cons_zero, List.set_cons_succ, Nat.reduceAdd, Nat.zero_add]
      simp only [e0]
      clear hd e0
      rw [if_pos (by rfl)]
      intro K hK
      have q20 := hx.cell c20
      have q21 := hx.cell c21
      have q22 := hx.cell c22
      have q50 := hx.cell c50
      have q51 := hx.cell c51
      have q52 := hx.cell c52
      have qcl := hx.cell hcl
      have HK := Lib.hid hK; clear hK
      go_simp
      have k0 := checkJ_ok w' _ x (HX.out.keep hx) HL.out
      rw [HCK.out] at k0
      refine k0.mono ?_
      rintro e w2 ⟨rfl, hx2⟩
      exact HK.out _ _ (.inl hx2) rfl
    -- 2: slot 60 := Op.binOp BinOp.eql 28 t59 (const (0:i64)) 28
    refine ⟨?_, ?_⟩
    · intro v w' hx hd
      have e1 : v 1 = .int .i64 0 := hd 1 (by kernel_rfl)
      simp only [List.take_succ_cons, List.take_zero, putF, Act.put, List.setIfInBounds_toArray, List.set_cons_zero, List.set_cons_succ, Nat.reduceAdd, Nat.zero_add]
      simp only [e1]
      clear hd e1
      rw [if_pos (by rfl)]
      intro K hK
      have q20 := hx.cell c20
      have q21 := hx.cell c21
      have q22 := hx.cell c22
      have q50 := hx.cell c50
      have q51 := hx.cell c51
      have q52 := hx.cell c52
      have qcl := hx.cell hcl
      have HK := Lib.hid hK; clear hK
      go_simp
      exact HK.out _ _ (.inl (Ext.refl _)) rfl
    -- 3: slot 61 := Op.move t60
    refine ⟨?_, ?_⟩
    · intro v w' hx hd
      have e2 : v 2 = .bool true := hd 2 (by kernel_rfl)
      simp only [List.take_succ_cons, List.take_zero, putF, Act.put, List.setIfInBounds_toArray, List.set_cons_zero, List.set_cons_succ, Nat.reduceAdd, Nat.zero_add]
      simp only [e2]
      clear hd e2
      rw [if_pos (by rfl)]
      intro K hK
      have q20 := hx.cell c20
      have q21 := hx.cell c21
      have q22 := hx.cell c22
      have q50 := hx.cell c50
      have q51 := hx.cell c51
      have q52 := hx.cell c52
      have qcl := hx.cell hcl
      have HK := Lib.hid hK; clear hK
      go_simp
      exact HK.out _ _ (.inl (Ext.refl _)) rfl
    -- 4: slot 62 := Op.fieldAddr 55 t5 1   [guarded: some (3, true)]
    refine ⟨?_, ?_⟩
    · intro v w' hx hd
      have e3 : v 3 = .bool true := hd 3 (by kernel_rfl)
      simp only [List.take_succ_cons, List.take_zero, putF, Act.put, List.setIfInBounds_toArray, List.set_cons_zero, List.set_cons_succ, Nat.reduceAdd, Nat.zero_add]
      simp only [e3]
      clear hd e3
      rw [if_pos (by rfl)]
      intro K hK
      have q20 := hx.cell c20
      have q21 := hx.cell c21
      have q22 := hx.cell c22
      have q50 := hx.cell c50
      have q51 := hx.cell c51
      have q52 := hx.cell c52
      have qcl := hx.cell hcl
      have HK := Lib.hid hK; clear hK
      go_simp
      exact HK.out _ _ (.inl (Ext.refl _)) rfl
    -- 5: slot 63 := Op.load 3 t62   [guarded: some (3, true)]
    refine ⟨?_, ?_⟩
    · intro v w' hx hd
      have e4 : v 4 = .pointer (some ⟨g5, 1, none⟩) := hd 4 (by kernel_rfl)
      have e3 : v 3 = .bool true := hd 3 (by kernel_rfl)
      simp only [List.take_succ_cons, List.take_zero, putF, Act.put, List.setIfInBounds_toArray, List.set_cons_zero, List.set_cons_succ, Nat.reduceAdd, Nat.zero_add]
      simp only [e4]
      simp only [e3]
      clear hd e4 e3
      rw [if_pos (by rfl)]
      intro K hK
      have q20 := hx.cell c20
      have q21 := hx.cell c21
      have q22 := hx.cell c22
      have q50 := hx.cell c50
      have q51 := hx.cell c51
      have q52 := hx.cell c52
      have qcl := hx.cell hcl
      have HK := Lib.hid hK; clear hK
      go_simp
      exact HK.out _ _ (.inl (Ext.refl _)) rfl
    -- 6: slot 64 := Op.fieldAddr 55 t2 1   [guarded: some (3, true)]
    refine ⟨?_, ?_⟩
    · intro v w' hx hd
      have e3 : v 3 = .bool true := hd 3 (by kernel_rfl)
      simp only [List.take_succ_cons, List.take_zero, putF, Act.put, List.setIfInBounds_toArray, List.set_cons_zero, List.set_cons_succ, Nat.reduceAdd, Nat.zero_add]
      simp only [e3]
      clear hd e3
      rw [if_pos (by rfl)]
      intro K hK
      have q20 := hx.cell c20
      have q21 := hx.cell c21
      have q22 := hx.cell c22
      have q50 := hx.cell c50
      have q51 := hx.cell c51
      have q52 := hx.cell c52
      have qcl := hx.cell hcl
      have HK := Lib.hid hK; clear hK
      go_simp
      exact HK.out _ _ (.inl (Ext.refl _)) rfl
    -- 7: slot 65 := Op.load 3 t64   [guarded: some (3, true)]
    refine ⟨?_, ?_⟩
    · intro v w' hx hd
      have e6 : v 6 = .pointer (some ⟨g2, 1, none⟩) := hd 6 (by kernel_rfl)
      have e3 : v 3 = .bool true := hd 3 (by kernel_rfl)
      simp only [List.take_succ_cons, List.take_zero, putF, Act.put, List.setIfInBounds_toArray, List.set_cons_zero, List.set_cons_succ, Nat.reduceAdd, Nat.zero_add]
      simp only [e6]
      simp only [e3]
      clear hd e6 e3
      rw [if_pos (by rfl)]
      intro K hK
      have q20 := hx.cell c20
      have q21 := hx.cell c21
      have q22 := hx.cell c22
      have q50 := hx.cell c50
      have q51 := hx.cell c51
      have q52 := hx.cell c52
      have qcl := hx.cell hcl
      have HK := Lib.hid hK; clear hK
      go_simp
      exact HK.out _ _ (.inl (Ext.refl _)) rfl
    -- 8: slot 66 := Op.binOp BinOp.eql 3 t63 t65 3   [guarded: some (3, true)]
    refine ⟨?_, ?_⟩
    · intro v w' hx hd
      have e5 : v 5 = .int .i64 x.many := hd 5 (by kernel_rfl)
      have e7 : v 7 = .int .i64 j.many := hd 7 (by kernel_rfl)
      have e3 : v 3 = .bool true := hd 3 (by kernel_rfl)
      simp only [List.take_succ_cons, List.take_zero, putF, Act.put, List.setIfInBounds_toArray, List.set_cons_zero, List.set_cons_succ, Nat.reduceAdd, Nat.zero_add]
      simp only [e5]
      simp only [e7]
      simp only [e3]
      clear hd e5 e7 e3
      rw [if_pos (by rfl)]
      intro K hK
      have q20 := hx.cell c20
      have q21 := hx.cell c21
      have q22 := hx.cell c22
      have q50 := hx.cell c50
      have q51 := hx.cell c51
      have q52 := hx.cell c52
      have qcl := hx.cell hcl
      have HK := Lib.hid hK; clear hK
      go_simp
      exact HK.out _ _ (.inl (Ext.refl _)) rfl
    -- 9: slot 67 := Op.pick t61 t66 (const (Value.bool false))
    refine ⟨?_, ?_⟩
    · intro v w' hx hd
      have e3 : v 3 = .bool true := hd 3 (by kernel_rfl)
      have e8 : v 8 = .bool true := hd 8 (by kernel_rfl)
      simp only [List.take_succ_cons, List.take_zero, putF, Act.put, List.setIfInBounds_toArray, List.set_cons_zero, List.set_cons_succ, Nat.reduceAdd, Nat.zero_add]
      simp only [e3]
      simp only [e8]
      clear hd e3 e8
      rw [if_pos (by rfl)]
      intro K hK
      have q20 := hx.cell c20
      have q21 := hx.cell c21
      have q22 := hx.cell c22
      have q50 := hx.cell c50
      have q51 := hx.cell c51
      have q52 := hx.cell c52
      have qcl := hx.cell hcl
      have HK := Lib.hid hK; clear hK
      go_simp
      exact HK.out _ _ (.inl (Ext.refl _)) rfl
    -- 10: slot 68 := Op.move t67
    refine ⟨?_, ?_⟩
    · intro v w' hx hd
      have e9 : v 9 = .bool true := hd 9 (by kernel_rfl)
      simp only [List.take_succ_cons, List.take_zero, putF, Act.put, List.setIfInBounds_toArray, List.set_cons_zero, List.set_cons_succ, Nat.reduceAdd, Nat.zero_add]
      simp only [e9]
      clear hd e9
      rw [if_pos (by rfl)]
      intro K hK
      have q20 := hx.cell c20
      have q21 := hx.cell c21
      have q22 := hx.cell c22
      have q50 := hx.cell c50
      have q51 := hx.cell c51
      have q52 := hx.cell c52
      have qcl := hx.cell hcl
      have HK := Lib.hid hK; clear hK
      go_simp
      exact HK.out _ _ (.inl (Ext.refl _)) rfl
    -- 11: slot 69 := Op.fieldAddr 55 t5 2   [guarded: some (10, true)]
    refine ⟨?_, ?_⟩
    · intro v w' hx hd
      have e10 : v 10 = .bool true := hd 10 (by kernel_rfl)
      simp only [List.take_succ_cons, List.take_zero, putF, Act.put, List.setIfInBounds_toArray, List.set_cons_zero, List.set_cons_succ, Nat.reduceAdd, Nat.zero_add]
      simp only [e10]
      clear hd e10
      rw [if_pos (by rfl)]
      intro K hK
      have q20 := hx.cell c20
      have q21 := hx.cell c21
      have q22 := hx.cell c22
      have q50 := hx.cell c50
      have q51 := hx.cell c51
      have q52 := hx.cell c52
      have qcl := hx.cell hcl
      have HK := Lib.hid hK; clear hK
      go_simp
      exact HK.out _ _ (.inl (Ext.refl _)) rfl
    -- 12: slot 70 := Op.load 3 t69   [guarded: some (10, true)]
    refine ⟨?_, ?_⟩
    · intro v w' hx hd
      have e11 : v 11 = .pointer (some ⟨g5, 2, none⟩) := hd 11 (by kernel_rfl)
      have e10 : v 10 = .bool true := hd 10 (by kernel_rfl)
      simp only [List.take_succ_cons, List.take_zero, putF, Act.put, List.setIfInBounds_toArray, List.set_cons_zero, List.set_cons_succ, Nat.reduceAdd, Nat.zero_add]
      simp only [e11]
      simp only [e10]
      clear hd e11 e10
      rw [if_pos (by rfl)]
      intro K hK
      have q20 := hx.cell c20
      have q21 := hx.cell c21
      have q22 := hx.cell c22
      have q50 := hx.cell c50
      have q51 := hx.cell c51
      have q52 := hx.cell c52
      have qcl := hx.cell hcl
      have HK := Lib.hid hK; clear hK
      go_simp
      exact HK.out _ _ (.inl (Ext.refl _)) rfl
    -- 13: slot 71 := Op.fieldAddr 55 t2 2   [guarded: some (10, true)]
    refine ⟨?_, ?_⟩
    · intro v w' hx hd
      have e10 : v 10 = .bool true := hd 10 (by kernel_rfl)
      simp only [List.take_succ_cons, List.take_zero, putF, Act.put, List.setIfInBounds_toArray, List.set_cons_zero, List.set_cons_succ, Nat.reduceAdd, Nat.zero_add]
      simp only [e10]
      clear hd e10
      rw [if_pos (by rfl)]
      intro K hK
      have q20 := hx.cell c20
      have q21 := hx.cell c21
      have q22 := hx.cell c22
      have q50 := hx.cell c50
      have q51 := hx.cell c51
      have q52 := hx.cell c52
      have qcl := hx.cell hcl
      have HK := Lib.hid hK; clear hK
      go_simp
      exact HK.out _ _ (.inl (Ext.refl _)) rfl
    -- 14: slot 72 := Op.load 3 t71   [guarded: some (10, true)]
    refine ⟨?_, ?_⟩
    · intro v w' hx hd
      have e13 : v 13 = .pointer (some ⟨g2, 2, none⟩) := hd 13 (by kernel_rfl)
      have e10 : v 10 = .bool true := hd 10 (by kernel_rfl)
      simp only [List.take_succ_cons, List.take_zero, putF, Act.put, List.setIfInBounds_toArray, List.set_cons_zero, List.set_cons_succ, Nat.reduceAdd, Nat.zero_add]
      simp only [e13]
      simp only [e10]
      clear hd e13 e10
      rw [if_pos (by rfl)]
      intro K hK
      have q20 := hx.cell c20
      have q21 := hx.cell c21
      have q22 := hx.cell c22
      have q50 := hx.cell c50
      have q51 := hx.cell c51
      have q52 := hx.cell c52
      have qcl := hx.cell hcl
      have HK := Lib.hid hK; clear hK
      go_simp
      exact HK.out _ _ (.inl (Ext.refl _)) rfl
    -- 15: slot 73 := Op.binOp BinOp.eql 3 t70 t72 3   [guarded: some (10, true)]
    refine ⟨?_, ?_⟩
    · intro v w' hx hd
      have e12 : v 12 = .int .i64 x.synced := hd 12 (by kernel_rfl)
      have e14 : v 14 = .int .i64 j.synced := hd 14 (by kernel_rfl)
      have e10 : v 10 = .bool true := hd 10 (by kernel_rfl)
      simp only [List.take_succ_cons, List.take_zero, putF, Act.put, List.setIfInBounds_toArray, List.set_cons_zero, List.set_cons_succ, Nat.reduceAdd, Nat.zero_add]
      simp only [e12]
      simp only [e14]
      simp only [e10]
      clear hd e12 e14 e10
      rw [if_pos (by rfl)]
      intro K hK
      have q20 := hx.cell c20
      have q21 := hx.cell c21
      have q22 := hx.cell c22
      have q50 := hx.cell c50
      have q51 := hx.cell c51
      have q52 := hx.cell c52
      have qcl := hx.cell hcl
      have HK := Lib.hid hK; clear hK
      go_simp
      exact HK.out _ _ (.inl (Ext.refl _)) rfl
    -- 16: slot 74 := Op.pick t68 t73 (const (Value.bool false))
    refine ⟨?_, ?_⟩
    · intro v w' hx hd
      have e10 : v 10 = .bool true := hd 10 (by kernel_rfl)
      have e15 : v 15 = .bool true := hd 15 (by kernel_rfl)
      simp only [List.take_succ_cons, List.take_zero, putF, Act.put, List.setIfInBounds_toArray, List.set_cons_zero, List.set_cons_succ, Nat.reduceAdd, Nat.zero_add]
      simp only [e10]
      simp only [e15]
      clear hd e10 e15
      rw [if_pos (by rfl)]
      intro K hK
      have q20 := hx.cell c20
      have q21 := hx.cell c21
      have q22 := hx.cell c22
      have q50 := hx.cell c50
      have q51 := hx.cell c51
      have q52 := hx.cell c52
      have qcl := hx.cell hcl
      have HK := Lib.hid hK; clear hK
      go_simp
      exact HK.out _ _ (.inl (Ext.refl _)) rfl
    -- 17: slot 75 := Op.move t74
    refine ⟨?_, ?_⟩
    · intro v w' hx hd
      have e16 : v 16 = .bool true := hd 16 (by kernel_rfl)
      simp only [List.take_succ_cons, List.take_zero, putF, Act.put, List.setIfInBounds_toArray, List.set_cons_zero, List.set_cons_succ, Nat.reduceAdd, Nat.zero_add]
      simp only [e16]
      clear hd e16
      rw [if_pos (by rfl)]
      intro K hK
      have q20 := hx.cell c20
      have q21 := hx.cell c21
      have q22 := hx.cell c22
      have q50 := hx.cell c50
      have q51 := hx.cell c51
      have q52 := hx.cell c52
      have qcl := hx.cell hcl
      have HK := Lib.hid hK; clear hK
      go_simp
      exact HK.out _ _ (.inl (Ext.refl _)) rfl
    -- 18: slot 76 := Op.fieldAddr 55 t5 0   [guarded: some (17, true)]
    refine ⟨?_, ?_⟩
    · intro v w' hx hd
      have e17 : v 17 = .bool true := hd 17 (by kernel_rfl)
      simp only [List.take_succ_cons, List.take_zero, putF, Act.put, List.setIfInBounds_toArray, List.set_cons_zero, List.set_cons_succ, Nat.reduceAdd, Nat.zero_add]
      simp only [e17]
      clear hd e17
      rw [if_pos (by rfl)]
      intro K hK
      have q20 := hx.cell c20
      have q21 := hx.cell c21
      have q22 := hx.cell c22
      have q50 := hx.cell c50
      have q51 := hx.cell c51
      have q52 := hx.cell c52
      have qcl := hx.cell hcl
      have HK := Lib.hid hK; clear hK
      go_simp
      exact HK.out _ _ (.inl (Ext.refl _)) rfl
    -- 19: slot 77 := Op.load 22 t76   [guarded: some (17, true)]
    refine ⟨?_, ?_⟩
    · intro v w' hx hd
      have e18 : v 18 = .pointer (some ⟨g5, 0, none⟩) := hd 18 (by kernel_rfl)
      have e17 : v 17 = .bool true := hd 17 (by kernel_rfl)
      simp only [List.take_succ_cons, List.take_zero, putF, Act.put, List.setIfInBounds_toArray, List.set_cons_zero, List.set_cons_succ, Nat.reduceAdd, Nat.zero_add]
      simp only [e18]
      simp only [e17]
      clear hd e18 e17
      rw [if_pos (by rfl)]
      intro K hK
      have q20 := hx.cell c20
      have q21 := hx.cell c21
      have q22 := hx.cell c22
      have q50 := hx.cell c50
      have q51 := hx.cell c51
      have q52 := hx.cell c52
      have qcl := hx.cell hcl
      have HK := Lib.hid hK; clear hK
      go_simp
      exact HK.out _ _ (.inl (Ext.refl _)) rfl
    -- 20: slot 78 := Op.call { builtin len, args := #[t77], argTypes := #[22] }   [guarded: some (17, true)]
    refine ⟨?_, ?_⟩
    · intro v w' hx hd
      have e19 : v 19 = .slice (some ⟨bx, ox, none⟩) x.records.length cx := hd 19 (by kernel_rfl)
      have e17 : v 17 = .bool true := hd 17 (by kernel_rfl)
      simp only [List.take_succ_cons, List.take_zero, putF, Act.put, List.setIfInBounds_toArray, List.set_cons_zero, List.set_cons_succ, Nat.reduceAdd, Nat.zero_add]
      simp only [e19]
      simp only [e17]
      clear hd e19 e17
      rw [if_pos (by rfl)]
      intro K hK
      have q20 := hx.cell c20
      have q21 := hx.cell c21
      have q22 := hx.cell c22
      have q50 := hx.cell c50
      have q51 := hx.cell c51
      have q52 := hx.cell c52
      have qcl := hx.cell hcl
      have HK := Lib.hid hK; clear hK
      go_simp
      exact HK.out _ _ (.inl (Ext.refl _)) rfl
    -- 21: slot 79 := Op.move t8   [guarded: some (17, true)]
    refine ⟨?_, ?_⟩
    · intro v w' hx hd
      have e17 : v 17 = .bool true := hd 17 (by kernel_rfl)
      simp only [List.take_succ_cons, List.take_zero, putF, Act.put, List.setIfInBounds_toArray, List.set_cons_zero, List.set_cons_succ, Nat.reduceAdd, Nat.zero_add]
      simp only [e17]
      clear hd e17
      rw [if_pos (by rfl)]
      intro K hK
      have q20 := hx.cell c20
      have q21 := hx.cell c21
      have q22 := hx.cell c22
      have q50 := hx.cell c50
      have q51 := hx.cell c51
      have q52 := hx.cell c52
      have qcl := hx.cell hcl
      have HK := Lib.hid hK; clear hK
      go_simp
      exact HK.out _ _ (.inl (Ext.refl _)) rfl
    -- 22: slot 80 := Op.binOp BinOp.add 3 t79 (const (1:i64)) 3   [guarded: some (17, true)]
    refine ⟨?_, ?_⟩
    · intro v w' hx hd
      have e21 : v 21 = .int .i64 (n : Int) := hd 21 (by kernel_rfl)
      have e17 : v 17 = .bool true := hd 17 (by kernel_rfl)
      simp only [List.take_succ_cons, List.take_zero, putF, Act.put, List.setIfInBounds_toArray, List.set_cons_zero, List.set_cons_succ, Nat.reduceAdd, Nat.zero_add]
      simp only [e21]
      simp only [e17]
      clear hd e21 e17
      rw [if_pos (by rfl)]
      intro K hK
      have q20 := hx.cell c20
      have q21 := hx.cell c21
      have q22 := hx.cell c22
      have q50 := hx.cell c50
      have q51 := hx.cell c51
      have q52 := hx.cell c52
      have qcl := hx.cell hcl
      have HK := Lib.hid hK; clear hK
      go_simp
      exact HK.out _ _ (.inl (Ext.refl _)) rfl
    -- 23: slot 81 := Op.binOp BinOp.eql 3 t78 t80 3   [guarded: some (17, true)]
    refine ⟨?_, ?_⟩
    · intro v w' hx hd
      have e20 : v 20 = .int .i64 (x.records.length : Int) := hd 20 (by kernel_rfl)
      have e22 : v 22 = .int .i64 ((n : Int) + 1) := hd 22 (by kernel_rfl)
      have e17 : v 17 = .bool true := hd 17 (by kernel_rfl)
      simp only [List.take_succ_cons, List.take_zero, putF, Act.put, List.setIfInBounds_toArray, List.set_cons_zero, List.set_cons_succ, Nat.reduceAdd, Nat.zero_add]
      simp only [e20]
      simp only [e22]
      simp only [e17]
      clear hd e20 e22 e17
      rw [if_pos (by rfl)]
      intro K hK
      have q20 := hx.cell c20
      have q21 := hx.cell c21
      have q22 := hx.cell c22
      have q50 := hx.cell c50
      have q51 := hx.cell c51
      have q52 := hx.cell c52
      have qcl := hx.cell hcl
      have HK := Lib.hid hK; clear hK
      go_simp
      exact HK.out _ _ (.inl (Ext.refl _)) rfl
    -- 24: slot 82 := Op.pick t75 t81 (const (Value.bool false))
    refine ⟨?_, ?_⟩
    · intro v w' hx hd
      have e17 : v 17 = .bool true := hd 17 (by kernel_rfl)
      have e23 : v 23 = .bool true := hd 23 (by kernel_rfl)
      simp only [List.take_succ_cons, List.take_zero, putF, Act.put, List.setIfInBounds_toArray, List.set_cons_zero, List.set_cons_succ, Nat.reduceAdd, Nat.zero_add]
      simp only [e17]
      simp only [e23]
      clear hd e17 e23
      rw [if_pos (by rfl)]
      intro K hK
      have q20 := hx.cell c20
      have q21 := hx.cell c21
      have q22 := hx.cell c22
      have q50 := hx.cell c50
      have q51 := hx.cell c51
      have q52 := hx.cell c52
      have qcl := hx.cell hcl
      have HK := Lib.hid hK; clear hK
      go_simp
      exact HK.out _ _ (.inl (Ext.refl _)) rfl
    -- 25: slot 83 := Op.move t82
    refine ⟨?_, ?_⟩
    · intro v w' hx hd
      have e24 : v 24 = .bool true := hd 24 (by kernel_rfl)
      simp only [List.take_succ_cons, List.take_zero, putF, Act.put, List.setIfInBounds_toArray, List.set_cons_zero, List.set_cons_succ, Nat.reduceAdd, Nat.zero_add]
      simp only [e24]
      clear hd e24
      rw [if_pos (by rfl)]
      intro K hK
      have q20 := hx.cell c20
      have q21 := hx.cell c21
      have q22 := hx.cell c22
      have q50 := hx.cell c50
      have q51 := hx.cell c51
      have q52 := hx.cell c52
      have qcl := hx.cell hcl
      have HK := Lib.hid hK; clear hK
      go_simp
      exact HK.out _ _ (.inl (Ext.refl _)) rfl
    -- 26: slot 84 := Op.fieldAddr 55 t5 0   [guarded: some (25, true)]
    refine ⟨?_, ?_⟩
    · intro v w' hx hd
      have e25 : v 25 = .bool true := hd 25 (by kernel_rfl)
      simp only [List.take_succ_cons, List.take_zero, putF, Act.put, List.setIfInBounds_toArray, List.set_cons_zero, List.set_cons_succ, Nat.reduceAdd, Nat.zero_add]
      simp only [e25]
      clear hd e25
      rw [if_pos (by rfl)]
      intro K hK
      have q20 := hx.cell c20
      have q21 := hx.cell c21
      have q22 := hx.cell c22
      have q50 := hx.cell c50
      have q51 := hx.cell c51
      have q52 := hx.cell c52
      have qcl := hx.cell hcl
      have HK := Lib.hid hK; clear hK
      go_simp
      exact HK.out _ _ (.inl (Ext.refl _)) rfl
    -- 27: slot 85 := Op.load 22 t84   [guarded: some (25, true)]
    refine ⟨?_, ?_⟩
    · intro v w' hx hd
      have e26 : v 26 = .pointer (some ⟨g5, 0, none⟩) := hd 26 (by kernel_rfl)
      have e25 : v 25 = .bool true := hd 25 (by kernel_rfl)
      simp only [List.take_succ_cons, List.take_zero, putF, Act.put, List.setIfInBounds_toArray, List.set_cons_zero, List.set_cons_succ, Nat.reduceAdd, Nat.zero_add]
      simp only [e26]
      simp only [e25]
      clear hd e26 e25
      rw [if_pos (by rfl)]
      intro K hK
      have q20 := hx.cell c20
      have q21 := hx.cell c21
      have q22 := hx.cell c22
      have q50 := hx.cell c50
      have q51 := hx.cell c51
      have q52 := hx.cell c52
      have qcl := hx.cell hcl
      have HK := Lib.hid hK; clear hK
      go_simp
      exact HK.out _ _ (.inl (Ext.refl _)) rfl
    -- 28: slot 86 := Op.move t8   [guarded: some (25, true)]
    refine ⟨?_, ?_⟩
    · intro v w' hx hd
      have e25 : v 25 = .bool true := hd 25 (by kernel_rfl)
      simp only [List.take_succ_cons, List.take_zero, putF, Act.put, List.setIfInBounds_toArray, List.set_cons_zero, List.set_cons_succ, Nat.reduceAdd, Nat.zero_add]
      simp only [e25]
      clear hd e25
      rw [if_pos (by rfl)]
      intro K hK
      have q20 := hx.cell c20
      have q21 := hx.cell c21
      have q22 := hx.cell c22
      have q50 := hx.cell c50
      have q51 := hx.cell c51
      have q52 := hx.cell c52
      have qcl := hx.cell hcl
      have HK := Lib.hid hK; clear hK
      go_simp
      exact HK.out _ _ (.inl (Ext.refl _)) rfl
    -- 29: slot 87 := Op.slice 22 t85 none (some t86) none   [guarded: some (25, true)]
    refine ⟨?_, ?_⟩
    · intro v w' hx hd
      have e27 : v 27 = .slice (some ⟨bx, ox, none⟩) x.records.length cx := hd 27 (by kernel_rfl)
      have e28 : v 28 = .int .i64 (n : Int) := hd 28 (by kernel_rfl)
      have e25 : v 25 = .bool true := hd 25 (by kernel_rfl)
      simp only [List.take_succ_cons, List.take_zero, putF, Act.put, List.setIfInBounds_toArray, List.set_cons_zero, List.set_cons_succ, Nat.reduceAdd, Nat.zero_add]
      simp only [e27]
      simp only [e28]
      simp only [e25]
      clear hd e27 e28 e25
      rw [if_pos (by rfl)]
      intro K hK
      have q20 := hx.cell c20
      have q21 := hx.cell c21
      have q22 := hx.cell c22
      have q50 := hx.cell c50
      have q51 := hx.cell c51
      have q52 := hx.cell c52
      have qcl := hx.cell hcl
      have HK := Lib.hid hK; clear hK
      go_simp
      exact HK.out _ _ (.inl (Ext.refl _)) rfl
    -- 30: slot 88 := Op.fieldAddr 55 t2 0   [guarded: some (25, true)]
    refine ⟨?_, ?_⟩
    · intro v w' hx hd
      have e25 : v 25 = .bool true := hd 25 (by kernel_rfl)
      simp only [List.take_succ_cons, List.take_zero, putF, Act.put, List.setIfInBounds_toArray, List.set_cons_zero, List.set_cons_succ, Nat.reduceAdd, Nat.zero_add]
      simp only [e25]
      clear hd e25
      rw [if_pos (by rfl)]
      intro K hK
      have q20 := hx.cell c20
      have q21 := hx.cell c21
      have q22 := hx.cell c22
      have q50 := hx.cell c50
      have q51 := hx.cell c51
      have q52 := hx.cell c52
      have qcl := hx.cell hcl
      have HK := Lib.hid hK; clear hK
      go_simp
      exact HK.out _ _ (.inl (Ext.refl _)) rfl
    -- 31: slot 89 := Op.load 22 t88   [guarded: some (25, true)]
    refine ⟨?_, ?_⟩
    · intro v w' hx hd
      have e30 : v 30 = .pointer (some ⟨g2, 0, none⟩) := hd 30 (by kernel_rfl)
      have e25 : v 25 = .bool true := hd 25 (by kernel_rfl)
      simp only [List.take_succ_cons, List.take_zero, putF, Act.put, List.setIfInBounds_toArray, List.set_cons_zero, List.set_cons_succ, Nat.reduceAdd, Nat.zero_add]
      simp only [e30]
      simp only [e25]
      clear hd e30 e25
      rw [if_pos (by rfl)]
      intro K hK
      have q20 := hx.cell c20
      have q21 := hx.cell c21
      have q22 := hx.cell c22
      have q50 := hx.cell c50
      have q51 := hx.cell c51
      have q52 := hx.cell c52
      have qcl := hx.cell hcl
      have HK := Lib.hid hK; clear hK
      go_simp
      exact HK.out _ _ (.inl (Ext.refl _)) rfl
    -- 32: slot 90 := Op.call { value (Operand.func 49), args := #[t87, t89], argTypes := #[22, 22] }   [guarded
    refine ⟨?_, ?_⟩
    · intro v w' hx hd
      have e29 : v 29 = .slice (some ⟨bx, ox, none⟩) n cx := hd 29 (by kernel_rfl)
      have e31 : v 31 = .slice ai j.records.length ci := hd 31 (by kernel_rfl)
      have e25 : v 25 = .bool true := hd 25 (by kernel_rfl)
      simp only [List.take_succ_cons, List.take_zero, putF, Act.put, List.setIfInBounds_toArray, List.set_cons_zero, List.set_cons_succ, Nat.reduceAdd, Nat.zero_add]
      simp only [e29]
      simp only [e31]
      simp only [e25]
      clear hd e29 e31 e25
      rw [if_pos (by rfl)]
      intro K hK
      have q20 := hx.cell c20
      have q21 := hx.cell c21
      have q22 := hx.cell c22
      have q50 := hx.cell c50
      have q51 := hx.cell c51
      have q52 := hx.cell c52
      have qcl := hx.cell hcl
      have HK := Lib.hid hK; clear hK
      go_simp
      have k0 := sameRecords_ok w' _ _ j.records j.records (Bss.keep HXR.out hx) (Bss.keep HJR.out hx)
      rw [decide_eq_true rfl] at k0
      refine k0.mono ?_
      rintro e w2 ⟨rfl, m, rfl⟩
      exact HK.out _ _ (.inl (Ext.drewN _ m)) rfl
    -- 33: slot 91 := Op.pick t83 t90 (const (Value.bool false))
    refine ⟨?_, ?_⟩
    · intro v w' hx hd
      have e25 : v 25 = .bool true := hd 25 (by kernel_rfl)
      have e32 : v 32 = .bool true := hd 32 (by kernel_rfl)
      simp only [List.take_succ_cons, List.take_zero, putF, Act.put, List.setIfInBounds_toArray, List.set_cons_zero, List.set_cons_succ, Nat.reduceAdd, Nat.zero_add]
      simp only [e25]
      simp only [e32]
      clear hd e25 e32
      rw [if_pos (by rfl)]
      intro K hK
      have q20 := hx.cell c20
      have q21 := hx.cell c21
      have q22 := hx.cell c22
      have q50 := hx.cell c50
      have q51 := hx.cell c51
      have q52 := hx.cell c52
      have qcl := hx.cell hcl
      have HK := Lib.hid hK; clear hK
      go_simp
      exact HK.out _ _ (.inl (Ext.refl _)) rfl
    -- 34: slot 92 := Op.move t91
    refine ⟨?_, ?_⟩
    · intro v w' hx hd
      have e33 : v 33 = .bool true := hd 33 (by kernel_rfl)
      simp only [List.take_succ_cons, List.take_zero, putF, Act.put, List.setIfInBounds_toArray, List.set_cons_zero, List.set_cons_succ, Nat.reduceAdd, Nat.zero_add]
      simp only [e33]
      clear hd e33
      rw [if_pos (by rfl)]
      intro K hK
      have q20 := hx.cell c20
      have q21 := hx.cell c21
      have q22 := hx.cell c22
      have q50 := hx.cell c50
      have q51 := hx.cell c51
      have q52 := hx.cell c52
      have qcl := hx.cell hcl
      have HK := Lib.hid hK; clear hK
      go_simp
      exact HK.out _ _ (.inl (Ext.refl _)) rfl
    -- 35: slot 93 := Op.fieldAddr 55 t5 0   [guarded: some (34, true)]
    refine ⟨?_, ?_⟩
    · intro v w' hx hd
      have e34 : v 34 = .bool true := hd 34 (by kernel_rfl)
      simp only [List.take_succ_cons, List.take_zero, putF, Act.put, List.setIfInBounds_toArray, List.set_cons_zero, List.set_cons_succ, Nat.reduceAdd, Nat.zero_add]
      simp only [e34]
      clear hd e34
      rw [if_pos (by rfl)]
      intro K hK
      have q20 := hx.cell c20
      have q21 := hx.cell c21
      have q22 := hx.cell c22
      have q50 := hx.cell c50
      have q51 := hx.cell c51
      have q52 := hx.cell c52
      have qcl := hx.cell hcl
      have HK := Lib.hid hK; clear hK
      go_simp
      exact HK.out _ _ (.inl (Ext.refl _)) rfl
    -- 36: slot 94 := Op.load 22 t93   [guarded: some (34, true)]
    refine ⟨?_, ?_⟩
    · intro v w' hx hd
      have e35 : v 35 = .pointer (some ⟨g5, 0, none⟩) := hd 35 (by kernel_rfl)
      have e34 : v 34 = .bool true := hd 34 (by kernel_rfl)
      simp only [List.take_succ_cons, List.take_zero, putF, Act.put, List.setIfInBounds_toArray, List.set_cons_zero, List.set_cons_succ, Nat.reduceAdd, Nat.zero_add]
      simp only [e35]
      simp only [e34]
      clear hd e35 e34
      rw [if_pos (by rfl)]
      intro K hK
      have q20 := hx.cell c20
      have q21 := hx.cell c21
      have q22 := hx.cell c22
      have q50 := hx.cell c50
      have q51 := hx.cell c51
      have q52 := hx.cell c52
      have qcl := hx.cell hcl
      have HK := Lib.hid hK; clear hK
      go_simp
      exact HK.out _ _ (.inl (Ext.refl _)) rfl
    -- 37: slot 95 := Op.move t8   [guarded: some (34, true)]
    refine ⟨?_, ?_⟩
    · intro v w' hx hd
      have e34 : v 34 = .bool true := hd 34 (by kernel_rfl)
      simp only [List.take_succ_cons, List.take_zero, putF, Act.put, List.setIfInBounds_toArray, List.set_cons_zero, List.set_cons_succ, Nat.reduceAdd, Nat.zero_add]
      simp only [e34]
      clear hd e34
      rw [if_pos (by rfl)]
      intro K hK
      have q20 := hx.cell c20
      have q21 := hx.cell c21
      have q22 := hx.cell c22
      have q50 := hx.cell c50
      have q51 := hx.cell c51
      have q52 := hx.cell c52
      have qcl := hx.cell hcl
      have HK := Lib.hid hK; clear hK
      go_simp
      exact HK.out _ _ (.inl (Ext.refl _)) rfl
    -- 38: slot 96 := Op.indexAddr 22 t94 t95   [guarded: some (34, true)]
    refine ⟨?_, ?_⟩
    · intro v w' hx hd
      have e36 : v 36 = .slice (some ⟨bx, ox, none⟩) x.records.length cx := hd 36 (by kernel_rfl)
      have e37 : v 37 = .int .i64 (n : Int) := hd 37 (by kernel_rfl)
      have e34 : v 34 = .bool true := hd 34 (by kernel_rfl)
      simp only [List.take_succ_cons, List.take_zero, putF, Act.put, List.setIfInBounds_toArray, List.set_cons_zero, List.set_cons_succ, Nat.reduceAdd, Nat.zero_add]
      simp only [e36]
      simp only [e37]
      simp only [e34]
      clear hd e36 e37 e34
      rw [if_pos (by rfl)]
      intro K hK
      have q20 := hx.cell c20
      have q21 := hx.cell c21
      have q22 := hx.cell c22
      have q50 := hx.cell c50
      have q51 := hx.cell c51
      have q52 := hx.cell c52
      have qcl := hx.cell hcl
      have HK := Lib.hid hK; clear hK
      go_simp
      exact HK.out _ _ (.inl (Ext.refl _)) rfl
    -- 39: slot 97 := Op.load 35 t96   [guarded: some (34, true)]
    refine ⟨?_, ?_⟩
    · intro v w' hx hd
      have e38 : v 38 = .pointer (some ⟨bx, ox + n, none⟩) := hd 38 (by kernel_rfl)
      have e34 : v 34 = .bool true := hd 34 (by kernel_rfl)
      simp only [List.take_succ_cons, List.take_zero, putF, Act.put, List.setIfInBounds_toArray, List.set_cons_zero, List.set_cons_succ, Nat.reduceAdd, Nat.zero_add]
      simp only [e38]
      simp only [e34]
      clear hd e38 e34
      rw [if_pos (by rfl)]
      intro K hK
      have q20 := hx.cell c20
      have q21 := hx.cell c21
      have q22 := hx.cell c22
      have q50 := hx.cell c50
      have q51 := hx.cell c51
      have q52 := hx.cell c52
      have qcl := hx.cell hcl
      have HK := Lib.hid hK; clear hK
      go_simp
      exact HK.out _ _ (.inl (Ext.refl _)) rfl
    -- 40: slot 98 := Op.convert 35 9 t97   [guarded: some (34, true)]
    refine ⟨?_, ?_⟩
    · intro v w' hx hd
      have e39 : v 39 = .slice ay b.length cy := hd 39 (by kernel_rfl)
      have e34 : v 34 = .bool true := hd 34 (by kernel_rfl)
      simp only [List.take_succ_cons, List.take_zero, putF, Act.put, List.setIfInBounds_toArray, List.set_cons_zero, List.set_cons_succ, Nat.reduceAdd, Nat.zero_add]
      simp only [e39]
      simp only [e34]
      clear hd e39 e34
      rw [if_pos (by rfl)]
      intro K hK
      have q20 := hx.cell c20
      have q21 := hx.cell c21
      have q22 := hx.cell c22
      have q50 := hx.cell c50
      have q51 := hx.cell c51
      have q52 := hx.cell c52
      have qcl := hx.cell hcl
      have kk := conv_str (HBY.out.keep hx)
      have HK := Lib.hid hK; clear hK
      go_simp
      exact HK.out _ _ (.inl (Ext.refl _)) rfl
    -- 41: slot 99 := Op.move t1   [guarded: some (34, true)]
    refine ⟨?_, ?_⟩
    · intro v w' hx hd
      have e34 : v 34 = .bool true := hd 34 (by kernel_rfl)
      simp only [List.take_succ_cons, List.take_zero, putF, Act.put, List.setIfInBounds_toArray, List.set_cons_zero, List.set_cons_succ, Nat.reduceAdd, Nat.zero_add]
      simp only [e34]
      clear hd e34
      rw [if_pos (by rfl)]
      intro K hK
      have q20 := hx.cell c20
      have q21 := hx.cell c21
      have q22 := hx.cell c22
      have q50 := hx.cell c50
      have q51 := hx.cell c51
      have q52 := hx.cell c52
      have qcl := hx.cell hcl
      have HK := Lib.hid hK; clear hK
      go_simp
      exact HK.out _ _ (.inl (Ext.refl _)) rfl
    -- 42: slot 100 := Op.convert 35 9 t99   [guarded: some (34, true)]
    refine ⟨?_, ?_⟩
    · intro v w' hx hd
      have e41 : v 41 = .slice ab b.length cb := hd 41 (by kernel_rfl)
      have e34 : v 34 = .bool true := hd 34 (by kernel_rfl)
      simp only [List.take_succ_cons, List.take_zero, putF, Act.put, List.setIfInBounds_toArray, List.set_cons_zero, List.set_cons_succ, Nat.reduceAdd, Nat.zero_add]
      simp only [e41]
      simp only [e34]
      clear hd e41 e34
      rw [if_pos (by rfl)]
      intro K hK
      have q20 := hx.cell c20
      have q21 := hx.cell c21
      have q22 := hx.cell c22
      have q50 := hx.cell c50
      have q51 := hx.cell c51
      have q52 := hx.cell c52
      have qcl := hx.cell hcl
      have kk := conv_str (HB.out.keep hx)
      have HK := Lib.hid hK; clear hK
      go_simp
      exact HK.out _ _ (.inl (Ext.refl _)) rfl
    -- 43: slot 101 := Op.binOp BinOp.eql 9 t98 t100 9   [guarded: some (34, true)]
    refine ⟨?_, ?_⟩
    · intro v w' hx hd
      have e40 : v 40 = .string ⟨b.toArray⟩ := hd 40 (by kernel_rfl)
      have e42 : v 42 = .string ⟨b.toArray⟩ := hd 42 (by kernel_rfl)
      have e34 : v 34 = .bool true := hd 34 (by kernel_rfl)
      simp only [List.take_succ_cons, List.take_zero, putF, Act.put, List.setIfInBounds_toArray, List.set_cons_zero, List.set_cons_succ, Nat.reduceAdd, Nat.zero_add]
      simp only [e40]
      simp only [e42]
      simp only [e34]
      clear hd e40 e42 e34
      rw [if_pos (by rfl)]
      intro K hK
      have q20 := hx.cell c20
      have q21 := hx.cell c21
      have q22 := hx.cell c22
      have q50 := hx.cell c50
      have q51 := hx.cell c51
      have q52 := hx.cell c52
      have qcl := hx.cell hcl
      have HK := Lib.hid hK; clear hK
      go_simp
      exact HK.out _ _ (.inl (Ext.refl _)) rfl
    -- 44: slot 102 := Op.pick t92 t101 (const (Value.bool false))
    refine ⟨?_, ?_⟩
    · intro v w' hx hd
      have e34 : v 34 = .bool true := hd 34 (by kernel_rfl)
      have e43 : v 43 = .bool true := hd 43 (by kernel_rfl)
      simp only [List.take_succ_cons, List.take_zero, putF, Act.put, List.setIfInBounds_toArray, List.set_cons_zero, List.set_cons_succ, Nat.reduceAdd, Nat.zero_add]
      simp only [e34]
      simp only [e43]
      clear hd e34 e43
      rw [if_pos (by rfl)]
      intro K hK
      have q20 := hx.cell c20
      have q21 := hx.cell c21
      have q22 := hx.cell c22
      have q50 := hx.cell c50
      have q51 := hx.cell c51
      have q52 := hx.cell c52
      have qcl := hx.cell hcl
      have HK := Lib.hid hK; clear hK
      go_simp
      exact HK.out _ _ (.inl (Ext.refl _)) rfl
    -- 45: slot 103 := Op.move t102
    refine ⟨?_, ?_⟩
    · intro v w' hx hd
      have e44 : v 44 = .bool true := hd 44 (by kernel_rfl)
      simp only [List.take_succ_cons, List.take_zero, putF, Act.put, List.setIfInBounds_toArray, List.set_cons_zero, List.set_cons_succ, Nat.reduceAdd, Nat.zero_add]
      simp only [e44]
      clear hd e44
      rw [if_pos (by rfl)]
      intro K hK
      have q20 := hx.cell c20
      have q21 := hx.cell c21
      have q22 := hx.cell c22
      have q50 := hx.cell c50
      have q51 := hx.cell c51
      have q52 := hx.cell c52
      have qcl := hx.cell hcl
      have HK := Lib.hid hK; clear hK
      go_simp
      exact HK.out _ _ (.inl (Ext.refl _)) rfl
    -- 46: slot 104 := Op.load 55 t5   [guarded: some (45, true)]
    refine ⟨?_, ?_⟩
    · intro v w' hx hd
      have e45 : v 45 = .bool true := hd 45 (by kernel_rfl)
      simp only [List.take_succ_cons, List.take_zero, putF, Act.put, List.setIfInBounds_toArray, List.set_cons_zero, List.set_cons_succ, Nat.reduceAdd, Nat.zero_add]
      simp only [e45]
      clear hd e45
      rw [if_pos (by rfl)]
      intro K hK
      have q20 := hx.cell c20
      have q21 := hx.cell c21
      have q22 := hx.cell c22
      have q50 := hx.cell c50
      have q51 := hx.cell c51
      have q52 := hx.cell c52
      have qcl := hx.cell hcl
      have HK := Lib.hid hK; clear hK
      go_simp
      exact HK.out _ _ (.inl (Ext.refl _)) rfl
    -- 47: slot 105 := Op.call { value (Operand.func 45), args := #[t104], argTypes := #[55] }   [guarded: some (
    refine ⟨?_, ?_⟩
    · intro v w' hx hd
      have e46 : v 46 = .agg #[.slice (some ⟨bx, ox, none⟩) x.records.length cx, .int .i64 x.many, .int .i64 x.synced] := hd 46 (by kernel_rfl)
      have e45 : v 45 = .bool true := hd 45 (by kernel_rfl)
      simp only [List.take_succ_cons, List.take_zero, putF, Act.put, List.setIfInBounds_toArray, List.set_cons_zero, List.set_cons_succ, Nat.reduceAdd, Nat.zero_add]
      simp only [e46]
      simp only [e45]
      clear hd e46 e45
      rw [if_pos (by rfl)]
      intro K hK
      have q20 := hx.cell c20
      have q21 := hx.cell c21
      have q22 := hx.cell c22
      have q50 := hx.cell c50
      have q51 := hx.cell c51
      have q52 := hx.cell c52
      have qcl := hx.cell hcl
      have HK := Lib.hid hK; clear hK
      go_simp
      have k0 := room_ok w' _ x (HX.out.keep hx) HL.out
      rw [HRM.out] at k0
      refine k0.mono ?_
      rintro e w2 ⟨rfl, hx2⟩
      exact HK.out _ _ (.inl hx2) rfl
    -- 48: slot 106 := Op.move t7   [guarded: some (45, true)]
    refine ⟨?_, ?_⟩
    · intro v w' hx hd
      have e45 : v 45 = .bool true := hd 45 (by kernel_rfl)
      simp only [List.take_succ_cons, List.take_zero, putF, Act.put, List.setIfInBounds_toArray, List.set_cons_zero, List.set_cons_succ, Nat.reduceAdd, Nat.zero_add]
      simp only [e45]
      clear hd e45
      rw [if_pos (by rfl)]
      intro K hK
      have q20 := hx.cell c20
      have q21 := hx.cell c21
      have q22 := hx.cell c22
      have q50 := hx.cell c50
      have q51 := hx.cell c51
      have q52 := hx.cell c52
      have qcl := hx.cell hcl
      have HK := Lib.hid hK; clear hK
      go_simp
      exact HK.out _ _ (.inl (Ext.refl _)) rfl
    -- 49: slot 107 := Op.binOp BinOp.lss 3 t105 t106 3   [guarded: some (45, true)]
    refine ⟨?_, ?_⟩
    · intro v w' hx hd
      have e47 : v 47 = .int .i64 rm2 := hd 47 (by kernel_rfl)
      have e48 : v 48 = .int .i64 rm := hd 48 (by kernel_rfl)
      have e45 : v 45 = .bool true := hd 45 (by kernel_rfl)
      simp only [List.take_succ_cons, List.take_zero, putF, Act.put, List.setIfInBounds_toArray, List.set_cons_zero, List.set_cons_succ, Nat.reduceAdd, Nat.zero_add]
      simp only [e47]
      simp only [e48]
      simp only [e45]
      clear hd e47 e48 e45
      rw [if_pos (by rfl)]
      intro K hK
      have q20 := hx.cell c20
      have q21 := hx.cell c21
      have q22 := hx.cell c22
      have q50 := hx.cell c50
      have q51 := hx.cell c51
      have q52 := hx.cell c52
      have qcl := hx.cell hcl
      have HK := Lib.hid hK; clear hK
      go_simp
      exact HK.out _ _ (.inl (Ext.refl _)) rfl
    -- 50: slot 108 := Op.pick t103 t107 (const (Value.bool false))
    refine ⟨?_, ?_⟩
    · intro v w' hx hd
      have e45 : v 45 = .bool true := hd 45 (by kernel_rfl)
      have e49 : v 49 = .bool true := hd 49 (by kernel_rfl)
      simp only [List.take_succ_cons, List.take_zero, putF, Act.put, List.setIfInBounds_toArray, List.set_cons_zero, List.set_cons_succ, Nat.reduceAdd, Nat.zero_add]
      simp only [e45]
      simp only [e49]
      clear hd e45 e49
      rw [if_pos (by rfl)]
      intro K hK
      have q20 := hx.cell c20
      have q21 := hx.cell c21
      have q22 := hx.cell c22
      have q50 := hx.cell c50
      have q51 := hx.cell c51
      have q52 := hx.cell c52
      have qcl := hx.cell hcl
      have HK := Lib.hid hK; clear hK
      go_simp
      exact HK.out _ _ (.inl (Ext.refl _)) rfl
    exact trivial
  case tail =>
    intro v w' hx hall
    simp only [List.drop_succ_cons, List.drop_zero, List.take_succ_cons, List.take_zero, putF, Act.put, List.setIfInBounds_toArray, List.set_cons_zero, List.set_cons_succ, Nat.reduceAdd, Nat.zero_add]
    have e50 : v 50 = .bool true := hall 50 (by decide) (fun k hk => by simp at hk)
    simp only [e50]
    have HX2 := Lib.hid hx; clear hx
    clear hall e50
    go_wp2_with fail
    exact HQ.out _ _ _ _ _ _ _ _ _ _ _ _ _ _ _ _ _ _ _ _ _ _ _ _ _ _ _ _ _ _ _ _ _ _ _ _ _ _ _ _ _ _ _ _ _ _ _ _ _ _ _ w' HX2.out

set_option maxRecDepth 100000 in
set_option maxHeartbeats 4000000 in
theorem journalRoom_ok (w : World) (v : Value) (j : Jn) (vb : Value) (b : List UInt8) (h : Journal No w v j) (hb : Bs No w vb b) (hs : SmallR j.records) :
    Calls Try.prog 13 #[v, vb] w fun e w' => e = .returned (.bool true) ∧ Ext w w' := by
  have hl := hs.reach
  have hcn := hs.len
  obtain ⟨ai, ci, rfl, hci, hmi, -⟩ := h.open
  obtain ⟨ab, cb, rfl, hcb, hmb⟩ := hb.open
  have HL := Lib.hid hl; clear hl
  have HSM := Lib.hid hs; clear hs
  have hE0 := (Ext.refl w).alloc (.cells #[.slice ai j.records.length ci, .int .i64 j.many, .int .i64 j.synced] 55)
  have Di := Lib.hid (h.keep hE0); clear h
  have Db := Lib.hid (hb.keep hE0); clear hb
  have Bi := Lib.hid (Box.new w [.slice ai j.records.length ci, .int .i64 j.many, .int .i64 j.synced] 55)
  go_enter Try.func13, Try.ntmps13
  go_upto_region 1 with fail
  generalize w.alloc (.cells #[.slice ai j.records.length ci, .int .i64 j.many, .int .i64 j.synced] 55) = wa at *
  generalize w.heap.size = ni at *
  go_wp2_with fail
  have k0 := sane42_ok wa
  refine k0.mono ?_
  clear k0 
  rintro e w1 ⟨rfl, hx⟩
  replace Bi := Lib.hid (Bi.out.keep hx)
  replace Di := Lib.hid (Di.out.keep hx)
  replace Db := Lib.hid (Db.out.keep hx)
  have hE1 := hE0.trans hx; clear hE0
  clear hx
  obtain ⟨vr, er, hbr⟩ := Di.out
  cases er
  obtain ⟨qi0, qi1, qi2, -, -, -⟩ := Bi.out.three
  go_wp2_with fail
  have k0 := few42_ok (S := No) (S2 := No) w1 _ _ zeroD j.records (zeroD_disk No w1) hbr HL.out
  refine k0.mono ?_
  clear k0 qi0 qi1 qi2
  rintro e w2 ⟨rfl, hx⟩
  replace Bi := Lib.hid (Bi.out.keep hx)
  replace Di := Lib.hid (Di.out.keep hx)
  replace Db := Lib.hid (Db.out.keep hx)
  have hE2 := hE1.trans hx; clear hE1
  clear hx
  clear hbr
  generalize few42 zeroD j.records = bf
  cases bf
  · go_wp2_with fail
    go_ret
    exact ⟨rfl, hE2⟩
  by_cases hlen : (70000 : Int) < b.length
  · go_wp2_with fail
    go_ret
    exact ⟨rfl, hE2⟩
  obtain ⟨qi0, qi1, qi2, -, -, -⟩ := Bi.out.three
  go_wp2_with fail
  have k0 := checkJ_ok (S := No) w2 _ j Di.out HL.out
  refine k0.mono ?_
  clear k0 qi0 qi1 qi2
  rintro e w3 ⟨rfl, hx⟩
  replace Bi := Lib.hid (Bi.out.keep hx)
  replace Di := Lib.hid (Di.out.keep hx)
  replace Db := Lib.hid (Db.out.keep hx)
  have hE3 := hE2.trans hx; clear hE2
  clear hx
  cases hok : okJ j
  · rw [chkJ_no hok]
    go_wp2_with fail
    go_ret
    exact ⟨rfl, hE3⟩
  rw [chkJ_yes hok]
  have hni := nice_of_ok hok HSM.out
  have happ := hni.append b
  have hroom := hni.room
  have h1 := hni.many1
  have h2 := hni.many2
  have h3 := hni.used
  clear hok
  have HNI := Lib.hid hni; clear hni
  by_cases hfit : (usedN j.records + secN b.length : Int) ≤ j.many
  case neg =>
    rw [if_neg hfit] at happ
    have HAPP := Lib.hid happ; clear happ
    obtain ⟨qi0, qi1, qi2, -, -, -⟩ := Bi.out.three
    go_wp2_with fail
    have k0 := append_ok (S := No) w3 _ _ j b Di.out Db.out HL.out (by omega) (by intro _; omega) (by omega) No.lt
    rw [HAPP.out] at k0
    refine k0.mono ?_
    clear k0 qi0 qi1 qi2
    rintro e w4 ⟨u0, rfl, hd0, hx⟩
    obtain ⟨ax, cx, rfl, -, -, -⟩ := hd0.open
    have hy := ((Ext.refl w4).alloc (.cells #[.slice ax zeroJ.records.length cx, .int .i64 zeroJ.many, .int .i64 zeroJ.synced] 55))
    have hx4 := hx.trans hy
    have Bx := Lib.hid (Box.new w4 [.slice ax zeroJ.records.length cx, .int .i64 zeroJ.many, .int .i64 zeroJ.synced] 55)
    have Dx := Lib.hid (hd0.keep hy)
    replace Bi := Lib.hid (Bi.out.keep hx4)
    replace Di := Lib.hid (Di.out.keep hx4)
    replace Db := Lib.hid (Db.out.keep hx4)
    have hE4 := hE3.trans hx4; clear hE3
    clear hx hy hx4 hd0
    go_upto_region 6 with fail
    generalize w4.alloc (.cells #[.slice ax zeroJ.records.length cx, .int .i64 zeroJ.many, .int .i64 zeroJ.synced] 55) = w5 at *
    generalize w4.heap.size = nx at *
    obtain ⟨qi0, qi1, qi2, -, -, -⟩ := Bi.out.three
    go_wp2_with fail
    have k0 := room_ok (S := No) w5 _ j Di.out HL.out
    rw [hroom] at k0
    refine k0.mono ?_
    clear k0 qi0 qi1 qi2
    rintro e w6 ⟨rfl, hx⟩
    replace Bi := Lib.hid (Bi.out.keep hx)
    replace Bx := Lib.hid (Bx.out.keep hx)
    replace Di := Lib.hid (Di.out.keep hx)
    replace Dx := Lib.hid (Dx.out.keep hx)
    replace Db := Lib.hid (Db.out.keep hx)
    have hE5 := hE4.trans hx; clear hE4
    clear hx
    have hz : ((zeroJ.records.length : Int) == 0) = true := rfl
    generalize hrm : 112 * (j.many - (usedN j.records : Int)) = rm at *
    have hn : ¬ (0 < rm ∧ (b.length : Int) ≤ rm) := by unfold secN at hfit; omega
    clear hroom HNI
    obtain ⟨qx0, qx1, qx2, -, -, -⟩ := Bx.out.three
    by_cases hr0 : 0 < rm
    · have hr1 : ¬ (b.length : Int) ≤ rm := fun h => hn ⟨hr0, h⟩
      go_wp2_with fail
      go_ret
      exact ⟨rfl, hE5⟩
    · go_wp2_with fail
      go_ret
      exact ⟨rfl, hE5⟩
  rw [if_pos hfit] at happ
  have hnx := HNI.out.more hfit
  have hroom2 := hnx.room
  have hck2 := hnx.chk
  have hsm2 : ReachB (j.records ++ [b]) := fun y hy => by
    rcases List.mem_append.1 hy with hy | hy
    · exact HL.out y hy
    · rw [List.mem_singleton] at hy; subst hy; omega
  obtain ⟨x, hxd⟩ : ∃ x, ({ j with records := j.records ++ [b] } : Jn) = x := ⟨_, rfl⟩
  rw [hxd] at happ hroom2 hck2
  have e1 : x.records = j.records ++ [b] := by rw [← hxd]
  have e2 : x.many = j.many := by rw [← hxd]
  have e3 : x.synced = j.synced := by rw [← hxd]
  clear hxd hnx
  have E1 := Lib.hid e1; clear e1
  have E2 := Lib.hid e2; clear e2
  have E3 := Lib.hid e3; clear e3
  have HCK2 := Lib.hid hck2; clear hck2
  have HRM2 := Lib.hid hroom2; clear hroom2
  have HRM := Lib.hid hroom; clear hroom
  have HSM2 := Lib.hid hsm2; clear hsm2
  have HAPP := Lib.hid happ; clear happ
  obtain ⟨qi0, qi1, qi2, -, -, -⟩ := Bi.out.three
  go_wp2_with fail
  have k0 := append_ok (S := No) w3 _ _ j b Di.out Db.out HL.out (by omega) (by intro _; omega) (by omega) No.lt
  rw [HAPP.out] at k0
  refine k0.mono ?_
  clear k0 qi0 qi1 qi2
  rintro e w4 ⟨u0, rfl, hd0, hx⟩
  obtain ⟨ax, cx, rfl, -, -, -⟩ := hd0.open
  have hy := ((Ext.refl w4).alloc (.cells #[.slice ax x.records.length cx, .int .i64 x.many, .int .i64 x.synced] 55))
  have hx4 := hx.trans hy
  have Bx := Lib.hid (Box.new w4 [.slice ax x.records.length cx, .int .i64 x.many, .int .i64 x.synced] 55)
  have Dx := Lib.hid (hd0.keep hy)
  replace Bi := Lib.hid (Bi.out.keep hx4)
  replace Di := Lib.hid (Di.out.keep hx4)
  replace Db := Lib.hid (Db.out.keep hx4)
  have hE4 := hE3.trans hx4; clear hE3
  clear hx hy hx4 hd0
  go_upto_region 6 with fail
  generalize w4.alloc (.cells #[.slice ax x.records.length cx, .int .i64 x.many, .int .i64 x.synced] 55) = w5 at *
  generalize w4.heap.size = nx at *
  obtain ⟨qi0, qi1, qi2, -, -, -⟩ := Bi.out.three
  go_wp2_with fail
  have k0 := room_ok (S := No) w5 _ j Di.out HL.out
  rw [HRM.out] at k0
  refine k0.mono ?_
  clear k0 qi0 qi1 qi2
  rintro e w6 ⟨rfl, hx⟩
  replace Bi := Lib.hid (Bi.out.keep hx)
  replace Bx := Lib.hid (Bx.out.keep hx)
  replace Di := Lib.hid (Di.out.keep hx)
  replace Dx := Lib.hid (Dx.out.keep hx)
  replace Db := Lib.hid (Db.out.keep hx)
  have hE5 := hE4.trans hx; clear hE4
  clear hx
  have e1 := E1.out
  have e2 := E2.out
  have e3 := E3.out
  have hroom2 := HRM2.out
  have hroom := HRM.out
  have hck2 := HCK2.out
  have hsm2 := HSM2.out
  have hrx : roomJ x = 112 * (j.many - (usedN j.records : Int) - secN b.length) := by rw [hroom2, e1, e2, usedN_snoc]; omega
  generalize hrm : 112 * (j.many - (usedN j.records : Int)) = rm at *
  generalize hrm2 : 112 * (j.many - (usedN j.records : Int) - secN b.length) = rm2 at *
  have hlt : rm2 < rm := by have := secN_pos b.length; omega
  have hr0 : 0 < rm := by have := secN_pos b.length; omega
  have hr1 : (b.length : Int) ≤ rm := by unfold secN at hfit; omega
  have hxl : x.records.length = j.records.length + 1 := by rw [e1]; simp
  obtain ⟨ax', cx', ex, hcx, hmx, hbx⟩ := Dx.out.open
  cases ex
  obtain ⟨bx, ox, vy, rfl, -, hcl, hvy⟩ := hbx.elem (k := j.records.length) (by omega)
  have hget : x.records[j.records.length]'(by omega) = b := by
    have : x.records[j.records.length]? = some b := by rw [e1]; simp
    rw [List.getElem?_eq_getElem (by omega)] at this
    exact Option.some.inj this
  rw [hget] at hvy
  obtain ⟨ay, cy, rfl, -, -⟩ := hvy.open
  have hpre : Bss No w6 (.slice (some ⟨bx, ox, none⟩) j.records.length cx) (x.records.take j.records.length) := Sl.pre hbx j.records.length cx (by omega) (by omega) hmx
  rw [show x.records.take j.records.length = j.records by rw [e1]; simp] at hpre
  obtain ⟨vr, er, hbr⟩ := Di.out
  cases er
  have HP := Lib.hid (show _ ∧ _ ∧ _ ∧ _ from ⟨hpre, hbr, hcl, hvy⟩); clear hpre hbr hcl hvy hbx
  have hrx2 : ReachB x.records := by rw [e1]; exact hsm2
  have HRX := Lib.hid hrx
  have HRX2 := Lib.hid hrx2
  have HXL := Lib.hid hxl
  clear hroom hroom2 HNI hfit hsm2 e1 hget e2 e3 hck2 hrx hrx2 hxl HRM HRM2
  obtain ⟨qi0, qi1, qi2, -, -, -⟩ := Bi.out.three
  go_upto_region 12 with fail
  refine reg13_12 _ _ _ _ _ _ _ _ _ _ _ _ _ _ _ _ _ _ _ _ _ _ _ _ _ _ _ _ _ _ _ _ _ _ _ _ _ _ _ _ _ _ _ _ _ _ _ _ _ _ _ _ _ _ _ _ _ _ _ _ _ _ _ _ _ _ _ _ _ _ _ _ _ _ _ _ _ _ _ _ _ _ _ _ _ _ _ _ _ _ _ _ _ _ _ _ _ _ _ _ _ _ _ _ w6 ni nx ci cx cy cb j.records.length bx ox ai ay ab j x b rm rm2 Bi.out Bx.out Dx.out HP.out.2.1 HP.out.1 HP.out.2.2.1 HP.out.2.2.2 Db.out HRX2.out HXL.out hcx hmx E2.out E3.out HCK2.out HRX.out hlt ?_
  intro z0 z1 z2 z3 z4 z5 z6 z7 z8 z9 z10 z11 z12 z13 z14 z15 z16 z17 z18 z19 z20 z21 z22 z23 z24 z25 z26 z27 z28 z29 z30 z31 z32 z33 z34 z35 z36 z37 z38 z39 z40 z41 z42 z43 z44 z45 z46 z47 z48 z49 z50 wz hxx
  go_wp2_with fail
  go_ret
  exact ⟨rfl, hE5.trans hxx⟩
end Go.Proofs.Ytpciankfpagnhaa
