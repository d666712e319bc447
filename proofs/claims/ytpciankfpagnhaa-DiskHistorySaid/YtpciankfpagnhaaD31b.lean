/- Further regions of the law DiskHistory. -/
import Derived.Test.YtpciankfpagnhaaD29a
import Derived.Test.YtpciankfpagnhaaM10
import Derived.Test.YtpciankfpagnhaaD30
namespace Go.Proofs.Ytpciankfpagnhaa
open Go.RowKit
theorem tmod4 (a : Ac) : (a.at_.toNat : Int).tmod 4 = (at4 a : Int) := by
  unfold at4
  rw [Int.tmod_eq_emod_of_nonneg (by omega)]
  omega

noncomputable def reg6_28c : Code := ((Try.f6.body.bind (regionOf 28)).getD .skip)
set_option maxRecDepth 100000 in
set_option maxHeartbeats 4000000 in
theorem reg6_28 {Q : Exit → Act → World → Prop} (t0 t1 t2 t3 t4 t5 t6 t7 t8 t10 t12 t13 t14 t15 t16 t17 t18 t19 t21 t22 t23 t24 t25 t26 t27 t28 t29 t30 t31 t32 t33 t34 t35 t36 t37 t38 t39 t40 t41 t42 t43 t44 t45 t46 t47 t48 t49 t50 t51 t52 t53 t54 t55 t56 t57 t58 t59 t60 t61 t62 t63 t64 t65 t66 t67 t68 t69 t70 t71 t72 t73 t74 t75 t76 t77 t78 t79 t80 t81 t82 t83 t84 t85 t86 t87 t88 t89 t90 t91 t92 t93 t94 t95 t96 t97 t98 t99 t100 t101 t102 t103 t104 t105 t106 t107 t108 t109 t110 t111 t112 t113 t114 t115 t116 t117 t118 t119 t120 t121 t122 t123 t124 t125 t126 t127 t128 t129 t130 t131 t132 t133 t134 t135 t136 t137 t138 t139 t140 t141 t142 t143 t144 t145 t146 t147 t148 t149 t150 t151 t152 t153 t154 t155 t156 t157 t158 t159 t160 t161 t162 : Value) (w1 : World) (g9 bb oo m cw k : Nat) (ac : Ac) (y0 y1 y2 y3 : Value) (hB : Box w1 g9 [y0, y1, y2, y3]) (hk : k < m) (ya : w1.cell? ⟨bb, oo + k * 3 + 1, none⟩ = some (.int .u8 (ac.at_.toNat : Int))) (yb : w1.cell? ⟨bb, oo + k * 3 + 2, none⟩ = some (.int .u8 (ac.byte.toNat : Int)))
    (hQ : ∀ (u104 u105 u106 u107 u108 u109 u110 u111 u112 u113 u114 u115 : Value) (w9 : World), Ext w1 w9 → Q .normal ⟨#[t0, t1, t2, t3, t4, t5, t6, t7, t8, .pointer (some ⟨g9, 0, none⟩), t10, .slice (some ⟨bb, oo, none⟩) m cw, t12, t13, t14, t15, t16, t17, t18, t19, .int .i64 (k : Int), t21, t22, t23, t24, t25, t26, t27, t28, t29, t30, t31, t32, t33, t34, t35, t36, t37, t38, t39, t40, t41, t42, t43, t44, t45, t46, t47, t48, t49, t50, t51, t52, t53, t54, t55, t56, t57, t58, t59, t60, t61, t62, t63, t64, t65, t66, t67, t68, t69, t70, t71, t72, t73, t74, t75, t76, t77, t78, t79, t80, t81, t82, t83, t84, t85, t86, t87, t88, t89, t90, t91, t92, t93, t94, t95, t96, t97, t98, t99, t100, t101, t102, t103, u104, u105, u106, u107, u108, u109, u110, u111, u112, u113, u114, u115, t116, t117, t118, t119, t120, t121, t122, t123, t124, t125, t126, t127, t128, t129, t130, t131, t132, t133, t134, t135, t136, t137, t138, t139, t140, t141, t142, t143, t144, t145, t146, t147, t148, t149, t150, t151, t152, t153, t154, t155, t156, t157, t158, t159, t160, t161, t162], []⟩ (w9.setCell ⟨g9, at4 ac, none⟩ (.int .u8 (ac.byte.toNat : Int)))) :
    Code.wp Try.prog reg6_28c Q ⟨#[t0, t1, t2, t3, t4, t5, t6, t7, t8, .pointer (some ⟨g9, 0, none⟩), t10, .slice (some ⟨bb, oo, none⟩) m cw, t12, t13, t14, t15, t16, t17, t18, t19, .int .i64 (k : Int), t21, t22, t23, t24, t25, t26, t27, t28, t29, t30, t31, t32, t33, t34, t35, t36, t37, t38, t39, t40, t41, t42, t43, t44, t45, t46, t47, t48, t49, t50, t51, t52, t53, t54, t55, t56, t57, t58, t59, t60, t61, t62, t63, t64, t65, t66, t67, t68, t69, t70, t71, t72, t73, t74, t75, t76, t77, t78, t79, t80, t81, t82, t83, t84, t85, t86, t87, t88, t89, t90, t91, t92, t93, t94, t95, t96, t97, t98, t99, t100, t101, t102, t103, t104, t105, t106, t107, t108, t109, t110, t111, t112, t113, t114, t115, t116, t117, t118, t119, t120, t121, t122, t123, t124, t125, t126, t127, t128, t129, t130, t131, t132, t133, t134, t135, t136, t137, t138, t139, t140, t141, t142, t143, t144, t145, t146, t147, t148, t149, t150, t151, t152, t153, t154, t155, t156, t157, t158, t159, t160, t161, t162], []⟩ w1 := by
  conv => arg 2; whnf
  have HQ := Lib.hid hQ; clear hQ
  have HB := Lib.hid hB; clear hB
  have hk0 : (0 : Int) ≤ k := by omega
  have hk1 : (k : Int) < m := by omega
  have hat : ac.at_.toNat < 256 := ac.at_.toNat_lt
  refine wp_region_rv 11 (fun _ => none) (by kernel_rfl) (by kernel_rfl) (phv [fun v _ => v 0 = .slice (some ⟨bb, oo, none⟩) m cw,
      fun v _ => v 1 = .int .i64 (k : Int),
      fun v _ => v 2 = .pointer (some ⟨bb, oo + k * 3, none⟩),
      fun v _ => v 3 = .pointer (some ⟨bb, oo + k * 3 + 1, none⟩),
      fun v _ => v 4 = .int .u8 (ac.at_.toNat : Int),
      fun v _ => v 5 = .int .u8 (at4 ac : Int),
      fun v _ => v 6 = .slice (some ⟨bb, oo, none⟩) m cw,
      fun v _ => v 7 = .int .i64 (k : Int),
      fun v _ => v 8 = .pointer (some ⟨bb, oo + k * 3, none⟩),
      fun v _ => v 9 = .pointer (some ⟨bb, oo + k * 3 + 2, none⟩),
      fun v _ => v 10 = .int .u8 (ac.byte.toNat : Int)]) (phv_stable ?stable) (phv_cg ?cg) ?steps ?tail
  case stable =>
    exact List.forall_mem_cons.2 ⟨stabv_eq _ _, List.forall_mem_cons.2 ⟨stabv_eq _ _, List.forall_mem_cons.2 ⟨stabv_eq _ _, List.forall_mem_cons.2 ⟨stabv_eq _ _, List.forall_mem_cons.2 ⟨stabv_eq _ _, List.forall_mem_cons.2 ⟨stabv_eq _ _, List.forall_mem_cons.2 ⟨stabv_eq _ _, List.forall_mem_cons.2 ⟨stabv_eq _ _, List.forall_mem_cons.2 ⟨stabv_eq _ _, List.forall_mem_cons.2 ⟨stabv_eq _ _, List.forall_mem_cons.2 ⟨stabv_eq _ _, fun _ h => by cases h⟩⟩⟩⟩⟩⟩⟩⟩⟩⟩⟩
  case cg =>
    exact ⟨cg_eq _ _ _, ⟨cg_eq _ _ _, ⟨cg_eq _ _ _, ⟨cg_eq _ _ _, ⟨cg_eq _ _ _, ⟨cg_eq _ _ _, ⟨cg_eq _ _ _, ⟨cg_eq _ _ _, ⟨cg_eq _ _ _, ⟨cg_eq _ _ _, ⟨cg_eq _ _ _, trivial⟩⟩⟩⟩⟩⟩⟩⟩⟩⟩⟩
  case steps =>
    simp only [List.take_succ_cons, List.take_zero]
    -- 0: slot 104 := Op.move t11
    refine ⟨?_, ?_⟩
    · intro v w' hx hd
      simp only [List.take_succ_cons, List.take_zero, putF, Act.put, List.setIfInBounds_toArray, List.set_cons_zero, List.set_cons_succ, Nat.reduceAdd, Nat.zero_add]
      clear hd
      rw [if_pos (by rfl)]
      intro K hK
      have qa := hx.cell ya
      have qb := hx.cell yb
      have HK := Lib.hid hK; clear hK
      go_simp
      exact HK.out _ _ (.inl (Ext.refl _)) rfl
    -- 1: slot 105 := Op.move t20
    refine ⟨?_, ?_⟩
    · intro v w' hx hd
      simp only [List.take_succ_cons, List.take_zero, putF, Act.put, List.setIfInBounds_toArray, List.set_cons_zero, List.set_cons_succ, Nat.reduceAdd, Nat.zero_add]
      clear hd
      rw [if_pos (by rfl)]
      intro K hK
      have qa := hx.cell ya
      have qb := hx.cell yb
      have HK := Lib.hid hK; clear hK
      go_simp
      exact HK.out _ _ (.inl (Ext.refl _)) rfl
    -- 2: slot 106 := Op.indexAddr 43 t104 t105
    refine ⟨?_, ?_⟩
    · intro v w' hx hd
      have e0 : v 0 = .slice (some ⟨bb, oo, none⟩) m cw := hd 0 (by kernel_rfl)
      have e1 : v 1 = .int .i64 (k : Int) := hd 1 (by kernel_rfl)
      simp only [List.take_succ_cons, List.take_zero, putF, Act.put, List.setIfInBounds_toArray, List.set_cons_zero, List.set_cons_succ, Nat.reduceAdd, Nat.zero_add]
      simp only [e0]
      simp only [e1]
      clear hd e0 e1
      rw [if_pos (by rfl)]
      intro K hK
      have qa := hx.cell ya
      have qb := hx.cell yb
      have HK := Lib.hid hK; clear hK
      go_simp
      exact HK.out _ _ (.inl (Ext.refl _)) rfl
    -- 3: slot 107 := Op.fieldAddr 46 t106 1
    refine ⟨?_, ?_⟩
    · intro v w' hx hd
      have e2 : v 2 = .pointer (some ⟨bb, oo + k * 3, none⟩) := hd 2 (by kernel_rfl)
      simp only [List.take_succ_cons, List.take_zero, putF, Act.put, List.setIfInBounds_toArray, List.set_cons_zero, List.set_cons_succ, Nat.reduceAdd, Nat.zero_add]
      simp only [e2]
      clear hd e2
      rw [if_pos (by rfl)]
      intro K hK
      have qa := hx.cell ya
      have qb := hx.cell yb
      have HK := Lib.hid hK; clear hK
      go_simp
      exact HK.out _ _ (.inl (Ext.refl _)) rfl
    -- 4: slot 108 := Op.load 5 t107
    refine ⟨?_, ?_⟩
    · intro v w' hx hd
      have e3 : v 3 = .pointer (some ⟨bb, oo + k * 3 + 1, none⟩) := hd 3 (by kernel_rfl)
      simp only [List.take_succ_cons, List.take_zero, putF, Act.put, List.setIfInBounds_toArray, List.set_cons_zero, List.set_cons_succ, Nat.reduceAdd, Nat.zero_add]
      simp only [e3]
      clear hd e3
      rw [if_pos (by rfl)]
      intro K hK
      have qa := hx.cell ya
      have qb := hx.cell yb
      have HK := Lib.hid hK; clear hK
      go_simp
      exact HK.out _ _ (.inl (Ext.refl _)) rfl
    -- 5: slot 109 := Op.binOp BinOp.rem 5 t108 (const (4:u8)) 5
    refine ⟨?_, ?_⟩
    · intro v w' hx hd
      have e4 : v 4 = .int .u8 (ac.at_.toNat : Int) := hd 4 (by kernel_rfl)
      simp only [List.take_succ_cons, List.take_zero, putF, Act.put, List.setIfInBounds_toArray, List.set_cons_zero, List.set_cons_succ, Nat.reduceAdd, Nat.zero_add]
      simp only [e4]
      clear hd e4
      rw [if_pos (by rfl)]
      intro K hK
      have qa := hx.cell ya
      have qb := hx.cell yb
      have HK := Lib.hid hK; clear hK
      go_simp
      exact HK.out _ _ (.inl (Ext.refl _)) (congrArg (Value.int IntKind.u8) (tmod4 ac))
    -- 6: slot 110 := Op.move t11
    refine ⟨?_, ?_⟩
    · intro v w' hx hd
      simp only [List.take_succ_cons, List.take_zero, putF, Act.put, List.setIfInBounds_toArray, List.set_cons_zero, List.set_cons_succ, Nat.reduceAdd, Nat.zero_add]
      clear hd
      rw [if_pos (by rfl)]
      intro K hK
      have qa := hx.cell ya
      have qb := hx.cell yb
      have HK := Lib.hid hK; clear hK
      go_simp
      exact HK.out _ _ (.inl (Ext.refl _)) rfl
    -- 7: slot 111 := Op.move t20
    refine ⟨?_, ?_⟩
    · intro v w' hx hd
      simp only [List.take_succ_cons, List.take_zero, putF, Act.put, List.setIfInBounds_toArray, List.set_cons_zero, List.set_cons_succ, Nat.reduceAdd, Nat.zero_add]
      clear hd
      rw [if_pos (by rfl)]
      intro K hK
      have qa := hx.cell ya
      have qb := hx.cell yb
      have HK := Lib.hid hK; clear hK
      go_simp
      exact HK.out _ _ (.inl (Ext.refl _)) rfl
    -- 8: slot 112 := Op.indexAddr 43 t110 t111
    refine ⟨?_, ?_⟩
    · intro v w' hx hd
      have e6 : v 6 = .slice (some ⟨bb, oo, none⟩) m cw := hd 6 (by kernel_rfl)
      have e7 : v 7 = .int .i64 (k : Int) := hd 7 (by kernel_rfl)
      simp only [List.take_succ_cons, List.take_zero, putF, Act.put, List.setIfInBounds_toArray, List.set_cons_zero, List.set_cons_succ, Nat.reduceAdd, Nat.zero_add]
      simp only [e6]
      simp only [e7]
      clear hd e6 e7
      rw [if_pos (by rfl)]
      intro K hK
      have qa := hx.cell ya
      have qb := hx.cell yb
      have HK := Lib.hid hK; clear hK
      go_simp
      exact HK.out _ _ (.inl (Ext.refl _)) rfl
    -- 9: slot 113 := Op.fieldAddr 46 t112 2
    refine ⟨?_, ?_⟩
    · intro v w' hx hd
      have e8 : v 8 = .pointer (some ⟨bb, oo + k * 3, none⟩) := hd 8 (by kernel_rfl)
      simp only [List.take_succ_cons, List.take_zero, putF, Act.put, List.setIfInBounds_toArray, List.set_cons_zero, List.set_cons_succ, Nat.reduceAdd, Nat.zero_add]
      simp only [e8]
      clear hd e8
      rw [if_pos (by rfl)]
      intro K hK
      have qa := hx.cell ya
      have qb := hx.cell yb
      have HK := Lib.hid hK; clear hK
      go_simp
      exact HK.out _ _ (.inl (Ext.refl _)) rfl
    -- 10: slot 114 := Op.load 5 t113
    refine ⟨?_, ?_⟩
    · intro v w' hx hd
      have e9 : v 9 = .pointer (some ⟨bb, oo + k * 3 + 2, none⟩) := hd 9 (by kernel_rfl)
      simp only [List.take_succ_cons, List.take_zero, putF, Act.put, List.setIfInBounds_toArray, List.set_cons_zero, List.set_cons_succ, Nat.reduceAdd, Nat.zero_add]
      simp only [e9]
      clear hd e9
      rw [if_pos (by rfl)]
      intro K hK
      have qa := hx.cell ya
      have qb := hx.cell yb
      have HK := Lib.hid hK; clear hK
      go_simp
      exact HK.out _ _ (.inl (Ext.refl _)) rfl
    exact trivial
  case tail =>
    intro v w' hx hall
    simp only [List.drop_succ_cons, List.drop_zero, List.take_succ_cons, List.take_zero, putF, Act.put, List.setIfInBounds_toArray, List.set_cons_zero, List.set_cons_succ, Nat.reduceAdd, Nat.zero_add]
    have e5 : v 5 = .int .u8 (at4 ac : Int) := hall 5 (by decide) (fun k hk => by simp at hk)
    have e10 : v 10 = .int .u8 (ac.byte.toNat : Int) := hall 10 (by decide) (fun k hk => by simp at hk)
    simp only [e5, e10]
    have h4 := at4_lt ac
    obtain ⟨x0, hx0⟩ : ∃ x0, [y0, y1, y2, y3][at4 ac]? = some x0 := ⟨_, List.getElem?_eq_getElem h4⟩
    obtain ⟨hcell, hfr⟩ := (HB.out.keep hx).own (at4 ac) x0 hx0
    clear hx0
    have hz : g9 < w'.heap.size := (HB.out.keep hx).lt
    have HX := Lib.hid hx; clear hx
    clear hall e5 e10
    have j0 : (0 : Int) ≤ at4 ac := by omega
    have j1 : (at4 ac : Int) < 4 := by omega
    generalize at4 ac = j at *
    go_wp2_with fail
    exact HQ.out _ _ _ _ _ _ _ _ _ _ _ _ w' HX.out
noncomputable def reg6_30c : Code := ((Try.f6.body.bind (regionOf 30)).getD .skip)
set_option maxRecDepth 100000 in
set_option maxHeartbeats 4000000 in
theorem reg6_30 {Q : Exit → Act → World → Prop} (t0 t1 t2 t3 t4 t5 t6 t7 t8 t9 t12 t13 t14 t15 t16 t17 t18 t19 t21 t22 t23 t24 t25 t26 t27 t28 t29 t30 t31 t32 t33 t34 t35 t36 t37 t38 t39 t40 t41 t42 t43 t44 t45 t46 t47 t48 t49 t50 t51 t52 t53 t54 t55 t56 t57 t58 t59 t60 t61 t62 t63 t64 t65 t66 t67 t68 t69 t70 t71 t72 t73 t74 t75 t76 t77 t78 t79 t80 t81 t82 t83 t84 t85 t86 t87 t88 t89 t90 t91 t92 t93 t94 t95 t96 t97 t98 t99 t100 t101 t102 t103 t104 t105 t106 t107 t108 t109 t110 t111 t112 t113 t114 t115 t116 t117 t118 t119 t120 t121 t122 t123 t124 t125 t126 t127 t128 t129 t130 t131 t132 t133 t134 t135 t136 t137 t138 t139 t140 t141 t142 t143 t144 t145 t146 t147 t148 t149 t150 t151 t152 t153 t154 t155 t156 t157 t158 t159 t160 t161 t162 : Value) (w1 : World) (g9 bb oo m cw k : Nat) (ac : Ac) (y0 y1 y2 y3 : Value) (hB : Box w1 g9 [y0, y1, y2, y3]) (hk : k < m) (ya : w1.cell? ⟨bb, oo + k * 3 + 1, none⟩ = some (.int .u8 (ac.at_.toNat : Int))) (yb : w1.cell? ⟨bb, oo + k * 3 + 2, none⟩ = some (.int .u8 (ac.byte.toNat : Int)))
    (hQ : ∀ (u119 u120 u121 u122 u123 u124 u125 u126 u127 u128 u129 u130 : Value) (w9 : World), Ext w1 w9 → Q .normal ⟨#[t0, t1, t2, t3, t4, t5, t6, t7, t8, t9, .pointer (some ⟨g9, 0, none⟩), .slice (some ⟨bb, oo, none⟩) m cw, t12, t13, t14, t15, t16, t17, t18, t19, .int .i64 (k : Int), t21, t22, t23, t24, t25, t26, t27, t28, t29, t30, t31, t32, t33, t34, t35, t36, t37, t38, t39, t40, t41, t42, t43, t44, t45, t46, t47, t48, t49, t50, t51, t52, t53, t54, t55, t56, t57, t58, t59, t60, t61, t62, t63, t64, t65, t66, t67, t68, t69, t70, t71, t72, t73, t74, t75, t76, t77, t78, t79, t80, t81, t82, t83, t84, t85, t86, t87, t88, t89, t90, t91, t92, t93, t94, t95, t96, t97, t98, t99, t100, t101, t102, t103, t104, t105, t106, t107, t108, t109, t110, t111, t112, t113, t114, t115, t116, t117, t118, u119, u120, u121, u122, u123, u124, u125, u126, u127, u128, u129, u130, t131, t132, t133, t134, t135, t136, t137, t138, t139, t140, t141, t142, t143, t144, t145, t146, t147, t148, t149, t150, t151, t152, t153, t154, t155, t156, t157, t158, t159, t160, t161, t162], []⟩ (w9.setCell ⟨g9, at4 ac, none⟩ (.int .u8 (ac.byte.toNat : Int)))) :
    Code.wp Try.prog reg6_30c Q ⟨#[t0, t1, t2, t3, t4, t5, t6, t7, t8, t9, .pointer (some ⟨g9, 0, none⟩), .slice (some ⟨bb, oo, none⟩) m cw, t12, t13, t14, t15, t16, t17, t18, t19, .int .i64 (k : Int), t21, t22, t23, t24, t25, t26, t27, t28, t29, t30, t31, t32, t33, t34, t35, t36, t37, t38, t39, t40, t41, t42, t43, t44, t45, t46, t47, t48, t49, t50, t51, t52, t53, t54, t55, t56, t57, t58, t59, t60, t61, t62, t63, t64, t65, t66, t67, t68, t69, t70, t71, t72, t73, t74, t75, t76, t77, t78, t79, t80, t81, t82, t83, t84, t85, t86, t87, t88, t89, t90, t91, t92, t93, t94, t95, t96, t97, t98, t99, t100, t101, t102, t103, t104, t105, t106, t107, t108, t109, t110, t111, t112, t113, t114, t115, t116, t117, t118, t119, t120, t121, t122, t123, t124, t125, t126, t127, t128, t129, t130, t131, t132, t133, t134, t135, t136, t137, t138, t139, t140, t141, t142, t143, t144, t145, t146, t147, t148, t149, t150, t151, t152, t153, t154, t155, t156, t157, t158, t159, t160, t161, t162], []⟩ w1 := by
  conv => arg 2; whnf
  have HQ := Lib.hid hQ; clear hQ
  have HB := Lib.hid hB; clear hB
  have hk0 : (0 : Int) ≤ k := by omega
  have hk1 : (k : Int) < m := by omega
  have hat : ac.at_.toNat < 256 := ac.at_.toNat_lt
  refine wp_region_rv 11 (fun _ => none) (by kernel_rfl) (by kernel_rfl) (phv [fun v _ => v 0 = .slice (some ⟨bb, oo, none⟩) m cw,
      fun v _ => v 1 = .int .i64 (k : Int),
      fun v _ => v 2 = .pointer (some ⟨bb, oo + k * 3, none⟩),
      fun v _ => v 3 = .pointer (some ⟨bb, oo + k * 3 + 1, none⟩),
      fun v _ => v 4 = .int .u8 (ac.at_.toNat : Int),
      fun v _ => v 5 = .int .u8 (at4 ac : Int),
      fun v _ => v 6 = .slice (some ⟨bb, oo, none⟩) m cw,
      fun v _ => v 7 = .int .i64 (k : Int),
      fun v _ => v 8 = .pointer (some ⟨bb, oo + k * 3, none⟩),
      fun v _ => v 9 = .pointer (some ⟨bb, oo + k * 3 + 2, none⟩),
      fun v _ => v 10 = .int .u8 (ac.byte.toNat : Int)]) (phv_stable ?stable) (phv_cg ?cg) ?steps ?tail
  case stable =>
    exact List.forall_mem_cons.2 ⟨stabv_eq _ _, List.forall_mem_cons.2 ⟨stabv_eq _ _, List.forall_mem_cons.2 ⟨stabv_eq _ _, List.forall_mem_cons.2 ⟨stabv_eq _ _, List.forall_mem_cons.2 ⟨stabv_eq _ _, List.forall_mem_cons.2 ⟨stabv_eq _ _, List.forall_mem_cons.2 ⟨stabv_eq _ _, List.forall_mem_cons.2 ⟨stabv_eq _ _, List.forall_mem_cons.2 ⟨stabv_eq _ _, List.forall_mem_cons.2 ⟨stabv_eq _ _, List.forall_mem_cons.2 ⟨stabv_eq _ _, fun _ h => by cases h⟩⟩⟩⟩⟩⟩⟩⟩⟩⟩⟩
  case cg =>
    exact ⟨cg_eq _ _ _, ⟨cg_eq _ _ _, ⟨cg_eq _ _ _, ⟨cg_eq _ _ _, ⟨cg_eq _ _ _, ⟨cg_eq _ _ _, ⟨cg_eq _ _ _, ⟨cg_eq _ _ _, ⟨cg_eq _ _ _, ⟨cg_eq _ _ _, ⟨cg_eq _ _ _, trivial⟩⟩⟩⟩⟩⟩⟩⟩⟩⟩⟩
  case steps =>
    simp only [List.take_succ_cons, List.take_zero]
    -- 0: slot 119 := Op.move t11
    refine ⟨?_, ?_⟩
    · intro v w' hx hd
      simp only [List.take_succ_cons, List.take_zero, putF, Act.put, List.setIfInBounds_toArray, List.set_cons_zero, List.set_cons_succ, Nat.reduceAdd, Nat.zero_add]
      clear hd
      rw [if_pos (by rfl)]
      intro K hK
      have qa := hx.cell ya
      have qb := hx.cell yb
      have HK := Lib.hid hK; clear hK
      go_simp
      exact HK.out _ _ (.inl (Ext.refl _)) rfl
    -- 1: slot 120 := Op.move t20
    refine ⟨?_, ?_⟩
    · intro v w' hx hd
      simp only [List.take_succ_cons, List.take_zero, putF, Act.put, List.setIfInBounds_toArray, List.set_cons_zero, List.set_cons_succ, Nat.reduceAdd, Nat.zero_add]
      clear hd
      rw [if_pos (by rfl)]
      intro K hK
      have qa := hx.cell ya
      have qb := hx.cell yb
      have HK := Lib.hid hK; clear hK
      go_simp
      exact HK.out _ _ (.inl (Ext.refl _)) rfl
    -- 2: slot 121 := Op.indexAddr 43 t119 t120
    refine ⟨?_, ?_⟩
    · intro v w' hx hd
      have e0 : v 0 = .slice (some ⟨bb, oo, none⟩) m cw := hd 0 (by kernel_rfl)
      have e1 : v 1 = .int .i64 (k : Int) := hd 1 (by kernel_rfl)
      simp only [List.take_succ_cons, List.take_zero, putF, Act.put, List.setIfInBounds_toArray, List.set_cons_zero, List.set_cons_succ, Nat.reduceAdd, Nat.zero_add]
      simp only [e0]
      simp only [e1]
      clear hd e0 e1
      rw [if_pos (by rfl)]
      intro K hK
      have qa := hx.cell ya
      have qb := hx.cell yb
      have HK := Lib.hid hK; clear hK
      go_simp
      exact HK.out _ _ (.inl (Ext.refl _)) rfl
    -- 3: slot 122 := Op.fieldAddr 46 t121 1
    refine ⟨?_, ?_⟩
    · intro v w' hx hd
      have e2 : v 2 = .pointer (some ⟨bb, oo + k * 3, none⟩) := hd 2 (by kernel_rfl)
      simp only [List.take_succ_cons, List.take_zero, putF, Act.put, List.setIfInBounds_toArray, List.set_cons_zero, List.set_cons_succ, Nat.reduceAdd, Nat.zero_add]
      simp only [e2]
      clear hd e2
      rw [if_pos (by rfl)]
      intro K hK
      have qa := hx.cell ya
      have qb := hx.cell yb
      have HK := Lib.hid hK; clear hK
      go_simp
      exact HK.out _ _ (.inl (Ext.refl _)) rfl
    -- 4: slot 123 := Op.load 5 t122
    refine ⟨?_, ?_⟩
    · intro v w' hx hd
      have e3 : v 3 = .pointer (some ⟨bb, oo + k * 3 + 1, none⟩) := hd 3 (by kernel_rfl)
      simp only [List.take_succ_cons, List.take_zero, putF, Act.put, List.setIfInBounds_toArray, List.set_cons_zero, List.set_cons_succ, Nat.reduceAdd, Nat.zero_add]
      simp only [e3]
      clear hd e3
      rw [if_pos (by rfl)]
      intro K hK
      have qa := hx.cell ya
      have qb := hx.cell yb
      have HK := Lib.hid hK; clear hK
      go_simp
      exact HK.out _ _ (.inl (Ext.refl _)) rfl
    -- 5: slot 124 := Op.binOp BinOp.rem 5 t123 (const (4:u8)) 5
    refine ⟨?_, ?_⟩
    · intro v w' hx hd
      have e4 : v 4 = .int .u8 (ac.at_.toNat : Int) := hd 4 (by kernel_rfl)
      simp only [List.take_succ_cons, List.take_zero, putF, Act.put, List.setIfInBounds_toArray, List.set_cons_zero, List.set_cons_succ, Nat.reduceAdd, Nat.zero_add]
      simp only [e4]
      clear hd e4
      rw [if_pos (by rfl)]
      intro K hK
      have qa := hx.cell ya
      have qb := hx.cell yb
      have HK := Lib.hid hK; clear hK
      go_simp
      exact HK.out _ _ (.inl (Ext.refl _)) (congrArg (Value.int IntKind.u8) (tmod4 ac))
    -- 6: slot 125 := Op.move t11
    refine ⟨?_, ?_⟩
    · intro v w' hx hd
      simp only [List.take_succ_cons, List.take_zero, putF, Act.put, List.setIfInBounds_toArray, List.set_cons_zero, List.set_cons_succ, Nat.reduceAdd, Nat.zero_add]
      clear hd
      rw [if_pos (by rfl)]
      intro K hK
      have qa := hx.cell ya
      have qb := hx.cell yb
      have HK := Lib.hid hK; clear hK
      go_simp
      exact HK.out _ _ (.inl (Ext.refl _)) rfl
    -- 7: slot 126 := Op.move t20
    refine ⟨?_, ?_⟩
    · intro v w' hx hd
      simp only [List.take_succ_cons, List.take_zero, putF, Act.put, List.setIfInBounds_toArray, List.set_cons_zero, List.set_cons_succ, Nat.reduceAdd, Nat.zero_add]
      clear hd
      rw [if_pos (by rfl)]
      intro K hK
      have qa := hx.cell ya
      have qb := hx.cell yb
      have HK := Lib.hid hK; clear hK
      go_simp
      exact HK.out _ _ (.inl (Ext.refl _)) rfl
    -- 8: slot 127 := Op.indexAddr 43 t125 t126
    refine ⟨?_, ?_⟩
    · intro v w' hx hd
      have e6 : v 6 = .slice (some ⟨bb, oo, none⟩) m cw := hd 6 (by kernel_rfl)
      have e7 : v 7 = .int .i64 (k : Int) := hd 7 (by kernel_rfl)
      simp only [List.take_succ_cons, List.take_zero, putF, Act.put, List.setIfInBounds_toArray, List.set_cons_zero, List.set_cons_succ, Nat.reduceAdd, Nat.zero_add]
      simp only [e6]
      simp only [e7]
      clear hd e6 e7
      rw [if_pos (by rfl)]
      intro K hK
      have qa := hx.cell ya
      have qb := hx.cell yb
      have HK := Lib.hid hK; clear hK
      go_simp
      exact HK.out _ _ (.inl (Ext.refl _)) rfl
    -- 9: slot 128 := Op.fieldAddr 46 t127 2
    refine ⟨?_, ?_⟩
    · intro v w' hx hd
      have e8 : v 8 = .pointer (some ⟨bb, oo + k * 3, none⟩) := hd 8 (by kernel_rfl)
      simp only [List.take_succ_cons, List.take_zero, putF, Act.put, List.setIfInBounds_toArray, List.set_cons_zero, List.set_cons_succ, Nat.reduceAdd, Nat.zero_add]
      simp only [e8]
      clear hd e8
      rw [if_pos (by rfl)]
      intro K hK
      have qa := hx.cell ya
      have qb := hx.cell yb
      have HK := Lib.hid hK; clear hK
      go_simp
      exact HK.out _ _ (.inl (Ext.refl _)) rfl
    -- 10: slot 129 := Op.load 5 t128
    refine ⟨?_, ?_⟩
    · intro v w' hx hd
      have e9 : v 9 = .pointer (some ⟨bb, oo + k * 3 + 2, none⟩) := hd 9 (by kernel_rfl)
      simp only [List.take_succ_cons, List.take_zero, putF, Act.put, List.setIfInBounds_toArray, List.set_cons_zero, List.set_cons_succ, Nat.reduceAdd, Nat.zero_add]
      simp only [e9]
      clear hd e9
      rw [if_pos (by rfl)]
      intro K hK
      have qa := hx.cell ya
      have qb := hx.cell yb
      have HK := Lib.hid hK; clear hK
      go_simp
      exact HK.out _ _ (.inl (Ext.refl _)) rfl
    exact trivial
  case tail =>
    intro v w' hx hall
    simp only [List.drop_succ_cons, List.drop_zero, List.take_succ_cons, List.take_zero, putF, Act.put, List.setIfInBounds_toArray, List.set_cons_zero, List.set_cons_succ, Nat.reduceAdd, Nat.zero_add]
    have e5 : v 5 = .int .u8 (at4 ac : Int) := hall 5 (by decide) (fun k hk => by simp at hk)
    have e10 : v 10 = .int .u8 (ac.byte.toNat : Int) := hall 10 (by decide) (fun k hk => by simp at hk)
    simp only [e5, e10]
    have h4 := at4_lt ac
    obtain ⟨x0, hx0⟩ : ∃ x0, [y0, y1, y2, y3][at4 ac]? = some x0 := ⟨_, List.getElem?_eq_getElem h4⟩
    obtain ⟨hcell, hfr⟩ := (HB.out.keep hx).own (at4 ac) x0 hx0
    clear hx0
    have hz : g9 < w'.heap.size := (HB.out.keep hx).lt
    have HX := Lib.hid hx; clear hx
    clear hall e5 e10
    have j0 : (0 : Int) ≤ at4 ac := by omega
    have j1 : (at4 ac : Int) < 4 := by omega
    generalize at4 ac = j at *
    go_wp2_with fail
    exact HQ.out _ _ _ _ _ _ _ _ _ _ _ _ w' HX.out
noncomputable def reg6_32c : Code := ((Try.f6.body.bind (regionOf 32)).getD .skip)
set_option maxRecDepth 100000 in
set_option maxHeartbeats 4000000 in
theorem reg6_32 {Q : Exit → Act → World → Prop} {S : Nat → Prop} (t0 t1 t2 t3 t4 t5 t6 t7 t8 t11 t12 t13 t14 t15 t16 t19 t20 t21 t22 t23 t24 t25 t26 t27 t28 t29 t30 t31 t32 t33 t34 t35 t36 t37 t38 t39 t40 t41 t42 t43 t44 t45 t46 t47 t48 t49 t50 t51 t52 t53 t54 t55 t56 t57 t58 t59 t60 t61 t62 t63 t64 t65 t66 t67 t68 t69 t70 t71 t72 t73 t74 t75 t76 t77 t78 t79 t80 t81 t82 t83 t84 t85 t86 t87 t88 t89 t90 t91 t92 t93 t94 t95 t96 t97 t98 t99 t100 t101 t102 t103 t104 t105 t106 t107 t108 t109 t110 t111 t112 t113 t114 t115 t116 t117 t118 t119 t120 t121 t122 t123 t124 t125 t126 t127 t128 t129 t130 t131 t132 t133 t134 t135 t136 t137 t138 t139 t140 t141 t142 t143 t144 t145 t146 t147 t148 t149 t150 t151 t152 t153 t154 t155 t156 t157 t158 t159 t160 t161 t162 : Value) (w1 : World) (g5 g9 g10 : Nat) (a5 : Option Addr) (c5 : Nat) (a6 : Option Addr) (c6 : Nat) (x : Dk) (f0 f1 f2 f3 s0 s1 s2 s3 : UInt8) (hst : x.stopped = true)
    (hB : Box w1 g5 [.slice a5 x.sectors.length c5, .slice a6 x.pending.length c6, .int .i64 x.left, .bool x.stopped]) (hD : Disk S w1 (.agg #[.slice a5 x.sectors.length c5, .slice a6 x.pending.length c6, .int .i64 x.left, .bool x.stopped]) x) (hB9 : Box w1 g9 [.int .u8 (f0.toNat : Int), .int .u8 (f1.toNat : Int), .int .u8 (f2.toNat : Int), .int .u8 (f3.toNat : Int)]) (hB10 : Box w1 g10 [.int .u8 (s0.toNat : Int), .int .u8 (s1.toNat : Int), .int .u8 (s2.toNat : Int), .int .u8 (s3.toNat : Int)]) (hH : Holds (restartD x) [f0, f1, f2, f3] [s0, s1, s2, s3])
    (hQ : ∀ (u132 u133 u134 u135 u136 u137 u138 u139 u140 u141 u142 u143 u144 : Value) (wx : World), Ext w1 wx → Q .normal ⟨#[t0, t1, t2, t3, .bool true, t5, t6, t7, t8, .pointer (some ⟨g9, 0, none⟩), .pointer (some ⟨g10, 0, none⟩), t11, t12, t13, t14, t15, t16, .pointer (some ⟨g5, 0, none⟩), .int .i64 410, t19, t20, t21, t22, t23, t24, t25, t26, t27, t28, t29, t30, t31, t32, t33, t34, t35, t36, t37, t38, t39, t40, t41, t42, t43, t44, t45, t46, t47, t48, t49, t50, t51, t52, t53, t54, t55, t56, t57, t58, t59, t60, t61, t62, t63, t64, t65, t66, t67, t68, t69, t70, t71, t72, t73, t74, t75, t76, t77, t78, t79, t80, t81, t82, t83, t84, t85, t86, t87, t88, t89, t90, t91, t92, t93, t94, t95, t96, t97, t98, t99, t100, t101, t102, t103, t104, t105, t106, t107, t108, t109, t110, t111, t112, t113, t114, t115, t116, t117, t118, t119, t120, t121, t122, t123, t124, t125, t126, t127, t128, t129, t130, t131, u132, u133, u134, u135, u136, u137, u138, u139, u140, u141, u142, u143, u144, t145, t146, t147, t148, t149, t150, t151, t152, t153, t154, t155, t156, t157, t158, t159, t160, t161, t162], []⟩ wx) :
    Code.wp Try.prog reg6_32c Q ⟨#[t0, t1, t2, t3, t4, t5, t6, t7, t8, .pointer (some ⟨g9, 0, none⟩), .pointer (some ⟨g10, 0, none⟩), t11, t12, t13, t14, t15, t16, .pointer (some ⟨g5, 0, none⟩), .int .i64 410, t19, t20, t21, t22, t23, t24, t25, t26, t27, t28, t29, t30, t31, t32, t33, t34, t35, t36, t37, t38, t39, t40, t41, t42, t43, t44, t45, t46, t47, t48, t49, t50, t51, t52, t53, t54, t55, t56, t57, t58, t59, t60, t61, t62, t63, t64, t65, t66, t67, t68, t69, t70, t71, t72, t73, t74, t75, t76, t77, t78, t79, t80, t81, t82, t83, t84, t85, t86, t87, t88, t89, t90, t91, t92, t93, t94, t95, t96, t97, t98, t99, t100, t101, t102, t103, t104, t105, t106, t107, t108, t109, t110, t111, t112, t113, t114, t115, t116, t117, t118, t119, t120, t121, t122, t123, t124, t125, t126, t127, t128, t129, t130, t131, t132, t133, t134, t135, t136, t137, t138, t139, t140, t141, t142, t143, t144, t145, t146, t147, t148, t149, t150, t151, t152, t153, t154, t155, t156, t157, t158, t159, t160, t161, t162], []⟩ w1 := by
  conv => arg 2; whnf
  have HQ := Lib.hid hQ; clear hQ
  have HD := Lib.hid hD; clear hD
  have HH := Lib.hid hH; clear hH
  obtain ⟨d0, d1, d2, d3, -, -, -, -⟩ := hB.four
  obtain ⟨p0, p1, p2, p3, -, -, -, -⟩ := hB9.four
  obtain ⟨r0, r1, r2, r3, -, -, -, -⟩ := hB10.four
  have HST := Lib.hid hst; clear hst
  have d3t : w1.cell? ⟨g5, 3, none⟩ = some (.bool true) := by rw [d3, HST.out]
  have D3 := Lib.hid d3; clear d3
  refine wp_region_rv 13 (fun _ => none) (by kernel_rfl) (by kernel_rfl) (phv [fun v _ => v 0 = .int .i64 410,
      fun v _ => v 1 = .bool true,
      fun v _ => v 2 = .bool true,
      fun v _ => v 3 = .pointer (some ⟨g5, 3, none⟩),
      fun v _ => v 4 = .bool true,
      fun v _ => v 5 = .bool true,
      fun v _ => v 6 = .bool true,
      fun v _ => v 7 = .agg #[.slice a5 x.sectors.length c5, .slice a6 x.pending.length c6, .int .i64 x.left, .bool x.stopped],
      fun v w => (fun x1 w => Disk S w x1 (restartD x)) (v 8) w,
      fun v _ => v 9 = .agg #[.int .u8 (f0.toNat : Int), .int .u8 (f1.toNat : Int), .int .u8 (f2.toNat : Int), .int .u8 (f3.toNat : Int)],
      fun v _ => v 10 = .agg #[.int .u8 (s0.toNat : Int), .int .u8 (s1.toNat : Int), .int .u8 (s2.toNat : Int), .int .u8 (s3.toNat : Int)],
      fun v _ => v 11 = .bool true,
      fun v _ => v 12 = .bool true]) (phv_stable ?stable) (phv_cg ?cg) ?steps ?tail
  case stable =>
    exact List.forall_mem_cons.2 ⟨stabv_eq _ _, List.forall_mem_cons.2 ⟨stabv_eq _ _, List.forall_mem_cons.2 ⟨stabv_eq _ _, List.forall_mem_cons.2 ⟨stabv_eq _ _, List.forall_mem_cons.2 ⟨stabv_eq _ _, List.forall_mem_cons.2 ⟨stabv_eq _ _, List.forall_mem_cons.2 ⟨stabv_eq _ _, List.forall_mem_cons.2 ⟨stabv_eq _ _, List.forall_mem_cons.2 ⟨fun v w w' hx h => (fun _ _ _ hx h => h.keep hx) (v 8) w w' hx h, List.forall_mem_cons.2 ⟨stabv_eq _ _, List.forall_mem_cons.2 ⟨stabv_eq _ _, List.forall_mem_cons.2 ⟨stabv_eq _ _, List.forall_mem_cons.2 ⟨stabv_eq _ _, fun _ h => by cases h⟩⟩⟩⟩⟩⟩⟩⟩⟩⟩⟩⟩⟩
  case cg =>
    exact ⟨cg_eq _ _ _, ⟨cg_eq _ _ _, ⟨cg_eq _ _ _, ⟨cg_eq _ _ _, ⟨cg_eq _ _ _, ⟨cg_eq _ _ _, ⟨cg_eq _ _ _, ⟨cg_eq _ _ _, ⟨cg_1 _ _ (fun x1 w => Disk S w x1 (restartD x)), ⟨cg_eq _ _ _, ⟨cg_eq _ _ _, ⟨cg_eq _ _ _, ⟨cg_eq _ _ _, trivial⟩⟩⟩⟩⟩⟩⟩⟩⟩⟩⟩⟩⟩
  case steps =>
    simp only [List.take_succ_cons, List.take_zero]
    -- 0: slot 132 := Op.move t18
    refine ⟨?_, ?_⟩
    · intro v w' hx hd
      simp only [List.take_succ_cons, List.take_zero, putF, Act.put, List.setIfInBounds_toArray, List.set_cons_zero, List.set_cons_succ, Nat.reduceAdd, Nat.zero_add]
      clear hd
      rw [if_pos (by rfl)]
      intro K hK
      have qd0 := hx.cell d0
      have qd1 := hx.cell d1
      have qd2 := hx.cell d2
      have qd3t := hx.cell d3t
      have qp0 := hx.cell p0
      have qp1 := hx.cell p1
      have qp2 := hx.cell p2
      have qp3 := hx.cell p3
      have qr0 := hx.cell r0
      have qr1 := hx.cell r1
      have qr2 := hx.cell r2
      have qr3 := hx.cell r3
      have HK := Lib.hid hK; clear hK
      go_simp
      exact HK.out _ _ (.inl (Ext.refl _)) rfl
    -- 1: slot 133 := Op.binOp BinOp.eql 28 t132 (const (410:i64)) 28
    refine ⟨?_, ?_⟩
    · intro v w' hx hd
      have e0 : v 0 = .int .i64 410 := hd 0 (by kernel_rfl)
      simp only [List.take_succ_cons, List.take_zero, putF, Act.put, List.setIfInBounds_toArray, List.set_cons_zero, List.set_cons_succ, Nat.reduceAdd, Nat.zero_add]
      simp only [e0]
      clear hd e0
      rw [if_pos (by rfl)]
      intro K hK
      have qd0 := hx.cell d0
      have qd1 := hx.cell d1
      have qd2 := hx.cell d2
      have qd3t := hx.cell d3t
      have qp0 := hx.cell p0
      have qp1 := hx.cell p1
      have qp2 := hx.cell p2
      have qp3 := hx.cell p3
      have qr0 := hx.cell r0
      have qr1 := hx.cell r1
      have qr2 := hx.cell r2
      have qr3 := hx.cell r3
      have HK := Lib.hid hK; clear hK
      go_simp
      exact HK.out _ _ (.inl (Ext.refl _)) rfl
    -- 2: slot 134 := Op.move t133
    refine ⟨?_, ?_⟩
    · intro v w' hx hd
      have e1 : v 1 = .bool true := hd 1 (by kernel_rfl)
      simp only [List.take_succ_cons, List.take_zero, putF, Act.put, List.setIfInBounds_toArray, List.set_cons_zero, List.set_cons_succ, Nat.reduceAdd, Nat.zero_add]
      simp only [e1]
      clear hd e1
      rw [if_pos (by rfl)]
      intro K hK
      have qd0 := hx.cell d0
      have qd1 := hx.cell d1
      have qd2 := hx.cell d2
      have qd3t := hx.cell d3t
      have qp0 := hx.cell p0
      have qp1 := hx.cell p1
      have qp2 := hx.cell p2
      have qp3 := hx.cell p3
      have qr0 := hx.cell r0
      have qr1 := hx.cell r1
      have qr2 := hx.cell r2
      have qr3 := hx.cell r3
      have HK := Lib.hid hK; clear hK
      go_simp
      exact HK.out _ _ (.inl (Ext.refl _)) rfl
    -- 3: slot 135 := Op.fieldAddr 25 t17 3   [guarded: some (2, true)]
    refine ⟨?_, ?_⟩
    · intro v w' hx hd
      have e2 : v 2 = .bool true := hd 2 (by kernel_rfl)
      simp only [List.take_succ_cons, List.take_zero, putF, Act.put, List.setIfInBounds_toArray, List.set_cons_zero, List.set_cons_succ, Nat.reduceAdd, Nat.zero_add]
      simp only [e2]
      clear hd e2
      rw [if_pos (by rfl)]
      intro K hK
      have qd0 := hx.cell d0
      have qd1 := hx.cell d1
      have qd2 := hx.cell d2
      have qd3t := hx.cell d3t
      have qp0 := hx.cell p0
      have qp1 := hx.cell p1
      have qp2 := hx.cell p2
      have qp3 := hx.cell p3
      have qr0 := hx.cell r0
      have qr1 := hx.cell r1
      have qr2 := hx.cell r2
      have qr3 := hx.cell r3
      have HK := Lib.hid hK; clear hK
      go_simp
      exact HK.out _ _ (.inl (Ext.refl _)) rfl
    -- 4: slot 136 := Op.load 4 t135   [guarded: some (2, true)]
    refine ⟨?_, ?_⟩
    · intro v w' hx hd
      have e3 : v 3 = .pointer (some ⟨g5, 3, none⟩) := hd 3 (by kernel_rfl)
      have e2 : v 2 = .bool true := hd 2 (by kernel_rfl)
      simp only [List.take_succ_cons, List.take_zero, putF, Act.put, List.setIfInBounds_toArray, List.set_cons_zero, List.set_cons_succ, Nat.reduceAdd, Nat.zero_add]
      simp only [e3]
      simp only [e2]
      clear hd e3 e2
      rw [if_pos (by rfl)]
      intro K hK
      have qd0 := hx.cell d0
      have qd1 := hx.cell d1
      have qd2 := hx.cell d2
      have qd3t := hx.cell d3t
      have qp0 := hx.cell p0
      have qp1 := hx.cell p1
      have qp2 := hx.cell p2
      have qp3 := hx.cell p3
      have qr0 := hx.cell r0
      have qr1 := hx.cell r1
      have qr2 := hx.cell r2
      have qr3 := hx.cell r3
      have HK := Lib.hid hK; clear hK
      go_simp
      exact HK.out _ _ (.inl (Ext.refl _)) rfl
    -- 5: slot 137 := Op.pick t134 t136 (const (Value.bool false))
    refine ⟨?_, ?_⟩
    · intro v w' hx hd
      have e2 : v 2 = .bool true := hd 2 (by kernel_rfl)
      have e4 : v 4 = .bool true := hd 4 (by kernel_rfl)
      simp only [List.take_succ_cons, List.take_zero, putF, Act.put, List.setIfInBounds_toArray, List.set_cons_zero, List.set_cons_succ, Nat.reduceAdd, Nat.zero_add]
      simp only [e2]
      simp only [e4]
      clear hd e2 e4
      rw [if_pos (by rfl)]
      intro K hK
      have qd0 := hx.cell d0
      have qd1 := hx.cell d1
      have qd2 := hx.cell d2
      have qd3t := hx.cell d3t
      have qp0 := hx.cell p0
      have qp1 := hx.cell p1
      have qp2 := hx.cell p2
      have qp3 := hx.cell p3
      have qr0 := hx.cell r0
      have qr1 := hx.cell r1
      have qr2 := hx.cell r2
      have qr3 := hx.cell r3
      have HK := Lib.hid hK; clear hK
      go_simp
      exact HK.out _ _ (.inl (Ext.refl _)) rfl
    -- 6: slot 138 := Op.move t137
    refine ⟨?_, ?_⟩
    · intro v w' hx hd
      have e5 : v 5 = .bool true := hd 5 (by kernel_rfl)
      simp only [List.take_succ_cons, List.take_zero, putF, Act.put, List.setIfInBounds_toArray, List.set_cons_zero, List.set_cons_succ, Nat.reduceAdd, Nat.zero_add]
      simp only [e5]
      clear hd e5
      rw [if_pos (by rfl)]
      intro K hK
      have qd0 := hx.cell d0
      have qd1 := hx.cell d1
      have qd2 := hx.cell d2
      have qd3t := hx.cell d3t
      have qp0 := hx.cell p0
      have qp1 := hx.cell p1
      have qp2 := hx.cell p2
      have qp3 := hx.cell p3
      have qr0 := hx.cell r0
      have qr1 := hx.cell r1
      have qr2 := hx.cell r2
      have qr3 := hx.cell r3
      have HK := Lib.hid hK; clear hK
      go_simp
      exact HK.out _ _ (.inl (Ext.refl _)) rfl
    -- 7: slot 139 := Op.load 25 t17   [guarded: some (6, true)]
    refine ⟨?_, ?_⟩
    · intro v w' hx hd
      have e6 : v 6 = .bool true := hd 6 (by kernel_rfl)
      simp only [List.take_succ_cons, List.take_zero, putF, Act.put, List.setIfInBounds_toArray, List.set_cons_zero, List.set_cons_succ, Nat.reduceAdd, Nat.zero_add]
      simp only [e6]
      clear hd e6
      rw [if_pos (by rfl)]
      intro K hK
      have qd0 := hx.cell d0
      have qd1 := hx.cell d1
      have qd2 := hx.cell d2
      have qd3t := hx.cell d3t
      have qp0 := hx.cell p0
      have qp1 := hx.cell p1
      have qp2 := hx.cell p2
      have qp3 := hx.cell p3
      have qr0 := hx.cell r0
      have qr1 := hx.cell r1
      have qr2 := hx.cell r2
      have qr3 := hx.cell r3
      have qd3 := hx.cell D3.out
      clear qd3t
      have HK := Lib.hid hK; clear hK
      go_simp
      exact HK.out _ _ (.inl (Ext.refl _)) rfl
    -- 8: slot 140 := Op.call { value (Operand.func 24), args := #[t139], argTypes := #[25] }   [guarded: some (
    refine ⟨?_, ?_⟩
    · intro v w' hx hd
      have e7 : v 7 = .agg #[.slice a5 x.sectors.length c5, .slice a6 x.pending.length c6, .int .i64 x.left, .bool x.stopped] := hd 7 (by kernel_rfl)
      have e6 : v 6 = .bool true := hd 6 (by kernel_rfl)
      simp only [List.take_succ_cons, List.take_zero, putF, Act.put, List.setIfInBounds_toArray, List.set_cons_zero, List.set_cons_succ, Nat.reduceAdd, Nat.zero_add]
      simp only [e7]
      simp only [e6]
      clear hd e7 e6
      rw [if_pos (by rfl)]
      intro K hK
      have qd0 := hx.cell d0
      have qd1 := hx.cell d1
      have qd2 := hx.cell d2
      have qd3t := hx.cell d3t
      have qp0 := hx.cell p0
      have qp1 := hx.cell p1
      have qp2 := hx.cell p2
      have qp3 := hx.cell p3
      have qr0 := hx.cell r0
      have qr1 := hx.cell r1
      have qr2 := hx.cell r2
      have qr3 := hx.cell r3
      have HK := Lib.hid hK; clear hK
      go_simp
      refine (restart_ok (S := S) w' _ x (HD.out.keep hx)).mono ?_
      rintro e w2 ⟨v2, rfl, hd2, hx2⟩
      exact HK.out _ _ (.inl hx2) hd2
    -- 9: slot 141 := Op.load 44 t9   [guarded: some (6, true)]
    refine ⟨?_, ?_⟩
    · intro v w' hx hd
      have e6 : v 6 = .bool true := hd 6 (by kernel_rfl)
      simp only [List.take_succ_cons, List.take_zero, putF, Act.put, List.setIfInBounds_toArray, List.set_cons_zero, List.set_cons_succ, Nat.reduceAdd, Nat.zero_add]
      simp only [e6]
      clear hd e6
      rw [if_pos (by rfl)]
      intro K hK
      have qd0 := hx.cell d0
      have qd1 := hx.cell d1
      have qd2 := hx.cell d2
      have qd3t := hx.cell d3t
      have qp0 := hx.cell p0
      have qp1 := hx.cell p1
      have qp2 := hx.cell p2
      have qp3 := hx.cell p3
      have qr0 := hx.cell r0
      have qr1 := hx.cell r1
      have qr2 := hx.cell r2
      have qr3 := hx.cell r3
      have HK := Lib.hid hK; clear hK
      go_simp
      exact HK.out _ _ (.inl (Ext.refl _)) rfl
    -- 10: slot 142 := Op.load 44 t10   [guarded: some (6, true)]
    refine ⟨?_, ?_⟩
    · intro v w' hx hd
      have e6 : v 6 = .bool true := hd 6 (by kernel_rfl)
      simp only [List.take_succ_cons, List.take_zero, putF, Act.put, List.setIfInBounds_toArray, List.set_cons_zero, List.set_cons_succ, Nat.reduceAdd, Nat.zero_add]
      simp only [e6]
      clear hd e6
      rw [if_pos (by rfl)]
      intro K hK
      have qd0 := hx.cell d0
      have qd1 := hx.cell d1
      have qd2 := hx.cell d2
      have qd3t := hx.cell d3t
      have qp0 := hx.cell p0
      have qp1 := hx.cell p1
      have qp2 := hx.cell p2
      have qp3 := hx.cell p3
      have qr0 := hx.cell r0
      have qr1 := hx.cell r1
      have qr2 := hx.cell r2
      have qr3 := hx.cell r3
      have HK := Lib.hid hK; clear hK
      go_simp
      exact HK.out _ _ (.inl (Ext.refl _)) rfl
    -- 11: slot 143 := Op.call { value (Operand.func 35), args := #[t140, t141, t142], argTypes := #[25, 44, 44] 
    refine ⟨?_, ?_⟩
    · intro v w' hx hd
      have e8 : (fun x1 w => Disk S w x1 (restartD x)) (v 8) w' := hd 8 (by kernel_rfl)
      have e9 : v 9 = .agg #[.int .u8 (f0.toNat : Int), .int .u8 (f1.toNat : Int), .int .u8 (f2.toNat : Int), .int .u8 (f3.toNat : Int)] := hd 9 (by kernel_rfl)
      have e10 : v 10 = .agg #[.int .u8 (s0.toNat : Int), .int .u8 (s1.toNat : Int), .int .u8 (s2.toNat : Int), .int .u8 (s3.toNat : Int)] := hd 10 (by kernel_rfl)
      have e6 : v 6 = .bool true := hd 6 (by kernel_rfl)
      simp only [List.take_succ_cons, List.take_zero, putF, Act.put, List.setIfInBounds_toArray, List.set_cons_zero, List.set_cons_succ, Nat.reduceAdd, Nat.zero_add]
      simp only [e9]
      simp only [e10]
      simp only [e6]
      clear hd e9 e10 e6
      rw [if_pos (by rfl)]
      intro K hK
      have qd0 := hx.cell d0
      have qd1 := hx.cell d1
      have qd2 := hx.cell d2
      have qd3t := hx.cell d3t
      have qp0 := hx.cell p0
      have qp1 := hx.cell p1
      have qp2 := hx.cell p2
      have qp3 := hx.cell p3
      have qr0 := hx.cell r0
      have qr1 := hx.cell r1
      have qr2 := hx.cell r2
      have qr3 := hx.cell r3
      obtain ⟨a9, c9, a8, c8, ev, _, _, _, _, _, _⟩ := Disk.open e8
      have k0 := holds_ok w' _ (restartD x) f0 f1 f2 f3 s0 s1 s2 s3 e8 HH.out
      rw [ev] at k0
      simp only [ev] at hK ⊢
      have K0 := Lib.hid k0; clear k0
      have EV := Lib.hid ev; clear ev
      have E8 := Lib.hid e8; clear e8
      have HK := Lib.hid hK; clear hK
      go_simp
      refine K0.out.mono ?_
      rintro e w2 ⟨rfl, hx2⟩
      exact HK.out _ _ (.inl hx2) rfl
    -- 12: slot 144 := Op.pick t138 t143 (const (Value.bool false))
    refine ⟨?_, ?_⟩
    · intro v w' hx hd
      have e6 : v 6 = .bool true := hd 6 (by kernel_rfl)
      have e11 : v 11 = .bool true := hd 11 (by kernel_rfl)
      simp only [List.take_succ_cons, List.take_zero, putF, Act.put, List.setIfInBounds_toArray, List.set_cons_zero, List.set_cons_succ, Nat.reduceAdd, Nat.zero_add]
      simp only [e6]
      simp only [e11]
      clear hd e6 e11
      rw [if_pos (by rfl)]
      intro K hK
      have qd0 := hx.cell d0
      have qd1 := hx.cell d1
      have qd2 := hx.cell d2
      have qd3t := hx.cell d3t
      have qp0 := hx.cell p0
      have qp1 := hx.cell p1
      have qp2 := hx.cell p2
      have qp3 := hx.cell p3
      have qr0 := hx.cell r0
      have qr1 := hx.cell r1
      have qr2 := hx.cell r2
      have qr3 := hx.cell r3
      have HK := Lib.hid hK; clear hK
      go_simp
      exact HK.out _ _ (.inl (Ext.refl _)) rfl
    exact trivial
  case tail =>
    intro v w' hx hall
    simp only [List.drop_succ_cons, List.drop_zero, List.take_succ_cons, List.take_zero, putF, Act.put, List.setIfInBounds_toArray, List.set_cons_zero, List.set_cons_succ, Nat.reduceAdd, Nat.zero_add]
    have e0 : v 12 = .bool true := hall 12 (by decide) (fun k hk => by simp at hk)
    simp only [e0]
    have HX := Lib.hid hx; clear hx
    clear hall e0
    go_wp2_with fail
    exact HQ.out _ _ _ _ _ _ _ _ _ _ _ _ _ w' HX.out
noncomputable def reg6_40c : Code := ((Try.f6.body.bind (regionOf 40)).getD .skip)
set_option maxRecDepth 100000 in
set_option maxHeartbeats 4000000 in
theorem reg6_40 {Q : Exit → Act → World → Prop} {S : Nat → Prop} (t0 t1 t2 t3 t4 t6 t7 t8 t11 t12 t13 t14 t15 t16 t17 t18 t19 t20 t21 t22 t23 t24 t25 t26 t27 t28 t29 t30 t31 t32 t33 t34 t35 t36 t37 t38 t39 t40 t41 t42 t43 t44 t45 t46 t47 t48 t49 t50 t51 t52 t53 t54 t55 t56 t57 t58 t59 t60 t61 t62 t63 t64 t65 t66 t67 t68 t69 t70 t71 t72 t73 t74 t75 t76 t77 t78 t79 t80 t81 t82 t83 t84 t85 t86 t87 t88 t89 t90 t91 t92 t93 t94 t95 t96 t97 t98 t99 t100 t101 t102 t103 t104 t105 t106 t107 t108 t109 t110 t111 t112 t113 t114 t115 t116 t117 t118 t119 t120 t121 t122 t123 t124 t125 t126 t127 t128 t129 t130 t131 t132 t133 t134 t135 t136 t137 t138 t139 t140 t141 t142 t143 t144 t145 t146 t147 t148 t149 t150 t151 t152 t153 t154 t155 t156 t157 t158 t159 t160 t161 t162 : Value) (w1 : World) (g5 g9 g10 : Nat) (a5 : Option Addr) (c5 : Nat) (a6 : Option Addr) (c6 : Nat) (x : Dk) (f0 f1 f2 f3 s0 s1 s2 s3 : UInt8) 
    (hB : Box w1 g5 [.slice a5 x.sectors.length c5, .slice a6 x.pending.length c6, .int .i64 x.left, .bool x.stopped]) (hD : Disk S w1 (.agg #[.slice a5 x.sectors.length c5, .slice a6 x.pending.length c6, .int .i64 x.left, .bool x.stopped]) x) (hB9 : Box w1 g9 [.int .u8 (f0.toNat : Int), .int .u8 (f1.toNat : Int), .int .u8 (f2.toNat : Int), .int .u8 (f3.toNat : Int)]) (hB10 : Box w1 g10 [.int .u8 (s0.toNat : Int), .int .u8 (s1.toNat : Int), .int .u8 (s2.toNat : Int), .int .u8 (s3.toNat : Int)]) (hH : Holds (restartD x) [f0, f1, f2, f3] [s0, s1, s2, s3])
    (hQ : ∀ (u158 u159 u160 u161 u162 : Value) (wx : World), Ext w1 wx → Q .normal ⟨#[t0, t1, t2, t3, .bool true, .pointer (some ⟨g5, 0, none⟩), t6, t7, t8, .pointer (some ⟨g9, 0, none⟩), .pointer (some ⟨g10, 0, none⟩), t11, t12, t13, t14, t15, t16, t17, t18, t19, t20, t21, t22, t23, t24, t25, t26, t27, t28, t29, t30, t31, t32, t33, t34, t35, t36, t37, t38, t39, t40, t41, t42, t43, t44, t45, t46, t47, t48, t49, t50, t51, t52, t53, t54, t55, t56, t57, t58, t59, t60, t61, t62, t63, t64, t65, t66, t67, t68, t69, t70, t71, t72, t73, t74, t75, t76, t77, t78, t79, t80, t81, t82, t83, t84, t85, t86, t87, t88, t89, t90, t91, t92, t93, t94, t95, t96, t97, t98, t99, t100, t101, t102, t103, t104, t105, t106, t107, t108, t109, t110, t111, t112, t113, t114, t115, t116, t117, t118, t119, t120, t121, t122, t123, t124, t125, t126, t127, t128, t129, t130, t131, t132, t133, t134, t135, t136, t137, t138, t139, t140, t141, t142, t143, t144, t145, t146, t147, t148, t149, t150, t151, t152, t153, t154, t155, t156, t157, u158, u159, u160, u161, u162], []⟩ wx) :
    Code.wp Try.prog reg6_40c Q ⟨#[t0, t1, t2, t3, t4, .pointer (some ⟨g5, 0, none⟩), t6, t7, t8, .pointer (some ⟨g9, 0, none⟩), .pointer (some ⟨g10, 0, none⟩), t11, t12, t13, t14, t15, t16, t17, t18, t19, t20, t21, t22, t23, t24, t25, t26, t27, t28, t29, t30, t31, t32, t33, t34, t35, t36, t37, t38, t39, t40, t41, t42, t43, t44, t45, t46, t47, t48, t49, t50, t51, t52, t53, t54, t55, t56, t57, t58, t59, t60, t61, t62, t63, t64, t65, t66, t67, t68, t69, t70, t71, t72, t73, t74, t75, t76, t77, t78, t79, t80, t81, t82, t83, t84, t85, t86, t87, t88, t89, t90, t91, t92, t93, t94, t95, t96, t97, t98, t99, t100, t101, t102, t103, t104, t105, t106, t107, t108, t109, t110, t111, t112, t113, t114, t115, t116, t117, t118, t119, t120, t121, t122, t123, t124, t125, t126, t127, t128, t129, t130, t131, t132, t133, t134, t135, t136, t137, t138, t139, t140, t141, t142, t143, t144, t145, t146, t147, t148, t149, t150, t151, t152, t153, t154, t155, t156, t157, t158, t159, t160, t161, t162], []⟩ w1 := by
  conv => arg 2; whnf
  have HQ := Lib.hid hQ; clear hQ
  have HD := Lib.hid hD; clear hD
  have HH := Lib.hid hH; clear hH
  obtain ⟨d0, d1, d2, d3, -, -, -, -⟩ := hB.four
  obtain ⟨p0, p1, p2, p3, -, -, -, -⟩ := hB9.four
  obtain ⟨r0, r1, r2, r3, -, -, -, -⟩ := hB10.four
  refine wp_region_rv 5 (fun _ => none) (by kernel_rfl) (by kernel_rfl) (phv [fun v _ => v 0 = .agg #[.slice a5 x.sectors.length c5, .slice a6 x.pending.length c6, .int .i64 x.left, .bool x.stopped],
      fun v w => (fun x1 w => Disk S w x1 (restartD x)) (v 1) w,
      fun v _ => v 2 = .agg #[.int .u8 (f0.toNat : Int), .int .u8 (f1.toNat : Int), .int .u8 (f2.toNat : Int), .int .u8 (f3.toNat : Int)],
      fun v _ => v 3 = .agg #[.int .u8 (s0.toNat : Int), .int .u8 (s1.toNat : Int), .int .u8 (s2.toNat : Int), .int .u8 (s3.toNat : Int)],
      fun v _ => v 4 = .bool true]) (phv_stable ?stable) (phv_cg ?cg) ?steps ?tail
  case stable =>
    exact List.forall_mem_cons.2 ⟨stabv_eq _ _, List.forall_mem_cons.2 ⟨fun v w w' hx h => (fun _ _ _ hx h => h.keep hx) (v 1) w w' hx h, List.forall_mem_cons.2 ⟨stabv_eq _ _, List.forall_mem_cons.2 ⟨stabv_eq _ _, List.forall_mem_cons.2 ⟨stabv_eq _ _, fun _ h => by cases h⟩⟩⟩⟩⟩
  case cg =>
    exact ⟨cg_eq _ _ _, ⟨cg_1 _ _ (fun x1 w => Disk S w x1 (restartD x)), ⟨cg_eq _ _ _, ⟨cg_eq _ _ _, ⟨cg_eq _ _ _, trivial⟩⟩⟩⟩⟩
  case steps =>
    simp only [List.take_succ_cons, List.take_zero]
    -- 0: slot 158 := Op.load 25 t5
    refine ⟨?_, ?_⟩
    · intro v w' hx hd
      simp only [List.take_succ_cons, List.take_zero, putF, Act.put, List.setIfInBounds_toArray, List.set_cons_zero, List.set_cons_succ, Nat.reduceAdd, Nat.zero_add]
      clear hd
      rw [if_pos (by rfl)]
      intro K hK
      have qd0 := hx.cell d0
      have qd1 := hx.cell d1
      have qd2 := hx.cell d2
      have qd3 := hx.cell d3
      have qp0 := hx.cell p0
      have qp1 := hx.cell p1
      have qp2 := hx.cell p2
      have qp3 := hx.cell p3
      have qr0 := hx.cell r0
      have qr1 := hx.cell r1
      have qr2 := hx.cell r2
      have qr3 := hx.cell r3
      have HK := Lib.hid hK; clear hK
      go_simp
      exact HK.out _ _ (.inl (Ext.refl _)) rfl
    -- 1: slot 159 := Op.call { value (Operand.func 24), args := #[t158], argTypes := #[25] }
    refine ⟨?_, ?_⟩
    · intro v w' hx hd
      have e0 : v 0 = .agg #[.slice a5 x.sectors.length c5, .slice a6 x.pending.length c6, .int .i64 x.left, .bool x.stopped] := hd 0 (by kernel_rfl)
      simp only [List.take_succ_cons, List.take_zero, putF, Act.put, List.setIfInBounds_toArray, List.set_cons_zero, List.set_cons_succ, Nat.reduceAdd, Nat.zero_add]
      simp only [e0]
      clear hd e0
      rw [if_pos (by rfl)]
      intro K hK
      have qd0 := hx.cell d0
      have qd1 := hx.cell d1
      have qd2 := hx.cell d2
      have qd3 := hx.cell d3
      have qp0 := hx.cell p0
      have qp1 := hx.cell p1
      have qp2 := hx.cell p2
      have qp3 := hx.cell p3
      have qr0 := hx.cell r0
      have qr1 := hx.cell r1
      have qr2 := hx.cell r2
      have qr3 := hx.cell r3
      have HK := Lib.hid hK; clear hK
      go_simp
      refine (restart_ok (S := S) w' _ x (HD.out.keep hx)).mono ?_
      rintro e w2 ⟨v2, rfl, hd2, hx2⟩
      exact HK.out _ _ (.inl hx2) hd2
    -- 2: slot 160 := Op.load 44 t9
    refine ⟨?_, ?_⟩
    · intro v w' hx hd
      simp only [List.take_succ_cons, List.take_zero, putF, Act.put, List.setIfInBounds_toArray, List.set_cons_zero, List.set_cons_succ, Nat.reduceAdd, Nat.zero_add]
      clear hd
      rw [if_pos (by rfl)]
      intro K hK
      have qd0 := hx.cell d0
      have qd1 := hx.cell d1
      have qd2 := hx.cell d2
      have qd3 := hx.cell d3
      have qp0 := hx.cell p0
      have qp1 := hx.cell p1
      have qp2 := hx.cell p2
      have qp3 := hx.cell p3
      have qr0 := hx.cell r0
      have qr1 := hx.cell r1
      have qr2 := hx.cell r2
      have qr3 := hx.cell r3
      have HK := Lib.hid hK; clear hK
      go_simp
      exact HK.out _ _ (.inl (Ext.refl _)) rfl
    -- 3: slot 161 := Op.load 44 t10
    refine ⟨?_, ?_⟩
    · intro v w' hx hd
      simp only [List.take_succ_cons, List.take_zero, putF, Act.put, List.setIfInBounds_toArray, List.set_cons_zero, List.set_cons_succ, Nat.reduceAdd, Nat.zero_add]
      clear hd
      rw [if_pos (by rfl)]
      intro K hK
      have qd0 := hx.cell d0
      have qd1 := hx.cell d1
      have qd2 := hx.cell d2
      have qd3 := hx.cell d3
      have qp0 := hx.cell p0
      have qp1 := hx.cell p1
      have qp2 := hx.cell p2
      have qp3 := hx.cell p3
      have qr0 := hx.cell r0
      have qr1 := hx.cell r1
      have qr2 := hx.cell r2
      have qr3 := hx.cell r3
      have HK := Lib.hid hK; clear hK
      go_simp
      exact HK.out _ _ (.inl (Ext.refl _)) rfl
    -- 4: slot 162 := Op.call { value (Operand.func 35), args := #[t159, t160, t161], argTypes := #[25, 44, 44] 
    refine ⟨?_, ?_⟩
    · intro v w' hx hd
      have e1 : (fun x1 w => Disk S w x1 (restartD x)) (v 1) w' := hd 1 (by kernel_rfl)
      have e2 : v 2 = .agg #[.int .u8 (f0.toNat : Int), .int .u8 (f1.toNat : Int), .int .u8 (f2.toNat : Int), .int .u8 (f3.toNat : Int)] := hd 2 (by kernel_rfl)
      have e3 : v 3 = .agg #[.int .u8 (s0.toNat : Int), .int .u8 (s1.toNat : Int), .int .u8 (s2.toNat : Int), .int .u8 (s3.toNat : Int)] := hd 3 (by kernel_rfl)
      simp only [List.take_succ_cons, List.take_zero, putF, Act.put, List.setIfInBounds_toArray, List.set_cons_zero, List.set_cons_succ, Nat.reduceAdd, Nat.zero_add]
      simp only [e2]
      simp only [e3]
      clear hd e2 e3
      rw [if_pos (by rfl)]
      intro K hK
      have qd0 := hx.cell d0
      have qd1 := hx.cell d1
      have qd2 := hx.cell d2
      have qd3 := hx.cell d3
      have qp0 := hx.cell p0
      have qp1 := hx.cell p1
      have qp2 := hx.cell p2
      have qp3 := hx.cell p3
      have qr0 := hx.cell r0
      have qr1 := hx.cell r1
      have qr2 := hx.cell r2
      have qr3 := hx.cell r3
      obtain ⟨a9, c9, a8, c8, ev, _, _, _, _, _, _⟩ := Disk.open e1
      have k0 := holds_ok w' _ (restartD x) f0 f1 f2 f3 s0 s1 s2 s3 e1 HH.out
      rw [ev] at k0
      simp only [ev] at hK ⊢
      have K0 := Lib.hid k0; clear k0
      have EV := Lib.hid ev; clear ev
      have E8 := Lib.hid e1; clear e1
      have HK := Lib.hid hK; clear hK
      go_simp
      refine K0.out.mono ?_
      rintro e w2 ⟨rfl, hx2⟩
      exact HK.out _ _ (.inl hx2) rfl
    exact trivial
  case tail =>
    intro v w' hx hall
    simp only [List.drop_succ_cons, List.drop_zero, List.take_succ_cons, List.take_zero, putF, Act.put, List.setIfInBounds_toArray, List.set_cons_zero, List.set_cons_succ, Nat.reduceAdd, Nat.zero_add]
    have e0 : v 4 = .bool true := hall 4 (by decide) (fun k hk => by simp at hk)
    simp only [e0]
    have HX := Lib.hid hx; clear hx
    clear hall e0
    go_wp2_with fail
    exact HQ.out _ _ _ _ _ w' HX.out
end Go.Proofs.Ytpciankfpagnhaa
