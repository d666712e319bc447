/- Drawn regions of journal.Sync. -/
import Derived.Test.YtpciankfpagnhaaJ13
import Derived.Test.YtpciankfpagnhaaM8
import Derived.Test.YtpciankfpagnhaaD29a
namespace Go.Proofs.Ytpciankfpagnhaa
open Go.RowKit
def onlyN (J : Act → World → Prop) : Exit → Act → World → Prop
  | .normal, a, w => J a w
  | _, _, _ => False
theorem wp_only {P : Program} {c : Code} {Q : Exit → Act → World → Prop} {a : Act} {w : World} (h : c.wp P (onlyN fun a w => Q .normal a w) a w) : c.wp P Q a w :=
  wp_mono h fun e a w he => by cases e <;> first | exact he | exact he.elim
noncomputable def code47_16 : Code := ((Try.f47.body.bind (regionOf 16)).getD .skip)
set_option maxRecDepth 100000 in
set_option maxHeartbeats 4000000 in
theorem reg47_16 {Q : Exit → Act → World → Prop} {S : Nat → Prop} (t0 t1 t2 t3 t4 t5 t6 t7 t8 t9 t11 t13 t14 t15 t16 t17 t18 t19 t20 t21 t22 t23 t24 t25 t26 t27 t28 t29 t30 t31 t32 t33 t34 t35 t36 t37 t38 t39 t40 t41 t42 t43 t44 t45 t46 t47 t48 t49 t50 t51 t52 t53 t54 t55 t56 t57 t58 t59 t60 t61 t62 t63 t64 t65 t66 t67 t68 t69 t70 t71 t72 t73 t74 t75 t76 t77 t78 t79 t80 t81 t82 t83 t84 t85 t86 t87 t88 t89 t90 t91 t92 t93 t94 t95 t96 t97 t98 t99 t100 t101 t102 t103 t104 t105 t106 t107 t108 t109 t110 t111 t112 t113 t114 t115 t116 t117 t118 t119 t120 t121 t122 t123 t124 t125 t126 t127 t128 t129 t130 t131 t132 t133 t134 t135 t136 t137 t138 t139 t140 t141 t142 t143 t144 t145 t146 t147 t148 t149 t150 t151 t152 t153 t154 t155 t156 t157 t158 t159 t160 t161 t162 t163 t164 t165 t166 : Value) (w1 : World) (b o ns cs g gs gt gm : Nat) (s : List UInt8)
    (hs : Bs S w1 (.slice (some ⟨b, o, none⟩) ns cs) s) (hsl : s.length = 128) (hns : ns = 128) (hnc : ns ≤ cs) (hcm : cs ≤ 9223372036854775807) (hgs : num (s.take 4) = gs) (hgt : num ((s.drop 124).take (ns - 124)) = gt) (hgm : max g (max (gs + 1) (gt + 1)) = gm)
    (hQ : ∀ (u63 u64 u65 u66 u67 u68 u69 u70 u71 u72 : Value) (wx : World), Ext w1 wx → Q .normal ⟨#[t0, t1, t2, t3, t4, t5, t6, t7, t8, t9, .int .u64 (gm : Int), t11, .slice (some ⟨b, o, none⟩) ns cs, t13, t14, t15, t16, t17, t18, t19, t20, t21, t22, t23, t24, t25, t26, t27, t28, t29, t30, t31, t32, t33, t34, t35, t36, t37, t38, t39, t40, t41, t42, t43, t44, t45, t46, t47, t48, t49, t50, t51, t52, t53, t54, t55, t56, t57, t58, t59, t60, t61, t62, u63, u64, u65, u66, u67, u68, u69, u70, u71, u72, t73, t74, t75, t76, t77, t78, t79, t80, t81, t82, t83, t84, t85, t86, t87, t88, t89, t90, t91, t92, t93, t94, t95, t96, t97, t98, t99, t100, t101, t102, t103, t104, t105, t106, t107, t108, t109, t110, t111, t112, t113, t114, t115, t116, t117, t118, t119, t120, t121, t122, t123, t124, t125, t126, t127, t128, t129, t130, t131, t132, t133, t134, t135, t136, t137, t138, t139, t140, t141, t142, t143, t144, t145, t146, t147, t148, t149, t150, t151, t152, t153, t154, t155, t156, t157, t158, t159, t160, t161, t162, t163, t164, t165, t166], []⟩ wx) :
    Code.wp Try.prog code47_16 Q ⟨#[t0, t1, t2, t3, t4, t5, t6, t7, t8, t9, .int .u64 (g : Int), t11, .slice (some ⟨b, o, none⟩) ns cs, t13, t14, t15, t16, t17, t18, t19, t20, t21, t22, t23, t24, t25, t26, t27, t28, t29, t30, t31, t32, t33, t34, t35, t36, t37, t38, t39, t40, t41, t42, t43, t44, t45, t46, t47, t48, t49, t50, t51, t52, t53, t54, t55, t56, t57, t58, t59, t60, t61, t62, t63, t64, t65, t66, t67, t68, t69, t70, t71, t72, t73, t74, t75, t76, t77, t78, t79, t80, t81, t82, t83, t84, t85, t86, t87, t88, t89, t90, t91, t92, t93, t94, t95, t96, t97, t98, t99, t100, t101, t102, t103, t104, t105, t106, t107, t108, t109, t110, t111, t112, t113, t114, t115, t116, t117, t118, t119, t120, t121, t122, t123, t124, t125, t126, t127, t128, t129, t130, t131, t132, t133, t134, t135, t136, t137, t138, t139, t140, t141, t142, t143, t144, t145, t146, t147, t148, t149, t150, t151, t152, t153, t154, t155, t156, t157, t158, t159, t160, t161, t162, t163, t164, t165, t166], []⟩ w1 := by
  conv => arg 2; whnf
  have HQ := Lib.hid hQ; clear hQ
  have h4 := hs.sub 0 4 cs (by omega) (by omega) hcm
  rw [List.drop_zero, Nat.add_zero] at h4
  have H4 := Lib.hid h4; clear h4
  have HT := Lib.hid (hs.sub 124 (ns - 124) (cs - 124) (by omega) (by omega) (by unfold maxLen; omega))
  have hl4 : (s.take 4).length ≤ 8 := by rw [List.length_take]; omega
  have hlt : ((s.drop 124).take (ns - 124)).length ≤ 8 := by rw [List.length_take, List.length_drop]; omega
  have m1 := num_lt (s.take 4)
  have m2 := num_lt ((s.drop 124).take (ns - 124))
  rw [show (s.take 4).length = 4 by rw [List.length_take]; omega, hgs] at m1
  rw [show ((s.drop 124).take (ns - 124)).length = 4 by rw [List.length_take, List.length_drop]; omega, hgt] at m2
  have m1' : gs < 4294967296 := m1
  have m2' : gt < 4294967296 := m2
  clear m1 m2
  have HGS := Lib.hid hgs; clear hgs
  have HGT := Lib.hid hgt; clear hgt
  have i1 : (4 : Int) ≤ cs := by omega
  have i2 : (124 : Int) ≤ ns := by omega
  have i3 : (ns : Int) ≤ cs := by omega
  have i4 : ¬ cs = 124 := by omega
  have i5 : (124 : Int) ≤ cs := by omega
  have hw1 : IntKind.u64.wrap ((gs : Int) + 1) = (gs : Int) + 1 := wraps_u64 _ (by omega) (by omega)
  have hw2 : IntKind.u64.wrap ((gt : Int) + 1) = (gt : Int) + 1 := wraps_u64 _ (by omega) (by omega)
  have HGM := Lib.hid hgm; clear hgm
  clear hs hsl hns
  refine wp_region_rg 10 (fun _ => none) (by kernel_rfl) (by kernel_rfl) (phi [fun v _ => v = .int .u64 (g : Int),
      fun v _ => v = .slice (some ⟨b, o, none⟩) ns cs,
      fun v _ => v = .slice (some ⟨b, o, none⟩) 4 cs,
      fun v _ => v = .int .u64 (gs : Int),
      fun v _ => v = .int .u64 ((gs : Int) + 1),
      fun v _ => v = .slice (some ⟨b, o, none⟩) ns cs,
      fun v _ => v = .slice (some ⟨b, o + 124, none⟩) (ns - 124) (cs - 124),
      fun v _ => v = .int .u64 (gt : Int),
      fun v _ => v = .int .u64 ((gt : Int) + 1),
      fun v _ => v = .int .u64 (gm : Int)]) (phi_stable ?stable) ?steps ?tail
  case stable =>
    exact List.forall_mem_cons.2 ⟨stab_eq _, List.forall_mem_cons.2 ⟨stab_eq _, List.forall_mem_cons.2 ⟨stab_eq _, List.forall_mem_cons.2 ⟨stab_eq _, List.forall_mem_cons.2 ⟨stab_eq _, List.forall_mem_cons.2 ⟨stab_eq _, List.forall_mem_cons.2 ⟨stab_eq _, List.forall_mem_cons.2 ⟨stab_eq _, List.forall_mem_cons.2 ⟨stab_eq _, List.forall_mem_cons.2 ⟨stab_eq _, fun _ h => by cases h⟩⟩⟩⟩⟩⟩⟩⟩⟩⟩
  case steps =>
    simp only [List.take_succ_cons, List.take_zero]
    -- 0: slot 63 := Op.move t10
    refine ⟨?_, ?_⟩
    · intro v w' hx hd
      simp only [List.take_succ_cons, List.take_zero, putF, Act.put, List.setIfInBounds_toArray, List.set_cons_zero, List.set_cons_succ, Nat.reduceAdd, Nat.zero_add]
      clear hd
      rw [if_pos (by rfl)]
      intro K hK
      have HK := Lib.hid hK; clear hK
      go_simp
      exact HK.out _ _ (.inl (Ext.refl _)) rfl
    -- 1: slot 64 := Op.move t12
    refine ⟨?_, ?_⟩
    · intro v w' hx hd
      simp only [List.take_succ_cons, List.take_zero, putF, Act.put, List.setIfInBounds_toArray, List.set_cons_zero, List.set_cons_succ, Nat.reduceAdd, Nat.zero_add]
      clear hd
      rw [if_pos (by rfl)]
      intro K hK
      have HK := Lib.hid hK; clear hK
      go_simp
      exact HK.out _ _ (.inl (Ext.refl _)) rfl
    -- 2: slot 65 := Op.slice 35 t64 none (some (const (4:i64))) none
    refine ⟨?_, ?_⟩
    · intro v w' hx hd
      have e1 : v 1 = .slice (some ⟨b, o, none⟩) ns cs := hd 1 (by kernel_rfl)
      simp only [List.take_succ_cons, List.take_zero, putF, Act.put, List.setIfInBounds_toArray, List.set_cons_zero, List.set_cons_succ, Nat.reduceAdd, Nat.zero_add]
      simp only [e1]
      clear hd e1
      rw [if_pos (by rfl)]
      intro K hK
      have HK := Lib.hid hK; clear hK
      go_simp
      exact HK.out _ _ (.inl (Ext.refl _)) rfl
    -- 3: slot 66 := Op.call { value (Operand.func 71), args := #[t65], argTypes := #[35] }
    refine ⟨?_, ?_⟩
    · intro v w' hx hd
      have e2 : v 2 = .slice (some ⟨b, o, none⟩) 4 cs := hd 2 (by kernel_rfl)
      simp only [List.take_succ_cons, List.take_zero, putF, Act.put, List.setIfInBounds_toArray, List.set_cons_zero, List.set_cons_succ, Nat.reduceAdd, Nat.zero_add]
      simp only [e2]
      clear hd e2
      rw [if_pos (by rfl)]
      intro K hK
      have HK := Lib.hid hK; clear hK
      go_simp
      refine (get_ok w' _ (s.take 4) (H4.out.keep hx) (by omega)).mono ?_
      rintro e w2 ⟨rfl, rfl⟩
      rw [HGS.out]
      exact HK.out _ _ (.inl (Ext.refl _)) rfl
    -- 4: slot 67 := Op.binOp BinOp.add 95 t66 (const (1:u64)) 95
    refine ⟨?_, ?_⟩
    · intro v w' hx hd
      have e3 : v 3 = .int .u64 (gs : Int) := hd 3 (by kernel_rfl)
      simp only [List.take_succ_cons, List.take_zero, putF, Act.put, List.setIfInBounds_toArray, List.set_cons_zero, List.set_cons_succ, Nat.reduceAdd, Nat.zero_add]
      simp only [e3]
      clear hd e3
      rw [if_pos (by rfl)]
      intro K hK
      have HK := Lib.hid hK; clear hK
      go_simp
      exact HK.out _ _ (.inl (Ext.refl _)) rfl
    -- 5: slot 68 := Op.move t12
    refine ⟨?_, ?_⟩
    · intro v w' hx hd
      simp only [List.take_succ_cons, List.take_zero, putF, Act.put, List.setIfInBounds_toArray, List.set_cons_zero, List.set_cons_succ, Nat.reduceAdd, Nat.zero_add]
      clear hd
      rw [if_pos (by rfl)]
      intro K hK
      have HK := Lib.hid hK; clear hK
      go_simp
      exact HK.out _ _ (.inl (Ext.refl _)) rfl
    -- 6: slot 69 := Op.slice 35 t68 (some (const (124:i64))) none none
    refine ⟨?_, ?_⟩
    · intro v w' hx hd
      have e5 : v 5 = .slice (some ⟨b, o, none⟩) ns cs := hd 5 (by kernel_rfl)
      simp only [List.take_succ_cons, List.take_zero, putF, Act.put, List.setIfInBounds_toArray, List.set_cons_zero, List.set_cons_succ, Nat.reduceAdd, Nat.zero_add]
      simp only [e5]
      clear hd e5
      rw [if_pos (by rfl)]
      intro K hK
      have HK := Lib.hid hK; clear hK
      go_simp
      exact HK.out _ _ (.inl (Ext.refl _)) rfl
    -- 7: slot 70 := Op.call { value (Operand.func 71), args := #[t69], argTypes := #[35] }
    refine ⟨?_, ?_⟩
    · intro v w' hx hd
      have e6 : v 6 = .slice (some ⟨b, o + 124, none⟩) (ns - 124) (cs - 124) := hd 6 (by kernel_rfl)
      simp only [List.take_succ_cons, List.take_zero, putF, Act.put, List.setIfInBounds_toArray, List.set_cons_zero, List.set_cons_succ, Nat.reduceAdd, Nat.zero_add]
      simp only [e6]
      clear hd e6
      rw [if_pos (by rfl)]
      intro K hK
      have HK := Lib.hid hK; clear hK
      go_simp
      refine (get_ok w' _ ((s.drop 124).take (ns - 124)) (HT.out.keep hx) (by omega)).mono ?_
      rintro e w2 ⟨rfl, rfl⟩
      rw [HGT.out]
      exact HK.out _ _ (.inl (Ext.refl _)) rfl
    -- 8: slot 71 := Op.binOp BinOp.add 95 t70 (const (1:u64)) 95
    refine ⟨?_, ?_⟩
    · intro v w' hx hd
      have e7 : v 7 = .int .u64 (gt : Int) := hd 7 (by kernel_rfl)
      simp only [List.take_succ_cons, List.take_zero, putF, Act.put, List.setIfInBounds_toArray, List.set_cons_zero, List.set_cons_succ, Nat.reduceAdd, Nat.zero_add]
      simp only [e7]
      clear hd e7
      rw [if_pos (by rfl)]
      intro K hK
      have HK := Lib.hid hK; clear hK
      go_simp
      exact HK.out _ _ (.inl (Ext.refl _)) rfl
    -- 9: slot 72 := Op.call { builtin max, args := #[t63, t67, t71], argTypes := #[95, 95, 95] }
    refine ⟨?_, ?_⟩
    · intro v w' hx hd
      have e0 : v 0 = .int .u64 (g : Int) := hd 0 (by kernel_rfl)
      have e4 : v 4 = .int .u64 ((gs : Int) + 1) := hd 4 (by kernel_rfl)
      have e8 : v 8 = .int .u64 ((gt : Int) + 1) := hd 8 (by kernel_rfl)
      simp only [List.take_succ_cons, List.take_zero, putF, Act.put, List.setIfInBounds_toArray, List.set_cons_zero, List.set_cons_succ, Nat.reduceAdd, Nat.zero_add]
      simp only [e0]
      simp only [e4]
      simp only [e8]
      clear hd e0 e4 e8
      rw [if_pos (by rfl)]
      intro K hK
      have HK := Lib.hid hK; clear hK
      go_simp
      exact HK.out _ _ (.inl (Ext.refl _)) (congrArg (Value.int .u64) (by have := HGM.out; split <;> split <;> omega))
    exact trivial
  case tail =>
    intro v w' hx hall
    simp only [List.drop_succ_cons, List.drop_zero, List.take_succ_cons, List.take_zero, putF, Act.put, List.setIfInBounds_toArray, List.set_cons_zero, List.set_cons_succ, Nat.reduceAdd, Nat.zero_add]
    have e9 : v 9 = .int .u64 (gm : Int) := hall 9 (by decide) (fun k hk => by simp at hk)
    simp only [e9]
    have HX := Lib.hid hx; clear hx
    clear hall e9
    go_wp2_with fail
    exact HQ.out _ _ _ _ _ _ _ _ _ _ w' HX.out
noncomputable def code47_18a : Code := ((Try.f47.body.bind (regionOf 18)).getD .skip)
set_option maxRecDepth 100000 in
set_option maxHeartbeats 4000000 in
theorem reg47_18a {Q : Exit → Act → World → Prop} {S : Nat → Prop} (t0 t1 t3 t4 t5 t6 t7 t8 t10 t11 t12 t13 t14 t15 t16 t17 t18 t19 t20 t21 t22 t23 t24 t25 t26 t27 t28 t29 t30 t31 t32 t33 t34 t35 t36 t37 t38 t39 t40 t41 t42 t43 t44 t45 t46 t47 t48 t49 t50 t51 t52 t53 t54 t55 t56 t57 t58 t59 t60 t61 t62 t63 t64 t65 t66 t67 t68 t69 t70 t71 t72 t73 t74 t75 t76 t77 t78 t79 t80 t81 t82 t83 t84 t85 t86 t87 t88 t89 t90 t91 t92 t93 t94 t95 t96 t97 t98 t99 t100 t101 t102 t103 t104 t105 t106 t107 t108 t109 t110 t111 t112 t113 t114 t115 t116 t117 t118 t119 t120 t121 t122 t123 t124 t125 t126 t127 t128 t129 t130 t131 t132 t133 t134 t135 t136 t137 t138 t139 t140 t141 t142 t143 t144 t145 t146 t147 t148 t149 t150 t151 t152 t153 t154 t155 t156 t157 t158 t159 t160 t161 t162 t163 t164 t165 t166 : Value) (w1 : World) (g2 g9 nR cR nJ cJ sy : Nat) (aR aJ : Option Addr) (rs js : List (List UInt8))
    (h9 : w1.cell? ⟨g9, 0, none⟩ = some (.slice aR nR cR)) (h20 : w1.cell? ⟨g2, 0, none⟩ = some (.slice aJ nJ cJ)) (h22 : w1.cell? ⟨g2, 2, none⟩ = some (.int .i64 (sy : Int))) (hr : Bss S w1 (.slice aR nR cR) rs) (hj : Bss S w1 (.slice aJ sy cJ) js) (hsy : sy ≤ nJ) (hnc : nJ ≤ cJ) (heq : decide (rs = js) = false)
    (hQ : ∀ (u74 u75 u76 u77 u78 u79 u80 u81 u82 u83 u84 u85 u86 : Value) (wx : World), Ext w1 wx → Q .normal ⟨#[t0, t1, .pointer (some ⟨g2, 0, none⟩), t3, t4, t5, t6, t7, t8, .pointer (some ⟨g9, 0, none⟩), t10, t11, t12, t13, t14, t15, t16, t17, t18, t19, t20, t21, t22, t23, t24, t25, t26, t27, t28, t29, t30, t31, t32, t33, t34, t35, t36, t37, t38, t39, t40, t41, t42, t43, t44, t45, t46, t47, t48, t49, t50, t51, t52, t53, t54, t55, t56, t57, t58, t59, t60, t61, t62, t63, t64, t65, t66, t67, t68, t69, t70, t71, t72, t73, u74, u75, u76, u77, u78, u79, u80, u81, u82, u83, u84, u85, u86, .bool true, t88, t89, t90, t91, t92, t93, t94, t95, t96, t97, t98, t99, t100, t101, t102, t103, t104, t105, t106, t107, t108, t109, t110, t111, t112, t113, t114, t115, t116, t117, t118, t119, t120, t121, t122, t123, t124, t125, t126, t127, t128, t129, t130, t131, t132, t133, t134, t135, t136, t137, t138, t139, t140, t141, t142, t143, t144, t145, t146, t147, t148, t149, t150, t151, t152, t153, t154, t155, t156, t157, t158, t159, t160, t161, t162, t163, t164, t165, t166], []⟩ wx) :
    Code.wp Try.prog code47_18a Q ⟨#[t0, t1, .pointer (some ⟨g2, 0, none⟩), t3, t4, t5, t6, t7, t8, .pointer (some ⟨g9, 0, none⟩), t10, t11, t12, t13, t14, t15, t16, t17, t18, t19, t20, t21, t22, t23, t24, t25, t26, t27, t28, t29, t30, t31, t32, t33, t34, t35, t36, t37, t38, t39, t40, t41, t42, t43, t44, t45, t46, t47, t48, t49, t50, t51, t52, t53, t54, t55, t56, t57, t58, t59, t60, t61, t62, t63, t64, t65, t66, t67, t68, t69, t70, t71, t72, t73, t74, t75, t76, t77, t78, t79, t80, t81, t82, t83, t84, t85, t86, t87, t88, t89, t90, t91, t92, t93, t94, t95, t96, t97, t98, t99, t100, t101, t102, t103, t104, t105, t106, t107, t108, t109, t110, t111, t112, t113, t114, t115, t116, t117, t118, t119, t120, t121, t122, t123, t124, t125, t126, t127, t128, t129, t130, t131, t132, t133, t134, t135, t136, t137, t138, t139, t140, t141, t142, t143, t144, t145, t146, t147, t148, t149, t150, t151, t152, t153, t154, t155, t156, t157, t158, t159, t160, t161, t162, t163, t164, t165, t166], []⟩ w1 := by
  conv => arg 2; whnf
  have HQ := Lib.hid hQ; clear hQ
  have HRS := Lib.hid hr; clear hr
  have HJS := Lib.hid hj; clear hj
  have HEQ := Lib.hid heq; clear heq
  have i1 : (sy : Int) ≤ nJ := by omega
  have i2 : (sy : Int) ≤ cJ := by omega
  have i3 : (0 : Int) ≤ sy := by omega
  refine wp_region_rg 14 (fun _ => none) (by kernel_rfl) (by kernel_rfl) (phi [fun v _ => v = .pointer (some ⟨g9, 0, none⟩),
      fun v _ => v = .slice aR nR cR,
      fun v _ => v = .pointer (some ⟨g2, 0, none⟩),
      fun v _ => v = .slice aJ nJ cJ,
      fun v _ => v = .pointer (some ⟨g2, 2, none⟩),
      fun v _ => v = .int .i64 (sy : Int),
      fun v _ => v = .slice aJ sy cJ,
      fun v _ => v = .bool false,
      fun v _ => v = .bool true,
      fun v _ => v = .bool true,
      fun v _ => v = undef,
      fun v _ => v = undef,
      fun v _ => v = undef,
      fun v _ => v = .bool true]) (phi_stable ?stable) ?steps ?tail
  case stable =>
    exact List.forall_mem_cons.2 ⟨stab_eq _, List.forall_mem_cons.2 ⟨stab_eq _, List.forall_mem_cons.2 ⟨stab_eq _, List.forall_mem_cons.2 ⟨stab_eq _, List.forall_mem_cons.2 ⟨stab_eq _, List.forall_mem_cons.2 ⟨stab_eq _, List.forall_mem_cons.2 ⟨stab_eq _, List.forall_mem_cons.2 ⟨stab_eq _, List.forall_mem_cons.2 ⟨stab_eq _, List.forall_mem_cons.2 ⟨stab_eq _, List.forall_mem_cons.2 ⟨stab_eq _, List.forall_mem_cons.2 ⟨stab_eq _, List.forall_mem_cons.2 ⟨stab_eq _, List.forall_mem_cons.2 ⟨stab_eq _, fun _ h => by cases h⟩⟩⟩⟩⟩⟩⟩⟩⟩⟩⟩⟩⟩⟩
  case steps =>
    simp only [List.take_succ_cons, List.take_zero]
    -- 0: slot 74 := Op.fieldAddr 55 t9 0
    refine ⟨?_, ?_⟩
    · intro v w' hx hd
      simp only [List.take_succ_cons, List.take_zero, putF, Act.put, List.setIfInBounds_toArray, List.set_cons_zero, List.set_cons_succ, Nat.reduceAdd, Nat.zero_add]
      clear hd
      rw [if_pos (by rfl)]
      intro K hK
      have q9 := hx.cell h9
      have q20 := hx.cell h20
      have q22 := hx.cell h22
      have HK := Lib.hid hK; clear hK
      go_simp
      exact HK.out _ _ (.inl (Ext.refl _)) rfl
    -- 1: slot 75 := Op.load 22 t74
    refine ⟨?_, ?_⟩
    · intro v w' hx hd
      have e0 : v 0 = .pointer (some ⟨g9, 0, none⟩) := hd 0 (by kernel_rfl)
      simp only [List.take_succ_cons, List.take_zero, putF, Act.put, List.setIfInBounds_toArray, List.set_cons_zero, List.set_cons_succ, Nat.reduceAdd, Nat.zero_add]
      simp only [e0]
      clear hd e0
      rw [if_pos (by rfl)]
      intro K hK
      have q9 := hx.cell h9
      have q20 := hx.cell h20
      have q22 := hx.cell h22
      have HK := Lib.hid hK; clear hK
      go_simp
      exact HK.out _ _ (.inl (Ext.refl _)) rfl
    -- 2: slot 76 := Op.fieldAddr 55 t2 0
    refine ⟨?_, ?_⟩
    · intro v w' hx hd
      simp only [List.take_succ_cons, List.take_zero, putF, Act.put, List.setIfInBounds_toArray, List.set_cons_zero, List.set_cons_succ, Nat.reduceAdd, Nat.zero_add]
      clear hd
      rw [if_pos (by rfl)]
      intro K hK
      have q9 := hx.cell h9
      have q20 := hx.cell h20
      have q22 := hx.cell h22
      have HK := Lib.hid hK; clear hK
      go_simp
      exact HK.out _ _ (.inl (Ext.refl _)) rfl
    -- 3: slot 77 := Op.load 22 t76
    refine ⟨?_, ?_⟩
    · intro v w' hx hd
      have e2 : v 2 = .pointer (some ⟨g2, 0, none⟩) := hd 2 (by kernel_rfl)
      simp only [List.take_succ_cons, List.take_zero, putF, Act.put, List.setIfInBounds_toArray, List.set_cons_zero, List.set_cons_succ, Nat.reduceAdd, Nat.zero_add]
      simp only [e2]
      clear hd e2
      rw [if_pos (by rfl)]
      intro K hK
      have q9 := hx.cell h9
      have q20 := hx.cell h20
      have q22 := hx.cell h22
      have HK := Lib.hid hK; clear hK
      go_simp
      exact HK.out _ _ (.inl (Ext.refl _)) rfl
    -- 4: slot 78 := Op.fieldAddr 55 t2 2
    refine ⟨?_, ?_⟩
    · intro v w' hx hd
      simp only [List.take_succ_cons, List.take_zero, putF, Act.put, List.setIfInBounds_toArray, List.set_cons_zero, List.set_cons_succ, Nat.reduceAdd, Nat.zero_add]
      clear hd
      rw [if_pos (by rfl)]
      intro K hK
      have q9 := hx.cell h9
      have q20 := hx.cell h20
      have q22 := hx.cell h22
      have HK := Lib.hid hK; clear hK
      go_simp
      exact HK.out _ _ (.inl (Ext.refl _)) rfl
    -- 5: slot 79 := Op.load 3 t78
    refine ⟨?_, ?_⟩
    · intro v w' hx hd
      have e4 : v 4 = .pointer (some ⟨g2, 2, none⟩) := hd 4 (by kernel_rfl)
      simp only [List.take_succ_cons, List.take_zero, putF, Act.put, List.setIfInBounds_toArray, List.set_cons_zero, List.set_cons_succ, Nat.reduceAdd, Nat.zero_add]
      simp only [e4]
      clear hd e4
      rw [if_pos (by rfl)]
      intro K hK
      have q9 := hx.cell h9
      have q20 := hx.cell h20
      have q22 := hx.cell h22
      have HK := Lib.hid hK; clear hK
      go_simp
      exact HK.out _ _ (.inl (Ext.refl _)) rfl
    -- 6: slot 80 := Op.slice 22 t77 none (some t79) none
    refine ⟨?_, ?_⟩
    · intro v w' hx hd
      have e3 : v 3 = .slice aJ nJ cJ := hd 3 (by kernel_rfl)
      have e5 : v 5 = .int .i64 (sy : Int) := hd 5 (by kernel_rfl)
      simp only [List.take_succ_cons, List.take_zero, putF, Act.put, List.setIfInBounds_toArray, List.set_cons_zero, List.set_cons_succ, Nat.reduceAdd, Nat.zero_add]
      simp only [e3]
      simp only [e5]
      clear hd e3 e5
      rw [if_pos (by rfl)]
      intro K hK
      have q9 := hx.cell h9
      have q20 := hx.cell h20
      have q22 := hx.cell h22
      have HK := Lib.hid hK; clear hK
      go_simp
      exact HK.out _ _ (.inl (Ext.refl _)) rfl
    -- 7: slot 81 := Op.call { value (Operand.func 72), args := #[t75, t80, Operand.func 73], argTypes := #[22,
    refine ⟨?_, ?_⟩
    · intro v w' hx hd
      have e1 : v 1 = .slice aR nR cR := hd 1 (by kernel_rfl)
      have e6 : v 6 = .slice aJ sy cJ := hd 6 (by kernel_rfl)
      simp only [List.take_succ_cons, List.take_zero, putF, Act.put, List.setIfInBounds_toArray, List.set_cons_zero, List.set_cons_succ, Nat.reduceAdd, Nat.zero_add]
      simp only [e1]
      simp only [e6]
      clear hd e1 e6
      rw [if_pos (by rfl)]
      intro K hK
      have q9 := hx.cell h9
      have q20 := hx.cell h20
      have q22 := hx.cell h22
      have HK := Lib.hid hK; clear hK
      go_simp
      refine (equalFunc_ok w' _ _ rs js (Bss.keep HRS.out hx) (Bss.keep HJS.out hx)).mono ?_
      rintro e w2 ⟨rfl, hx2⟩
      rw [HEQ.out]
      exact HK.out _ _ (.inl hx2) rfl
    -- 8: slot 82 := Op.unOp UnOp.not 4 t81
    refine ⟨?_, ?_⟩
    · intro v w' hx hd
      have e7 : v 7 = .bool false := hd 7 (by kernel_rfl)
      simp only [List.take_succ_cons, List.take_zero, putF, Act.put, List.setIfInBounds_toArray, List.set_cons_zero, List.set_cons_succ, Nat.reduceAdd, Nat.zero_add]
      simp only [e7]
      clear hd e7
      rw [if_pos (by rfl)]
      intro K hK
      have q9 := hx.cell h9
      have q20 := hx.cell h20
      have q22 := hx.cell h22
      have HK := Lib.hid hK; clear hK
      go_simp
      exact HK.out _ _ (.inl (Ext.refl _)) rfl
    -- 9: slot 83 := Op.move t82
    refine ⟨?_, ?_⟩
    · intro v w' hx hd
      have e8 : v 8 = .bool true := hd 8 (by kernel_rfl)
      simp only [List.take_succ_cons, List.take_zero, putF, Act.put, List.setIfInBounds_toArray, List.set_cons_zero, List.set_cons_succ, Nat.reduceAdd, Nat.zero_add]
      simp only [e8]
      clear hd e8
      rw [if_pos (by rfl)]
      intro K hK
      have q9 := hx.cell h9
      have q20 := hx.cell h20
      have q22 := hx.cell h22
      have HK := Lib.hid hK; clear hK
      go_simp
      exact HK.out _ _ (.inl (Ext.refl _)) rfl
    -- 10: slot 84 := Op.move t10   [guarded: some (9, false)]
    refine ⟨?_, ?_⟩
    · intro v w' hx hd
      have e9 : v 9 = .bool true := hd 9 (by kernel_rfl)
      simp only [List.take_succ_cons, List.take_zero, putF, Act.put, List.setIfInBounds_toArray, List.set_cons_zero, List.set_cons_succ, Nat.reduceAdd, Nat.zero_add]
      simp only [e9]
      clear hd e9
      rw [if_neg (ne_true_of_eq_false (by rfl))]
      exact rfl
    -- 11: slot 85 := Op.binOp BinOp.shr 95 t84 (const (32:u64)) 68   [guarded: some (9, false)]
    refine ⟨?_, ?_⟩
    · intro v w' hx hd
      have e9 : v 9 = .bool true := hd 9 (by kernel_rfl)
      simp only [List.take_succ_cons, List.take_zero, putF, Act.put, List.setIfInBounds_toArray, List.set_cons_zero, List.set_cons_succ, Nat.reduceAdd, Nat.zero_add]
      simp only [e9]
      clear hd e9
      rw [if_neg (ne_true_of_eq_false (by rfl))]
      exact rfl
    -- 12: slot 86 := Op.binOp BinOp.neq 95 t85 (const (0:u64)) 95   [guarded: some (9, false)]
    refine ⟨?_, ?_⟩
    · intro v w' hx hd
      have e9 : v 9 = .bool true := hd 9 (by kernel_rfl)
      simp only [List.take_succ_cons, List.take_zero, putF, Act.put, List.setIfInBounds_toArray, List.set_cons_zero, List.set_cons_succ, Nat.reduceAdd, Nat.zero_add]
      simp only [e9]
      clear hd e9
      rw [if_neg (ne_true_of_eq_false (by rfl))]
      exact rfl
    -- 13: slot 87 := Op.pick t83 (const (Value.bool true)) t86
    refine ⟨?_, ?_⟩
    · intro v w' hx hd
      have e9 : v 9 = .bool true := hd 9 (by kernel_rfl)
      have e12 : v 12 = undef := hd 12 (by kernel_rfl)
      simp only [List.take_succ_cons, List.take_zero, putF, Act.put, List.setIfInBounds_toArray, List.set_cons_zero, List.set_cons_succ, Nat.reduceAdd, Nat.zero_add]
      simp only [e9]
      simp only [e12]
      clear hd e9 e12
      rw [if_pos (by rfl)]
      intro K hK
      have q9 := hx.cell h9
      have q20 := hx.cell h20
      have q22 := hx.cell h22
      have HK := Lib.hid hK; clear hK
      go_simp
      exact HK.out _ _ (.inl (Ext.refl _)) rfl
    exact trivial
  case tail =>
    intro v w' hx hall
    simp only [List.drop_succ_cons, List.drop_zero, List.take_succ_cons, List.take_zero, putF, Act.put, List.setIfInBounds_toArray, List.set_cons_zero, List.set_cons_succ, Nat.reduceAdd, Nat.zero_add]
    have e13 : v 13 = .bool true := hall 13 (by decide) (fun k hk => by simp at hk)
    simp only [e13]
    have HX := Lib.hid hx; clear hx
    clear hall e13
    exact HQ.out _ _ _ _ _ _ _ _ _ _ _ _ _ w' HX.out
noncomputable def code47_18b : Code := ((Try.f47.body.bind (regionOf 18)).getD .skip)
set_option maxRecDepth 100000 in
set_option maxHeartbeats 4000000 in
theorem reg47_18b {Q : Exit → Act → World → Prop} {S : Nat → Prop} (t0 t1 t3 t4 t5 t6 t7 t8 t11 t12 t13 t14 t15 t16 t17 t18 t19 t20 t21 t22 t23 t24 t25 t26 t27 t28 t29 t30 t31 t32 t33 t34 t35 t36 t37 t38 t39 t40 t41 t42 t43 t44 t45 t46 t47 t48 t49 t50 t51 t52 t53 t54 t55 t56 t57 t58 t59 t60 t61 t62 t63 t64 t65 t66 t67 t68 t69 t70 t71 t72 t73 t74 t75 t76 t77 t78 t79 t80 t81 t82 t83 t84 t85 t86 t87 t88 t89 t90 t91 t92 t93 t94 t95 t96 t97 t98 t99 t100 t101 t102 t103 t104 t105 t106 t107 t108 t109 t110 t111 t112 t113 t114 t115 t116 t117 t118 t119 t120 t121 t122 t123 t124 t125 t126 t127 t128 t129 t130 t131 t132 t133 t134 t135 t136 t137 t138 t139 t140 t141 t142 t143 t144 t145 t146 t147 t148 t149 t150 t151 t152 t153 t154 t155 t156 t157 t158 t159 t160 t161 t162 t163 t164 t165 t166 : Value) (w1 : World) (g2 g9 nR cR nJ cJ sy g : Nat) (aR aJ : Option Addr) (rs js : List (List UInt8)) (bq : Bool)
    (h9 : w1.cell? ⟨g9, 0, none⟩ = some (.slice aR nR cR)) (h20 : w1.cell? ⟨g2, 0, none⟩ = some (.slice aJ nJ cJ)) (h22 : w1.cell? ⟨g2, 2, none⟩ = some (.int .i64 (sy : Int))) (hr : Bss S w1 (.slice aR nR cR) rs) (hj : Bss S w1 (.slice aJ sy cJ) js) (hsy : sy ≤ nJ) (hnc : nJ ≤ cJ) (heq : decide (rs = js) = true) (hbq : ((g : Int) / 4294967296 != 0) = bq)
    (hQ : ∀ (u74 u75 u76 u77 u78 u79 u80 u81 u82 u83 u84 u85 u86 : Value) (wx : World), Ext w1 wx → Q .normal ⟨#[t0, t1, .pointer (some ⟨g2, 0, none⟩), t3, t4, t5, t6, t7, t8, .pointer (some ⟨g9, 0, none⟩), .int .u64 (g : Int), t11, t12, t13, t14, t15, t16, t17, t18, t19, t20, t21, t22, t23, t24, t25, t26, t27, t28, t29, t30, t31, t32, t33, t34, t35, t36, t37, t38, t39, t40, t41, t42, t43, t44, t45, t46, t47, t48, t49, t50, t51, t52, t53, t54, t55, t56, t57, t58, t59, t60, t61, t62, t63, t64, t65, t66, t67, t68, t69, t70, t71, t72, t73, u74, u75, u76, u77, u78, u79, u80, u81, u82, u83, u84, u85, u86, .bool bq, t88, t89, t90, t91, t92, t93, t94, t95, t96, t97, t98, t99, t100, t101, t102, t103, t104, t105, t106, t107, t108, t109, t110, t111, t112, t113, t114, t115, t116, t117, t118, t119, t120, t121, t122, t123, t124, t125, t126, t127, t128, t129, t130, t131, t132, t133, t134, t135, t136, t137, t138, t139, t140, t141, t142, t143, t144, t145, t146, t147, t148, t149, t150, t151, t152, t153, t154, t155, t156, t157, t158, t159, t160, t161, t162, t163, t164, t165, t166], []⟩ wx) :
    Code.wp Try.prog code47_18b Q ⟨#[t0, t1, .pointer (some ⟨g2, 0, none⟩), t3, t4, t5, t6, t7, t8, .pointer (some ⟨g9, 0, none⟩), .int .u64 (g : Int), t11, t12, t13, t14, t15, t16, t17, t18, t19, t20, t21, t22, t23, t24, t25, t26, t27, t28, t29, t30, t31, t32, t33, t34, t35, t36, t37, t38, t39, t40, t41, t42, t43, t44, t45, t46, t47, t48, t49, t50, t51, t52, t53, t54, t55, t56, t57, t58, t59, t60, t61, t62, t63, t64, t65, t66, t67, t68, t69, t70, t71, t72, t73, t74, t75, t76, t77, t78, t79, t80, t81, t82, t83, t84, t85, t86, t87, t88, t89, t90, t91, t92, t93, t94, t95, t96, t97, t98, t99, t100, t101, t102, t103, t104, t105, t106, t107, t108, t109, t110, t111, t112, t113, t114, t115, t116, t117, t118, t119, t120, t121, t122, t123, t124, t125, t126, t127, t128, t129, t130, t131, t132, t133, t134, t135, t136, t137, t138, t139, t140, t141, t142, t143, t144, t145, t146, t147, t148, t149, t150, t151, t152, t153, t154, t155, t156, t157, t158, t159, t160, t161, t162, t163, t164, t165, t166], []⟩ w1 := by
  conv => arg 2; whnf
  have HQ := Lib.hid hQ; clear hQ
  have HRS := Lib.hid hr; clear hr
  have HJS := Lib.hid hj; clear hj
  have HEQ := Lib.hid heq; clear heq
  have i1 : (sy : Int) ≤ nJ := by omega
  have i2 : (sy : Int) ≤ cJ := by omega
  have i3 : (0 : Int) ≤ sy := by omega
  refine wp_region_rg 14 (fun _ => none) (by kernel_rfl) (by kernel_rfl) (phi [fun v _ => v = .pointer (some ⟨g9, 0, none⟩),
      fun v _ => v = .slice aR nR cR,
      fun v _ => v = .pointer (some ⟨g2, 0, none⟩),
      fun v _ => v = .slice aJ nJ cJ,
      fun v _ => v = .pointer (some ⟨g2, 2, none⟩),
      fun v _ => v = .int .i64 (sy : Int),
      fun v _ => v = .slice aJ sy cJ,
      fun v _ => v = .bool true,
      fun v _ => v = .bool false,
      fun v _ => v = .bool false,
      fun v _ => v = .int .u64 (g : Int),
      fun v _ => v = .int .u64 ((g : Int) / 4294967296),
      fun v _ => v = .bool bq,
      fun v _ => v = .bool bq]) (phi_stable ?stable) ?steps ?tail
  case stable =>
    exact List.forall_mem_cons.2 ⟨stab_eq _, List.forall_mem_cons.2 ⟨stab_eq _, List.forall_mem_cons.2 ⟨stab_eq _, List.forall_mem_cons.2 ⟨stab_eq _, List.forall_mem_cons.2 ⟨stab_eq _, List.forall_mem_cons.2 ⟨stab_eq _, List.forall_mem_cons.2 ⟨stab_eq _, List.forall_mem_cons.2 ⟨stab_eq _, List.forall_mem_cons.2 ⟨stab_eq _, List.forall_mem_cons.2 ⟨stab_eq _, List.forall_mem_cons.2 ⟨stab_eq _, List.forall_mem_cons.2 ⟨stab_eq _, List.forall_mem_cons.2 ⟨stab_eq _, List.forall_mem_cons.2 ⟨stab_eq _, fun _ h => by cases h⟩⟩⟩⟩⟩⟩⟩⟩⟩⟩⟩⟩⟩⟩
  case steps =>
    simp only [List.take_succ_cons, List.take_zero]
    -- 0: slot 74 := Op.fieldAddr 55 t9 0
    refine ⟨?_, ?_⟩
    · intro v w' hx hd
      simp only [List.take_succ_cons, List.take_zero, putF, Act.put, List.setIfInBounds_toArray, List.set_cons_zero, List.set_cons_succ, Nat.reduceAdd, Nat.zero_add]
      clear hd
      rw [if_pos (by rfl)]
      intro K hK
      have q9 := hx.cell h9
      have q20 := hx.cell h20
      have q22 := hx.cell h22
      have HK := Lib.hid hK; clear hK
      go_simp
      exact HK.out _ _ (.inl (Ext.refl _)) rfl
    -- 1: slot 75 := Op.load 22 t74
    refine ⟨?_, ?_⟩
    · intro v w' hx hd
      have e0 : v 0 = .pointer (some ⟨g9, 0, none⟩) := hd 0 (by kernel_rfl)
      simp only [List.take_succ_cons, List.take_zero, putF, Act.put, List.setIfInBounds_toArray, List.set_cons_zero, List.set_cons_succ, Nat.reduceAdd, Nat.zero_add]
      simp only [e0]
      clear hd e0
      rw [if_pos (by rfl)]
      intro K hK
      have q9 := hx.cell h9
      have q20 := hx.cell h20
      have q22 := hx.cell h22
      have HK := Lib.hid hK; clear hK
      go_simp
      exact HK.out _ _ (.inl (Ext.refl _)) rfl
    -- 2: slot 76 := Op.fieldAddr 55 t2 0
    refine ⟨?_, ?_⟩
    · intro v w' hx hd
      simp only [List.take_succ_cons, List.take_zero, putF, Act.put, List.setIfInBounds_toArray, List.set_cons_zero, List.set_cons_succ, Nat.reduceAdd, Nat.zero_add]
      clear hd
      rw [if_pos (by rfl)]
      intro K hK
      have q9 := hx.cell h9
      have q20 := hx.cell h20
      have q22 := hx.cell h22
      have HK := Lib.hid hK; clear hK
      go_simp
      exact HK.out _ _ (.inl (Ext.refl _)) rfl
    -- 3: slot 77 := Op.load 22 t76
    refine ⟨?_, ?_⟩
    · intro v w' hx hd
      have e2 : v 2 = .pointer (some ⟨g2, 0, none⟩) := hd 2 (by kernel_rfl)
      simp only [List.take_succ_cons, List.take_zero, putF, Act.put, List.setIfInBounds_toArray, List.set_cons_zero, List.set_cons_succ, Nat.reduceAdd, Nat.zero_add]
      simp only [e2]
      clear hd e2
      rw [if_pos (by rfl)]
      intro K hK
      have q9 := hx.cell h9
      have q20 := hx.cell h20
      have q22 := hx.cell h22
      have HK := Lib.hid hK; clear hK
      go_simp
      exact HK.out _ _ (.inl (Ext.refl _)) rfl
    -- 4: slot 78 := Op.fieldAddr 55 t2 2
    refine ⟨?_, ?_⟩
    · intro v w' hx hd
      simp only [List.take_succ_cons, List.take_zero, putF, Act.put, List.setIfInBounds_toArray, List.set_cons_zero, List.set_cons_succ, Nat.reduceAdd, Nat.zero_add]
      clear hd
      rw [if_pos (by rfl)]
      intro K hK
      have q9 := hx.cell h9
      have q20 := hx.cell h20
      have q22 := hx.cell h22
      have HK := Lib.hid hK; clear hK
      go_simp
      exact HK.out _ _ (.inl (Ext.refl _)) rfl
    -- 5: slot 79 := Op.load 3 t78
    refine ⟨?_, ?_⟩
    · intro v w' hx hd
      have e4 : v 4 = .pointer (some ⟨g2, 2, none⟩) := hd 4 (by kernel_rfl)
      simp only [List.take_succ_cons, List.take_zero, putF, Act.put, List.setIfInBounds_toArray, List.set_cons_zero, List.set_cons_succ, Nat.reduceAdd, Nat.zero_add]
      simp only [e4]
      clear hd e4
      rw [if_pos (by rfl)]
      intro K hK
      have q9 := hx.cell h9
      have q20 := hx.cell h20
      have q22 := hx.cell h22
      have HK := Lib.hid hK; clear hK
      go_simp
      exact HK.out _ _ (.inl (Ext.refl _)) rfl
    -- 6: slot 80 := Op.slice 22 t77 none (some t79) none
    refine ⟨?_, ?_⟩
    · intro v w' hx hd
      have e3 : v 3 = .slice aJ nJ cJ := hd 3 (by kernel_rfl)
      have e5 : v 5 = .int .i64 (sy : Int) := hd 5 (by kernel_rfl)
      simp only [List.take_succ_cons, List.take_zero, putF, Act.put, List.setIfInBounds_toArray, List.set_cons_zero, List.set_cons_succ, Nat.reduceAdd, Nat.zero_add]
      simp only [e3]
      simp only [e5]
      clear hd e3 e5
      rw [if_pos (by rfl)]
      intro K hK
      have q9 := hx.cell h9
      have q20 := hx.cell h20
      have q22 := hx.cell h22
      have HK := Lib.hid hK; clear hK
      go_simp
      exact HK.out _ _ (.inl (Ext.refl _)) rfl
    -- 7: slot 81 := Op.call { value (Operand.func 72), args := #[t75, t80, Operand.func 73], argTypes := #[22,
    refine ⟨?_, ?_⟩
    · intro v w' hx hd
      have e1 : v 1 = .slice aR nR cR := hd 1 (by kernel_rfl)
      have e6 : v 6 = .slice aJ sy cJ := hd 6 (by kernel_rfl)
      simp only [List.take_succ_cons, List.take_zero, putF, Act.put, List.setIfInBounds_toArray, List.set_cons_zero, List.set_cons_succ, Nat.reduceAdd, Nat.zero_add]
      simp only [e1]
      simp only [e6]
      clear hd e1 e6
      rw [if_pos (by rfl)]
      intro K hK
      have q9 := hx.cell h9
      have q20 := hx.cell h20
      have q22 := hx.cell h22
      have HK := Lib.hid hK; clear hK
      go_simp
      refine (equalFunc_ok w' _ _ rs js (Bss.keep HRS.out hx) (Bss.keep HJS.out hx)).mono ?_
      rintro e w2 ⟨rfl, hx2⟩
      rw [HEQ.out]
      exact HK.out _ _ (.inl hx2) rfl
    -- 8: slot 82 := Op.unOp UnOp.not 4 t81
    refine ⟨?_, ?_⟩
    · intro v w' hx hd
      have e7 : v 7 = .bool true := hd 7 (by kernel_rfl)
      simp only [List.take_succ_cons, List.take_zero, putF, Act.put, List.setIfInBounds_toArray, List.set_cons_zero, List.set_cons_succ, Nat.reduceAdd, Nat.zero_add]
      simp only [e7]
      clear hd e7
      rw [if_pos (by rfl)]
      intro K hK
      have q9 := hx.cell h9
      have q20 := hx.cell h20
      have q22 := hx.cell h22
      have HK := Lib.hid hK; clear hK
      go_simp
      exact HK.out _ _ (.inl (Ext.refl _)) rfl
    -- 9: slot 83 := Op.move t82
    refine ⟨?_, ?_⟩
    · intro v w' hx hd
      have e8 : v 8 = .bool false := hd 8 (by kernel_rfl)
      simp only [List.take_succ_cons, List.take_zero, putF, Act.put, List.setIfInBounds_toArray, List.set_cons_zero, List.set_cons_succ, Nat.reduceAdd, Nat.zero_add]
      simp only [e8]
      clear hd e8
      rw [if_pos (by rfl)]
      intro K hK
      have q9 := hx.cell h9
      have q20 := hx.cell h20
      have q22 := hx.cell h22
      have HK := Lib.hid hK; clear hK
      go_simp
      exact HK.out _ _ (.inl (Ext.refl _)) rfl
    -- 10: slot 84 := Op.move t10   [guarded: some (9, false)]
    refine ⟨?_, ?_⟩
    · intro v w' hx hd
      have e9 : v 9 = .bool false := hd 9 (by kernel_rfl)
      simp only [List.take_succ_cons, List.take_zero, putF, Act.put, List.setIfInBounds_toArray, List.set_cons_zero, List.set_cons_succ, Nat.reduceAdd, Nat.zero_add]
      simp only [e9]
      clear hd e9
      rw [if_pos (by rfl)]
      intro K hK
      have q9 := hx.cell h9
      have q20 := hx.cell h20
      have q22 := hx.cell h22
      have HK := Lib.hid hK; clear hK
      go_simp
      exact HK.out _ _ (.inl (Ext.refl _)) rfl
    -- 11: slot 85 := Op.binOp BinOp.shr 95 t84 (const (32:u64)) 68   [guarded: some (9, false)]
    refine ⟨?_, ?_⟩
    · intro v w' hx hd
      have e10 : v 10 = .int .u64 (g : Int) := hd 10 (by kernel_rfl)
      have e9 : v 9 = .bool false := hd 9 (by kernel_rfl)
      simp only [List.take_succ_cons, List.take_zero, putF, Act.put, List.setIfInBounds_toArray, List.set_cons_zero, List.set_cons_succ, Nat.reduceAdd, Nat.zero_add]
      simp only [e10]
      simp only [e9]
      clear hd e10 e9
      rw [if_pos (by rfl)]
      intro K hK
      have q9 := hx.cell h9
      have q20 := hx.cell h20
      have q22 := hx.cell h22
      have HK := Lib.hid hK; clear hK
      go_simp
      exact HK.out _ _ (.inl (Ext.refl _)) rfl
    -- 12: slot 86 := Op.binOp BinOp.neq 95 t85 (const (0:u64)) 95   [guarded: some (9, false)]
    refine ⟨?_, ?_⟩
    · intro v w' hx hd
      have e11 : v 11 = .int .u64 ((g : Int) / 4294967296) := hd 11 (by kernel_rfl)
      have e9 : v 9 = .bool false := hd 9 (by kernel_rfl)
      simp only [List.take_succ_cons, List.take_zero, putF, Act.put, List.setIfInBounds_toArray, List.set_cons_zero, List.set_cons_succ, Nat.reduceAdd, Nat.zero_add]
      simp only [e11]
      simp only [e9]
      clear hd e11 e9
      rw [if_pos (by rfl)]
      intro K hK
      have q9 := hx.cell h9
      have q20 := hx.cell h20
      have q22 := hx.cell h22
      have HK := Lib.hid hK; clear hK
      go_simp
      exact HK.out _ _ (.inl (Ext.refl _)) rfl
    -- 13: slot 87 := Op.pick t83 (const (Value.bool true)) t86
    refine ⟨?_, ?_⟩
    · intro v w' hx hd
      have e9 : v 9 = .bool false := hd 9 (by kernel_rfl)
      have e12 : v 12 = .bool bq := hd 12 (by kernel_rfl)
      simp only [List.take_succ_cons, List.take_zero, putF, Act.put, List.setIfInBounds_toArray, List.set_cons_zero, List.set_cons_succ, Nat.reduceAdd, Nat.zero_add]
      simp only [e9]
      simp only [e12]
      clear hd e9 e12
      rw [if_pos (by rfl)]
      intro K hK
      have q9 := hx.cell h9
      have q20 := hx.cell h20
      have q22 := hx.cell h22
      have HK := Lib.hid hK; clear hK
      go_simp
      exact HK.out _ _ (.inl (Ext.refl _)) rfl
    exact trivial
  case tail =>
    intro v w' hx hall
    simp only [List.drop_succ_cons, List.drop_zero, List.take_succ_cons, List.take_zero, putF, Act.put, List.setIfInBounds_toArray, List.set_cons_zero, List.set_cons_succ, Nat.reduceAdd, Nat.zero_add]
    have e13 : v 13 = .bool bq := hall 13 (by decide) (fun k hk => by simp at hk)
    simp only [e13]
    have HX := Lib.hid hx; clear hx
    clear hall e13
    exact HQ.out _ _ _ _ _ _ _ _ _ _ _ _ _ w' HX.out
noncomputable def code47_33 : Code := ((Try.f47.body.bind (regionOf 33)).getD .skip)
set_option maxRecDepth 100000 in
set_option maxHeartbeats 4000000 in
theorem reg47_33 {Q : Exit → Act → World → Prop} {S : Nat → Prop} (t0 t1 t2 t4 t5 t6 t7 t8 t9 t11 t12 t14 t17 t19 t20 t21 t22 t23 t24 t25 t26 t27 t28 t29 t30 t31 t32 t33 t34 t35 t36 t37 t38 t39 t40 t41 t42 t43 t44 t45 t46 t47 t48 t49 t50 t51 t52 t53 t54 t55 t56 t57 t58 t59 t60 t61 t62 t63 t64 t65 t66 t67 t68 t69 t70 t71 t72 t73 t74 t75 t76 t77 t78 t79 t80 t81 t82 t83 t84 t85 t86 t87 t88 t89 t90 t91 t92 t93 t94 t95 t96 t97 t98 t99 t100 t101 t102 t103 t104 t105 t106 t107 t108 t109 t110 t111 t112 t113 t114 t115 t116 t117 t118 t119 t120 t121 t122 t123 t124 t125 t126 t127 t128 t129 t130 t131 t132 t133 t134 t135 t136 t137 t138 t139 t140 t141 t142 t143 t144 t145 t146 t147 t148 t149 t150 t151 t152 t153 t154 t155 t156 t157 t158 t159 t160 t161 t162 t163 t164 t165 t166 : Value) (w1 : World) (g3 g at_ nB cB kb : Nat) (kd : UInt8) (aB a a2 : Option Addr) (c c2 : Nat) (d d' : Dk) (p : List UInt8)
    (hB : Box w1 g3 [.slice a d.sectors.length c, .slice a2 d.pending.length c2, .int .i64 d.left, .bool d.stopped]) (hd : Disk S w1 (.agg #[.slice a d.sectors.length c, .slice a2 d.pending.length c2, .int .i64 d.left, .bool d.stopped]) d) (hp : Bs S w1 (.slice aB kb cB) p) (hpl : p.length ≤ 112) (hkb : kb ≤ nB) (hnc : nB ≤ cB) (hg : g < 4294967296) (hat : at_ < 4096) (hwd : writeD d at_ (sect g at_ kd p) = (d', 0)) (hS : ∀ k, S k → k < w1.heap.size) (hS3 : S g3)
    (hQ : ∀ (u128 u129 u130 u131 u132 u133 u134 u135 u136 u137 u127 u138 u139 : Value) (wx : World), ∀ (w9 : World) (a' : Option Addr) (c' : Nat) (a2' : Option Addr) (c2' : Nat), Ext w1 w9 → Only g3 w9 wx → Box wx g3 [.slice a' d'.sectors.length c', .slice a2' d'.pending.length c2', .int .i64 d'.left, .bool d'.stopped] → Disk S wx (.agg #[.slice a' d'.sectors.length c', .slice a2' d'.pending.length c2', .int .i64 d'.left, .bool d'.stopped]) d' → Q .normal ⟨#[t0, t1, t2, .pointer (some ⟨g3, 0, none⟩), t4, t5, .int .i64 0, t7, t8, t9, .int .u64 (g : Int), t11, t12, .int .i64 (at_ : Int), t14, .slice aB nB cB, .int .u8 (kd.toNat : Int), t17, .int .i64 (kb : Int), t19, t20, t21, t22, t23, t24, t25, t26, t27, t28, t29, t30, t31, t32, t33, t34, t35, t36, t37, t38, t39, t40, t41, t42, t43, t44, t45, t46, t47, t48, t49, t50, t51, t52, t53, t54, t55, t56, t57, t58, t59, t60, t61, t62, t63, t64, t65, t66, t67, t68, t69, t70, t71, t72, t73, t74, t75, t76, t77, t78, t79, t80, t81, t82, t83, t84, t85, t86, t87, t88, t89, t90, t91, t92, t93, t94, t95, t96, t97, t98, t99, t100, t101, t102, t103, t104, t105, t106, t107, t108, t109, t110, t111, t112, t113, t114, t115, t116, t117, t118, t119, t120, t121, t122, t123, t124, t125, t126, u127, u128, u129, u130, u131, u132, u133, u134, u135, u136, u137, u138, u139, t140, t141, t142, t143, t144, t145, t146, t147, t148, t149, t150, t151, t152, t153, t154, t155, t156, t157, t158, t159, t160, t161, t162, t163, t164, t165, t166], []⟩ wx) :
    Code.wp Try.prog code47_33 Q ⟨#[t0, t1, t2, .pointer (some ⟨g3, 0, none⟩), t4, t5, t6, t7, t8, t9, .int .u64 (g : Int), t11, t12, .int .i64 (at_ : Int), t14, .slice aB nB cB, .int .u8 (kd.toNat : Int), t17, .int .i64 (kb : Int), t19, t20, t21, t22, t23, t24, t25, t26, t27, t28, t29, t30, t31, t32, t33, t34, t35, t36, t37, t38, t39, t40, t41, t42, t43, t44, t45, t46, t47, t48, t49, t50, t51, t52, t53, t54, t55, t56, t57, t58, t59, t60, t61, t62, t63, t64, t65, t66, t67, t68, t69, t70, t71, t72, t73, t74, t75, t76, t77, t78, t79, t80, t81, t82, t83, t84, t85, t86, t87, t88, t89, t90, t91, t92, t93, t94, t95, t96, t97, t98, t99, t100, t101, t102, t103, t104, t105, t106, t107, t108, t109, t110, t111, t112, t113, t114, t115, t116, t117, t118, t119, t120, t121, t122, t123, t124, t125, t126, t127, t128, t129, t130, t131, t132, t133, t134, t135, t136, t137, t138, t139, t140, t141, t142, t143, t144, t145, t146, t147, t148, t149, t150, t151, t152, t153, t154, t155, t156, t157, t158, t159, t160, t161, t162, t163, t164, t165, t166], []⟩ w1 := by
  conv => arg 2; whnf
  refine wp_only ?_
  have HQ := Lib.hid hQ; clear hQ
  have HD := Lib.hid hd; clear hd
  have HP := Lib.hid hp; clear hp
  have HWD := Lib.hid hwd; clear hwd
  have HS := Lib.hid hS; clear hS
  have HB := Lib.hid hB
  obtain ⟨c0, c1, c2', c3, y0, y1, y2, y3⟩ := hB.four
  clear hB
  have i1 : (kb : Int) ≤ nB := by omega
  have i2 : (kb : Int) ≤ cB := by omega
  have i3 : (0 : Int) ≤ kb := by omega
  have K74 : Hid (∀ W, Ext w1 W → Calls Try.prog 74 #[.int .u64 (g : Int), .int .i64 (at_ : Int), .int .u8 (kd.toNat : Int), .slice aB kb cB] W fun e w' => ∃ v', e = .returned v' ∧ Bs S w' v' (sect g at_ kd p) ∧ Ext W w') :=
    fun W hx => encode_ok (S := S) W g at_ kd _ p (by omega) (by omega) (HP.out.keep hx) hpl (fun k hk => Nat.lt_of_lt_of_le (HS.out k hk) hx.size)
  have K26 : Hid (∀ W v, Ext w1 W → Bs S W v (sect g at_ kd p) → Calls Try.prog 26 #[(.agg #[.slice a d.sectors.length c, .slice a2 d.pending.length c2, .int .i64 d.left, .bool d.stopped]), .int .i64 (at_ : Int), v] W (DiskErr S W (d', 0))) := fun W v hx hb => by
    have := write_ok (S := S) W _ d at_ v (sect g at_ kd p) (HD.out.keep hx) hb (fun k hk => Nat.lt_of_lt_of_le (HS.out k hk) hx.size)
    rwa [HWD.out] at this
  go_region_with (first
    | (go_at_call 74; refine (K74.out _ (by repeat (first | exact Ext.refl _ | refine Ext.drew ?_))).mono ?_; rintro e w2 ⟨v2, rfl, hd2, hx2⟩; obtain ⟨a9, c9, rfl, _, _⟩ := hd2.open; have hxx : Ext w1 w2 := Ext.trans (by repeat (first | exact Ext.refl _ | refine Ext.drew ?_)) hx2; have q0 := hxx.cell c0; have q1 := hxx.cell c1; have q2 := hxx.cell c2'; have q3 := hxx.cell c3)
    | (go_at_call 26; refine (K26.out _ _ ‹Ext w1 _› ‹Bs S _ _ (sect g at_ kd p)›).mono ?_; rintro e w3 ⟨v3, rfl, hd3, hx3⟩; obtain ⟨a', c', a2', c2'', rfl, _, _, _, _, _, _⟩ := hd3.open; have hyy : Ext w1 w3 := Ext.trans ‹Ext w1 _› hx3; obtain ⟨z0, z1, z2, z3, x0, x1, x2, x3⟩ := (HB.out.keep hyy).four))
  all_goals
    dsimp only [onlyN]
    simp only [List.getElem_toArray, List.getElem_cons_succ, List.getElem_cons_zero, Act.put, List.setIfInBounds_toArray, List.set_cons_zero, List.set_cons_succ]
    generalize hW : World.setCell _ _ _ = wx
    obtain ⟨hbx, ho⟩ := box_set4 (HB.out.keep hyy) hW
    exact HQ.out _ _ _ _ _ _ _ _ _ _ _ _ _ wx w3 a' c' a2' c2'' hyy ho hbx (Disk.keepM hd3 (ho.mem hS3))
noncomputable def code47_21 : Code := ((Try.f47.body.bind (regionOf 21)).getD .skip)
set_option maxRecDepth 100000 in
set_option maxHeartbeats 4000000 in
theorem reg47_21 {Q : Exit → Act → World → Prop} (t0 t1 t6 t7 t8 t9 t10 t11 t12 t13 t14 t15 t16 t17 t18 t19 t20 t21 t22 t23 t24 t25 t26 t27 t28 t29 t30 t31 t32 t33 t34 t35 t36 t37 t38 t39 t40 t41 t42 t43 t44 t45 t46 t47 t48 t49 t50 t51 t52 t53 t54 t55 t56 t57 t58 t59 t60 t61 t62 t63 t64 t65 t66 t67 t68 t69 t70 t71 t72 t73 t74 t75 t76 t77 t78 t79 t80 t81 t82 t83 t84 t85 t86 t87 t88 t89 t90 t91 t92 t93 t94 t95 t96 t97 t98 t99 t100 t101 t102 t103 t104 t105 t106 t107 t108 t109 t110 t111 t112 t113 t114 t115 t116 t117 t118 t119 t120 t121 t122 t123 t124 t125 t126 t127 t128 t129 t130 t131 t132 t133 t134 t135 t136 t137 t138 t139 t140 t141 t142 t143 t144 t145 t146 t147 t148 t149 t150 t151 t152 t153 t154 t155 t156 t157 t158 t159 t160 t161 t162 t163 t164 t165 t166 : Value) (w1 : World) (g2 g3 g4 g5 nJ cJ n c n2 c2 : Nat) (aJ a a2 : Option Addr) (m sy le : Int) (st : Bool) (y0 y1 y2 x0 x1 x2 x3 : Value)
    (h2 : Box w1 g2 [.slice aJ nJ cJ, .int .i64 m, .int .i64 sy]) (h3 : Box w1 g3 [.slice a n c, .slice a2 n2 c2, .int .i64 le, .bool st]) (h4 : Box w1 g4 [y0, y1, y2]) (h5 : Box w1 g5 [x0, x1, x2, x3]) (n34 : g3 ≠ g4) (n45 : g4 ≠ g5)
    (hQ : ∀ (u96 u97 : Value) (wx : World), ∀ (w9 wa : World), Ext w1 w9 → Only g4 w9 wa → Only g5 wa wx → Box wx g4 [.slice aJ nJ cJ, .int .i64 m, .int .i64 sy] → Box wx g5 [.slice a n c, .slice a2 n2 c2, .int .i64 le, .bool st] → Q .normal ⟨#[t0, t1, .pointer (some ⟨g2, 0, none⟩), .pointer (some ⟨g3, 0, none⟩), .pointer (some ⟨g4, 0, none⟩), .pointer (some ⟨g5, 0, none⟩), .int .i64 0, t7, t8, t9, t10, t11, t12, t13, t14, t15, t16, t17, t18, t19, t20, t21, t22, t23, t24, t25, t26, t27, t28, t29, t30, t31, t32, t33, t34, t35, t36, t37, t38, t39, t40, t41, t42, t43, t44, t45, t46, t47, t48, t49, t50, t51, t52, t53, t54, t55, t56, t57, t58, t59, t60, t61, t62, t63, t64, t65, t66, t67, t68, t69, t70, t71, t72, t73, t74, t75, t76, t77, t78, t79, t80, t81, t82, t83, t84, t85, t86, t87, t88, t89, t90, t91, t92, t93, t94, t95, u96, u97, t98, t99, t100, t101, t102, t103, t104, t105, t106, t107, t108, t109, t110, t111, t112, t113, t114, t115, t116, t117, t118, t119, t120, t121, t122, t123, t124, t125, t126, t127, t128, t129, t130, t131, t132, t133, t134, t135, t136, t137, t138, t139, t140, t141, t142, t143, t144, t145, t146, t147, t148, t149, t150, t151, t152, t153, t154, t155, t156, t157, t158, t159, t160, t161, t162, t163, t164, t165, t166], []⟩ wx) :
    Code.wp Try.prog code47_21 Q ⟨#[t0, t1, .pointer (some ⟨g2, 0, none⟩), .pointer (some ⟨g3, 0, none⟩), .pointer (some ⟨g4, 0, none⟩), .pointer (some ⟨g5, 0, none⟩), t6, t7, t8, t9, t10, t11, t12, t13, t14, t15, t16, t17, t18, t19, t20, t21, t22, t23, t24, t25, t26, t27, t28, t29, t30, t31, t32, t33, t34, t35, t36, t37, t38, t39, t40, t41, t42, t43, t44, t45, t46, t47, t48, t49, t50, t51, t52, t53, t54, t55, t56, t57, t58, t59, t60, t61, t62, t63, t64, t65, t66, t67, t68, t69, t70, t71, t72, t73, t74, t75, t76, t77, t78, t79, t80, t81, t82, t83, t84, t85, t86, t87, t88, t89, t90, t91, t92, t93, t94, t95, t96, t97, t98, t99, t100, t101, t102, t103, t104, t105, t106, t107, t108, t109, t110, t111, t112, t113, t114, t115, t116, t117, t118, t119, t120, t121, t122, t123, t124, t125, t126, t127, t128, t129, t130, t131, t132, t133, t134, t135, t136, t137, t138, t139, t140, t141, t142, t143, t144, t145, t146, t147, t148, t149, t150, t151, t152, t153, t154, t155, t156, t157, t158, t159, t160, t161, t162, t163, t164, t165, t166], []⟩ w1 := by
  conv => arg 2; whnf
  refine wp_only ?_
  have HQ := Lib.hid hQ; clear hQ
  have H4 := Lib.hid h4
  have H5 := Lib.hid h5
  obtain ⟨a0, a1, a2', -, -, -⟩ := h2.three
  clear h2
  obtain ⟨b0, b1, b2, b3, -, -, -, -⟩ := h3.four
  obtain ⟨d0, d1, d2, e0, e1, e2⟩ := h4.three
  obtain ⟨p0, p1, p2, p3, q0, q1, q2, q3⟩ := h5.four
  have n54 : g5 ≠ g4 := fun h => n45 h.symm
  clear h3 h4 h5
  go_region_with (fail)
  all_goals
    dsimp only [onlyN]
    simp only [List.getElem_toArray, List.getElem_cons_succ, List.getElem_cons_zero, Act.put, List.setIfInBounds_toArray, List.set_cons_zero, List.set_cons_succ]
    generalize hWa : World.setCell (World.setCell (World.setCell w1 ⟨g4, 0, none⟩ _) ⟨g4, 1, none⟩ _) ⟨g4, 2, none⟩ _ = wa
    generalize hWx : World.setCell (World.setCell (World.setCell (World.setCell wa _ _) _ _) _ _) _ _ = wy
    obtain ⟨hba, hoa⟩ := box_set3 H4.out hWa
    obtain ⟨hbx, hox⟩ := box_set4 (hoa.box H5.out n54) hWx
    have hox' : Only g5 wa wy.drew := ⟨hox.os, hox.tape, hox.output, hox.size, hox.block⟩
    exact HQ.out _ _ _ w1 wa (Ext.refl w1) hoa hox' (hox.box hba n45).drew hbx.drew
noncomputable def code47_43 : Code := ((Try.f47.body.bind (regionOf 43)).getD .skip)
set_option maxRecDepth 100000 in
set_option maxHeartbeats 4000000 in
theorem reg47_43 {Q : Exit → Act → World → Prop} (t0 t1 t6 t7 t8 t9 t10 t11 t12 t13 t14 t15 t16 t17 t18 t19 t20 t21 t22 t23 t24 t25 t26 t27 t28 t29 t30 t31 t32 t33 t34 t35 t36 t37 t38 t39 t40 t41 t42 t43 t44 t45 t46 t47 t48 t49 t50 t51 t52 t53 t54 t55 t56 t57 t58 t59 t60 t61 t62 t63 t64 t65 t66 t67 t68 t69 t70 t71 t72 t73 t74 t75 t76 t77 t78 t79 t80 t81 t82 t83 t84 t85 t86 t87 t88 t89 t90 t91 t92 t93 t94 t95 t96 t97 t98 t99 t100 t101 t102 t103 t104 t105 t106 t107 t108 t109 t110 t111 t112 t113 t114 t115 t116 t117 t118 t119 t120 t121 t122 t123 t124 t125 t126 t127 t128 t129 t130 t131 t132 t133 t134 t135 t136 t137 t138 t139 t140 t141 t142 t143 t144 t145 t146 t147 t148 t149 t150 t151 t152 t153 t154 t155 t156 t157 t158 t159 t160 t161 t162 t163 t164 t165 t166 : Value) (w1 : World) (g2 g3 g4 g5 nJ cJ n c n2 c2 : Nat) (aJ a a2 : Option Addr) (m sy le : Int) (st : Bool) (y0 y1 y2 x0 x1 x2 x3 : Value)
    (h2 : Box w1 g2 [.slice aJ nJ cJ, .int .i64 m, .int .i64 sy]) (h3 : Box w1 g3 [.slice a n c, .slice a2 n2 c2, .int .i64 le, .bool st]) (h4 : Box w1 g4 [y0, y1, y2]) (h5 : Box w1 g5 [x0, x1, x2, x3]) (n34 : g3 ≠ g4) (n45 : g4 ≠ g5)
    (hQ : ∀ (u165 u166 : Value) (wx : World), ∀ (w9 wa : World), Ext w1 w9 → Only g4 w9 wa → Only g5 wa wx → Box wx g4 [.slice aJ nJ cJ, .int .i64 m, .int .i64 sy] → Box wx g5 [.slice a n c, .slice a2 n2 c2, .int .i64 le, .bool st] → Q .normal ⟨#[t0, t1, .pointer (some ⟨g2, 0, none⟩), .pointer (some ⟨g3, 0, none⟩), .pointer (some ⟨g4, 0, none⟩), .pointer (some ⟨g5, 0, none⟩), .int .i64 0, t7, t8, t9, t10, t11, t12, t13, t14, t15, t16, t17, t18, t19, t20, t21, t22, t23, t24, t25, t26, t27, t28, t29, t30, t31, t32, t33, t34, t35, t36, t37, t38, t39, t40, t41, t42, t43, t44, t45, t46, t47, t48, t49, t50, t51, t52, t53, t54, t55, t56, t57, t58, t59, t60, t61, t62, t63, t64, t65, t66, t67, t68, t69, t70, t71, t72, t73, t74, t75, t76, t77, t78, t79, t80, t81, t82, t83, t84, t85, t86, t87, t88, t89, t90, t91, t92, t93, t94, t95, t96, t97, t98, t99, t100, t101, t102, t103, t104, t105, t106, t107, t108, t109, t110, t111, t112, t113, t114, t115, t116, t117, t118, t119, t120, t121, t122, t123, t124, t125, t126, t127, t128, t129, t130, t131, t132, t133, t134, t135, t136, t137, t138, t139, t140, t141, t142, t143, t144, t145, t146, t147, t148, t149, t150, t151, t152, t153, t154, t155, t156, t157, t158, t159, t160, t161, t162, t163, t164, u165, u166], []⟩ wx) :
    Code.wp Try.prog code47_43 Q ⟨#[t0, t1, .pointer (some ⟨g2, 0, none⟩), .pointer (some ⟨g3, 0, none⟩), .pointer (some ⟨g4, 0, none⟩), .pointer (some ⟨g5, 0, none⟩), t6, t7, t8, t9, t10, t11, t12, t13, t14, t15, t16, t17, t18, t19, t20, t21, t22, t23, t24, t25, t26, t27, t28, t29, t30, t31, t32, t33, t34, t35, t36, t37, t38, t39, t40, t41, t42, t43, t44, t45, t46, t47, t48, t49, t50, t51, t52, t53, t54, t55, t56, t57, t58, t59, t60, t61, t62, t63, t64, t65, t66, t67, t68, t69, t70, t71, t72, t73, t74, t75, t76, t77, t78, t79, t80, t81, t82, t83, t84, t85, t86, t87, t88, t89, t90, t91, t92, t93, t94, t95, t96, t97, t98, t99, t100, t101, t102, t103, t104, t105, t106, t107, t108, t109, t110, t111, t112, t113, t114, t115, t116, t117, t118, t119, t120, t121, t122, t123, t124, t125, t126, t127, t128, t129, t130, t131, t132, t133, t134, t135, t136, t137, t138, t139, t140, t141, t142, t143, t144, t145, t146, t147, t148, t149, t150, t151, t152, t153, t154, t155, t156, t157, t158, t159, t160, t161, t162, t163, t164, t165, t166], []⟩ w1 := by
  conv => arg 2; whnf
  refine wp_only ?_
  have HQ := Lib.hid hQ; clear hQ
  have H4 := Lib.hid h4
  have H5 := Lib.hid h5
  obtain ⟨a0, a1, a2', -, -, -⟩ := h2.three
  clear h2
  obtain ⟨b0, b1, b2, b3, -, -, -, -⟩ := h3.four
  obtain ⟨d0, d1, d2, e0, e1, e2⟩ := h4.three
  obtain ⟨p0, p1, p2, p3, q0, q1, q2, q3⟩ := h5.four
  have n54 : g5 ≠ g4 := fun h => n45 h.symm
  clear h3 h4 h5
  go_region_with (fail)
  all_goals
    dsimp only [onlyN]
    simp only [List.getElem_toArray, List.getElem_cons_succ, List.getElem_cons_zero, Act.put, List.setIfInBounds_toArray, List.set_cons_zero, List.set_cons_succ]
    generalize hWa : World.setCell (World.setCell (World.setCell w1 ⟨g4, 0, none⟩ _) ⟨g4, 1, none⟩ _) ⟨g4, 2, none⟩ _ = wa
    generalize hWx : World.setCell (World.setCell (World.setCell (World.setCell wa _ _) _ _) _ _) _ _ = wy
    obtain ⟨hba, hoa⟩ := box_set3 H4.out hWa
    obtain ⟨hbx, hox⟩ := box_set4 (hoa.box H5.out n54) hWx
    have hox' : Only g5 wa wy.drew := ⟨hox.os, hox.tape, hox.output, hox.size, hox.block⟩
    exact HQ.out _ _ _ w1 wa (Ext.refl w1) hoa hox' (hox.box hba n45).drew hbx.drew
noncomputable def code47_41 : Code := ((Try.f47.body.bind (regionOf 41)).getD .skip)
set_option maxRecDepth 100000 in
set_option maxHeartbeats 4000000 in
theorem reg47_41 {Q : Exit → Act → World → Prop} (t0 t1 t2 t7 t8 t9 t10 t11 t12 t13 t14 t15 t16 t17 t18 t19 t20 t21 t22 t23 t24 t25 t26 t27 t28 t29 t30 t31 t32 t33 t34 t35 t36 t37 t38 t39 t40 t41 t42 t43 t44 t45 t46 t47 t48 t49 t50 t51 t52 t53 t54 t55 t56 t57 t58 t59 t60 t61 t62 t63 t64 t65 t66 t67 t68 t69 t70 t71 t72 t73 t74 t75 t76 t77 t78 t79 t80 t81 t82 t83 t84 t85 t86 t87 t88 t89 t90 t91 t92 t93 t94 t95 t96 t97 t98 t99 t100 t101 t102 t103 t104 t105 t106 t107 t108 t109 t110 t111 t112 t113 t114 t115 t116 t117 t118 t119 t120 t121 t122 t123 t124 t125 t126 t127 t128 t129 t130 t131 t132 t133 t134 t135 t136 t137 t138 t139 t140 t141 t142 t143 t144 t145 t146 t147 t148 t149 t150 t151 t152 t153 t154 t155 t156 t157 t158 t159 t160 t161 t162 t163 t164 t165 t166 : Value) (w1 : World) (g3 g4 g5 n c n2 c2 : Nat) (a a2 : Option Addr) (le e : Int) (st : Bool) (y0 y1 y2 x0 x1 x2 x3 : Value)
    (h3 : Box w1 g3 [.slice a n c, .slice a2 n2 c2, .int .i64 le, .bool st]) (h4 : Box w1 g4 [y0, y1, y2]) (h5 : Box w1 g5 [x0, x1, x2, x3]) (n34 : g3 ≠ g4) (n45 : g4 ≠ g5)
    (hQ : ∀ (u158 u159 u160 : Value) (wx : World), ∀ (w9 wa : World), Ext w1 w9 → Only g4 w9 wa → Only g5 wa wx → Box wx g4 [.slice none 0 0, .int .i64 0, .int .i64 0] → Box wx g5 [.slice a n c, .slice a2 n2 c2, .int .i64 le, .bool st] → Q .normal ⟨#[t0, t1, t2, .pointer (some ⟨g3, 0, none⟩), .pointer (some ⟨g4, 0, none⟩), .pointer (some ⟨g5, 0, none⟩), .int .i64 e, t7, t8, t9, t10, t11, t12, t13, t14, t15, t16, t17, t18, t19, t20, t21, t22, t23, t24, t25, t26, t27, t28, t29, t30, t31, t32, t33, t34, t35, t36, t37, t38, t39, t40, t41, t42, t43, t44, t45, t46, t47, t48, t49, t50, t51, t52, t53, t54, t55, t56, t57, t58, t59, t60, t61, t62, t63, t64, t65, t66, t67, t68, t69, t70, t71, t72, t73, t74, t75, t76, t77, t78, t79, t80, t81, t82, t83, t84, t85, t86, t87, t88, t89, t90, t91, t92, t93, t94, t95, t96, t97, t98, t99, t100, t101, t102, t103, t104, t105, t106, t107, t108, t109, t110, t111, t112, t113, t114, t115, t116, t117, t118, t119, t120, t121, t122, t123, t124, t125, t126, t127, t128, t129, t130, t131, t132, t133, t134, t135, t136, t137, t138, t139, t140, t141, t142, t143, t144, t145, t146, t147, t148, t149, t150, t151, t152, t153, t154, t155, t156, t157, u158, u159, u160, t161, t162, t163, t164, t165, t166], []⟩ wx) :
    Code.wp Try.prog code47_41 Q ⟨#[t0, t1, t2, .pointer (some ⟨g3, 0, none⟩), .pointer (some ⟨g4, 0, none⟩), .pointer (some ⟨g5, 0, none⟩), .int .i64 e, t7, t8, t9, t10, t11, t12, t13, t14, t15, t16, t17, t18, t19, t20, t21, t22, t23, t24, t25, t26, t27, t28, t29, t30, t31, t32, t33, t34, t35, t36, t37, t38, t39, t40, t41, t42, t43, t44, t45, t46, t47, t48, t49, t50, t51, t52, t53, t54, t55, t56, t57, t58, t59, t60, t61, t62, t63, t64, t65, t66, t67, t68, t69, t70, t71, t72, t73, t74, t75, t76, t77, t78, t79, t80, t81, t82, t83, t84, t85, t86, t87, t88, t89, t90, t91, t92, t93, t94, t95, t96, t97, t98, t99, t100, t101, t102, t103, t104, t105, t106, t107, t108, t109, t110, t111, t112, t113, t114, t115, t116, t117, t118, t119, t120, t121, t122, t123, t124, t125, t126, t127, t128, t129, t130, t131, t132, t133, t134, t135, t136, t137, t138, t139, t140, t141, t142, t143, t144, t145, t146, t147, t148, t149, t150, t151, t152, t153, t154, t155, t156, t157, t158, t159, t160, t161, t162, t163, t164, t165, t166], []⟩ w1 := by
  conv => arg 2; whnf
  refine wp_only ?_
  have HQ := Lib.hid hQ; clear hQ
  have H4 := Lib.hid h4
  have H5 := Lib.hid h5
  obtain ⟨b0, b1, b2, b3, -, -, -, -⟩ := h3.four
  obtain ⟨d0, d1, d2, e0, e1, e2⟩ := h4.three
  obtain ⟨p0, p1, p2, p3, q0, q1, q2, q3⟩ := h5.four
  have n54 : g5 ≠ g4 := fun h => n45 h.symm
  clear h3 h4 h5
  go_region_with (fail)
  all_goals
    dsimp only [onlyN]
    simp only [List.getElem_toArray, List.getElem_cons_succ, List.getElem_cons_zero, Act.put, List.setIfInBounds_toArray, List.set_cons_zero, List.set_cons_succ]
    generalize hWa : World.setCell (World.setCell (World.setCell w1 ⟨g4, 0, none⟩ _) ⟨g4, 1, none⟩ _) ⟨g4, 2, none⟩ _ = wa
    generalize hWx : World.setCell (World.setCell (World.setCell (World.setCell wa _ _) _ _) _ _) _ _ = wy
    obtain ⟨hba, hoa⟩ := box_set3 H4.out hWa
    obtain ⟨hbx, hox⟩ := box_set4 (hoa.box H5.out n54) hWx
    have hox' : Only g5 wa wy.drew := ⟨hox.os, hox.tape, hox.output, hox.size, hox.block⟩
    exact HQ.out _ _ _ _ w1 wa (Ext.refl w1) hoa hox' (hox.box hba n45).drew hbx.drew
end Go.Proofs.Ytpciankfpagnhaa
