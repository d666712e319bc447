/- A drawn region of the law JournalSurvives. -/
import Derived.Test.YtpciankfpagnhaaJ36a
namespace Go.Proofs.Ytpciankfpagnhaa
open Go.RowKit

noncomputable def code16_39 : Code := ((Try.f16.body.bind (regionOf 39)).getD .skip)
set_option maxRecDepth 100000 in
set_option maxHeartbeats 4000000 in
theorem reg16_39 {Q : Exit → Act → World → Prop} {S S2 : Nat → Prop} (t0 t1 t2 t3 t4 t5 t6 t8 t11 t12 t13 t14 t15 t16 t17 t18 t21 t22 t23 t24 t25 t26 t27 t28 t29 t30 t31 t32 t33 t34 t35 t36 t37 t38 t39 t40 t41 t42 t43 t44 t45 t46 t47 t48 t49 t50 t51 t52 t53 t54 t55 t56 t57 t58 t59 t60 t61 t62 t63 t64 t65 t66 t67 t68 t69 t70 t71 t72 t73 t74 t75 t76 t77 t78 t79 t80 t81 t82 t83 t84 t85 t86 t87 t88 t89 t90 t91 t92 t93 t94 t95 t96 t97 t98 t99 t100 t101 t102 t103 t104 t105 t106 t107 t108 t109 t110 t111 t112 t113 t114 t115 t116 t117 t118 t119 t120 t121 t122 t123 t124 t125 t126 t127 t128 t129 t130 t131 t132 t133 t134 t135 t136 t137 t138 t139 t140 t141 t142 t143 t144 t145 t146 t147 t148 t149 t150 t151 t152 t153 t154 t155 t156 t157 t158 t159 t160 t161 t162 t163 t164 t165 t166 t167 t168 t169 t170 t171 t172 t173 t174 t175 t176 t177 t178 t179 t180 t181 t182 t183 t184 t185 t186 t187 t188 t189 t190 t191 t192 t193 t194 : Value) (w1 : World) (g9 g10 g19 cz cl ck : Nat) (az al ak : Option Addr) (z x : Jn) (k : List (List UInt8)) (y0 y2 : Value)
    (h9 : Box w1 g9 [y0, .bool true, y2]) (h10 : Box w1 g10 [.slice al x.records.length cl, .int .i64 x.many, .int .i64 x.synced]) (h19 : Box w1 g19 [.slice az z.records.length cz, .int .i64 z.many, .int .i64 z.synced]) (hz : Bss S w1 (.slice az z.records.length cz) z.records) (hx0 : Bss S2 w1 (.slice al z.records.length cl) z.records) (hkz : k.length ≤ z.records.length) (hzx : z.records.length ≤ x.records.length) (hxc : x.records.length ≤ cl)
    (hQ : ∀ (u141 u142 u143 u144 u145 u146 u147 u148 u149 u150 u151 u152 u153 u154 u155 u156 u157 u158 u159 u160 u161 u162 u163 u164 u165 u166 u167 u168 u169 u170 u171 u172 u173 u174 u175 : Value) (wx : World), Ext w1 wx → Q .normal ⟨#[t0, t1, t2, t3, t4, t5, t6, .slice ak k.length ck, t8, .pointer (some ⟨g9, 0, none⟩), .pointer (some ⟨g10, 0, none⟩), t11, t12, t13, t14, t15, t16, t17, t18, .pointer (some ⟨g19, 0, none⟩), .int .i64 0, t21, t22, t23, t24, t25, t26, t27, t28, t29, t30, t31, t32, t33, t34, t35, t36, t37, t38, t39, t40, t41, t42, t43, t44, t45, t46, t47, t48, t49, t50, t51, t52, t53, t54, t55, t56, t57, t58, t59, t60, t61, t62, t63, t64, t65, t66, t67, t68, t69, t70, t71, t72, t73, t74, t75, t76, t77, t78, t79, t80, t81, t82, t83, t84, t85, t86, t87, t88, t89, t90, t91, t92, t93, t94, t95, t96, t97, t98, t99, t100, t101, t102, t103, t104, t105, t106, t107, t108, t109, t110, t111, t112, t113, t114, t115, t116, t117, t118, t119, t120, t121, t122, t123, t124, t125, t126, t127, t128, t129, t130, t131, t132, t133, t134, t135, t136, t137, t138, t139, t140, u141, u142, u143, u144, u145, u146, u147, u148, u149, u150, u151, u152, u153, u154, u155, u156, u157, u158, u159, u160, u161, u162, u163, u164, u165, u166, u167, u168, u169, u170, u171, u172, u173, u174, u175, .bool false, t177, t178, t179, t180, t181, t182, t183, t184, t185, t186, t187, t188, t189, t190, t191, t192, t193, t194], []⟩ wx) :
    Code.wp Try.prog code16_39 Q ⟨#[t0, t1, t2, t3, t4, t5, t6, .slice ak k.length ck, t8, .pointer (some ⟨g9, 0, none⟩), .pointer (some ⟨g10, 0, none⟩), t11, t12, t13, t14, t15, t16, t17, t18, .pointer (some ⟨g19, 0, none⟩), .int .i64 0, t21, t22, t23, t24, t25, t26, t27, t28, t29, t30, t31, t32, t33, t34, t35, t36, t37, t38, t39, t40, t41, t42, t43, t44, t45, t46, t47, t48, t49, t50, t51, t52, t53, t54, t55, t56, t57, t58, t59, t60, t61, t62, t63, t64, t65, t66, t67, t68, t69, t70, t71, t72, t73, t74, t75, t76, t77, t78, t79, t80, t81, t82, t83, t84, t85, t86, t87, t88, t89, t90, t91, t92, t93, t94, t95, t96, t97, t98, t99, t100, t101, t102, t103, t104, t105, t106, t107, t108, t109, t110, t111, t112, t113, t114, t115, t116, t117, t118, t119, t120, t121, t122, t123, t124, t125, t126, t127, t128, t129, t130, t131, t132, t133, t134, t135, t136, t137, t138, t139, t140, t141, t142, t143, t144, t145, t146, t147, t148, t149, t150, t151, t152, t153, t154, t155, t156, t157, t158, t159, t160, t161, t162, t163, t164, t165, t166, t167, t168, t169, t170, t171, t172, t173, t174, t175, t176, t177, t178, t179, t180, t181, t182, t183, t184, t185, t186, t187, t188, t189, t190, t191, t192, t193, t194], []⟩ w1 := by
  conv => arg 2; whnf
  have HQ := Lib.hid hQ; clear hQ
  have HZ := Lib.hid hz; clear hz
  have HX0 := Lib.hid hx0; clear hx0
  obtain ⟨c90, c91, c92, -, -, -⟩ := h9.three
  obtain ⟨c100, c101, c102, -, -, -⟩ := h10.three
  obtain ⟨c190, c191, c192, -, -, -⟩ := h19.three
  clear h9 h10 h19
  have r1 : ¬ (z.records.length : Int) < k.length := by omega
  have r2 : ¬ (x.records.length : Int) < z.records.length := by omega
  have r3 : (z.records.length : Int) ≤ x.records.length := by omega
  have r4 : (z.records.length : Int) ≤ cl := by omega
  have r5 : (0 : Int) ≤ z.records.length := by omega
  refine wp_region_rg 36 (fun _ => none) (by kernel_rfl) (by kernel_rfl) (phi [fun v _ => v = .pointer (some ⟨g9, 1, none⟩),
      fun v _ => v = .bool true,
      fun v _ => v = .bool false,
      fun v _ => v = .bool false,
      fun v _ => v = .int .i64 0,
      fun v _ => v = .bool false,
      fun v _ => v = .bool false,
      fun v _ => v = .bool false,
      fun v _ => v = .pointer (some ⟨g19, 0, none⟩),
      fun v _ => v = .slice az z.records.length cz,
      fun v _ => v = .int .i64 (z.records.length : Int),
      fun v _ => v = .slice ak k.length ck,
      fun v _ => v = .int .i64 (k.length : Int),
      fun v _ => v = .bool false,
      fun v _ => v = .bool false,
      fun v _ => v = .bool false,
      fun v _ => v = .pointer (some ⟨g19, 0, none⟩),
      fun v _ => v = .slice az z.records.length cz,
      fun v _ => v = .int .i64 (z.records.length : Int),
      fun v _ => v = .pointer (some ⟨g10, 0, none⟩),
      fun v _ => v = .slice al x.records.length cl,
      fun v _ => v = .int .i64 (x.records.length : Int),
      fun v _ => v = .bool false,
      fun v _ => v = .bool false,
      fun v _ => v = .bool false,
      fun v _ => v = .pointer (some ⟨g19, 0, none⟩),
      fun v _ => v = .slice az z.records.length cz,
      fun v _ => v = .pointer (some ⟨g10, 0, none⟩),
      fun v _ => v = .slice al x.records.length cl,
      fun v _ => v = .pointer (some ⟨g19, 0, none⟩),
      fun v _ => v = .slice az z.records.length cz,
      fun v _ => v = .int .i64 (z.records.length : Int),
      fun v _ => v = .slice al z.records.length cl,
      fun v _ => v = .bool true,
      fun v _ => v = .bool false,
      fun v _ => v = .bool false]) (phi_stable ?stable) ?steps ?tail
  case stable =>
    exact List.forall_mem_cons.2 ⟨stab_eq _, List.forall_mem_cons.2 ⟨stab_eq _, List.forall_mem_cons.2 ⟨stab_eq _, List.forall_mem_cons.2 ⟨stab_eq _, List.forall_mem_cons.2 ⟨stab_eq _, List.forall_mem_cons.2 ⟨stab_eq _, List.forall_mem_cons.2 ⟨stab_eq _, List.forall_mem_cons.2 ⟨stab_eq _, List.forall_mem_cons.2 ⟨stab_eq _, List.forall_mem_cons.2 ⟨stab_eq _, List.forall_mem_cons.2 ⟨stab_eq _, List.forall_mem_cons.2 ⟨stab_eq _, List.forall_mem_cons.2 ⟨stab_eq _, List.forall_mem_cons.2 ⟨stab_eq _, List.forall_mem_cons.2 ⟨stab_eq _, List.forall_mem_cons.2 ⟨stab_eq _, List.forall_mem_cons.2 ⟨stab_eq _, List.forall_mem_cons.2 ⟨stab_eq _, List.forall_mem_cons.2 ⟨stab_eq _, List.forall_mem_cons.2 ⟨stab_eq _, List.forall_mem_cons.2 ⟨stab_eq _, List.forall_mem_cons.2 ⟨stab_eq _, List.forall_mem_cons.2 ⟨stab_eq _, List.forall_mem_cons.2 ⟨stab_eq _, List.forall_mem_cons.2 ⟨stab_eq _, List.forall_mem_cons.2 ⟨stab_eq _, List.forall_mem_cons.2 ⟨stab_eq _, List.forall_mem_cons.2 ⟨stab_eq _, List.forall_mem_cons.2 ⟨stab_eq _, List.forall_mem_cons.2 ⟨stab_eq _, List.forall_mem_cons.2 ⟨stab_eq _, List.forall_mem_cons.2 ⟨stab_eq _, List.forall_mem_cons.2 ⟨stab_eq _, List.forall_mem_cons.2 ⟨stab_eq _, List.forall_mem_cons.2 ⟨stab_eq _, List.forall_mem_cons.2 ⟨stab_eq _, fun _ h => by cases h⟩⟩⟩⟩⟩⟩⟩⟩⟩⟩⟩⟩⟩⟩⟩⟩⟩⟩⟩⟩⟩⟩⟩⟩⟩⟩⟩⟩⟩⟩⟩⟩⟩⟩⟩⟩
  case steps =>
    simp only [List.take_succ_cons, List.take_zero]
    -- 0: slot 141 := Op.fieldAddr 73 t9 1
    refine ⟨?_, ?_⟩
    · intro v w' hx hd
      simp only [List.take_succ_cons, List.take_zero, putF, Act.put, List.setIfInBounds_toArray, List.set_cons_zero, List.set_cons_succ, Nat.reduceAdd, Nat.zero_add]
      clear hd
      rw [if_pos (by rfl)]
      intro K hK
      have q90 := hx.cell c90
      have q91 := hx.cell c91
      have q92 := hx.cell c92
      have q100 := hx.cell c100
      have q101 := hx.cell c101
      have q102 := hx.cell c102
      have q190 := hx.cell c190
      have q191 := hx.cell c191
      have q192 := hx.cell c192
      have HK := Lib.hid hK; clear hK
      go_simp
      exact HK.out _ _ (.inl (Ext.refl _)) rfl
    -- 1: slot 142 := Op.load 4 t141
    refine ⟨?_, ?_⟩
    · intro v w' hx hd
      have e0 : v 0 = .pointer (some ⟨g9, 1, none⟩) := hd 0 (by kernel_rfl)
      simp only [List.take_succ_cons, List.take_zero, putF, Act.put, List.setIfInBounds_toArray, List.set_cons_zero, List.set_cons_succ, Nat.reduceAdd, Nat.zero_add]
      simp only [e0]
      clear hd e0
      rw [if_pos (by rfl)]
      intro K hK
      have q90 := hx.cell c90
      have q91 := hx.cell c91
      have q92 := hx.cell c92
      have q100 := hx.cell c100
      have q101 := hx.cell c101
      have q102 := hx.cell c102
      have q190 := hx.cell c190
      have q191 := hx.cell c191
      have q192 := hx.cell c192
      have HK := Lib.hid hK; clear hK
      go_simp
      exact HK.out _ _ (.inl (Ext.refl _)) rfl
    -- 2: slot 143 := Op.unOp UnOp.not 4 t142
    refine ⟨?_, ?_⟩
    · intro v w' hx hd
      have e1 : v 1 = .bool true := hd 1 (by kernel_rfl)
      simp only [List.take_succ_cons, List.take_zero, putF, Act.put, List.setIfInBounds_toArray, List.set_cons_zero, List.set_cons_succ, Nat.reduceAdd, Nat.zero_add]
      simp only [e1]
      clear hd e1
      rw [if_pos (by rfl)]
      intro K hK
      have q90 := hx.cell c90
      have q91 := hx.cell c91
      have q92 := hx.cell c92
      have q100 := hx.cell c100
      have q101 := hx.cell c101
      have q102 := hx.cell c102
      have q190 := hx.cell c190
      have q191 := hx.cell c191
      have q192 := hx.cell c192
      have HK := Lib.hid hK; clear hK
      go_simp
      exact HK.out _ _ (.inl (Ext.refl _)) rfl
    -- 3: slot 144 := Op.move t143
    refine ⟨?_, ?_⟩
    · intro v w' hx hd
      have e2 : v 2 = .bool false := hd 2 (by kernel_rfl)
      simp only [List.take_succ_cons, List.take_zero, putF, Act.put, List.setIfInBounds_toArray, List.set_cons_zero, List.set_cons_succ, Nat.reduceAdd, Nat.zero_add]
      simp only [e2]
      clear hd e2
      rw [if_pos (by rfl)]
      intro K hK
      have q90 := hx.cell c90
      have q91 := hx.cell c91
      have q92 := hx.cell c92
      have q100 := hx.cell c100
      have q101 := hx.cell c101
      have q102 := hx.cell c102
      have q190 := hx.cell c190
      have q191 := hx.cell c191
      have q192 := hx.cell c192
      have HK := Lib.hid hK; clear hK
      go_simp
      exact HK.out _ _ (.inl (Ext.refl _)) rfl
    -- 4: slot 145 := Op.move t20   [guarded: some (3, false)]
    refine ⟨?_, ?_⟩
    · intro v w' hx hd
      have e3 : v 3 = .bool false := hd 3 (by kernel_rfl)
      simp only [List.take_succ_cons, List.take_zero, putF, Act.put, List.setIfInBounds_toArray, List.set_cons_zero, List.set_cons_succ, Nat.reduceAdd, Nat.zero_add]
      simp only [e3]
      clear hd e3
      rw [if_pos (by rfl)]
      intro K hK
      have q90 := hx.cell c90
      have q91 := hx.cell c91
      have q92 := hx.cell c92
      have q100 := hx.cell c100
      have q101 := hx.cell c101
      have q102 := hx.cell c102
      have q190 := hx.cell c190
      have q191 := hx.cell c191
      have q192 := hx.cell c192
      have HK := Lib.hid hK; clear hK
      go_simp
      exact HK.out _ _ (.inl (Ext.refl _)) rfl
    -- 5: slot 146 := Op.binOp BinOp.neq 28 t145 (const (0:i64)) 28   [guarded: some (3, false)]
    refine ⟨?_, ?_⟩
    · intro v w' hx hd
      have e4 : v 4 = .int .i64 0 := hd 4 (by kernel_rfl)
      have e3 : v 3 = .bool false := hd 3 (by kernel_rfl)
      simp only [List.take_succ_cons, List.take_zero, putF, Act.put, List.setIfInBounds_toArray, List.set_cons_zero, List.set_cons_succ, Nat.reduceAdd, Nat.zero_add]
      simp only [e4]
      simp only [e3]
      clear hd e4 e3
      rw [if_pos (by rfl)]
      intro K hK
      have q90 := hx.cell c90
      have q91 := hx.cell c91
      have q92 := hx.cell c92
      have q100 := hx.cell c100
      have q101 := hx.cell c101
      have q102 := hx.cell c102
      have q190 := hx.cell c190
      have q191 := hx.cell c191
      have q192 := hx.cell c192
      have HK := Lib.hid hK; clear hK
      go_simp
      exact HK.out _ _ (.inl (Ext.refl _)) rfl
    -- 6: slot 147 := Op.pick t144 (const (Value.bool true)) t146
    refine ⟨?_, ?_⟩
    · intro v w' hx hd
      have e3 : v 3 = .bool false := hd 3 (by kernel_rfl)
      have e5 : v 5 = .bool false := hd 5 (by kernel_rfl)
      simp only [List.take_succ_cons, List.take_zero, putF, Act.put, List.setIfInBounds_toArray, List.set_cons_zero, List.set_cons_succ, Nat.reduceAdd, Nat.zero_add]
      simp only [e3]
      simp only [e5]
      clear hd e3 e5
      rw [if_pos (by rfl)]
      intro K hK
      have q90 := hx.cell c90
      have q91 := hx.cell c91
      have q92 := hx.cell c92
      have q100 := hx.cell c100
      have q101 := hx.cell c101
      have q102 := hx.cell c102
      have q190 := hx.cell c190
      have q191 := hx.cell c191
      have q192 := hx.cell c192
      have HK := Lib.hid hK; clear hK
      go_simp
      exact HK.out _ _ (.inl (Ext.refl _)) rfl
    -- 7: slot 148 := Op.move t147
    refine ⟨?_, ?_⟩
    · intro v w' hx hd
      have e6 : v 6 = .bool false := hd 6 (by kernel_rfl)
      simp only [List.take_succ_cons, List.take_zero, putF, Act.put, List.setIfInBounds_toArray, List.set_cons_zero, List.set_cons_succ, Nat.reduceAdd, Nat.zero_add]
      simp only [e6]
      clear hd e6
      rw [if_pos (by rfl)]
      intro K hK
      have q90 := hx.cell c90
      have q91 := hx.cell c91
      have q92 := hx.cell c92
      have q100 := hx.cell c100
      have q101 := hx.cell c101
      have q102 := hx.cell c102
      have q190 := hx.cell c190
      have q191 := hx.cell c191
      have q192 := hx.cell c192
      have HK := Lib.hid hK; clear hK
      go_simp
      exact HK.out _ _ (.inl (Ext.refl _)) rfl
    -- 8: slot 149 := Op.fieldAddr 55 t19 0   [guarded: some (7, false)]
    refine ⟨?_, ?_⟩
    · intro v w' hx hd
      have e7 : v 7 = .bool false := hd 7 (by kernel_rfl)
      simp only [List.take_succ_cons, List.take_zero, putF, Act.put, List.setIfInBounds_toArray, List.set_cons_zero, List.set_cons_succ, Nat.reduceAdd, Nat.zero_add]
      simp only [e7]
      clear hd e7
      rw [if_pos (by rfl)]
      intro K hK
      have q90 := hx.cell c90
      have q91 := hx.cell c91
      have q92 := hx.cell c92
      have q100 := hx.cell c100
      have q101 := hx.cell c101
      have q102 := hx.cell c102
      have q190 := hx.cell c190
      have q191 := hx.cell c191
      have q192 := hx.cell c192
      have HK := Lib.hid hK; clear hK
      go_simp
      exact HK.out _ _ (.inl (Ext.refl _)) rfl
    -- 9: slot 150 := Op.load 22 t149   [guarded: some (7, false)]
    refine ⟨?_, ?_⟩
    · intro v w' hx hd
      have e8 : v 8 = .pointer (some ⟨g19, 0, none⟩) := hd 8 (by kernel_rfl)
      have e7 : v 7 = .bool false := hd 7 (by kernel_rfl)
      simp only [List.take_succ_cons, List.take_zero, putF, Act.put, List.setIfInBounds_toArray, List.set_cons_zero, List.set_cons_succ, Nat.reduceAdd, Nat.zero_add]
      simp only [e8]
      simp only [e7]
      clear hd e8 e7
      rw [if_pos (by rfl)]
      intro K hK
      have q90 := hx.cell c90
      have q91 := hx.cell c91
      have q92 := hx.cell c92
      have q100 := hx.cell c100
      have q101 := hx.cell c101
      have q102 := hx.cell c102
      have q190 := hx.cell c190
      have q191 := hx.cell c191
      have q192 := hx.cell c192
      have HK := Lib.hid hK; clear hK
      go_simp
      exact HK.out _ _ (.inl (Ext.refl _)) rfl
    -- 10: slot 151 := Op.call { builtin len, args := #[t150], argTypes := #[22] }   [guarded: some (7, false)]
    refine ⟨?_, ?_⟩
    · intro v w' hx hd
      have e9 : v 9 = .slice az z.records.length cz := hd 9 (by kernel_rfl)
      have e7 : v 7 = .bool false := hd 7 (by kernel_rfl)
      simp only [List.take_succ_cons, List.take_zero, putF, Act.put, List.setIfInBounds_toArray, List.set_cons_zero, List.set_cons_succ, Nat.reduceAdd, Nat.zero_add]
      simp only [e9]
      simp only [e7]
      clear hd e9 e7
      rw [if_pos (by rfl)]
      intro K hK
      have q90 := hx.cell c90
      have q91 := hx.cell c91
      have q92 := hx.cell c92
      have q100 := hx.cell c100
      have q101 := hx.cell c101
      have q102 := hx.cell c102
      have q190 := hx.cell c190
      have q191 := hx.cell c191
      have q192 := hx.cell c192
      have HK := Lib.hid hK; clear hK
      go_simp
      exact HK.out _ _ (.inl (Ext.refl _)) rfl
    -- 11: slot 152 := Op.move t7   [guarded: some (7, false)]
    refine ⟨?_, ?_⟩
    · intro v w' hx hd
      have e7 : v 7 = .bool false := hd 7 (by kernel_rfl)
      simp only [List.take_succ_cons, List.take_zero, putF, Act.put, List.setIfInBounds_toArray, List.set_cons_zero, List.set_cons_succ, Nat.reduceAdd, Nat.zero_add]
      simp only [e7]
      clear hd e7
      rw [if_pos (by rfl)]
      intro K hK
      have q90 := hx.cell c90
      have q91 := hx.cell c91
      have q92 := hx.cell c92
      have q100 := hx.cell c100
      have q101 := hx.cell c101
      have q102 := hx.cell c102
      have q190 := hx.cell c190
      have q191 := hx.cell c191
      have q192 := hx.cell c192
      have HK := Lib.hid hK; clear hK
      go_simp
      exact HK.out _ _ (.inl (Ext.refl _)) rfl
    -- 12: slot 153 := Op.call { builtin len, args := #[t152], argTypes := #[22] }   [guarded: some (7, false)]
    refine ⟨?_, ?_⟩
    · intro v w' hx hd
      have e11 : v 11 = .slice ak k.length ck := hd 11 (by kernel_rfl)
      have e7 : v 7 = .bool false := hd 7 (by kernel_rfl)
      simp only [List.take_succ_cons, List.take_zero, putF, Act.put, List.setIfInBounds_toArray, List.set_cons_zero, List.set_cons_succ, Nat.reduceAdd, Nat.zero_add]
      simp only [e11]
      simp only [e7]
      clear hd e11 e7
      rw [if_pos (by rfl)]
      intro K hK
      have q90 := hx.cell c90
      have q91 := hx.cell c91
      have q92 := hx.cell c92
      have q100 := hx.cell c100
      have q101 := hx.cell c101
      have q102 := hx.cell c102
      have q190 := hx.cell c190
      have q191 := hx.cell c191
      have q192 := hx.cell c192
      have HK := Lib.hid hK; clear hK
      go_simp
      exact HK.out _ _ (.inl (Ext.refl _)) rfl
    -- 13: slot 154 := Op.binOp BinOp.lss 3 t151 t153 3   [guarded: some (7, false)]
    refine ⟨?_, ?_⟩
    · intro v w' hx hd
      have e10 : v 10 = .int .i64 (z.records.length : Int) := hd 10 (by kernel_rfl)
      have e12 : v 12 = .int .i64 (k.length : Int) := hd 12 (by kernel_rfl)
      have e7 : v 7 = .bool false := hd 7 (by kernel_rfl)
      simp only [List.take_succ_cons, List.take_zero, putF, Act.put, List.setIfInBounds_toArray, List.set_cons_zero, List.set_cons_succ, Nat.reduceAdd, Nat.zero_add]
      simp only [e10]
      simp only [e12]
      simp only [e7]
      clear hd e10 e12 e7
      rw [if_pos (by rfl)]
      intro K hK
      have q90 := hx.cell c90
      have q91 := hx.cell c91
      have q92 := hx.cell c92
      have q100 := hx.cell c100
      have q101 := hx.cell c101
      have q102 := hx.cell c102
      have q190 := hx.cell c190
      have q191 := hx.cell c191
      have q192 := hx.cell c192
      have HK := Lib.hid hK; clear hK
      go_simp
      exact HK.out _ _ (.inl (Ext.refl _)) rfl
    -- 14: slot 155 := Op.pick t148 (const (Value.bool true)) t154
    refine ⟨?_, ?_⟩
    · intro v w' hx hd
      have e7 : v 7 = .bool false := hd 7 (by kernel_rfl)
      have e13 : v 13 = .bool false := hd 13 (by kernel_rfl)
      simp only [List.take_succ_cons, List.take_zero, putF, Act.put, List.setIfInBounds_toArray, List.set_cons_zero, List.set_cons_succ, Nat.reduceAdd, Nat.zero_add]
      simp only [e7]
      simp only [e13]
      clear hd e7 e13
      rw [if_pos (by rfl)]
      intro K hK
      have q90 := hx.cell c90
      have q91 := hx.cell c91
      have q92 := hx.cell c92
      have q100 := hx.cell c100
      have q101 := hx.cell c101
      have q102 := hx.cell c102
      have q190 := hx.cell c190
      have q191 := hx.cell c191
      have q192 := hx.cell c192
      have HK := Lib.hid hK; clear hK
      go_simp
      exact HK.out _ _ (.inl (Ext.refl _)) rfl
    -- 15: slot 156 := Op.move t155
    refine ⟨?_, ?_⟩
    · intro v w' hx hd
      have e14 : v 14 = .bool false := hd 14 (by kernel_rfl)
      simp only [List.take_succ_cons, List.take_zero, putF, Act.put, List.setIfInBounds_toArray, List.set_cons_zero, List.set_cons_succ, Nat.reduceAdd, Nat.zero_add]
      simp only [e14]
      clear hd e14
      rw [if_pos (by rfl)]
      intro K hK
      have q90 := hx.cell c90
      have q91 := hx.cell c91
      have q92 := hx.cell c92
      have q100 := hx.cell c100
      have q101 := hx.cell c101
      have q102 := hx.cell c102
      have q190 := hx.cell c190
      have q191 := hx.cell c191
      have q192 := hx.cell c192
      have HK := Lib.hid hK; clear hK
      go_simp
      exact HK.out _ _ (.inl (Ext.refl _)) rfl
    -- 16: slot 157 := Op.fieldAddr 55 t19 0   [guarded: some (15, false)]
    refine ⟨?_, ?_⟩
    · intro v w' hx hd
      have e15 : v 15 = .bool false := hd 15 (by kernel_rfl)
      simp only [List.take_succ_cons, List.take_zero, putF, Act.put, List.setIfInBounds_toArray, List.set_cons_zero, List.set_cons_succ, Nat.reduceAdd, Nat.zero_add]
      simp only [e15]
      clear hd e15
      rw [if_pos (by rfl)]
      intro K hK
      have q90 := hx.cell c90
      have q91 := hx.cell c91
      have q92 := hx.cell c92
      have q100 := hx.cell c100
      have q101 := hx.cell c101
      have q102 := hx.cell c102
      have q190 := hx.cell c190
      have q191 := hx.cell c191
      have q192 := hx.cell c192
      have HK := Lib.hid hK; clear hK
      go_simp
      exact HK.out _ _ (.inl (Ext.refl _)) rfl
    -- 17: slot 158 := Op.load 22 t157   [guarded: some (15, false)]
    refine ⟨?_, ?_⟩
    · intro v w' hx hd
      have e16 : v 16 = .pointer (some ⟨g19, 0, none⟩) := hd 16 (by kernel_rfl)
      have e15 : v 15 = .bool false := hd 15 (by kernel_rfl)
      simp only [List.take_succ_cons, List.take_zero, putF, Act.put, List.setIfInBounds_toArray, List.set_cons_zero, List.set_cons_succ, Nat.reduceAdd, Nat.zero_add]
      simp only [e16]
      simp only [e15]
      clear hd e16 e15
      rw [if_pos (by rfl)]
      intro K hK
      have q90 := hx.cell c90
      have q91 := hx.cell c91
      have q92 := hx.cell c92
      have q100 := hx.cell c100
      have q101 := hx.cell c101
      have q102 := hx.cell c102
      have q190 := hx.cell c190
      have q191 := hx.cell c191
      have q192 := hx.cell c192
      have HK := Lib.hid hK; clear hK
      go_simp
      exact HK.out _ _ (.inl (Ext.refl _)) rfl
    -- 18: slot 159 := Op.call { builtin len, args := #[t158], argTypes := #[22] }   [guarded: some (15, false)]
    refine ⟨?_, ?_⟩
    · intro v w' hx hd
      have e17 : v 17 = .slice az z.records.length cz := hd 17 (by kernel_rfl)
      have e15 : v 15 = .bool false := hd 15 (by kernel_rfl)
      simp only [List.take_succ_cons, List.take_zero, putF, Act.put, List.setIfInBounds_toArray, List.set_cons_zero, List.set_cons_succ, Nat.reduceAdd, Nat.zero_add]
      simp only [e17]
      simp only [e15]
      clear hd e17 e15
      rw [if_pos (by rfl)]
      intro K hK
      have q90 := hx.cell c90
      have q91 := hx.cell c91
      have q92 := hx.cell c92
      have q100 := hx.cell c100
      have q101 := hx.cell c101
      have q102 := hx.cell c102
      have q190 := hx.cell c190
      have q191 := hx.cell c191
      have q192 := hx.cell c192
      have HK := Lib.hid hK; clear hK
      go_simp
      exact HK.out _ _ (.inl (Ext.refl _)) rfl
    -- 19: slot 160 := Op.fieldAddr 55 t10 0   [guarded: some (15, false)]
    refine ⟨?_, ?_⟩
    · intro v w' hx hd
      have e15 : v 15 = .bool false := hd 15 (by kernel_rfl)
      simp only [List.take_succ_cons, List.take_zero, putF, Act.put, List.setIfInBounds_toArray, List.set_cons_zero, List.set_cons_succ, Nat.reduceAdd, Nat.zero_add]
      simp only [e15]
      clear hd e15
      rw [if_pos (by rfl)]
      intro K hK
      have q90 := hx.cell c90
      have q91 := hx.cell c91
      have q92 := hx.cell c92
      have q100 := hx.cell c100
      have q101 := hx.cell c101
      have q102 := hx.cell c102
      have q190 := hx.cell c190
      have q191 := hx.cell c191
      have q192 := hx.cell c192
      have HK := Lib.hid hK; clear hK
      go_simp
      exact HK.out _ _ (.inl (Ext.refl _)) rfl
    -- 20: slot 161 := Op.load 22 t160   [guarded: some (15, false)]
    refine ⟨?_, ?_⟩
    · intro v w' hx hd
      have e19 : v 19 = .pointer (some ⟨g10, 0, none⟩) := hd 19 (by kernel_rfl)
      have e15 : v 15 = .bool false := hd 15 (by kernel_rfl)
      simp only [List.take_succ_cons, List.take_zero, putF, Act.put, List.setIfInBounds_toArray, List.set_cons_zero, List.set_cons_succ, Nat.reduceAdd, Nat.zero_add]
      simp only [e19]
      simp only [e15]
      clear hd e19 e15
      rw [if_pos (by rfl)]
      intro K hK
      have q90 := hx.cell c90
      have q91 := hx.cell c91
      have q92 := hx.cell c92
      have q100 := hx.cell c100
      have q101 := hx.cell c101
      have q102 := hx.cell c102
      have q190 := hx.cell c190
      have q191 := hx.cell c191
      have q192 := hx.cell c192
      have HK := Lib.hid hK; clear hK
      go_simp
      exact HK.out _ _ (.inl (Ext.refl _)) rfl
    -- 21: slot 162 := Op.call { builtin len, args := #[t161], argTypes := #[22] }   [guarded: some (15, false)]
    refine ⟨?_, ?_⟩
    · intro v w' hx hd
      have e20 : v 20 = .slice al x.records.length cl := hd 20 (by kernel_rfl)
      have e15 : v 15 = .bool false := hd 15 (by kernel_rfl)
      simp only [List.take_succ_cons, List.take_zero, putF, Act.put, List.setIfInBounds_toArray, List.set_cons_zero, List.set_cons_succ, Nat.reduceAdd, Nat.zero_add]
      simp only [e20]
      simp only [e15]
      clear hd e20 e15
      rw [if_pos (by rfl)]
      intro K hK
      have q90 := hx.cell c90
      have q91 := hx.cell c91
      have q92 := hx.cell c92
      have q100 := hx.cell c100
      have q101 := hx.cell c101
      have q102 := hx.cell c102
      have q190 := hx.cell c190
      have q191 := hx.cell c191
      have q192 := hx.cell c192
      have HK := Lib.hid hK; clear hK
      go_simp
      exact HK.out _ _ (.inl (Ext.refl _)) rfl
    -- 22: slot 163 := Op.binOp BinOp.gtr 3 t159 t162 3   [guarded: some (15, false)]
    refine ⟨?_, ?_⟩
    · intro v w' hx hd
      have e18 : v 18 = .int .i64 (z.records.length : Int) := hd 18 (by kernel_rfl)
      have e21 : v 21 = .int .i64 (x.records.length : Int) := hd 21 (by kernel_rfl)
      have e15 : v 15 = .bool false := hd 15 (by kernel_rfl)
      simp only [List.take_succ_cons, List.take_zero, putF, Act.put, List.setIfInBounds_toArray, List.set_cons_zero, List.set_cons_succ, Nat.reduceAdd, Nat.zero_add]
      simp only [e18]
      simp only [e21]
      simp only [e15]
      clear hd e18 e21 e15
      rw [if_pos (by rfl)]
      intro K hK
      have q90 := hx.cell c90
      have q91 := hx.cell c91
      have q92 := hx.cell c92
      have q100 := hx.cell c100
      have q101 := hx.cell c101
      have q102 := hx.cell c102
      have q190 := hx.cell c190
      have q191 := hx.cell c191
      have q192 := hx.cell c192
      have HK := Lib.hid hK; clear hK
      go_simp
      exact HK.out _ _ (.inl (Ext.refl _)) rfl
    -- 23: slot 164 := Op.pick t156 (const (Value.bool true)) t163
    refine ⟨?_, ?_⟩
    · intro v w' hx hd
      have e15 : v 15 = .bool false := hd 15 (by kernel_rfl)
      have e22 : v 22 = .bool false := hd 22 (by kernel_rfl)
      simp only [List.take_succ_cons, List.take_zero, putF, Act.put, List.setIfInBounds_toArray, List.set_cons_zero, List.set_cons_succ, Nat.reduceAdd, Nat.zero_add]
      simp only [e15]
      simp only [e22]
      clear hd e15 e22
      rw [if_pos (by rfl)]
      intro K hK
      have q90 := hx.cell c90
      have q91 := hx.cell c91
      have q92 := hx.cell c92
      have q100 := hx.cell c100
      have q101 := hx.cell c101
      have q102 := hx.cell c102
      have q190 := hx.cell c190
      have q191 := hx.cell c191
      have q192 := hx.cell c192
      have HK := Lib.hid hK; clear hK
      go_simp
      exact HK.out _ _ (.inl (Ext.refl _)) rfl
    -- 24: slot 165 := Op.move t164
    refine ⟨?_, ?_⟩
    · intro v w' hx hd
      have e23 : v 23 = .bool false := hd 23 (by kernel_rfl)
      simp only [List.take_succ_cons, List.take_zero, putF, Act.put, List.setIfInBounds_toArray, List.set_cons_zero, List.set_cons_succ, Nat.reduceAdd, Nat.zero_add]
      simp only [e23]
      clear hd e23
      rw [if_pos (by rfl)]
      intro K hK
      have q90 := hx.cell c90
      have q91 := hx.cell c91
      have q92 := hx.cell c92
      have q100 := hx.cell c100
      have q101 := hx.cell c101
      have q102 := hx.cell c102
      have q190 := hx.cell c190
      have q191 := hx.cell c191
      have q192 := hx.cell c192
      have HK := Lib.hid hK; clear hK
      go_simp
      exact HK.out _ _ (.inl (Ext.refl _)) rfl
    -- 25: slot 166 := Op.fieldAddr 55 t19 0   [guarded: some (24, false)]
    refine ⟨?_, ?_⟩
    · intro v w' hx hd
      have e24 : v 24 = .bool false := hd 24 (by kernel_rfl)
      simp only [List.take_succ_cons, List.take_zero, putF, Act.put, List.setIfInBounds_toArray, List.set_cons_zero, List.set_cons_succ, Nat.reduceAdd, Nat.zero_add]
      simp only [e24]
      clear hd e24
      rw [if_pos (by rfl)]
      intro K hK
      have q90 := hx.cell c90
      have q91 := hx.cell c91
      have q92 := hx.cell c92
      have q100 := hx.cell c100
      have q101 := hx.cell c101
      have q102 := hx.cell c102
      have q190 := hx.cell c190
      have q191 := hx.cell c191
      have q192 := hx.cell c192
      have HK := Lib.hid hK; clear hK
      go_simp
      exact HK.out _ _ (.inl (Ext.refl _)) rfl
    -- 26: slot 167 := Op.load 22 t166   [guarded: some (24, false)]
    refine ⟨?_, ?_⟩
    · intro v w' hx hd
      have e25 : v 25 = .pointer (some ⟨g19, 0, none⟩) := hd 25 (by kernel_rfl)
      have e24 : v 24 = .bool false := hd 24 (by kernel_rfl)
      simp only [List.take_succ_cons, List.take_zero, putF, Act.put, List.setIfInBounds_toArray, List.set_cons_zero, List.set_cons_succ, Nat.reduceAdd, Nat.zero_add]
      simp only [e25]
      simp only [e24]
      clear hd e25 e24
      rw [if_pos (by rfl)]
      intro K hK
      have q90 := hx.cell c90
      have q91 := hx.cell c91
      have q92 := hx.cell c92
      have q100 := hx.cell c100
      have q101 := hx.cell c101
      have q102 := hx.cell c102
      have q190 := hx.cell c190
      have q191 := hx.cell c191
      have q192 := hx.cell c192
      have HK := Lib.hid hK; clear hK
      go_simp
      exact HK.out _ _ (.inl (Ext.refl _)) rfl
    -- 27: slot 168 := Op.fieldAddr 55 t10 0   [guarded: some (24, false)]
    refine ⟨?_, ?_⟩
    · intro v w' hx hd
      have e24 : v 24 = .bool false := hd 24 (by kernel_rfl)
      simp only [List.take_succ_cons, List.take_zero, putF, Act.put, List.setIfInBounds_toArray, List.set_cons_zero, List.set_cons_succ, Nat.reduceAdd, Nat.zero_add]
      simp only [e24]
      clear hd e24
      rw [if_pos (by rfl)]
      intro K hK
      have q90 := hx.cell c90
      have q91 := hx.cell c91
      have q92 := hx.cell c92
      have q100 := hx.cell c100
      have q101 := hx.cell c101
      have q102 := hx.cell c102
      have q190 := hx.cell c190
      have q191 := hx.cell c191
      have q192 := hx.cell c192
      have HK := Lib.hid hK; clear hK
      go_simp
      exact HK.out _ _ (.inl (Ext.refl _)) rfl
    -- 28: slot 169 := Op.load 22 t168   [guarded: some (24, false)]
    refine ⟨?_, ?_⟩
    · intro v w' hx hd
      have e27 : v 27 = .pointer (some ⟨g10, 0, none⟩) := hd 27 (by kernel_rfl)
      have e24 : v 24 = .bool false := hd 24 (by kernel_rfl)
      simp only [List.take_succ_cons, List.take_zero, putF, Act.put, List.setIfInBounds_toArray, List.set_cons_zero, List.set_cons_succ, Nat.reduceAdd, Nat.zero_add]
      simp only [e27]
      simp only [e24]
      clear hd e27 e24
      rw [if_pos (by rfl)]
      intro K hK
      have q90 := hx.cell c90
      have q91 := hx.cell c91
      have q92 := hx.cell c92
      have q100 := hx.cell c100
      have q101 := hx.cell c101
      have q102 := hx.cell c102
      have q190 := hx.cell c190
      have q191 := hx.cell c191
      have q192 := hx.cell c192
      have HK := Lib.hid hK; clear hK
      go_simp
      exact HK.out _ _ (.inl (Ext.refl _)) rfl
    -- 29: slot 170 := Op.fieldAddr 55 t19 0   [guarded: some (24, false)]
    refine ⟨?_, ?_⟩
    · intro v w' hx hd
      have e24 : v 24 = .bool false := hd 24 (by kernel_rfl)
      simp only [List.take_succ_cons, List.take_zero, putF, Act.put, List.setIfInBounds_toArray, List.set_cons_zero, List.set_cons_succ, Nat.reduceAdd, Nat.zero_add]
      simp only [e24]
      clear hd e24
      rw [if_pos (by rfl)]
      intro K hK
      have q90 := hx.cell c90
      have q91 := hx.cell c91
      have q92 := hx.cell c92
      have q100 := hx.cell c100
      have q101 := hx.cell c101
      have q102 := hx.cell c102
      have q190 := hx.cell c190
      have q191 := hx.cell c191
      have q192 := hx.cell c192
      have HK := Lib.hid hK; clear hK
      go_simp
      exact HK.out _ _ (.inl (Ext.refl _)) rfl
    -- 30: slot 171 := Op.load 22 t170   [guarded: some (24, false)]
    refine ⟨?_, ?_⟩
    · intro v w' hx hd
      have e29 : v 29 = .pointer (some ⟨g19, 0, none⟩) := hd 29 (by kernel_rfl)
      have e24 : v 24 = .bool false := hd 24 (by kernel_rfl)
      simp only [List.take_succ_cons, List.take_zero, putF, Act.put, List.setIfInBounds_toArray, List.set_cons_zero, List.set_cons_succ, Nat.reduceAdd, Nat.zero_add]
      simp only [e29]
      simp only [e24]
      clear hd e29 e24
      rw [if_pos (by rfl)]
      intro K hK
      have q90 := hx.cell c90
      have q91 := hx.cell c91
      have q92 := hx.cell c92
      have q100 := hx.cell c100
      have q101 := hx.cell c101
      have q102 := hx.cell c102
      have q190 := hx.cell c190
      have q191 := hx.cell c191
      have q192 := hx.cell c192
      have HK := Lib.hid hK; clear hK
      go_simp
      exact HK.out _ _ (.inl (Ext.refl _)) rfl
    -- 31: slot 172 := Op.call { builtin len, args := #[t171], argTypes := #[22] }   [guarded: some (24, false)]
    refine ⟨?_, ?_⟩
    · intro v w' hx hd
      have e30 : v 30 = .slice az z.records.length cz := hd 30 (by kernel_rfl)
      have e24 : v 24 = .bool false := hd 24 (by kernel_rfl)
      simp only [List.take_succ_cons, List.take_zero, putF, Act.put, List.setIfInBounds_toArray, List.set_cons_zero, List.set_cons_succ, Nat.reduceAdd, Nat.zero_add]
      simp only [e30]
      simp only [e24]
      clear hd e30 e24
      rw [if_pos (by rfl)]
      intro K hK
      have q90 := hx.cell c90
      have q91 := hx.cell c91
      have q92 := hx.cell c92
      have q100 := hx.cell c100
      have q101 := hx.cell c101
      have q102 := hx.cell c102
      have q190 := hx.cell c190
      have q191 := hx.cell c191
      have q192 := hx.cell c192
      have HK := Lib.hid hK; clear hK
      go_simp
      exact HK.out _ _ (.inl (Ext.refl _)) rfl
    -- 32: slot 173 := Op.slice 22 t169 none (some t172) none   [guarded: some (24, false)]
    refine ⟨?_, ?_⟩
    · intro v w' hx hd
      have e28 : v 28 = .slice al x.records.length cl := hd 28 (by kernel_rfl)
      have e31 : v 31 = .int .i64 (z.records.length : Int) := hd 31 (by kernel_rfl)
      have e24 : v 24 = .bool false := hd 24 (by kernel_rfl)
      simp only [List.take_succ_cons, List.take_zero, putF, Act.put, List.setIfInBounds_toArray, List.set_cons_zero, List.set_cons_succ, Nat.reduceAdd, Nat.zero_add]
      simp only [e28]
      simp only [e31]
      simp only [e24]
      clear hd e28 e31 e24
      rw [if_pos (by rfl)]
      intro K hK
      have q90 := hx.cell c90
      have q91 := hx.cell c91
      have q92 := hx.cell c92
      have q100 := hx.cell c100
      have q101 := hx.cell c101
      have q102 := hx.cell c102
      have q190 := hx.cell c190
      have q191 := hx.cell c191
      have q192 := hx.cell c192
      have HK := Lib.hid hK; clear hK
      go_simp
      exact HK.out _ _ (.inl (Ext.refl _)) rfl
    -- 33: slot 174 := Op.call { value (Operand.func 49), args := #[t167, t173], argTypes := #[22, 22] }   [guard
    refine ⟨?_, ?_⟩
    · intro v w' hx hd
      have e26 : v 26 = .slice az z.records.length cz := hd 26 (by kernel_rfl)
      have e32 : v 32 = .slice al z.records.length cl := hd 32 (by kernel_rfl)
      have e24 : v 24 = .bool false := hd 24 (by kernel_rfl)
      simp only [List.take_succ_cons, List.take_zero, putF, Act.put, List.setIfInBounds_toArray, List.set_cons_zero, List.set_cons_succ, Nat.reduceAdd, Nat.zero_add]
      simp only [e26]
      simp only [e32]
      simp only [e24]
      clear hd e26 e32 e24
      rw [if_pos (by rfl)]
      intro K hK
      have q90 := hx.cell c90
      have q91 := hx.cell c91
      have q92 := hx.cell c92
      have q100 := hx.cell c100
      have q101 := hx.cell c101
      have q102 := hx.cell c102
      have q190 := hx.cell c190
      have q191 := hx.cell c191
      have q192 := hx.cell c192
      have HK := Lib.hid hK; clear hK
      go_simp
      have k0 := sameRecords_ok w' _ _ z.records z.records (Bss.keep HZ.out hx) (Bss.keep HX0.out hx)
      rw [decide_eq_true rfl] at k0
      refine k0.mono ?_
      rintro e w2 ⟨rfl, m, rfl⟩
      exact HK.out _ _ (.inl (Ext.drewN _ m)) rfl
    -- 34: slot 175 := Op.unOp UnOp.not 4 t174   [guarded: some (24, false)]
    refine ⟨?_, ?_⟩
    · intro v w' hx hd
      have e33 : v 33 = .bool true := hd 33 (by kernel_rfl)
      have e24 : v 24 = .bool false := hd 24 (by kernel_rfl)
      simp only [List.take_succ_cons, List.take_zero, putF, Act.put, List.setIfInBounds_toArray, List.set_cons_zero, List.set_cons_succ, Nat.reduceAdd, Nat.zero_add]
      simp only [e33]
      simp only [e24]
      clear hd e33 e24
      rw [if_pos (by rfl)]
      intro K hK
      have q90 := hx.cell c90
      have q91 := hx.cell c91
      have q92 := hx.cell c92
      have q100 := hx.cell c100
      have q101 := hx.cell c101
      have q102 := hx.cell c102
      have q190 := hx.cell c190
      have q191 := hx.cell c191
      have q192 := hx.cell c192
      have HK := Lib.hid hK; clear hK
      go_simp
      exact HK.out _ _ (.inl (Ext.refl _)) rfl
    -- 35: slot 176 := Op.pick t165 (const (Value.bool true)) t175
    refine ⟨?_, ?_⟩
    · intro v w' hx hd
      have e24 : v 24 = .bool false := hd 24 (by kernel_rfl)
      have e34 : v 34 = .bool false := hd 34 (by kernel_rfl)
      simp only [List.take_succ_cons, List.take_zero, putF, Act.put, List.setIfInBounds_toArray, List.set_cons_zero, List.set_cons_succ, Nat.reduceAdd, Nat.zero_add]
      simp only [e24]
      simp only [e34]
      clear hd e24 e34
      rw [if_pos (by rfl)]
      intro K hK
      have q90 := hx.cell c90
      have q91 := hx.cell c91
      have q92 := hx.cell c92
      have q100 := hx.cell c100
      have q101 := hx.cell c101
      have q102 := hx.cell c102
      have q190 := hx.cell c190
      have q191 := hx.cell c191
      have q192 := hx.cell c192
      have HK := Lib.hid hK; clear hK
      go_simp
      exact HK.out _ _ (.inl (Ext.refl _)) rfl
    exact trivial
  case tail =>
    intro v w' hx hall
    simp only [List.drop_succ_cons, List.drop_zero, List.take_succ_cons, List.take_zero, putF, Act.put, List.setIfInBounds_toArray, List.set_cons_zero, List.set_cons_succ, Nat.reduceAdd, Nat.zero_add]
    have e35 : v 35 = .bool false := hall 35 (by decide) (fun k hk => by simp at hk)
    simp only [e35]
    have HX2 := Lib.hid hx; clear hx
    clear hall e35
    exact HQ.out _ _ _ _ _ _ _ _ _ _ _ _ _ _ _ _ _ _ _ _ _ _ _ _ _ _ _ _ _ _ _ _ _ _ _ w' HX2.out
end Go.Proofs.Ytpciankfpagnhaa
