/- A drawn region of the law JournalDamage. -/
import Derived.Test.YtpciankfpagnhaaJ28
namespace Go.Proofs.Ytpciankfpagnhaa
open Go.RowKit

noncomputable def code14_35 : Code := ((Try.f14.body.bind (regionOf 35)).getD .skip)
set_option maxRecDepth 100000 in
set_option maxHeartbeats 4000000 in
theorem reg14_35 {Q : Exit → Act → World → Prop} {S S2 : Nat → Prop} (t0 t1 t2 t3 t4 t5 t6 t7 t8 t9 t10 t12 t13 t14 t15 t16 t17 t18 t19 t20 t22 t23 t28 t29 t30 t31 t32 t33 t34 t35 t36 t37 t38 t39 t40 t41 t42 t43 t44 t45 t46 t47 t48 t49 t50 t51 t52 t53 t54 t55 t56 t57 t58 t59 t60 t61 t62 t63 t64 t65 t66 t67 t68 t69 t70 t71 t72 t73 t74 t75 t76 t77 t78 t79 t80 t81 t82 t83 t84 t85 t86 t87 t88 t89 t90 t91 t92 t93 t94 t95 t96 t97 t98 t99 t100 t101 t102 t103 t104 t105 t106 t107 t108 t109 t110 t111 t112 t113 t114 t115 t116 t117 t118 t119 t120 t121 t122 t123 t124 t125 t126 t127 t128 t129 t130 t131 t132 t133 t134 t135 t136 t137 t138 t139 t140 t141 t142 t143 t144 t145 t146 t147 t148 t149 t150 t151 t152 t153 t154 t155 t156 t157 t158 t159 t160 t161 t162 t163 t164 t165 t166 t167 t168 t169 t170 t171 t172 t173 t174 t175 t176 t177 t178 t179 t180 t181 t182 t183 t184 t185 t186 t187 t188 t189 t190 t191 t192 t193 t194 t195 t196 t197 t198 t199 t200 t201 t202 t203 t204 t205 t206 t207 t208 t209 t210 : Value) (w1 : World) (g11 g25 cz cl m : Nat) (az al : Option Addr) (z x : Jn)
    (h11 : Box w1 g11 [.slice al x.records.length cl, .int .i64 x.many, .int .i64 x.synced]) (h25 : Box w1 g25 [.slice az z.records.length cz, .int .i64 z.many, .int .i64 z.synced]) (hz : Bss S w1 (.slice az z.records.length cz) z.records) (hx0 : Bss S2 w1 (.slice al m cl) z.records) (hm : m ≤ x.records.length) (hxc : x.records.length ≤ cl)
    (hQ : ∀ (u192 u193 u194 u195 u196 u197 u198 u199 u200 u201 u202 u203 u204 u205 u206 u207 u208 u209 u210 : Value) (wx : World), Ext w1 wx → Q .normal ⟨#[t0, t1, t2, t3, t4, t5, t6, t7, .bool true, t9, t10, .pointer (some ⟨g11, 0, none⟩), t12, t13, t14, t15, t16, t17, t18, t19, t20, .int .i64 0, t22, t23, .int .i64 0, .pointer (some ⟨g25, 0, none⟩), .int .i64 0, .int .i64 (m : Int), t28, t29, t30, t31, t32, t33, t34, t35, t36, t37, t38, t39, t40, t41, t42, t43, t44, t45, t46, t47, t48, t49, t50, t51, t52, t53, t54, t55, t56, t57, t58, t59, t60, t61, t62, t63, t64, t65, t66, t67, t68, t69, t70, t71, t72, t73, t74, t75, t76, t77, t78, t79, t80, t81, t82, t83, t84, t85, t86, t87, t88, t89, t90, t91, t92, t93, t94, t95, t96, t97, t98, t99, t100, t101, t102, t103, t104, t105, t106, t107, t108, t109, t110, t111, t112, t113, t114, t115, t116, t117, t118, t119, t120, t121, t122, t123, t124, t125, t126, t127, t128, t129, t130, t131, t132, t133, t134, t135, t136, t137, t138, t139, t140, t141, t142, t143, t144, t145, t146, t147, t148, t149, t150, t151, t152, t153, t154, t155, t156, t157, t158, t159, t160, t161, t162, t163, t164, t165, t166, t167, t168, t169, t170, t171, t172, t173, t174, t175, t176, t177, t178, t179, t180, t181, t182, t183, t184, t185, t186, t187, t188, t189, t190, t191, u192, u193, u194, u195, u196, u197, u198, u199, u200, u201, u202, u203, u204, u205, u206, u207, u208, u209, u210], []⟩ wx) :
    Code.wp Try.prog code14_35 Q ⟨#[t0, t1, t2, t3, t4, t5, t6, t7, t8, t9, t10, .pointer (some ⟨g11, 0, none⟩), t12, t13, t14, t15, t16, t17, t18, t19, t20, .int .i64 0, t22, t23, .int .i64 0, .pointer (some ⟨g25, 0, none⟩), .int .i64 0, .int .i64 (m : Int), t28, t29, t30, t31, t32, t33, t34, t35, t36, t37, t38, t39, t40, t41, t42, t43, t44, t45, t46, t47, t48, t49, t50, t51, t52, t53, t54, t55, t56, t57, t58, t59, t60, t61, t62, t63, t64, t65, t66, t67, t68, t69, t70, t71, t72, t73, t74, t75, t76, t77, t78, t79, t80, t81, t82, t83, t84, t85, t86, t87, t88, t89, t90, t91, t92, t93, t94, t95, t96, t97, t98, t99, t100, t101, t102, t103, t104, t105, t106, t107, t108, t109, t110, t111, t112, t113, t114, t115, t116, t117, t118, t119, t120, t121, t122, t123, t124, t125, t126, t127, t128, t129, t130, t131, t132, t133, t134, t135, t136, t137, t138, t139, t140, t141, t142, t143, t144, t145, t146, t147, t148, t149, t150, t151, t152, t153, t154, t155, t156, t157, t158, t159, t160, t161, t162, t163, t164, t165, t166, t167, t168, t169, t170, t171, t172, t173, t174, t175, t176, t177, t178, t179, t180, t181, t182, t183, t184, t185, t186, t187, t188, t189, t190, t191, t192, t193, t194, t195, t196, t197, t198, t199, t200, t201, t202, t203, t204, t205, t206, t207, t208, t209, t210], []⟩ w1 := by
  conv => arg 2; whnf
  have HQ := Lib.hid hQ; clear hQ
  have HZ := Lib.hid hz; clear hz
  have HX0 := Lib.hid hx0; clear hx0
  obtain ⟨c110, c111, c112, -, -, -⟩ := h11.three
  obtain ⟨c250, c251, c252, -, -, -⟩ := h25.three
  clear h11 h25
  have r3 : (m : Int) ≤ x.records.length := by omega
  have r4 : (m : Int) ≤ cl := by omega
  have r5 : (0 : Int) ≤ m := by omega
  refine wp_region_rg 19 (fun _ => none) (by kernel_rfl) (by kernel_rfl) (phi [fun v _ => v = .int .i64 0,
      fun v _ => v = .bool true,
      fun v _ => v = .bool true,
      fun v _ => v = .int .i64 0,
      fun v _ => v = .bool true,
      fun v _ => v = .bool true,
      fun v _ => v = .bool true,
      fun v _ => v = .int .i64 0,
      fun v _ => v = .bool true,
      fun v _ => v = .bool true,
      fun v _ => v = .bool true,
      fun v _ => v = .pointer (some ⟨g25, 0, none⟩),
      fun v _ => v = .slice az z.records.length cz,
      fun v _ => v = .pointer (some ⟨g11, 0, none⟩),
      fun v _ => v = .slice al x.records.length cl,
      fun v _ => v = .int .i64 (m : Int),
      fun v _ => v = .slice al m cl,
      fun v _ => v = .bool true,
      fun v _ => v = .bool true]) (phi_stable ?stable) ?steps ?tail
  case stable =>
    exact List.forall_mem_cons.2 ⟨stab_eq _, List.forall_mem_cons.2 ⟨stab_eq _, List.forall_mem_cons.2 ⟨stab_eq _, List.forall_mem_cons.2 ⟨stab_eq _, List.forall_mem_cons.2 ⟨stab_eq _, List.forall_mem_cons.2 ⟨stab_eq _, List.forall_mem_cons.2 ⟨stab_eq _, List.forall_mem_cons.2 ⟨stab_eq _, List.forall_mem_cons.2 ⟨stab_eq _, List.forall_mem_cons.2 ⟨stab_eq _, List.forall_mem_cons.2 ⟨stab_eq _, List.forall_mem_cons.2 ⟨stab_eq _, List.forall_mem_cons.2 ⟨stab_eq _, List.forall_mem_cons.2 ⟨stab_eq _, List.forall_mem_cons.2 ⟨stab_eq _, List.forall_mem_cons.2 ⟨stab_eq _, List.forall_mem_cons.2 ⟨stab_eq _, List.forall_mem_cons.2 ⟨stab_eq _, List.forall_mem_cons.2 ⟨stab_eq _, fun _ h => by cases h⟩⟩⟩⟩⟩⟩⟩⟩⟩⟩⟩⟩⟩⟩⟩⟩⟩⟩⟩
  case steps =>
    simp only [List.take_succ_cons, List.take_zero]
    -- 0: slot 192 := Op.move t21
    refine ⟨?_, ?_⟩
    · intro v w' hx hd
      simp only [List.take_succ_cons, List.take_zero, putF, Act.put, List.setIfInBounds_toArray, List.set_cons_zero, List.set_cons_succ, Nat.reduceAdd, Nat.zero_add]
      clear hd
      rw [if_pos (by rfl)]
      intro K hK
      have q110 := hx.cell c110
      have q111 := hx.cell c111
      have q112 := hx.cell c112
      have q250 := hx.cell c250
      have q251 := hx.cell c251
      have q252 := hx.cell c252
      have HK := Lib.hid hK; clear hK
      go_simp
      exact HK.out _ _ (.inl (Ext.refl _)) rfl
    -- 1: slot 193 := Op.binOp BinOp.eql 28 t192 (const (0:i64)) 28
    refine ⟨?_, ?_⟩
    · intro v w' hx hd
      have e0 : v 0 = .int .i64 0 := hd 0 (by kernel_rfl)
      simp only [List.take_succ_cons, List.take_zero, putF, Act.put, List.setIfInBounds_toArray, List.set_cons_zero, List.set_cons_succ, Nat.reduceAdd, Nat.zero_add]
      simp only [e0]
      clear hd e0
      rw [if_pos (by rfl)]
      intro K hK
      have q110 := hx.cell c110
      have q111 := hx.cell c111
      have q112 := hx.cell c112
      have q250 := hx.cell c250
      have q251 := hx.cell c251
      have q252 := hx.cell c252
      have HK := Lib.hid hK; clear hK
      go_simp
      exact HK.out _ _ (.inl (Ext.refl _)) rfl
    -- 2: slot 194 := Op.move t193
    refine ⟨?_, ?_⟩
    · intro v w' hx hd
      have e1 : v 1 = .bool true := hd 1 (by kernel_rfl)
      simp only [List.take_succ_cons, List.take_zero, putF, Act.put, List.setIfInBounds_toArray, List.set_cons_zero, List.set_cons_succ, Nat.reduceAdd, Nat.zero_add]
      simp only [e1]
      clear hd e1
      rw [if_pos (by rfl)]
      intro K hK
      have q110 := hx.cell c110
      have q111 := hx.cell c111
      have q112 := hx.cell c112
      have q250 := hx.cell c250
      have q251 := hx.cell c251
      have q252 := hx.cell c252
      have HK := Lib.hid hK; clear hK
      go_simp
      exact HK.out _ _ (.inl (Ext.refl _)) rfl
    -- 3: slot 195 := Op.move t24   [guarded: some (2, true)]
    refine ⟨?_, ?_⟩
    · intro v w' hx hd
      have e2 : v 2 = .bool true := hd 2 (by kernel_rfl)
      simp only [List.take_succ_cons, List.take_zero, putF, Act.put, List.setIfInBounds_toArray, List.set_cons_zero, List.set_cons_succ, Nat.reduceAdd, Nat.zero_add]
      simp only [e2]
      clear hd e2
      rw [if_pos (by rfl)]
      intro K hK
      have q110 := hx.cell c110
      have q111 := hx.cell c111
      have q112 := hx.cell c112
      have q250 := hx.cell c250
      have q251 := hx.cell c251
      have q252 := hx.cell c252
      have HK := Lib.hid hK; clear hK
      go_simp
      exact HK.out _ _ (.inl (Ext.refl _)) rfl
    -- 4: slot 196 := Op.binOp BinOp.eql 28 t195 (const (0:i64)) 28   [guarded: some (2, true)]
    refine ⟨?_, ?_⟩
    · intro v w' hx hd
      have e3 : v 3 = .int .i64 0 := hd 3 (by kernel_rfl)
      have e2 : v 2 = .bool true := hd 2 (by kernel_rfl)
      simp only [List.take_succ_cons, List.take_zero, putF, Act.put, List.setIfInBounds_toArray, List.set_cons_zero, List.set_cons_succ, Nat.reduceAdd, Nat.zero_add]
      simp only [e3]
      simp only [e2]
      clear hd e3 e2
      rw [if_pos (by rfl)]
      intro K hK
      have q110 := hx.cell c110
      have q111 := hx.cell c111
      have q112 := hx.cell c112
      have q250 := hx.cell c250
      have q251 := hx.cell c251
      have q252 := hx.cell c252
      have HK := Lib.hid hK; clear hK
      go_simp
      exact HK.out _ _ (.inl (Ext.refl _)) rfl
    -- 5: slot 197 := Op.pick t194 t196 (const (Value.bool false))
    refine ⟨?_, ?_⟩
    · intro v w' hx hd
      have e2 : v 2 = .bool true := hd 2 (by kernel_rfl)
      have e4 : v 4 = .bool true := hd 4 (by kernel_rfl)
      simp only [List.take_succ_cons, List.take_zero, putF, Act.put, List.setIfInBounds_toArray, List.set_cons_zero, List.set_cons_succ, Nat.reduceAdd, Nat.zero_add]
      simp only [e2]
      simp only [e4]
      clear hd e2 e4
      rw [if_pos (by rfl)]
      intro K hK
      have q110 := hx.cell c110
      have q111 := hx.cell c111
      have q112 := hx.cell c112
      have q250 := hx.cell c250
      have q251 := hx.cell c251
      have q252 := hx.cell c252
      have HK := Lib.hid hK; clear hK
      go_simp
      exact HK.out _ _ (.inl (Ext.refl _)) rfl
    -- 6: slot 198 := Op.move t197
    refine ⟨?_, ?_⟩
    · intro v w' hx hd
      have e5 : v 5 = .bool true := hd 5 (by kernel_rfl)
      simp only [List.take_succ_cons, List.take_zero, putF, Act.put, List.setIfInBounds_toArray, List.set_cons_zero, List.set_cons_succ, Nat.reduceAdd, Nat.zero_add]
      simp only [e5]
      clear hd e5
      rw [if_pos (by rfl)]
      intro K hK
      have q110 := hx.cell c110
      have q111 := hx.cell c111
      have q112 := hx.cell c112
      have q250 := hx.cell c250
      have q251 := hx.cell c251
      have q252 := hx.cell c252
      have HK := Lib.hid hK; clear hK
      go_simp
      exact HK.out _ _ (.inl (Ext.refl _)) rfl
    -- 7: slot 199 := Op.move t26   [guarded: some (6, true)]
    refine ⟨?_, ?_⟩
    · intro v w' hx hd
      have e6 : v 6 = .bool true := hd 6 (by kernel_rfl)
      simp only [List.take_succ_cons, List.take_zero, putF, Act.put, List.setIfInBounds_toArray, List.set_cons_zero, List.set_cons_succ, Nat.reduceAdd, Nat.zero_add]
      simp only [e6]
      clear hd e6
      rw [if_pos (by rfl)]
      intro K hK
      have q110 := hx.cell c110
      have q111 := hx.cell c111
      have q112 := hx.cell c112
      have q250 := hx.cell c250
      have q251 := hx.cell c251
      have q252 := hx.cell c252
      have HK := Lib.hid hK; clear hK
      go_simp
      exact HK.out _ _ (.inl (Ext.refl _)) rfl
    -- 8: slot 200 := Op.binOp BinOp.eql 28 t199 (const (0:i64)) 28   [guarded: some (6, true)]
    refine ⟨?_, ?_⟩
    · intro v w' hx hd
      have e7 : v 7 = .int .i64 0 := hd 7 (by kernel_rfl)
      have e6 : v 6 = .bool true := hd 6 (by kernel_rfl)
      simp only [List.take_succ_cons, List.take_zero, putF, Act.put, List.setIfInBounds_toArray, List.set_cons_zero, List.set_cons_succ, Nat.reduceAdd, Nat.zero_add]
      simp only [e7]
      simp only [e6]
      clear hd e7 e6
      rw [if_pos (by rfl)]
      intro K hK
      have q110 := hx.cell c110
      have q111 := hx.cell c111
      have q112 := hx.cell c112
      have q250 := hx.cell c250
      have q251 := hx.cell c251
      have q252 := hx.cell c252
      have HK := Lib.hid hK; clear hK
      go_simp
      exact HK.out _ _ (.inl (Ext.refl _)) rfl
    -- 9: slot 201 := Op.pick t198 t200 (const (Value.bool false))
    refine ⟨?_, ?_⟩
    · intro v w' hx hd
      have e6 : v 6 = .bool true := hd 6 (by kernel_rfl)
      have e8 : v 8 = .bool true := hd 8 (by kernel_rfl)
      simp only [List.take_succ_cons, List.take_zero, putF, Act.put, List.setIfInBounds_toArray, List.set_cons_zero, List.set_cons_succ, Nat.reduceAdd, Nat.zero_add]
      simp only [e6]
      simp only [e8]
      clear hd e6 e8
      rw [if_pos (by rfl)]
      intro K hK
      have q110 := hx.cell c110
      have q111 := hx.cell c111
      have q112 := hx.cell c112
      have q250 := hx.cell c250
      have q251 := hx.cell c251
      have q252 := hx.cell c252
      have HK := Lib.hid hK; clear hK
      go_simp
      exact HK.out _ _ (.inl (Ext.refl _)) rfl
    -- 10: slot 202 := Op.move t201
    refine ⟨?_, ?_⟩
    · intro v w' hx hd
      have e9 : v 9 = .bool true := hd 9 (by kernel_rfl)
      simp only [List.take_succ_cons, List.take_zero, putF, Act.put, List.setIfInBounds_toArray, List.set_cons_zero, List.set_cons_succ, Nat.reduceAdd, Nat.zero_add]
      simp only [e9]
      clear hd e9
      rw [if_pos (by rfl)]
      intro K hK
      have q110 := hx.cell c110
      have q111 := hx.cell c111
      have q112 := hx.cell c112
      have q250 := hx.cell c250
      have q251 := hx.cell c251
      have q252 := hx.cell c252
      have HK := Lib.hid hK; clear hK
      go_simp
      exact HK.out _ _ (.inl (Ext.refl _)) rfl
    -- 11: slot 203 := Op.fieldAddr 55 t25 0   [guarded: some (10, true)]
    refine ⟨?_, ?_⟩
    · intro v w' hx hd
      have e10 : v 10 = .bool true := hd 10 (by kernel_rfl)
      simp only [List.take_succ_cons, List.take_zero, putF, Act.put, List.setIfInBounds_toArray, List.set_cons_zero, List.set_cons_succ, Nat.reduceAdd, Nat.zero_add]
      simp only [e10]
      clear hd e10
      rw [if_pos (by rfl)]
      intro K hK
      have q110 := hx.cell c110
      have q111 := hx.cell c111
      have q112 := hx.cell c112
      have q250 := hx.cell c250
      have q251 := hx.cell c251
      have q252 := hx.cell c252
      have HK := Lib.hid hK; clear hK
      go_simp
      exact HK.out _ _ (.inl (Ext.refl _)) rfl
    -- 12: slot 204 := Op.load 22 t203   [guarded: some (10, true)]
    refine ⟨?_, ?_⟩
    · intro v w' hx hd
      have e11 : v 11 = .pointer (some ⟨g25, 0, none⟩) := hd 11 (by kernel_rfl)
      have e10 : v 10 = .bool true := hd 10 (by kernel_rfl)
      simp only [List.take_succ_cons, List.take_zero, putF, Act.put, List.setIfInBounds_toArray, List.set_cons_zero, List.set_cons_succ, Nat.reduceAdd, Nat.zero_add]
      simp only [e11]
      simp only [e10]
      clear hd e11 e10
      rw [if_pos (by rfl)]
      intro K hK
      have q110 := hx.cell c110
      have q111 := hx.cell c111
      have q112 := hx.cell c112
      have q250 := hx.cell c250
      have q251 := hx.cell c251
      have q252 := hx.cell c252
      have HK := Lib.hid hK; clear hK
      go_simp
      exact HK.out _ _ (.inl (Ext.refl _)) rfl
    -- 13: slot 205 := Op.fieldAddr 55 t11 0   [guarded: some (10, true)]
    refine ⟨?_, ?_⟩
    · intro v w' hx hd
      have e10 : v 10 = .bool true := hd 10 (by kernel_rfl)
      simp only [List.take_succ_cons, List.take_zero, putF, Act.put, List.setIfInBounds_toArray, List.set_cons_zero, List.set_cons_succ, Nat.reduceAdd, Nat.zero_add]
      simp only [e10]
      clear hd e10
      rw [if_pos (by rfl)]
      intro K hK
      have q110 := hx.cell c110
      have q111 := hx.cell c111
      have q112 := hx.cell c112
      have q250 := hx.cell c250
      have q251 := hx.cell c251
      have q252 := hx.cell c252
      have HK := Lib.hid hK; clear hK
      go_simp
      exact HK.out _ _ (.inl (Ext.refl _)) rfl
    -- 14: slot 206 := Op.load 22 t205   [guarded: some (10, true)]
    refine ⟨?_, ?_⟩
    · intro v w' hx hd
      have e13 : v 13 = .pointer (some ⟨g11, 0, none⟩) := hd 13 (by kernel_rfl)
      have e10 : v 10 = .bool true := hd 10 (by kernel_rfl)
      simp only [List.take_succ_cons, List.take_zero, putF, Act.put, List.setIfInBounds_toArray, List.set_cons_zero, List.set_cons_succ, Nat.reduceAdd, Nat.zero_add]
      simp only [e13]
      simp only [e10]
      clear hd e13 e10
      rw [if_pos (by rfl)]
      intro K hK
      have q110 := hx.cell c110
      have q111 := hx.cell c111
      have q112 := hx.cell c112
      have q250 := hx.cell c250
      have q251 := hx.cell c251
      have q252 := hx.cell c252
      have HK := Lib.hid hK; clear hK
      go_simp
      exact HK.out _ _ (.inl (Ext.refl _)) rfl
    -- 15: slot 207 := Op.move t27   [guarded: some (10, true)]
    refine ⟨?_, ?_⟩
    · intro v w' hx hd
      have e10 : v 10 = .bool true := hd 10 (by kernel_rfl)
      simp only [List.take_succ_cons, List.take_zero, putF, Act.put, List.setIfInBounds_toArray, List.set_cons_zero, List.set_cons_succ, Nat.reduceAdd, Nat.zero_add]
      simp only [e10]
      clear hd e10
      rw [if_pos (by rfl)]
      intro K hK
      have q110 := hx.cell c110
      have q111 := hx.cell c111
      have q112 := hx.cell c112
      have q250 := hx.cell c250
      have q251 := hx.cell c251
      have q252 := hx.cell c252
      have HK := Lib.hid hK; clear hK
      go_simp
      exact HK.out _ _ (.inl (Ext.refl _)) rfl
    -- 16: slot 208 := Op.slice 22 t206 none (some t207) none   [guarded: some (10, true)]
    refine ⟨?_, ?_⟩
    · intro v w' hx hd
      have e14 : v 14 = .slice al x.records.length cl := hd 14 (by kernel_rfl)
      have e15 : v 15 = .int .i64 (m : Int) := hd 15 (by kernel_rfl)
      have e10 : v 10 = .bool true := hd 10 (by kernel_rfl)
      simp only [List.take_succ_cons, List.take_zero, putF, Act.put, List.setIfInBounds_toArray, List.set_cons_zero, List.set_cons_succ, Nat.reduceAdd, Nat.zero_add]
      simp only [e14]
      simp only [e15]
      simp only [e10]
      clear hd e14 e15 e10
      rw [if_pos (by rfl)]
      intro K hK
      have q110 := hx.cell c110
      have q111 := hx.cell c111
      have q112 := hx.cell c112
      have q250 := hx.cell c250
      have q251 := hx.cell c251
      have q252 := hx.cell c252
      have HK := Lib.hid hK; clear hK
      go_simp
      exact HK.out _ _ (.inl (Ext.refl _)) rfl
    -- 17: slot 209 := Op.call { value (Operand.func 49), args := #[t204, t208], argTypes := #[22, 22] }   [guard
    refine ⟨?_, ?_⟩
    · intro v w' hx hd
      have e12 : v 12 = .slice az z.records.length cz := hd 12 (by kernel_rfl)
      have e16 : v 16 = .slice al m cl := hd 16 (by kernel_rfl)
      have e10 : v 10 = .bool true := hd 10 (by kernel_rfl)
      simp only [List.take_succ_cons, List.take_zero, putF, Act.put, List.setIfInBounds_toArray, List.set_cons_zero, List.set_cons_succ, Nat.reduceAdd, Nat.zero_add]
      simp only [e12]
      simp only [e16]
      simp only [e10]
      clear hd e12 e16 e10
      rw [if_pos (by rfl)]
      intro K hK
      have q110 := hx.cell c110
      have q111 := hx.cell c111
      have q112 := hx.cell c112
      have q250 := hx.cell c250
      have q251 := hx.cell c251
      have q252 := hx.cell c252
      have HK := Lib.hid hK; clear hK
      go_simp
      have k0 := sameRecords_ok w' _ _ z.records z.records (Bss.keep HZ.out hx) (Bss.keep HX0.out hx)
      rw [decide_eq_true rfl] at k0
      refine k0.mono ?_
      rintro e w2 ⟨rfl, m, rfl⟩
      exact HK.out _ _ (.inl (Ext.drewN _ m)) rfl
    -- 18: slot 210 := Op.pick t202 t209 (const (Value.bool false))
    refine ⟨?_, ?_⟩
    · intro v w' hx hd
      have e10 : v 10 = .bool true := hd 10 (by kernel_rfl)
      have e17 : v 17 = .bool true := hd 17 (by kernel_rfl)
      simp only [List.take_succ_cons, List.take_zero, putF, Act.put, List.setIfInBounds_toArray, List.set_cons_zero, List.set_cons_succ, Nat.reduceAdd, Nat.zero_add]
      simp only [e10]
      simp only [e17]
      clear hd e10 e17
      rw [if_pos (by rfl)]
      intro K hK
      have q110 := hx.cell c110
      have q111 := hx.cell c111
      have q112 := hx.cell c112
      have q250 := hx.cell c250
      have q251 := hx.cell c251
      have q252 := hx.cell c252
      have HK := Lib.hid hK; clear hK
      go_simp
      exact HK.out _ _ (.inl (Ext.refl _)) rfl
    exact trivial
  case tail =>
    intro v w' hx hall
    simp only [List.drop_succ_cons, List.drop_zero, List.take_succ_cons, List.take_zero, putF, Act.put, List.setIfInBounds_toArray, List.set_cons_zero, List.set_cons_succ, Nat.reduceAdd, Nat.zero_add]
    have e18 : v 18 = .bool true := hall 18 (by decide) (fun k hk => by simp at hk)
    simp only [e18]
    have HX2 := Lib.hid hx; clear hx
    clear hall e18
    go_wp2_with fail
    exact HQ.out _ _ _ _ _ _ _ _ _ _ _ _ _ _ _ _ _ _ _ w' HX2.out
end Go.Proofs.Ytpciankfpagnhaa
