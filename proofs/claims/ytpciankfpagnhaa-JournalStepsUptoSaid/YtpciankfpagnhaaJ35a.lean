/- Drawn regions of the law JournalSteps. -/
import Derived.Test.YtpciankfpagnhaaJ33
import Derived.Test.YtpciankfpagnhaaJ28
import Derived.Test.YtpciankfpagnhaaJ25
import Derived.Test.YtpciankfpagnhaaD25a
namespace Go.Proofs.Ytpciankfpagnhaa
open Go.RowKit

noncomputable def code15_4 : Code := ((Try.f15.body.bind (regionOf 4)).getD .skip)
set_option maxRecDepth 100000 in
set_option maxHeartbeats 4000000 in
theorem reg15_4 {Q : Exit → Act → World → Prop} (t2 t3 t4 t7 t8 t9 t10 t11 t12 t13 t14 t15 t16 t17 t18 t19 t20 t21 t22 t23 t24 t25 t26 t27 t28 t29 t30 t31 t32 t33 t34 t35 t36 t37 t38 t39 t40 t41 t42 t43 t44 t45 t46 t47 t48 t49 t50 t51 t52 t53 t54 t55 t56 t57 t58 t59 t60 t61 t62 t63 t64 t65 t66 t67 t68 t69 t70 t71 t72 t73 t74 t75 t76 t77 t78 t79 t80 t81 t82 t83 t84 t85 t86 t87 t88 t89 t90 t91 t92 t93 t94 t95 t96 t97 t98 t99 t100 t101 t102 t103 t104 t105 t106 t107 t108 t109 t110 t111 t112 t113 t114 t115 t116 t117 t118 t119 t120 t121 t122 t123 t124 t125 t126 t127 t128 t129 t130 t131 t132 t133 t134 t135 t136 t137 t138 t139 t140 t141 t142 t143 t144 t145 t146 t147 t148 t149 t150 t151 t152 t153 : Value) (w1 : World) (g5 ca cb cd ed : Nat) (aa ab ad bd : Option Addr) (d : Dk) (la lb : List (List UInt8)) (bf nbf : Bool)
    (h5 : Box w1 g5 [.slice ad d.sectors.length cd, .slice bd d.pending.length ed, .int .i64 d.left, .bool d.stopped]) (hd : Disk No w1 (.agg #[.slice ad d.sectors.length cd, .slice bd d.pending.length ed, .int .i64 d.left, .bool d.stopped]) d) (ha : Bss No w1 (.slice aa la.length ca) la) (hb : Bss No w1 (.slice ab lb.length cb) lb) (hra : la.length ≤ 1048576) (hrb : lb.length ≤ 1048576) (hR : ReachB (la ++ lb)) (hbf : few42 d (la ++ lb) = bf) (hnb : (!bf) = nbf)
    (hQ : ∀ (u32 u33 u34 u35 u36 u37 u38 u39 u40 u41 u42 : Value) (wx : World), Ext w1 wx → Q .normal ⟨#[.slice aa la.length ca, .slice ab lb.length cb, t2, t3, t4, .pointer (some ⟨g5, 0, none⟩), .int .i64 0, t7, t8, t9, t10, t11, t12, t13, t14, t15, t16, t17, t18, t19, t20, t21, t22, t23, t24, t25, t26, t27, t28, t29, t30, t31, u32, u33, u34, u35, u36, u37, u38, u39, u40, u41, u42, .bool nbf, t44, t45, t46, t47, t48, t49, t50, t51, t52, t53, t54, t55, t56, t57, t58, t59, t60, t61, t62, t63, t64, t65, t66, t67, t68, t69, t70, t71, t72, t73, t74, t75, t76, t77, t78, t79, t80, t81, t82, t83, t84, t85, t86, t87, t88, t89, t90, t91, t92, t93, t94, t95, t96, t97, t98, t99, t100, t101, t102, t103, t104, t105, t106, t107, t108, t109, t110, t111, t112, t113, t114, t115, t116, t117, t118, t119, t120, t121, t122, t123, t124, t125, t126, t127, t128, t129, t130, t131, t132, t133, t134, t135, t136, t137, t138, t139, t140, t141, t142, t143, t144, t145, t146, t147, t148, t149, t150, t151, t152, t153], []⟩ wx) :
    Code.wp Try.prog code15_4 Q ⟨#[.slice aa la.length ca, .slice ab lb.length cb, t2, t3, t4, .pointer (some ⟨g5, 0, none⟩), .int .i64 0, t7, t8, t9, t10, t11, t12, t13, t14, t15, t16, t17, t18, t19, t20, t21, t22, t23, t24, t25, t26, t27, t28, t29, t30, t31, t32, t33, t34, t35, t36, t37, t38, t39, t40, t41, t42, t43, t44, t45, t46, t47, t48, t49, t50, t51, t52, t53, t54, t55, t56, t57, t58, t59, t60, t61, t62, t63, t64, t65, t66, t67, t68, t69, t70, t71, t72, t73, t74, t75, t76, t77, t78, t79, t80, t81, t82, t83, t84, t85, t86, t87, t88, t89, t90, t91, t92, t93, t94, t95, t96, t97, t98, t99, t100, t101, t102, t103, t104, t105, t106, t107, t108, t109, t110, t111, t112, t113, t114, t115, t116, t117, t118, t119, t120, t121, t122, t123, t124, t125, t126, t127, t128, t129, t130, t131, t132, t133, t134, t135, t136, t137, t138, t139, t140, t141, t142, t143, t144, t145, t146, t147, t148, t149, t150, t151, t152, t153], []⟩ w1 := by
  conv => arg 2; whnf
  have HQ := Lib.hid hQ; clear hQ
  have HD := Lib.hid hd; clear hd
  have HA := Lib.hid ha; clear ha
  have HB := Lib.hid hb; clear hb
  have HRB := Lib.hid hR; clear hR
  have HBF := Lib.hid hbf; clear hbf
  have HNB := Lib.hid hnb
  obtain ⟨c50, c51, c52, c53, -, -, -, -⟩ := h5.four
  clear h5
  have AWI : Hid (AllWI [4, 6, 8] 0 [fun v _ => v = .int .i64 0, fun v _ => v = .bool false, fun v _ => v = .bool false, fun v _ => v = .agg #[.slice ad d.sectors.length cd, .slice bd d.pending.length ed, .int .i64 d.left, .bool d.stopped], fun v w => ∃ g4, v = .slice (some ⟨g4, 0, none⟩) 0 0 ∧ w1.heap.size ≤ g4 ∧ OSl w1.heap.size 35 1 eBs No w v [], fun v _ => v = .slice aa la.length ca, fun v w => OSl w1.heap.size 35 1 eBs No w v la, fun v _ => v = .slice ab lb.length cb, fun v w => OSl w1.heap.size 35 1 eBs No w v (la ++ lb), fun v _ => v = .bool bf, fun v _ => v = .bool nbf, fun v _ => v = .bool nbf]) := Lib.hid ⟨.inr (wi_eq _), ⟨.inr (wi_eq _), ⟨.inr (wi_eq _), ⟨.inr (wi_eq _), ⟨.inl (by decide), ⟨.inr (wi_eq _), ⟨.inl (by decide), ⟨.inr (wi_eq _), ⟨.inl (by decide), ⟨.inr (wi_eq _), ⟨.inr (wi_eq _), ⟨.inr (wi_eq _), trivial⟩⟩⟩⟩⟩⟩⟩⟩⟩⟩⟩⟩
  refine wp_region_rg 12 (fun j => if j = 4 then some 6 else if j = 6 then some 8 else none) (by kernel_rfl) (by kernel_rfl) (phi [fun v _ => v = .int .i64 0,
      fun v _ => v = .bool false,
      fun v _ => v = .bool false,
      fun v _ => v = .agg #[.slice ad d.sectors.length cd, .slice bd d.pending.length ed, .int .i64 d.left, .bool d.stopped],
      fun v w => ∃ g4, v = .slice (some ⟨g4, 0, none⟩) 0 0 ∧ w1.heap.size ≤ g4 ∧ OSl w1.heap.size 35 1 eBs No w v [],
      fun v _ => v = .slice aa la.length ca,
      fun v w => OSl w1.heap.size 35 1 eBs No w v la,
      fun v _ => v = .slice ab lb.length cb,
      fun v w => OSl w1.heap.size 35 1 eBs No w v (la ++ lb),
      fun v _ => v = .bool bf,
      fun v _ => v = .bool nbf,
      fun v _ => v = .bool nbf]) (phi_stable ?stable) ?steps ?tail
  case stable =>
    exact List.forall_mem_cons.2 ⟨stab_eq _, List.forall_mem_cons.2 ⟨stab_eq _, List.forall_mem_cons.2 ⟨stab_eq _, List.forall_mem_cons.2 ⟨stab_eq _, List.forall_mem_cons.2 ⟨fun _ _ _ hx ⟨g4, e, hg, h⟩ => ⟨g4, e, hg, h.keep etBs hx⟩, List.forall_mem_cons.2 ⟨stab_eq _, List.forall_mem_cons.2 ⟨fun _ _ _ hx h => h.keep etBs hx, List.forall_mem_cons.2 ⟨stab_eq _, List.forall_mem_cons.2 ⟨fun _ _ _ hx h => h.keep etBs hx, List.forall_mem_cons.2 ⟨stab_eq _, List.forall_mem_cons.2 ⟨stab_eq _, List.forall_mem_cons.2 ⟨stab_eq _, fun _ h => by cases h⟩⟩⟩⟩⟩⟩⟩⟩⟩⟩⟩⟩
  case steps =>
    simp only [List.take_succ_cons, List.take_zero]
    -- 0: slot 32 := Op.move t6
    refine ⟨?_, ?_⟩
    · intro v w' hx hd
      simp only [List.take_succ_cons, List.take_zero, putF, Act.put, List.setIfInBounds_toArray, List.set_cons_zero, List.set_cons_succ, Nat.reduceAdd, Nat.zero_add]
      clear hd
      rw [if_pos (by rfl)]
      intro K hK
      have q50 := hx.cell c50
      have q51 := hx.cell c51
      have q52 := hx.cell c52
      have q53 := hx.cell c53
      have HK := Lib.hid hK; clear hK
      go_simp
      exact HK.out _ _ (.inl (Ext.refl _)) rfl
    -- 1: slot 33 := Op.binOp BinOp.neq 28 t32 (const (0:i64)) 28
    refine ⟨?_, ?_⟩
    · intro v w' hx hd
      have e0 : v 0 = .int .i64 0 := hd 0 (by kernel_rfl)
      simp only [List.take_succ_cons, List.take_zero, putF, Act.put, List.setIfInBounds_toArray, List.set_cons_zero, List.set_cons_succ, Nat.reduceAdd, Nat.zero_add]
      simp only [e0]
      clear hd e0
      rw [if_pos (by rfl)]
      intro K hK
      have q50 := hx.cell c50
      have q51 := hx.cell c51
      have q52 := hx.cell c52
      have q53 := hx.cell c53
      have HK := Lib.hid hK; clear hK
      go_simp
      exact HK.out _ _ (.inl (Ext.refl _)) rfl
    -- 2: slot 34 := Op.move t33
    refine ⟨?_, ?_⟩
    · intro v w' hx hd
      have e1 : v 1 = .bool false := hd 1 (by kernel_rfl)
      simp only [List.take_succ_cons, List.take_zero, putF, Act.put, List.setIfInBounds_toArray, List.set_cons_zero, List.set_cons_succ, Nat.reduceAdd, Nat.zero_add]
      simp only [e1]
      clear hd e1
      rw [if_pos (by rfl)]
      intro K hK
      have q50 := hx.cell c50
      have q51 := hx.cell c51
      have q52 := hx.cell c52
      have q53 := hx.cell c53
      have HK := Lib.hid hK; clear hK
      go_simp
      exact HK.out _ _ (.inl (Ext.refl _)) rfl
    -- 3: slot 35 := Op.load 25 t5   [guarded: some (2, false)]
    refine ⟨?_, ?_⟩
    · intro v w' hx hd
      have e2 : v 2 = .bool false := hd 2 (by kernel_rfl)
      simp only [List.take_succ_cons, List.take_zero, putF, Act.put, List.setIfInBounds_toArray, List.set_cons_zero, List.set_cons_succ, Nat.reduceAdd, Nat.zero_add]
      simp only [e2]
      clear hd e2
      rw [if_pos (by rfl)]
      intro K hK
      have q50 := hx.cell c50
      have q51 := hx.cell c51
      have q52 := hx.cell c52
      have q53 := hx.cell c53
      have HK := Lib.hid hK; clear hK
      go_simp
      exact HK.out _ _ (.inl (Ext.refl _)) rfl
    -- 4: slot 36 := Op.buildSlice 22 0 #[]   [guarded: some (2, false)]
    refine ⟨?_, ?_⟩
    · intro v w' hx hd
      have e2 : v 2 = .bool false := hd 2 (by kernel_rfl)
      simp only [List.take_succ_cons, List.take_zero, putF, Act.put, List.setIfInBounds_toArray, List.set_cons_zero, List.set_cons_succ, Nat.reduceAdd, Nat.zero_add]
      simp only [e2]
      clear hd e2
      rw [if_pos (by rfl)]
      intro K hK
      have q50 := hx.cell c50
      have q51 := hx.cell c51
      have q52 := hx.cell c52
      have q53 := hx.cell c53
      have HK := Lib.hid hK; clear hK
      go_simp
      exact HK.out _ _ (.inl ((Ext.refl _).alloc _)) ⟨w'.heap.size, rfl, hx.size, OSl.lit0 _ _ _ _ _ _ hx.size (fun h => h)⟩
    -- 5: slot 37 := Op.move t0   [guarded: some (2, false)]
    refine ⟨?_, ?_⟩
    · intro v w' hx hd
      have e2 : v 2 = .bool false := hd 2 (by kernel_rfl)
      simp only [List.take_succ_cons, List.take_zero, putF, Act.put, List.setIfInBounds_toArray, List.set_cons_zero, List.set_cons_succ, Nat.reduceAdd, Nat.zero_add]
      simp only [e2]
      clear hd e2
      rw [if_pos (by rfl)]
      intro K hK
      have q50 := hx.cell c50
      have q51 := hx.cell c51
      have q52 := hx.cell c52
      have q53 := hx.cell c53
      have HK := Lib.hid hK; clear hK
      go_simp
      exact HK.out _ _ (.inl (Ext.refl _)) rfl
    -- 6: slot 38 := Op.call { builtin append, args := #[t36, t37], argTypes := #[22, 22] }   [guarded: some (2
    refine ⟨?_, ?_⟩
    · intro v w' hx hd
      have e4 : (fun v w => ∃ g4, v = .slice (some ⟨g4, 0, none⟩) 0 0 ∧ w1.heap.size ≤ g4 ∧ OSl w1.heap.size 35 1 eBs No w v []) (v 4) w' := hd 4 (by kernel_rfl)
      have e5 : v 5 = .slice aa la.length ca := hd 5 (by kernel_rfl)
      have e2 : v 2 = .bool false := hd 2 (by kernel_rfl)
      simp only [List.take_succ_cons, List.take_zero, putF, Act.put, List.setIfInBounds_toArray, List.set_cons_zero, List.set_cons_succ, Nat.reduceAdd, Nat.zero_add]
      simp only [e5]
      simp only [e2]
      clear hd e5 e2
      rw [if_pos (by rfl)]
      intro K hK
      have q50 := hx.cell c50
      have q51 := hx.cell c51
      have q52 := hx.cell c52
      have q53 := hx.cell c53
      obtain ⟨g4, e4, hg4, ho4⟩ := e4
      simp only [e4] at ho4 ⊢ hK
      refine wp_append_osl atBs etBs (.tmp 36) (.tmp 37) rfl w1.heap.size (.slice (some ⟨g4, 0, none⟩) 0 0) _ [] la rfl rfl ho4 ((HA.out.more etBs (fun k hk => by rcases hk with hk | hk; exact hk.elim; exact .inr (by simp [Value.ownBlock] at hk; omega))).keepM etBs (hx.mem _)) (fun k hk => hk.elim) (by simp; omega) (by simp; omega) hx.size ?_
      intro v' w'' k1 k2
      exact hK _ _ (.inr ⟨hx.grown k2 (fun k hk => by simp [Value.ownBlock] at hk; omega), fun j y h1 h2 h3 h4 hp => phi_keep (cons := fun j => if j = 4 then some 6 else if j = 6 then some 8 else none) AWI.out (by kernel_rfl) j y h1 h2 h3 h4 hp⟩) k1
    -- 7: slot 39 := Op.move t1   [guarded: some (2, false)]
    refine ⟨?_, ?_⟩
    · intro v w' hx hd
      have e2 : v 2 = .bool false := hd 2 (by kernel_rfl)
      simp only [List.take_succ_cons, List.take_zero, putF, Act.put, List.setIfInBounds_toArray, List.set_cons_zero, List.set_cons_succ, Nat.reduceAdd, Nat.zero_add]
      simp only [e2]
      clear hd e2
      rw [if_pos (by rfl)]
      intro K hK
      have q50 := hx.cell c50
      have q51 := hx.cell c51
      have q52 := hx.cell c52
      have q53 := hx.cell c53
      have HK := Lib.hid hK; clear hK
      go_simp
      exact HK.out _ _ (.inl (Ext.refl _)) rfl
    -- 8: slot 40 := Op.call { builtin append, args := #[t38, t39], argTypes := #[22, 22] }   [guarded: some (2
    refine ⟨?_, ?_⟩
    · intro v w' hx hd
      have e6 : (fun v w => OSl w1.heap.size 35 1 eBs No w v la) (v 6) w' := hd 6 (by kernel_rfl)
      have e7 : v 7 = .slice ab lb.length cb := hd 7 (by kernel_rfl)
      have e2 : v 2 = .bool false := hd 2 (by kernel_rfl)
      simp only [List.take_succ_cons, List.take_zero, putF, Act.put, List.setIfInBounds_toArray, List.set_cons_zero, List.set_cons_succ, Nat.reduceAdd, Nat.zero_add]
      simp only [e7]
      simp only [e2]
      clear hd e7 e2
      rw [if_pos (by rfl)]
      intro K hK
      have q50 := hx.cell c50
      have q51 := hx.cell c51
      have q52 := hx.cell c52
      have q53 := hx.cell c53
      have hlt8 := e6.block
      refine wp_append_osl atBs etBs (.tmp 38) (.tmp 39) rfl w1.heap.size _ _ la lb rfl rfl e6 ((HB.out.more etBs (fun k hk => by rcases hk with hk | hk; exact hk.elim; exact .inr (hlt8 k hk).1)).keepM etBs (hx.mem _)) (fun k hk => hk.elim) (by omega) (by omega) hx.size ?_
      intro v' w'' k1 k2
      exact hK _ _ (.inr ⟨hx.grown k2 (fun k hk => (hlt8 k hk).1), fun j y h1 h2 h3 h4 hp => phi_keep (cons := fun j => if j = 4 then some 6 else if j = 6 then some 8 else none) AWI.out (by kernel_rfl) j y h1 h2 h3 h4 hp⟩) k1
    -- 9: slot 41 := Op.call { value (Operand.func 37), args := #[t35, t40], argTypes := #[25, 22] }   [guarded
    refine ⟨?_, ?_⟩
    · intro v w' hx hd
      have e3 : v 3 = .agg #[.slice ad d.sectors.length cd, .slice bd d.pending.length ed, .int .i64 d.left, .bool d.stopped] := hd 3 (by kernel_rfl)
      have e8 : (fun v w => OSl w1.heap.size 35 1 eBs No w v (la ++ lb)) (v 8) w' := hd 8 (by kernel_rfl)
      have e2 : v 2 = .bool false := hd 2 (by kernel_rfl)
      simp only [List.take_succ_cons, List.take_zero, putF, Act.put, List.setIfInBounds_toArray, List.set_cons_zero, List.set_cons_succ, Nat.reduceAdd, Nat.zero_add]
      simp only [e3]
      simp only [e2]
      clear hd e3 e2
      rw [if_pos (by rfl)]
      intro K hK
      have q50 := hx.cell c50
      have q51 := hx.cell c51
      have q52 := hx.cell c52
      have q53 := hx.cell c53
      have HK := Lib.hid hK; clear hK
      go_simp
      have k0 := few42_ok (S2 := No) w' _ _ d (la ++ lb) (HD.out.keep hx) (e8.sl etBs) HRB.out
      rw [HBF.out] at k0
      refine k0.mono ?_
      rintro e w2 ⟨rfl, hx2⟩
      exact HK.out _ _ (.inl hx2) rfl
    -- 10: slot 42 := Op.unOp UnOp.not 4 t41   [guarded: some (2, false)]
    refine ⟨?_, ?_⟩
    · intro v w' hx hd
      have e9 : v 9 = .bool bf := hd 9 (by kernel_rfl)
      have e2 : v 2 = .bool false := hd 2 (by kernel_rfl)
      simp only [List.take_succ_cons, List.take_zero, putF, Act.put, List.setIfInBounds_toArray, List.set_cons_zero, List.set_cons_succ, Nat.reduceAdd, Nat.zero_add]
      simp only [e9]
      simp only [e2]
      clear hd e9 e2
      rw [if_pos (by rfl)]
      intro K hK
      have q50 := hx.cell c50
      have q51 := hx.cell c51
      have q52 := hx.cell c52
      have q53 := hx.cell c53
      have HK := Lib.hid hK; clear hK
      go_simp
      exact HK.out _ _ (.inl (Ext.refl _)) rfl
    -- 11: slot 43 := Op.pick t34 (const (Value.bool true)) t42
    refine ⟨?_, ?_⟩
    · intro v w' hx hd
      have e2 : v 2 = .bool false := hd 2 (by kernel_rfl)
      have e10 : v 10 = .bool nbf := hd 10 (by kernel_rfl)
      simp only [List.take_succ_cons, List.take_zero, putF, Act.put, List.setIfInBounds_toArray, List.set_cons_zero, List.set_cons_succ, Nat.reduceAdd, Nat.zero_add]
      simp only [e2]
      simp only [e10]
      clear hd e2 e10
      rw [if_pos (by rfl)]
      intro K hK
      have q50 := hx.cell c50
      have q51 := hx.cell c51
      have q52 := hx.cell c52
      have q53 := hx.cell c53
      have HK := Lib.hid hK; clear hK
      go_simp
      exact HK.out _ _ (.inl (Ext.refl _)) rfl
    exact trivial
  case tail =>
    intro v w' hx hall
    simp only [List.drop_succ_cons, List.drop_zero, List.take_succ_cons, List.take_zero, putF, Act.put, List.setIfInBounds_toArray, List.set_cons_zero, List.set_cons_succ, Nat.reduceAdd, Nat.zero_add]
    have e11 : v 11 = .bool nbf := hall 11 (by decide) (fun k hk => by simp at hk)
    simp only [e11]
    have HX := Lib.hid hx; clear hx
    clear hall e11 AWI
    exact HQ.out _ _ _ _ _ _ _ _ _ _ _ w' HX.out
end Go.Proofs.Ytpciankfpagnhaa
