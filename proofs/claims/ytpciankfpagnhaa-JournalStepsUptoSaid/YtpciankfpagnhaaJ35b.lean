/- Drawn regions of the law JournalSteps: syncs of what was appended. -/
import Derived.Test.YtpciankfpagnhaaJ35a
import Derived.Test.YtpciankfpagnhaaM15
namespace Go.Proofs.Ytpciankfpagnhaa
open Go.RowKit

theorem ZJ_of {w1 w : World} {cs : List Cmp} {T : Jn} {C : Dk} {ib id sb sd : Nat} {L : Nat → Bool} {v : Nat → Value} {u : Value} {x : Jn} (h : Journal No w1 u x) (hI : ZI w1 cs T C ib id sb sd L v w) : Journal (SL L v ib id) w u x := (h.more hI.old).keep hI.1
theorem ZD_of {w1 w : World} {cs : List Cmp} {T : Jn} {C : Dk} {ib id sb sd : Nat} {L : Nat → Bool} {v : Nat → Value} {u : Value} {x : Dk} (h : Disk No w1 u x) (hI : ZI w1 cs T C ib id sb sd L v w) : Disk (SL L v ib id) w u x := (h.more hI.old).keep hI.1
theorem ZR_of {w1 w : World} {cs : List Cmp} {T : Jn} {C : Dk} {ib id sb sd : Nat} {L : Nat → Bool} {v : Nat → Value} {u : Value} {x : List (List UInt8)} (h : Bss No w1 u x) (hI : ZI w1 cs T C ib id sb sd L v w) : Bss (SL L v ib id) w u x := Bss.keep (h.more etBs hI.old) hI.1

noncomputable def code15_11 : Code := ((Try.f15.body.bind (regionOf 11)).getD .skip)
set_option maxRecDepth 100000 in
set_option maxHeartbeats 4000000 in
theorem reg15_11 {Q : Exit → Act → World → Prop} (t2 t3 t4 t6 t9 t10 t11 t12 t13 t14 t15 t16 t17 t18 t19 t20 t21 t22 t23 t24 t25 t26 t27 t28 t29 t30 t31 t32 t33 t34 t35 t36 t37 t38 t39 t40 t41 t42 t43 t44 t45 t46 t47 t48 t49 t50 t51 t52 t53 t54 t55 t56 t57 t58 t59 t60 t61 t62 t63 t64 t65 t66 t67 t68 t69 t70 t71 t72 t73 t74 t75 t76 t77 t78 t79 t80 t81 t82 t83 t84 t85 t86 t87 t88 t89 t90 t91 t92 t93 t94 t95 t96 t97 t98 t99 t100 t101 t102 t103 t104 t105 t106 t107 t108 t109 t110 t111 t112 t113 t114 t115 t116 t117 t118 t119 t120 t121 t122 t123 t124 t125 t126 t127 t128 t129 t130 t131 t132 t133 t134 t135 t136 t137 t138 t139 t140 t141 t142 t143 t144 t145 t146 t147 t148 t149 t150 t151 t152 t153 : Value) (w1 : World) (gl gd cl cd ed ca cb : Nat) (al ad bd aa ab : Option Addr) (l A T : Jn) (d C : Dk) (la lb : List (List UInt8))
    (hl : Box w1 gl [.slice al l.records.length cl, .int .i64 l.many, .int .i64 l.synced]) (hd : Box w1 gd [.slice ad d.sectors.length cd, .slice bd d.pending.length ed, .int .i64 d.left, .bool d.stopped]) (hJ : Journal No w1 (.agg #[.slice al l.records.length cl, .int .i64 l.many, .int .i64 l.synced]) l) (hD : Disk No w1 (.agg #[.slice ad d.sectors.length cd, .slice bd d.pending.length ed, .int .i64 d.left, .bool d.stopped]) d) (ha : Bss No w1 (.slice aa la.length ca) la) (hb : Bss No w1 (.slice ab lb.length cb) lb) (nL : Nice l) (nA : Nice A) (hra : ReachB la) (hrb : ReachB lb) (eA : addJ l la = A) (eS : syncJ A d = (T, C, 0))
    (hQ : ∀ (u67 u68 u69 u70 u71 u72 u66 u73 u74 u75 : Value) (g10 g11 : Nat) (a b e : Option Addr) (c f h : Nat) (wx : World), Ext w1 wx → Box wx g10 (jc T a c) → Box wx g11 (dc C b f e h) → Journal No wx (.agg (jc T a c).toArray) T → Disk No wx (.agg (dc C b f e h).toArray) C → Q .normal ⟨#[.slice aa la.length ca, .slice ab lb.length cb, t2, t3, t4, .pointer (some ⟨gd, 0, none⟩), t6, .func (.func 50) #[] #[], .pointer (some ⟨gl, 0, none⟩), t9, t10, t11, t12, .pointer (some ⟨g10, 0, none⟩), .pointer (some ⟨g11, 0, none⟩), .int .i64 0, t16, t17, t18, t19, t20, t21, t22, t23, t24, t25, t26, t27, t28, t29, t30, t31, t32, t33, t34, t35, t36, t37, t38, t39, t40, t41, t42, t43, t44, t45, t46, t47, t48, t49, t50, t51, t52, t53, t54, t55, t56, t57, t58, t59, t60, t61, t62, t63, t64, t65, u66, u67, u68, u69, u70, u71, u72, u73, u74, u75, t76, t77, t78, t79, t80, t81, t82, t83, t84, t85, t86, t87, t88, t89, t90, t91, t92, t93, t94, t95, t96, t97, t98, t99, t100, t101, t102, t103, t104, t105, t106, t107, t108, t109, t110, t111, t112, t113, t114, t115, t116, t117, t118, t119, t120, t121, t122, t123, t124, t125, t126, t127, t128, t129, t130, t131, t132, t133, t134, t135, t136, t137, t138, t139, t140, t141, t142, t143, t144, t145, t146, t147, t148, t149, t150, t151, t152, t153], []⟩ wx) :
    Code.wp Try.prog code15_11 Q ⟨#[.slice aa la.length ca, .slice ab lb.length cb, t2, t3, t4, .pointer (some ⟨gd, 0, none⟩), t6, .func (.func 50) #[] #[], .pointer (some ⟨gl, 0, none⟩), t9, t10, t11, t12, t13, t14, t15, t16, t17, t18, t19, t20, t21, t22, t23, t24, t25, t26, t27, t28, t29, t30, t31, t32, t33, t34, t35, t36, t37, t38, t39, t40, t41, t42, t43, t44, t45, t46, t47, t48, t49, t50, t51, t52, t53, t54, t55, t56, t57, t58, t59, t60, t61, t62, t63, t64, t65, t66, t67, t68, t69, t70, t71, t72, t73, t74, t75, t76, t77, t78, t79, t80, t81, t82, t83, t84, t85, t86, t87, t88, t89, t90, t91, t92, t93, t94, t95, t96, t97, t98, t99, t100, t101, t102, t103, t104, t105, t106, t107, t108, t109, t110, t111, t112, t113, t114, t115, t116, t117, t118, t119, t120, t121, t122, t123, t124, t125, t126, t127, t128, t129, t130, t131, t132, t133, t134, t135, t136, t137, t138, t139, t140, t141, t142, t143, t144, t145, t146, t147, t148, t149, t150, t151, t152, t153], []⟩ w1 := by
  conv => arg 2; whnf
  have HQ := Lib.hid hQ; clear hQ
  have HJ := Lib.hid hJ; clear hJ
  have HD := Lib.hid hD; clear hD
  have HA := Lib.hid ha; clear ha
  have HB := Lib.hid hb; clear hb
  have HRA := Lib.hid hra; clear hra
  have HRB := Lib.hid hrb; clear hrb
  have NL := Lib.hid nL; clear nL
  have NA := Lib.hid nA; clear nA
  have EA := Lib.hid eA; clear eA
  have ES := Lib.hid eS; clear eS
  obtain ⟨c0, c1, c2, -, -, -⟩ := hl.three
  obtain ⟨d0, d1, d2, d3, -, -, -, -⟩ := hd.four
  clear hl hd
  have OK : Hid (∀ c ∈ ([cmpC 0 (.func (.func 50) #[] #[]), cmpC 1 (.agg #[.slice al l.records.length cl, .int .i64 l.many, .int .i64 l.synced]), cmpC 2 (.slice aa la.length ca), cmpJ 3 A, cmpC 4 (.agg #[.slice ad d.sectors.length cd, .slice bd d.pending.length ed, .int .i64 d.left, .bool d.stopped]), cmpT 5 T C, cmpT 6 T C, cmpJ 7 T, cmpD 8 C, cmpC 9 (.int .i64 0)] : List Cmp), c.ok) := Lib.hid (List.forall_mem_cons.2 ⟨cmpC_ok _ _, (List.forall_mem_cons.2 ⟨cmpC_ok _ _, (List.forall_mem_cons.2 ⟨cmpC_ok _ _, (List.forall_mem_cons.2 ⟨cmpJ_ok _ _, (List.forall_mem_cons.2 ⟨cmpC_ok _ _, (List.forall_mem_cons.2 ⟨cmpT_ok _ _ _, (List.forall_mem_cons.2 ⟨cmpT_ok _ _ _, (List.forall_mem_cons.2 ⟨cmpJ_ok _ _, (List.forall_mem_cons.2 ⟨cmpD_ok _ _, (List.forall_mem_cons.2 ⟨cmpC_ok _ _, (List.forall_mem_nil _)⟩)⟩)⟩)⟩)⟩)⟩)⟩)⟩)⟩)⟩)
  refine wp_region_inv 14 (by kernel_rfl) (by kernel_rfl) (ZI w1 [cmpC 0 (.func (.func 50) #[] #[]), cmpC 1 (.agg #[.slice al l.records.length cl, .int .i64 l.many, .int .i64 l.synced]), cmpC 2 (.slice aa la.length ca), cmpJ 3 A, cmpC 4 (.agg #[.slice ad d.sectors.length cd, .slice bd d.pending.length ed, .int .i64 d.left, .bool d.stopped]), cmpT 5 T C, cmpT 6 T C, cmpJ 7 T, cmpD 8 C, cmpC 9 (.int .i64 0)] T C 10 11 12 13) ?h0 ?steps ?tail
  case h0 => intro v; exact ⟨Ext.drew' w1, (fun c _ h => by cases h), (fun h => by cases h), (fun h => by cases h)⟩
  case steps =>
    simp only [List.take_succ_cons, List.take_zero]
    -- 0: slot 67 := Op.move t7
    refine ⟨?_, ?_⟩
    · intro v w' L hLi hdep hcl hre hI
      have hx := hI.1
      simp only [List.take_succ_cons, List.take_zero, putF, Act.put, List.setIfInBounds_toArray, List.set_cons_zero, List.set_cons_succ, Nat.reduceAdd, Nat.zero_add]
      rw [if_pos (by rfl)]
      intro K hK
      have HI := Lib.hid hI
      have HK := Lib.hid hK; clear hK hI hdep hcl hre hLi
      go_simp
      exact HK.out _ _ (ZI.step OK.out HI.out 0 _ (by decide) (by decide) (by decide) (by decide) (Ext.refl _) (List.forall_mem_cons.2 ⟨(fun _ => rfl), (List.forall_mem_cons.2 ⟨(fun h => absurd (show (1 : Nat) = 0 from h) (by decide)), (List.forall_mem_cons.2 ⟨(fun h => absurd (show (2 : Nat) = 0 from h) (by decide)), (List.forall_mem_cons.2 ⟨(fun h => absurd (show (3 : Nat) = 0 from h) (by decide)), (List.forall_mem_cons.2 ⟨(fun h => absurd (show (4 : Nat) = 0 from h) (by decide)), (List.forall_mem_cons.2 ⟨(fun h => absurd (show (5 : Nat) = 0 from h) (by decide)), (List.forall_mem_cons.2 ⟨(fun h => absurd (show (6 : Nat) = 0 from h) (by decide)), (List.forall_mem_cons.2 ⟨(fun h => absurd (show (7 : Nat) = 0 from h) (by decide)), (List.forall_mem_cons.2 ⟨(fun h => absurd (show (8 : Nat) = 0 from h) (by decide)), (List.forall_mem_cons.2 ⟨(fun h => absurd (show (9 : Nat) = 0 from h) (by decide)), (List.forall_mem_nil _)⟩)⟩)⟩)⟩)⟩)⟩)⟩)⟩)⟩)⟩))
    -- 1: slot 68 := Op.load 55 t8
    refine ⟨?_, ?_⟩
    · intro v w' L hLi hdep hcl hre hI
      have hx := hI.1
      simp only [List.take_succ_cons, List.take_zero, putF, Act.put, List.setIfInBounds_toArray, List.set_cons_zero, List.set_cons_succ, Nat.reduceAdd, Nat.zero_add]
      rw [if_pos (by rfl)]
      intro K hK
      have HI := Lib.hid hI
      have q0 := hx.cell c0
      have q1 := hx.cell c1
      have q2 := hx.cell c2
      have r0 := hx.cell d0
      have r1 := hx.cell d1
      have r2 := hx.cell d2
      have r3 := hx.cell d3
      have HK := Lib.hid hK; clear hK hI hdep hcl hre hLi
      go_simp
      exact HK.out _ _ (ZI.step OK.out HI.out 1 _ (by decide) (by decide) (by decide) (by decide) (Ext.refl _) (List.forall_mem_cons.2 ⟨(fun h => absurd (show (0 : Nat) = 1 from h) (by decide)), (List.forall_mem_cons.2 ⟨(fun _ => rfl), (List.forall_mem_cons.2 ⟨(fun h => absurd (show (2 : Nat) = 1 from h) (by decide)), (List.forall_mem_cons.2 ⟨(fun h => absurd (show (3 : Nat) = 1 from h) (by decide)), (List.forall_mem_cons.2 ⟨(fun h => absurd (show (4 : Nat) = 1 from h) (by decide)), (List.forall_mem_cons.2 ⟨(fun h => absurd (show (5 : Nat) = 1 from h) (by decide)), (List.forall_mem_cons.2 ⟨(fun h => absurd (show (6 : Nat) = 1 from h) (by decide)), (List.forall_mem_cons.2 ⟨(fun h => absurd (show (7 : Nat) = 1 from h) (by decide)), (List.forall_mem_cons.2 ⟨(fun h => absurd (show (8 : Nat) = 1 from h) (by decide)), (List.forall_mem_cons.2 ⟨(fun h => absurd (show (9 : Nat) = 1 from h) (by decide)), (List.forall_mem_nil _)⟩)⟩)⟩)⟩)⟩)⟩)⟩)⟩)⟩)⟩))
    -- 2: slot 69 := Op.move t0
    refine ⟨?_, ?_⟩
    · intro v w' L hLi hdep hcl hre hI
      have hx := hI.1
      simp only [List.take_succ_cons, List.take_zero, putF, Act.put, List.setIfInBounds_toArray, List.set_cons_zero, List.set_cons_succ, Nat.reduceAdd, Nat.zero_add]
      rw [if_pos (by rfl)]
      intro K hK
      have HI := Lib.hid hI
      have HK := Lib.hid hK; clear hK hI hdep hcl hre hLi
      go_simp
      exact HK.out _ _ (ZI.step OK.out HI.out 2 _ (by decide) (by decide) (by decide) (by decide) (Ext.refl _) (List.forall_mem_cons.2 ⟨(fun h => absurd (show (0 : Nat) = 2 from h) (by decide)), (List.forall_mem_cons.2 ⟨(fun h => absurd (show (1 : Nat) = 2 from h) (by decide)), (List.forall_mem_cons.2 ⟨(fun _ => rfl), (List.forall_mem_cons.2 ⟨(fun h => absurd (show (3 : Nat) = 2 from h) (by decide)), (List.forall_mem_cons.2 ⟨(fun h => absurd (show (4 : Nat) = 2 from h) (by decide)), (List.forall_mem_cons.2 ⟨(fun h => absurd (show (5 : Nat) = 2 from h) (by decide)), (List.forall_mem_cons.2 ⟨(fun h => absurd (show (6 : Nat) = 2 from h) (by decide)), (List.forall_mem_cons.2 ⟨(fun h => absurd (show (7 : Nat) = 2 from h) (by decide)), (List.forall_mem_cons.2 ⟨(fun h => absurd (show (8 : Nat) = 2 from h) (by decide)), (List.forall_mem_cons.2 ⟨(fun h => absurd (show (9 : Nat) = 2 from h) (by decide)), (List.forall_mem_nil _)⟩)⟩)⟩)⟩)⟩)⟩)⟩)⟩)⟩)⟩))
    -- 3: slot 70 := Op.call { value t67, args := #[t68, t69], argTypes := #[55, 22] }
    refine ⟨?_, ?_⟩
    · intro v w' L hLi hdep hcl hre hI
      have hx := hI.1
      have e0 : v 0 = .func (.func 50) #[] #[] := hI.2.1 _ (List.Mem.head _) (hre 0 (by kernel_rfl))
      have e1 : v 1 = .agg #[.slice al l.records.length cl, .int .i64 l.many, .int .i64 l.synced] := hI.2.1 _ (List.Mem.tail _ (List.Mem.head _)) (hre 1 (by kernel_rfl))
      have e2 : v 2 = .slice aa la.length ca := hI.2.1 _ (List.Mem.tail _ (List.Mem.tail _ (List.Mem.head _))) (hre 2 (by kernel_rfl))
      simp only [List.take_succ_cons, List.take_zero, putF, Act.put, List.setIfInBounds_toArray, List.set_cons_zero, List.set_cons_succ, Nat.reduceAdd, Nat.zero_add]
      simp only [e0]
      simp only [e1]
      simp only [e2]
      clear e0 e1 e2
      rw [if_pos (by rfl)]
      intro K hK
      have HI := Lib.hid hI
      have HK := Lib.hid hK; clear hK hI hdep hcl hre hLi
      go_simp
      have k0 := add_ok (S := SL L v 10 11) w' _ _ l la (ZJ_of HJ.out HI.out) (ZR_of HA.out HI.out) NL.out HRA.out HI.out.lt
      rw [EA.out] at k0
      refine k0.mono ?_
      rintro e w2 ⟨v2, rfl, hj, hx2⟩
      exact HK.out _ _ (ZI.step OK.out HI.out 3 _ (by decide) (by decide) (by decide) (by decide) hx2 (List.forall_mem_cons.2 ⟨(fun h => absurd (show (0 : Nat) = 3 from h) (by decide)), (List.forall_mem_cons.2 ⟨(fun h => absurd (show (1 : Nat) = 3 from h) (by decide)), (List.forall_mem_cons.2 ⟨(fun h => absurd (show (2 : Nat) = 3 from h) (by decide)), (List.forall_mem_cons.2 ⟨(fun _ => hj), (List.forall_mem_cons.2 ⟨(fun h => absurd (show (4 : Nat) = 3 from h) (by decide)), (List.forall_mem_cons.2 ⟨(fun h => absurd (show (5 : Nat) = 3 from h) (by decide)), (List.forall_mem_cons.2 ⟨(fun h => absurd (show (6 : Nat) = 3 from h) (by decide)), (List.forall_mem_cons.2 ⟨(fun h => absurd (show (7 : Nat) = 3 from h) (by decide)), (List.forall_mem_cons.2 ⟨(fun h => absurd (show (8 : Nat) = 3 from h) (by decide)), (List.forall_mem_cons.2 ⟨(fun h => absurd (show (9 : Nat) = 3 from h) (by decide)), (List.forall_mem_nil _)⟩)⟩)⟩)⟩)⟩)⟩)⟩)⟩)⟩)⟩))
    -- 4: slot 71 := Op.load 25 t5
    refine ⟨?_, ?_⟩
    · intro v w' L hLi hdep hcl hre hI
      have hx := hI.1
      simp only [List.take_succ_cons, List.take_zero, putF, Act.put, List.setIfInBounds_toArray, List.set_cons_zero, List.set_cons_succ, Nat.reduceAdd, Nat.zero_add]
      rw [if_pos (by rfl)]
      intro K hK
      have HI := Lib.hid hI
      have q0 := hx.cell c0
      have q1 := hx.cell c1
      have q2 := hx.cell c2
      have r0 := hx.cell d0
      have r1 := hx.cell d1
      have r2 := hx.cell d2
      have r3 := hx.cell d3
      have HK := Lib.hid hK; clear hK hI hdep hcl hre hLi
      go_simp
      exact HK.out _ _ (ZI.step OK.out HI.out 4 _ (by decide) (by decide) (by decide) (by decide) (Ext.refl _) (List.forall_mem_cons.2 ⟨(fun h => absurd (show (0 : Nat) = 4 from h) (by decide)), (List.forall_mem_cons.2 ⟨(fun h => absurd (show (1 : Nat) = 4 from h) (by decide)), (List.forall_mem_cons.2 ⟨(fun h => absurd (show (2 : Nat) = 4 from h) (by decide)), (List.forall_mem_cons.2 ⟨(fun h => absurd (show (3 : Nat) = 4 from h) (by decide)), (List.forall_mem_cons.2 ⟨(fun _ => rfl), (List.forall_mem_cons.2 ⟨(fun h => absurd (show (5 : Nat) = 4 from h) (by decide)), (List.forall_mem_cons.2 ⟨(fun h => absurd (show (6 : Nat) = 4 from h) (by decide)), (List.forall_mem_cons.2 ⟨(fun h => absurd (show (7 : Nat) = 4 from h) (by decide)), (List.forall_mem_cons.2 ⟨(fun h => absurd (show (8 : Nat) = 4 from h) (by decide)), (List.forall_mem_cons.2 ⟨(fun h => absurd (show (9 : Nat) = 4 from h) (by decide)), (List.forall_mem_nil _)⟩)⟩)⟩)⟩)⟩)⟩)⟩)⟩)⟩)⟩))
    -- 5: slot 72 := Op.call { value (Operand.func 47), args := #[t70, t71], argTypes := #[55, 25] }
    refine ⟨?_, ?_⟩
    · intro v w' L hLi hdep hcl hre hI
      have hx := hI.1
      have e4 : v 4 = .agg #[.slice ad d.sectors.length cd, .slice bd d.pending.length ed, .int .i64 d.left, .bool d.stopped] := hI.2.1 _ (List.Mem.tail _ (List.Mem.tail _ (List.Mem.tail _ (List.Mem.tail _ (List.Mem.head _))))) (hre 4 (by kernel_rfl))
      simp only [List.take_succ_cons, List.take_zero, putF, Act.put, List.setIfInBounds_toArray, List.set_cons_zero, List.set_cons_succ, Nat.reduceAdd, Nat.zero_add]
      simp only [e4]
      clear e4
      rw [if_pos (by rfl)]
      intro K hK
      have HI := Lib.hid hI
      have E4 := Lib.hid (show Journal (SL L v 10 11) w' (v 3) A from hI.2.1 _ (List.Mem.tail _ (List.Mem.tail _ (List.Mem.tail _ (List.Mem.head _)))) (hre 3 (by kernel_rfl)))
      have HK := Lib.hid hK; clear hK hI hdep hcl hre hLi
      go_simp
      have k0 := journalSync_ok (S := SL L v 10 11) w' _ _ A d E4.out (ZD_of HD.out HI.out) NA.out.reach NA.out.usedB HI.out.lt
      rw [ES.out] at k0
      refine k0.mono ?_
      rintro e w2 ⟨v1, v2, rfl, hj, hd, hx2⟩
      exact HK.out _ _ (ZI.step OK.out HI.out 5 _ (by decide) (by decide) (by decide) (by decide) hx2 (List.forall_mem_cons.2 ⟨(fun h => absurd (show (0 : Nat) = 5 from h) (by decide)), (List.forall_mem_cons.2 ⟨(fun h => absurd (show (1 : Nat) = 5 from h) (by decide)), (List.forall_mem_cons.2 ⟨(fun h => absurd (show (2 : Nat) = 5 from h) (by decide)), (List.forall_mem_cons.2 ⟨(fun h => absurd (show (3 : Nat) = 5 from h) (by decide)), (List.forall_mem_cons.2 ⟨(fun h => absurd (show (4 : Nat) = 5 from h) (by decide)), (List.forall_mem_cons.2 ⟨(fun _ => ⟨v1, v2, rfl, hj, hd⟩), (List.forall_mem_cons.2 ⟨(fun h => absurd (show (6 : Nat) = 5 from h) (by decide)), (List.forall_mem_cons.2 ⟨(fun h => absurd (show (7 : Nat) = 5 from h) (by decide)), (List.forall_mem_cons.2 ⟨(fun h => absurd (show (8 : Nat) = 5 from h) (by decide)), (List.forall_mem_cons.2 ⟨(fun h => absurd (show (9 : Nat) = 5 from h) (by decide)), (List.forall_mem_nil _)⟩)⟩)⟩)⟩)⟩)⟩)⟩)⟩)⟩)⟩))
    -- 6: slot 66 := Op.move t72
    refine ⟨?_, ?_⟩
    · intro v w' L hLi hdep hcl hre hI
      have hx := hI.1
      simp only [List.take_succ_cons, List.take_zero, putF, Act.put, List.setIfInBounds_toArray, List.set_cons_zero, List.set_cons_succ, Nat.reduceAdd, Nat.zero_add]
      rw [if_pos (by rfl)]
      intro K hK
      have HI := Lib.hid hI
      have E8 := Lib.hid (hI.2.1 _ (List.Mem.tail _ (List.Mem.tail _ (List.Mem.tail _ (List.Mem.tail _ (List.Mem.tail _ (List.Mem.head _)))))) (hre 5 (by kernel_rfl)))
      have HK := Lib.hid hK; clear hK hI hdep hcl hre hLi
      go_simp
      exact HK.out _ _ (ZI.step OK.out HI.out 6 _ (by decide) (by decide) (by decide) (by decide) (Ext.refl _) (List.forall_mem_cons.2 ⟨(fun h => absurd (show (0 : Nat) = 6 from h) (by decide)), (List.forall_mem_cons.2 ⟨(fun h => absurd (show (1 : Nat) = 6 from h) (by decide)), (List.forall_mem_cons.2 ⟨(fun h => absurd (show (2 : Nat) = 6 from h) (by decide)), (List.forall_mem_cons.2 ⟨(fun h => absurd (show (3 : Nat) = 6 from h) (by decide)), (List.forall_mem_cons.2 ⟨(fun h => absurd (show (4 : Nat) = 6 from h) (by decide)), (List.forall_mem_cons.2 ⟨(fun h => absurd (show (5 : Nat) = 6 from h) (by decide)), (List.forall_mem_cons.2 ⟨(fun _ => E8.out), (List.forall_mem_cons.2 ⟨(fun h => absurd (show (7 : Nat) = 6 from h) (by decide)), (List.forall_mem_cons.2 ⟨(fun h => absurd (show (8 : Nat) = 6 from h) (by decide)), (List.forall_mem_cons.2 ⟨(fun h => absurd (show (9 : Nat) = 6 from h) (by decide)), (List.forall_mem_nil _)⟩)⟩)⟩)⟩)⟩)⟩)⟩)⟩)⟩)⟩))
    -- 7: slot 73 := Op.extract t66 0
    refine ⟨?_, ?_⟩
    · intro v w' L hLi hdep hcl hre hI
      have hx := hI.1
      simp only [List.take_succ_cons, List.take_zero, putF, Act.put, List.setIfInBounds_toArray, List.set_cons_zero, List.set_cons_succ, Nat.reduceAdd, Nat.zero_add]
      rw [if_pos (by rfl)]
      intro K hK
      have HI := Lib.hid hI
      obtain ⟨v1, v2, e9, hj, hd⟩ := (show ∃ v1 v2, v 6 = .tuple #[v1, v2, .int .i64 0] ∧ Journal (SL L v 10 11) w' v1 T ∧ Disk (SL L v 10 11) w' v2 C from hI.2.1 _ (List.Mem.tail _ (List.Mem.tail _ (List.Mem.tail _ (List.Mem.tail _ (List.Mem.tail _ (List.Mem.tail _ (List.Mem.head _))))))) (hre 6 (by kernel_rfl)))
      simp only [e9] at hK ⊢
      have E9 := Lib.hid e9; clear e9
      have EJ := Lib.hid hj; clear hj
      have ED := Lib.hid hd; clear hd
      have HK := Lib.hid hK; clear hK hI hdep hcl hre hLi
      go_simp
      exact HK.out _ _ (ZI.step OK.out HI.out 7 _ (by decide) (by decide) (by decide) (by decide) (Ext.refl _) (List.forall_mem_cons.2 ⟨(fun h => absurd (show (0 : Nat) = 7 from h) (by decide)), (List.forall_mem_cons.2 ⟨(fun h => absurd (show (1 : Nat) = 7 from h) (by decide)), (List.forall_mem_cons.2 ⟨(fun h => absurd (show (2 : Nat) = 7 from h) (by decide)), (List.forall_mem_cons.2 ⟨(fun h => absurd (show (3 : Nat) = 7 from h) (by decide)), (List.forall_mem_cons.2 ⟨(fun h => absurd (show (4 : Nat) = 7 from h) (by decide)), (List.forall_mem_cons.2 ⟨(fun h => absurd (show (5 : Nat) = 7 from h) (by decide)), (List.forall_mem_cons.2 ⟨(fun h => absurd (show (6 : Nat) = 7 from h) (by decide)), (List.forall_mem_cons.2 ⟨(fun _ => EJ.out), (List.forall_mem_cons.2 ⟨(fun h => absurd (show (8 : Nat) = 7 from h) (by decide)), (List.forall_mem_cons.2 ⟨(fun h => absurd (show (9 : Nat) = 7 from h) (by decide)), (List.forall_mem_nil _)⟩)⟩)⟩)⟩)⟩)⟩)⟩)⟩)⟩)⟩))
    -- 8: slot 74 := Op.extract t66 1
    refine ⟨?_, ?_⟩
    · intro v w' L hLi hdep hcl hre hI
      have hx := hI.1
      simp only [List.take_succ_cons, List.take_zero, putF, Act.put, List.setIfInBounds_toArray, List.set_cons_zero, List.set_cons_succ, Nat.reduceAdd, Nat.zero_add]
      rw [if_pos (by rfl)]
      intro K hK
      have HI := Lib.hid hI
      obtain ⟨v1, v2, e9, hj, hd⟩ := (show ∃ v1 v2, v 6 = .tuple #[v1, v2, .int .i64 0] ∧ Journal (SL L v 10 11) w' v1 T ∧ Disk (SL L v 10 11) w' v2 C from hI.2.1 _ (List.Mem.tail _ (List.Mem.tail _ (List.Mem.tail _ (List.Mem.tail _ (List.Mem.tail _ (List.Mem.tail _ (List.Mem.head _))))))) (hre 6 (by kernel_rfl)))
      simp only [e9] at hK ⊢
      have E9 := Lib.hid e9; clear e9
      have EJ := Lib.hid hj; clear hj
      have ED := Lib.hid hd; clear hd
      have HK := Lib.hid hK; clear hK hI hdep hcl hre hLi
      go_simp
      exact HK.out _ _ (ZI.step OK.out HI.out 8 _ (by decide) (by decide) (by decide) (by decide) (Ext.refl _) (List.forall_mem_cons.2 ⟨(fun h => absurd (show (0 : Nat) = 8 from h) (by decide)), (List.forall_mem_cons.2 ⟨(fun h => absurd (show (1 : Nat) = 8 from h) (by decide)), (List.forall_mem_cons.2 ⟨(fun h => absurd (show (2 : Nat) = 8 from h) (by decide)), (List.forall_mem_cons.2 ⟨(fun h => absurd (show (3 : Nat) = 8 from h) (by decide)), (List.forall_mem_cons.2 ⟨(fun h => absurd (show (4 : Nat) = 8 from h) (by decide)), (List.forall_mem_cons.2 ⟨(fun h => absurd (show (5 : Nat) = 8 from h) (by decide)), (List.forall_mem_cons.2 ⟨(fun h => absurd (show (6 : Nat) = 8 from h) (by decide)), (List.forall_mem_cons.2 ⟨(fun h => absurd (show (7 : Nat) = 8 from h) (by decide)), (List.forall_mem_cons.2 ⟨(fun _ => ED.out), (List.forall_mem_cons.2 ⟨(fun h => absurd (show (9 : Nat) = 8 from h) (by decide)), (List.forall_mem_nil _)⟩)⟩)⟩)⟩)⟩)⟩)⟩)⟩)⟩)⟩))
    -- 9: slot 75 := Op.extract t66 2
    refine ⟨?_, ?_⟩
    · intro v w' L hLi hdep hcl hre hI
      have hx := hI.1
      simp only [List.take_succ_cons, List.take_zero, putF, Act.put, List.setIfInBounds_toArray, List.set_cons_zero, List.set_cons_succ, Nat.reduceAdd, Nat.zero_add]
      rw [if_pos (by rfl)]
      intro K hK
      have HI := Lib.hid hI
      obtain ⟨v1, v2, e9, hj, hd⟩ := (show ∃ v1 v2, v 6 = .tuple #[v1, v2, .int .i64 0] ∧ Journal (SL L v 10 11) w' v1 T ∧ Disk (SL L v 10 11) w' v2 C from hI.2.1 _ (List.Mem.tail _ (List.Mem.tail _ (List.Mem.tail _ (List.Mem.tail _ (List.Mem.tail _ (List.Mem.tail _ (List.Mem.head _))))))) (hre 6 (by kernel_rfl)))
      simp only [e9] at hK ⊢
      have E9 := Lib.hid e9; clear e9 hj hd
      have HK := Lib.hid hK; clear hK hI hdep hcl hre hLi
      go_simp
      exact HK.out _ _ (ZI.step OK.out HI.out 9 _ (by decide) (by decide) (by decide) (by decide) (Ext.refl _) (List.forall_mem_cons.2 ⟨(fun h => absurd (show (0 : Nat) = 9 from h) (by decide)), (List.forall_mem_cons.2 ⟨(fun h => absurd (show (1 : Nat) = 9 from h) (by decide)), (List.forall_mem_cons.2 ⟨(fun h => absurd (show (2 : Nat) = 9 from h) (by decide)), (List.forall_mem_cons.2 ⟨(fun h => absurd (show (3 : Nat) = 9 from h) (by decide)), (List.forall_mem_cons.2 ⟨(fun h => absurd (show (4 : Nat) = 9 from h) (by decide)), (List.forall_mem_cons.2 ⟨(fun h => absurd (show (5 : Nat) = 9 from h) (by decide)), (List.forall_mem_cons.2 ⟨(fun h => absurd (show (6 : Nat) = 9 from h) (by decide)), (List.forall_mem_cons.2 ⟨(fun h => absurd (show (7 : Nat) = 9 from h) (by decide)), (List.forall_mem_cons.2 ⟨(fun h => absurd (show (8 : Nat) = 9 from h) (by decide)), (List.forall_mem_cons.2 ⟨(fun _ => rfl), (List.forall_mem_nil _)⟩)⟩)⟩)⟩)⟩)⟩)⟩)⟩)⟩)⟩))
    -- 10: slot 13 := Op.alloc 55
    refine ⟨?_, ?_⟩
    · intro v w' L hLi hdep hcl hre hI
      have hx := hI.1
      simp only [List.take_succ_cons, List.take_zero, putF, Act.put, List.setIfInBounds_toArray, List.set_cons_zero, List.set_cons_succ, Nat.reduceAdd, Nat.zero_add]
      rw [if_pos (by rfl)]
      intro K hK
      have HI := Lib.hid hI
      have HN := Lib.hid (show L 12 = false from (Bool.eq_false_iff.2 (fun h => by have := hcl 12 10 h (by kernel_rfl); rw [hLi] at this; cases this)))
      have HK := Lib.hid hK; clear hK hI hdep hcl hre hLi
      go_simp
      exact HK.out _ _ (ZI.allocB OK.out HI.out (by decide) (by decide) (by decide) HN.out (List.forall_mem_cons.2 ⟨(show (0 : Nat) ≠ 10 by decide), (List.forall_mem_cons.2 ⟨(show (1 : Nat) ≠ 10 by decide), (List.forall_mem_cons.2 ⟨(show (2 : Nat) ≠ 10 by decide), (List.forall_mem_cons.2 ⟨(show (3 : Nat) ≠ 10 by decide), (List.forall_mem_cons.2 ⟨(show (4 : Nat) ≠ 10 by decide), (List.forall_mem_cons.2 ⟨(show (5 : Nat) ≠ 10 by decide), (List.forall_mem_cons.2 ⟨(show (6 : Nat) ≠ 10 by decide), (List.forall_mem_cons.2 ⟨(show (7 : Nat) ≠ 10 by decide), (List.forall_mem_cons.2 ⟨(show (8 : Nat) ≠ 10 by decide), (List.forall_mem_cons.2 ⟨(show (9 : Nat) ≠ 10 by decide), (List.forall_mem_nil _)⟩)⟩)⟩)⟩)⟩)⟩)⟩)⟩)⟩)⟩))
    -- 11: slot 14 := Op.alloc 25
    refine ⟨?_, ?_⟩
    · intro v w' L hLi hdep hcl hre hI
      have hx := hI.1
      simp only [List.take_succ_cons, List.take_zero, putF, Act.put, List.setIfInBounds_toArray, List.set_cons_zero, List.set_cons_succ, Nat.reduceAdd, Nat.zero_add]
      rw [if_pos (by rfl)]
      intro K hK
      have HI := Lib.hid hI
      have HN := Lib.hid (show L 13 = false from (Bool.eq_false_iff.2 (fun h => by have := hcl 13 11 h (by kernel_rfl); rw [hLi] at this; cases this)))
      have HK := Lib.hid hK; clear hK hI hdep hcl hre hLi
      go_simp
      exact HK.out _ _ (ZI.allocD OK.out HI.out (by decide) (by decide) (by decide) HN.out (List.forall_mem_cons.2 ⟨(show (0 : Nat) ≠ 11 by decide), (List.forall_mem_cons.2 ⟨(show (1 : Nat) ≠ 11 by decide), (List.forall_mem_cons.2 ⟨(show (2 : Nat) ≠ 11 by decide), (List.forall_mem_cons.2 ⟨(show (3 : Nat) ≠ 11 by decide), (List.forall_mem_cons.2 ⟨(show (4 : Nat) ≠ 11 by decide), (List.forall_mem_cons.2 ⟨(show (5 : Nat) ≠ 11 by decide), (List.forall_mem_cons.2 ⟨(show (6 : Nat) ≠ 11 by decide), (List.forall_mem_cons.2 ⟨(show (7 : Nat) ≠ 11 by decide), (List.forall_mem_cons.2 ⟨(show (8 : Nat) ≠ 11 by decide), (List.forall_mem_cons.2 ⟨(show (9 : Nat) ≠ 11 by decide), (List.forall_mem_nil _)⟩)⟩)⟩)⟩)⟩)⟩)⟩)⟩)⟩)⟩))
    -- 12: slot None := Op.store 55 t13 t73
    refine ⟨?_, ?_⟩
    · intro v w' L hLi hdep hcl hre hI
      have hx := hI.1
      simp only [List.take_succ_cons, List.take_zero, putF, Act.put, List.setIfInBounds_toArray, List.set_cons_zero, List.set_cons_succ, Nat.reduceAdd, Nat.zero_add]
      rw [if_pos (by rfl)]
      intro K hK
      have HI := Lib.hid hI
      obtain ⟨g, eg, hg1, hz, -⟩ := hI.2.2.1 (hre 10 (by kernel_rfl))
      replace hz := hz hLi
      have hj : Journal (SL L v 10 11) w' (v 7) T := hI.2.1 _ (List.Mem.tail _ (List.Mem.tail _ (List.Mem.tail _ (List.Mem.tail _ (List.Mem.tail _ (List.Mem.tail _ (List.Mem.tail _ (List.Mem.head _)))))))) (hre 7 (by kernel_rfl))
      obtain ⟨a, c, ej, -, -, -⟩ := hj.open
      rw [ej] at hj
      simp only [eg, ej] at hK ⊢
      refine wp_store_box 55 (.tmp 13) (.tmp 73) rfl g (jc T a c) z3 rfl rfl hz (by kernel_rfl) rfl rfl ?_
      intro w2 hb2 ho
      exact hK undef _ (ZI.storeB OK.out HI.out undef (by decide) (by decide) (by decide) (List.forall_mem_cons.2 ⟨(show (0 : Nat) ≠ 12 by decide), (List.forall_mem_cons.2 ⟨(show (1 : Nat) ≠ 12 by decide), (List.forall_mem_cons.2 ⟨(show (2 : Nat) ≠ 12 by decide), (List.forall_mem_cons.2 ⟨(show (3 : Nat) ≠ 12 by decide), (List.forall_mem_cons.2 ⟨(show (4 : Nat) ≠ 12 by decide), (List.forall_mem_cons.2 ⟨(show (5 : Nat) ≠ 12 by decide), (List.forall_mem_cons.2 ⟨(show (6 : Nat) ≠ 12 by decide), (List.forall_mem_cons.2 ⟨(show (7 : Nat) ≠ 12 by decide), (List.forall_mem_cons.2 ⟨(show (8 : Nat) ≠ 12 by decide), (List.forall_mem_cons.2 ⟨(show (9 : Nat) ≠ 12 by decide), (List.forall_mem_nil _)⟩)⟩)⟩)⟩)⟩)⟩)⟩)⟩)⟩)⟩) eg (hre 10 (by kernel_rfl)) hg1 ho hb2 hz hj)
    -- 13: slot None := Op.store 25 t14 t74
    refine ⟨?_, ?_⟩
    · intro v w' L hLi hdep hcl hre hI
      have hx := hI.1
      simp only [List.take_succ_cons, List.take_zero, putF, Act.put, List.setIfInBounds_toArray, List.set_cons_zero, List.set_cons_succ, Nat.reduceAdd, Nat.zero_add]
      rw [if_pos (by rfl)]
      intro K hK
      have HI := Lib.hid hI
      obtain ⟨g, eg, hg1, hz, -⟩ := hI.2.2.2 (hre 11 (by kernel_rfl))
      replace hz := hz hLi
      have hj : Disk (SL L v 10 11) w' (v 8) C := hI.2.1 _ (List.Mem.tail _ (List.Mem.tail _ (List.Mem.tail _ (List.Mem.tail _ (List.Mem.tail _ (List.Mem.tail _ (List.Mem.tail _ (List.Mem.tail _ (List.Mem.head _))))))))) (hre 8 (by kernel_rfl))
      obtain ⟨a, c, b, e, ej, -, -, -, -, -, -⟩ := hj.open
      rw [ej] at hj
      simp only [eg, ej] at hK ⊢
      refine wp_store_box 25 (.tmp 14) (.tmp 74) rfl g (dc C a c b e) z4 rfl rfl hz (by kernel_rfl) rfl rfl ?_
      intro w2 hb2 ho
      exact hK undef _ (ZI.storeD OK.out HI.out undef (by decide) (by decide) (by decide) (List.forall_mem_cons.2 ⟨(show (0 : Nat) ≠ 13 by decide), (List.forall_mem_cons.2 ⟨(show (1 : Nat) ≠ 13 by decide), (List.forall_mem_cons.2 ⟨(show (2 : Nat) ≠ 13 by decide), (List.forall_mem_cons.2 ⟨(show (3 : Nat) ≠ 13 by decide), (List.forall_mem_cons.2 ⟨(show (4 : Nat) ≠ 13 by decide), (List.forall_mem_cons.2 ⟨(show (5 : Nat) ≠ 13 by decide), (List.forall_mem_cons.2 ⟨(show (6 : Nat) ≠ 13 by decide), (List.forall_mem_cons.2 ⟨(show (7 : Nat) ≠ 13 by decide), (List.forall_mem_cons.2 ⟨(show (8 : Nat) ≠ 13 by decide), (List.forall_mem_cons.2 ⟨(show (9 : Nat) ≠ 13 by decide), (List.forall_mem_nil _)⟩)⟩)⟩)⟩)⟩)⟩)⟩)⟩)⟩)⟩) eg (hre 11 (by kernel_rfl)) hg1 ho hb2 hz hj)
    exact trivial
  case tail =>
    intro v w' hI
    simp only [List.drop_succ_cons, List.drop_zero, List.take_succ_cons, List.take_zero, putF, Act.put, List.setIfInBounds_toArray, List.set_cons_zero, List.set_cons_succ, Nat.reduceAdd, Nat.zero_add]
    have hx := hI.1
    have et : v 9 = .int .i64 0 := hI.2.1 _ (List.Mem.tail _ (List.Mem.tail _ (List.Mem.tail _ (List.Mem.tail _ (List.Mem.tail _ (List.Mem.tail _ (List.Mem.tail _ (List.Mem.tail _ (List.Mem.tail _ (List.Mem.head _)))))))))) (by decide)
    obtain ⟨g10, e10, -, -, hb10⟩ := hI.2.2.1 (by decide)
    obtain ⟨a, c, hbx, hjx⟩ := hb10 (by decide)
    obtain ⟨g11, e11, -, -, hb11⟩ := hI.2.2.2 (by decide)
    obtain ⟨b, f, e, h, hby, hdx⟩ := hb11 (by decide)
    simp only [et, e10, e11]
    have HX := Lib.hid hx; clear hx
    have HBX := Lib.hid hbx; clear hbx
    have HBY := Lib.hid hby; clear hby
    have HJX := Lib.hid (hjx.more (S' := No) (fun _ h => h.elim)); clear hjx
    have HDX := Lib.hid (hdx.more (S' := No) (fun _ h => h.elim)); clear hdx
    clear hI et e10 e11 hb10 hb11
    go_wp2_with fail
    exact HQ.out _ _ _ _ _ _ _ _ _ _ g10 g11 a b e c f h w' HX.out HBX.out HBY.out HJX.out HDX.out
noncomputable def code15_12 : Code := ((Try.f15.body.bind (regionOf 12)).getD .skip)
set_option maxRecDepth 100000 in
set_option maxHeartbeats 4000000 in
theorem reg15_12 {Q : Exit → Act → World → Prop} (t2 t3 t4 t5 t6 t8 t9 t10 t11 t12 t15 t16 t17 t18 t19 t20 t21 t22 t23 t24 t25 t26 t27 t28 t29 t30 t31 t32 t33 t34 t35 t36 t37 t38 t39 t40 t41 t42 t43 t44 t45 t46 t47 t48 t49 t50 t51 t52 t53 t54 t55 t56 t57 t58 t59 t60 t61 t62 t63 t64 t65 t66 t67 t68 t69 t70 t71 t72 t73 t74 t75 t76 t77 t78 t79 t80 t81 t82 t83 t84 t85 t86 t87 t88 t89 t90 t91 t92 t93 t94 t95 t96 t97 t98 t99 t100 t101 t102 t103 t104 t105 t106 t107 t108 t109 t110 t111 t112 t113 t114 t115 t116 t117 t118 t119 t120 t121 t122 t123 t124 t125 t126 t127 t128 t129 t130 t131 t132 t133 t134 t135 t136 t137 t138 t139 t140 t141 t142 t143 t144 t145 t146 t147 t148 t149 t150 t151 t152 t153 : Value) (w1 : World) (gl gd cl cd ed ca cb : Nat) (al ad bd aa ab : Option Addr) (l A T : Jn) (d C : Dk) (la lb : List (List UInt8))
    (hl : Box w1 gl [.slice al l.records.length cl, .int .i64 l.many, .int .i64 l.synced]) (hd : Box w1 gd [.slice ad d.sectors.length cd, .slice bd d.pending.length ed, .int .i64 d.left, .bool d.stopped]) (hJ : Journal No w1 (.agg #[.slice al l.records.length cl, .int .i64 l.many, .int .i64 l.synced]) l) (hD : Disk No w1 (.agg #[.slice ad d.sectors.length cd, .slice bd d.pending.length ed, .int .i64 d.left, .bool d.stopped]) d) (ha : Bss No w1 (.slice aa la.length ca) la) (hb : Bss No w1 (.slice ab lb.length cb) lb) (nL : Nice l) (nA : Nice A) (hra : ReachB la) (hrb : ReachB lb) (eA : addJ l lb = A) (eS : syncJ A d = (T, C, 0))
    (hQ : ∀ (u77 u78 u79 u80 u81 u82 u76 u83 u84 u85 : Value) (g10 g11 : Nat) (a b e : Option Addr) (c f h : Nat) (wx : World), Ext w1 wx → Box wx g10 (jc T a c) → Box wx g11 (dc C b f e h) → Journal No wx (.agg (jc T a c).toArray) T → Disk No wx (.agg (dc C b f e h).toArray) C → Q .normal ⟨#[.slice aa la.length ca, .slice ab lb.length cb, t2, t3, t4, t5, t6, .func (.func 50) #[] #[], t8, t9, t10, t11, t12, .pointer (some ⟨gl, 0, none⟩), .pointer (some ⟨gd, 0, none⟩), t15, .pointer (some ⟨g10, 0, none⟩), .pointer (some ⟨g11, 0, none⟩), .int .i64 0, t19, t20, t21, t22, t23, t24, t25, t26, t27, t28, t29, t30, t31, t32, t33, t34, t35, t36, t37, t38, t39, t40, t41, t42, t43, t44, t45, t46, t47, t48, t49, t50, t51, t52, t53, t54, t55, t56, t57, t58, t59, t60, t61, t62, t63, t64, t65, t66, t67, t68, t69, t70, t71, t72, t73, t74, t75, u76, u77, u78, u79, u80, u81, u82, u83, u84, u85, t86, t87, t88, t89, t90, t91, t92, t93, t94, t95, t96, t97, t98, t99, t100, t101, t102, t103, t104, t105, t106, t107, t108, t109, t110, t111, t112, t113, t114, t115, t116, t117, t118, t119, t120, t121, t122, t123, t124, t125, t126, t127, t128, t129, t130, t131, t132, t133, t134, t135, t136, t137, t138, t139, t140, t141, t142, t143, t144, t145, t146, t147, t148, t149, t150, t151, t152, t153], []⟩ wx) :
    Code.wp Try.prog code15_12 Q ⟨#[.slice aa la.length ca, .slice ab lb.length cb, t2, t3, t4, t5, t6, .func (.func 50) #[] #[], t8, t9, t10, t11, t12, .pointer (some ⟨gl, 0, none⟩), .pointer (some ⟨gd, 0, none⟩), t15, t16, t17, t18, t19, t20, t21, t22, t23, t24, t25, t26, t27, t28, t29, t30, t31, t32, t33, t34, t35, t36, t37, t38, t39, t40, t41, t42, t43, t44, t45, t46, t47, t48, t49, t50, t51, t52, t53, t54, t55, t56, t57, t58, t59, t60, t61, t62, t63, t64, t65, t66, t67, t68, t69, t70, t71, t72, t73, t74, t75, t76, t77, t78, t79, t80, t81, t82, t83, t84, t85, t86, t87, t88, t89, t90, t91, t92, t93, t94, t95, t96, t97, t98, t99, t100, t101, t102, t103, t104, t105, t106, t107, t108, t109, t110, t111, t112, t113, t114, t115, t116, t117, t118, t119, t120, t121, t122, t123, t124, t125, t126, t127, t128, t129, t130, t131, t132, t133, t134, t135, t136, t137, t138, t139, t140, t141, t142, t143, t144, t145, t146, t147, t148, t149, t150, t151, t152, t153], []⟩ w1 := by
  conv => arg 2; whnf
  have HQ := Lib.hid hQ; clear hQ
  have HJ := Lib.hid hJ; clear hJ
  have HD := Lib.hid hD; clear hD
  have HA := Lib.hid ha; clear ha
  have HB := Lib.hid hb; clear hb
  have HRA := Lib.hid hra; clear hra
  have HRB := Lib.hid hrb; clear hrb
  have NL := Lib.hid nL; clear nL
  have NA := Lib.hid nA; clear nA
  have EA := Lib.hid eA; clear eA
  have ES := Lib.hid eS; clear eS
  obtain ⟨c0, c1, c2, -, -, -⟩ := hl.three
  obtain ⟨d0, d1, d2, d3, -, -, -, -⟩ := hd.four
  clear hl hd
  have OK : Hid (∀ c ∈ ([cmpC 0 (.func (.func 50) #[] #[]), cmpC 1 (.agg #[.slice al l.records.length cl, .int .i64 l.many, .int .i64 l.synced]), cmpC 2 (.slice ab lb.length cb), cmpJ 3 A, cmpC 4 (.agg #[.slice ad d.sectors.length cd, .slice bd d.pending.length ed, .int .i64 d.left, .bool d.stopped]), cmpT 5 T C, cmpT 6 T C, cmpJ 7 T, cmpD 8 C, cmpC 9 (.int .i64 0)] : List Cmp), c.ok) := Lib.hid (List.forall_mem_cons.2 ⟨cmpC_ok _ _, (List.forall_mem_cons.2 ⟨cmpC_ok _ _, (List.forall_mem_cons.2 ⟨cmpC_ok _ _, (List.forall_mem_cons.2 ⟨cmpJ_ok _ _, (List.forall_mem_cons.2 ⟨cmpC_ok _ _, (List.forall_mem_cons.2 ⟨cmpT_ok _ _ _, (List.forall_mem_cons.2 ⟨cmpT_ok _ _ _, (List.forall_mem_cons.2 ⟨cmpJ_ok _ _, (List.forall_mem_cons.2 ⟨cmpD_ok _ _, (List.forall_mem_cons.2 ⟨cmpC_ok _ _, (List.forall_mem_nil _)⟩)⟩)⟩)⟩)⟩)⟩)⟩)⟩)⟩)⟩)
  refine wp_region_inv 14 (by kernel_rfl) (by kernel_rfl) (ZI w1 [cmpC 0 (.func (.func 50) #[] #[]), cmpC 1 (.agg #[.slice al l.records.length cl, .int .i64 l.many, .int .i64 l.synced]), cmpC 2 (.slice ab lb.length cb), cmpJ 3 A, cmpC 4 (.agg #[.slice ad d.sectors.length cd, .slice bd d.pending.length ed, .int .i64 d.left, .bool d.stopped]), cmpT 5 T C, cmpT 6 T C, cmpJ 7 T, cmpD 8 C, cmpC 9 (.int .i64 0)] T C 10 11 12 13) ?h0 ?steps ?tail
  case h0 => intro v; exact ⟨Ext.drew' w1, (fun c _ h => by cases h), (fun h => by cases h), (fun h => by cases h)⟩
  case steps =>
    simp only [List.take_succ_cons, List.take_zero]
    -- 0: slot 77 := Op.move t7
    refine ⟨?_, ?_⟩
    · intro v w' L hLi hdep hcl hre hI
      have hx := hI.1
      simp only [List.take_succ_cons, List.take_zero, putF, Act.put, List.setIfInBounds_toArray, List.set_cons_zero, List.set_cons_succ, Nat.reduceAdd, Nat.zero_add]
      rw [if_pos (by rfl)]
      intro K hK
      have HI := Lib.hid hI
      have HK := Lib.hid hK; clear hK hI hdep hcl hre hLi
      go_simp
      exact HK.out _ _ (ZI.step OK.out HI.out 0 _ (by decide) (by decide) (by decide) (by decide) (Ext.refl _) (List.forall_mem_cons.2 ⟨(fun _ => rfl), (List.forall_mem_cons.2 ⟨(fun h => absurd (show (1 : Nat) = 0 from h) (by decide)), (List.forall_mem_cons.2 ⟨(fun h => absurd (show (2 : Nat) = 0 from h) (by decide)), (List.forall_mem_cons.2 ⟨(fun h => absurd (show (3 : Nat) = 0 from h) (by decide)), (List.forall_mem_cons.2 ⟨(fun h => absurd (show (4 : Nat) = 0 from h) (by decide)), (List.forall_mem_cons.2 ⟨(fun h => absurd (show (5 : Nat) = 0 from h) (by decide)), (List.forall_mem_cons.2 ⟨(fun h => absurd (show (6 : Nat) = 0 from h) (by decide)), (List.forall_mem_cons.2 ⟨(fun h => absurd (show (7 : Nat) = 0 from h) (by decide)), (List.forall_mem_cons.2 ⟨(fun h => absurd (show (8 : Nat) = 0 from h) (by decide)), (List.forall_mem_cons.2 ⟨(fun h => absurd (show (9 : Nat) = 0 from h) (by decide)), (List.forall_mem_nil _)⟩)⟩)⟩)⟩)⟩)⟩)⟩)⟩)⟩)⟩))
    -- 1: slot 78 := Op.load 55 t13
    refine ⟨?_, ?_⟩
    · intro v w' L hLi hdep hcl hre hI
      have hx := hI.1
      simp only [List.take_succ_cons, List.take_zero, putF, Act.put, List.setIfInBounds_toArray, List.set_cons_zero, List.set_cons_succ, Nat.reduceAdd, Nat.zero_add]
      rw [if_pos (by rfl)]
      intro K hK
      have HI := Lib.hid hI
      have q0 := hx.cell c0
      have q1 := hx.cell c1
      have q2 := hx.cell c2
      have r0 := hx.cell d0
      have r1 := hx.cell d1
      have r2 := hx.cell d2
      have r3 := hx.cell d3
      have HK := Lib.hid hK; clear hK hI hdep hcl hre hLi
      go_simp
      exact HK.out _ _ (ZI.step OK.out HI.out 1 _ (by decide) (by decide) (by decide) (by decide) (Ext.refl _) (List.forall_mem_cons.2 ⟨(fun h => absurd (show (0 : Nat) = 1 from h) (by decide)), (List.forall_mem_cons.2 ⟨(fun _ => rfl), (List.forall_mem_cons.2 ⟨(fun h => absurd (show (2 : Nat) = 1 from h) (by decide)), (List.forall_mem_cons.2 ⟨(fun h => absurd (show (3 : Nat) = 1 from h) (by decide)), (List.forall_mem_cons.2 ⟨(fun h => absurd (show (4 : Nat) = 1 from h) (by decide)), (List.forall_mem_cons.2 ⟨(fun h => absurd (show (5 : Nat) = 1 from h) (by decide)), (List.forall_mem_cons.2 ⟨(fun h => absurd (show (6 : Nat) = 1 from h) (by decide)), (List.forall_mem_cons.2 ⟨(fun h => absurd (show (7 : Nat) = 1 from h) (by decide)), (List.forall_mem_cons.2 ⟨(fun h => absurd (show (8 : Nat) = 1 from h) (by decide)), (List.forall_mem_cons.2 ⟨(fun h => absurd (show (9 : Nat) = 1 from h) (by decide)), (List.forall_mem_nil _)⟩)⟩)⟩)⟩)⟩)⟩)⟩)⟩)⟩)⟩))
    -- 2: slot 79 := Op.move t1
    refine ⟨?_, ?_⟩
    · intro v w' L hLi hdep hcl hre hI
      have hx := hI.1
      simp only [List.take_succ_cons, List.take_zero, putF, Act.put, List.setIfInBounds_toArray, List.set_cons_zero, List.set_cons_succ, Nat.reduceAdd, Nat.zero_add]
      rw [if_pos (by rfl)]
      intro K hK
      have HI := Lib.hid hI
      have HK := Lib.hid hK; clear hK hI hdep hcl hre hLi
      go_simp
      exact HK.out _ _ (ZI.step OK.out HI.out 2 _ (by decide) (by decide) (by decide) (by decide) (Ext.refl _) (List.forall_mem_cons.2 ⟨(fun h => absurd (show (0 : Nat) = 2 from h) (by decide)), (List.forall_mem_cons.2 ⟨(fun h => absurd (show (1 : Nat) = 2 from h) (by decide)), (List.forall_mem_cons.2 ⟨(fun _ => rfl), (List.forall_mem_cons.2 ⟨(fun h => absurd (show (3 : Nat) = 2 from h) (by decide)), (List.forall_mem_cons.2 ⟨(fun h => absurd (show (4 : Nat) = 2 from h) (by decide)), (List.forall_mem_cons.2 ⟨(fun h => absurd (show (5 : Nat) = 2 from h) (by decide)), (List.forall_mem_cons.2 ⟨(fun h => absurd (show (6 : Nat) = 2 from h) (by decide)), (List.forall_mem_cons.2 ⟨(fun h => absurd (show (7 : Nat) = 2 from h) (by decide)), (List.forall_mem_cons.2 ⟨(fun h => absurd (show (8 : Nat) = 2 from h) (by decide)), (List.forall_mem_cons.2 ⟨(fun h => absurd (show (9 : Nat) = 2 from h) (by decide)), (List.forall_mem_nil _)⟩)⟩)⟩)⟩)⟩)⟩)⟩)⟩)⟩)⟩))
    -- 3: slot 80 := Op.call { value t77, args := #[t78, t79], argTypes := #[55, 22] }
    refine ⟨?_, ?_⟩
    · intro v w' L hLi hdep hcl hre hI
      have hx := hI.1
      have e0 : v 0 = .func (.func 50) #[] #[] := hI.2.1 _ (List.Mem.head _) (hre 0 (by kernel_rfl))
      have e1 : v 1 = .agg #[.slice al l.records.length cl, .int .i64 l.many, .int .i64 l.synced] := hI.2.1 _ (List.Mem.tail _ (List.Mem.head _)) (hre 1 (by kernel_rfl))
      have e2 : v 2 = .slice ab lb.length cb := hI.2.1 _ (List.Mem.tail _ (List.Mem.tail _ (List.Mem.head _))) (hre 2 (by kernel_rfl))
      simp only [List.take_succ_cons, List.take_zero, putF, Act.put, List.setIfInBounds_toArray, List.set_cons_zero, List.set_cons_succ, Nat.reduceAdd, Nat.zero_add]
      simp only [e0]
      simp only [e1]
      simp only [e2]
      clear e0 e1 e2
      rw [if_pos (by rfl)]
      intro K hK
      have HI := Lib.hid hI
      have HK := Lib.hid hK; clear hK hI hdep hcl hre hLi
      go_simp
      have k0 := add_ok (S := SL L v 10 11) w' _ _ l lb (ZJ_of HJ.out HI.out) (ZR_of HB.out HI.out) NL.out HRB.out HI.out.lt
      rw [EA.out] at k0
      refine k0.mono ?_
      rintro e w2 ⟨v2, rfl, hj, hx2⟩
      exact HK.out _ _ (ZI.step OK.out HI.out 3 _ (by decide) (by decide) (by decide) (by decide) hx2 (List.forall_mem_cons.2 ⟨(fun h => absurd (show (0 : Nat) = 3 from h) (by decide)), (List.forall_mem_cons.2 ⟨(fun h => absurd (show (1 : Nat) = 3 from h) (by decide)), (List.forall_mem_cons.2 ⟨(fun h => absurd (show (2 : Nat) = 3 from h) (by decide)), (List.forall_mem_cons.2 ⟨(fun _ => hj), (List.forall_mem_cons.2 ⟨(fun h => absurd (show (4 : Nat) = 3 from h) (by decide)), (List.forall_mem_cons.2 ⟨(fun h => absurd (show (5 : Nat) = 3 from h) (by decide)), (List.forall_mem_cons.2 ⟨(fun h => absurd (show (6 : Nat) = 3 from h) (by decide)), (List.forall_mem_cons.2 ⟨(fun h => absurd (show (7 : Nat) = 3 from h) (by decide)), (List.forall_mem_cons.2 ⟨(fun h => absurd (show (8 : Nat) = 3 from h) (by decide)), (List.forall_mem_cons.2 ⟨(fun h => absurd (show (9 : Nat) = 3 from h) (by decide)), (List.forall_mem_nil _)⟩)⟩)⟩)⟩)⟩)⟩)⟩)⟩)⟩)⟩))
    -- 4: slot 81 := Op.load 25 t14
    refine ⟨?_, ?_⟩
    · intro v w' L hLi hdep hcl hre hI
      have hx := hI.1
      simp only [List.take_succ_cons, List.take_zero, putF, Act.put, List.setIfInBounds_toArray, List.set_cons_zero, List.set_cons_succ, Nat.reduceAdd, Nat.zero_add]
      rw [if_pos (by rfl)]
      intro K hK
      have HI := Lib.hid hI
      have q0 := hx.cell c0
      have q1 := hx.cell c1
      have q2 := hx.cell c2
      have r0 := hx.cell d0
      have r1 := hx.cell d1
      have r2 := hx.cell d2
      have r3 := hx.cell d3
      have HK := Lib.hid hK; clear hK hI hdep hcl hre hLi
      go_simp
      exact HK.out _ _ (ZI.step OK.out HI.out 4 _ (by decide) (by decide) (by decide) (by decide) (Ext.refl _) (List.forall_mem_cons.2 ⟨(fun h => absurd (show (0 : Nat) = 4 from h) (by decide)), (List.forall_mem_cons.2 ⟨(fun h => absurd (show (1 : Nat) = 4 from h) (by decide)), (List.forall_mem_cons.2 ⟨(fun h => absurd (show (2 : Nat) = 4 from h) (by decide)), (List.forall_mem_cons.2 ⟨(fun h => absurd (show (3 : Nat) = 4 from h) (by decide)), (List.forall_mem_cons.2 ⟨(fun _ => rfl), (List.forall_mem_cons.2 ⟨(fun h => absurd (show (5 : Nat) = 4 from h) (by decide)), (List.forall_mem_cons.2 ⟨(fun h => absurd (show (6 : Nat) = 4 from h) (by decide)), (List.forall_mem_cons.2 ⟨(fun h => absurd (show (7 : Nat) = 4 from h) (by decide)), (List.forall_mem_cons.2 ⟨(fun h => absurd (show (8 : Nat) = 4 from h) (by decide)), (List.forall_mem_cons.2 ⟨(fun h => absurd (show (9 : Nat) = 4 from h) (by decide)), (List.forall_mem_nil _)⟩)⟩)⟩)⟩)⟩)⟩)⟩)⟩)⟩)⟩))
    -- 5: slot 82 := Op.call { value (Operand.func 47), args := #[t80, t81], argTypes := #[55, 25] }
    refine ⟨?_, ?_⟩
    · intro v w' L hLi hdep hcl hre hI
      have hx := hI.1
      have e4 : v 4 = .agg #[.slice ad d.sectors.length cd, .slice bd d.pending.length ed, .int .i64 d.left, .bool d.stopped] := hI.2.1 _ (List.Mem.tail _ (List.Mem.tail _ (List.Mem.tail _ (List.Mem.tail _ (List.Mem.head _))))) (hre 4 (by kernel_rfl))
      simp only [List.take_succ_cons, List.take_zero, putF, Act.put, List.setIfInBounds_toArray, List.set_cons_zero, List.set_cons_succ, Nat.reduceAdd, Nat.zero_add]
      simp only [e4]
      clear e4
      rw [if_pos (by rfl)]
      intro K hK
      have HI := Lib.hid hI
      have E4 := Lib.hid (show Journal (SL L v 10 11) w' (v 3) A from hI.2.1 _ (List.Mem.tail _ (List.Mem.tail _ (List.Mem.tail _ (List.Mem.head _)))) (hre 3 (by kernel_rfl)))
      have HK := Lib.hid hK; clear hK hI hdep hcl hre hLi
      go_simp
      have k0 := journalSync_ok (S := SL L v 10 11) w' _ _ A d E4.out (ZD_of HD.out HI.out) NA.out.reach NA.out.usedB HI.out.lt
      rw [ES.out] at k0
      refine k0.mono ?_
      rintro e w2 ⟨v1, v2, rfl, hj, hd, hx2⟩
      exact HK.out _ _ (ZI.step OK.out HI.out 5 _ (by decide) (by decide) (by decide) (by decide) hx2 (List.forall_mem_cons.2 ⟨(fun h => absurd (show (0 : Nat) = 5 from h) (by decide)), (List.forall_mem_cons.2 ⟨(fun h => absurd (show (1 : Nat) = 5 from h) (by decide)), (List.forall_mem_cons.2 ⟨(fun h => absurd (show (2 : Nat) = 5 from h) (by decide)), (List.forall_mem_cons.2 ⟨(fun h => absurd (show (3 : Nat) = 5 from h) (by decide)), (List.forall_mem_cons.2 ⟨(fun h => absurd (show (4 : Nat) = 5 from h) (by decide)), (List.forall_mem_cons.2 ⟨(fun _ => ⟨v1, v2, rfl, hj, hd⟩), (List.forall_mem_cons.2 ⟨(fun h => absurd (show (6 : Nat) = 5 from h) (by decide)), (List.forall_mem_cons.2 ⟨(fun h => absurd (show (7 : Nat) = 5 from h) (by decide)), (List.forall_mem_cons.2 ⟨(fun h => absurd (show (8 : Nat) = 5 from h) (by decide)), (List.forall_mem_cons.2 ⟨(fun h => absurd (show (9 : Nat) = 5 from h) (by decide)), (List.forall_mem_nil _)⟩)⟩)⟩)⟩)⟩)⟩)⟩)⟩)⟩)⟩))
    -- 6: slot 76 := Op.move t82
    refine ⟨?_, ?_⟩
    · intro v w' L hLi hdep hcl hre hI
      have hx := hI.1
      simp only [List.take_succ_cons, List.take_zero, putF, Act.put, List.setIfInBounds_toArray, List.set_cons_zero, List.set_cons_succ, Nat.reduceAdd, Nat.zero_add]
      rw [if_pos (by rfl)]
      intro K hK
      have HI := Lib.hid hI
      have E8 := Lib.hid (hI.2.1 _ (List.Mem.tail _ (List.Mem.tail _ (List.Mem.tail _ (List.Mem.tail _ (List.Mem.tail _ (List.Mem.head _)))))) (hre 5 (by kernel_rfl)))
      have HK := Lib.hid hK; clear hK hI hdep hcl hre hLi
      go_simp
      exact HK.out _ _ (ZI.step OK.out HI.out 6 _ (by decide) (by decide) (by decide) (by decide) (Ext.refl _) (List.forall_mem_cons.2 ⟨(fun h => absurd (show (0 : Nat) = 6 from h) (by decide)), (List.forall_mem_cons.2 ⟨(fun h => absurd (show (1 : Nat) = 6 from h) (by decide)), (List.forall_mem_cons.2 ⟨(fun h => absurd (show (2 : Nat) = 6 from h) (by decide)), (List.forall_mem_cons.2 ⟨(fun h => absurd (show (3 : Nat) = 6 from h) (by decide)), (List.forall_mem_cons.2 ⟨(fun h => absurd (show (4 : Nat) = 6 from h) (by decide)), (List.forall_mem_cons.2 ⟨(fun h => absurd (show (5 : Nat) = 6 from h) (by decide)), (List.forall_mem_cons.2 ⟨(fun _ => E8.out), (List.forall_mem_cons.2 ⟨(fun h => absurd (show (7 : Nat) = 6 from h) (by decide)), (List.forall_mem_cons.2 ⟨(fun h => absurd (show (8 : Nat) = 6 from h) (by decide)), (List.forall_mem_cons.2 ⟨(fun h => absurd (show (9 : Nat) = 6 from h) (by decide)), (List.forall_mem_nil _)⟩)⟩)⟩)⟩)⟩)⟩)⟩)⟩)⟩)⟩))
    -- 7: slot 83 := Op.extract t76 0
    refine ⟨?_, ?_⟩
    · intro v w' L hLi hdep hcl hre hI
      have hx := hI.1
      simp only [List.take_succ_cons, List.take_zero, putF, Act.put, List.setIfInBounds_toArray, List.set_cons_zero, List.set_cons_succ, Nat.reduceAdd, Nat.zero_add]
      rw [if_pos (by rfl)]
      intro K hK
      have HI := Lib.hid hI
      obtain ⟨v1, v2, e9, hj, hd⟩ := (show ∃ v1 v2, v 6 = .tuple #[v1, v2, .int .i64 0] ∧ Journal (SL L v 10 11) w' v1 T ∧ Disk (SL L v 10 11) w' v2 C from hI.2.1 _ (List.Mem.tail _ (List.Mem.tail _ (List.Mem.tail _ (List.Mem.tail _ (List.Mem.tail _ (List.Mem.tail _ (List.Mem.head _))))))) (hre 6 (by kernel_rfl)))
      simp only [e9] at hK ⊢
      have E9 := Lib.hid e9; clear e9
      have EJ := Lib.hid hj; clear hj
      have ED := Lib.hid hd; clear hd
      have HK := Lib.hid hK; clear hK hI hdep hcl hre hLi
      go_simp
      exact HK.out _ _ (ZI.step OK.out HI.out 7 _ (by decide) (by decide) (by decide) (by decide) (Ext.refl _) (List.forall_mem_cons.2 ⟨(fun h => absurd (show (0 : Nat) = 7 from h) (by decide)), (List.forall_mem_cons.2 ⟨(fun h => absurd (show (1 : Nat) = 7 from h) (by decide)), (List.forall_mem_cons.2 ⟨(fun h => absurd (show (2 : Nat) = 7 from h) (by decide)), (List.forall_mem_cons.2 ⟨(fun h => absurd (show (3 : Nat) = 7 from h) (by decide)), (List.forall_mem_cons.2 ⟨(fun h => absurd (show (4 : Nat) = 7 from h) (by decide)), (List.forall_mem_cons.2 ⟨(fun h => absurd (show (5 : Nat) = 7 from h) (by decide)), (List.forall_mem_cons.2 ⟨(fun h => absurd (show (6 : Nat) = 7 from h) (by decide)), (List.forall_mem_cons.2 ⟨(fun _ => EJ.out), (List.forall_mem_cons.2 ⟨(fun h => absurd (show (8 : Nat) = 7 from h) (by decide)), (List.forall_mem_cons.2 ⟨(fun h => absurd (show (9 : Nat) = 7 from h) (by decide)), (List.forall_mem_nil _)⟩)⟩)⟩)⟩)⟩)⟩)⟩)⟩)⟩)⟩))
    -- 8: slot 84 := Op.extract t76 1
    refine ⟨?_, ?_⟩
    · intro v w' L hLi hdep hcl hre hI
      have hx := hI.1
      simp only [List.take_succ_cons, List.take_zero, putF, Act.put, List.setIfInBounds_toArray, List.set_cons_zero, List.set_cons_succ, Nat.reduceAdd, Nat.zero_add]
      rw [if_pos (by rfl)]
      intro K hK
      have HI := Lib.hid hI
      obtain ⟨v1, v2, e9, hj, hd⟩ := (show ∃ v1 v2, v 6 = .tuple #[v1, v2, .int .i64 0] ∧ Journal (SL L v 10 11) w' v1 T ∧ Disk (SL L v 10 11) w' v2 C from hI.2.1 _ (List.Mem.tail _ (List.Mem.tail _ (List.Mem.tail _ (List.Mem.tail _ (List.Mem.tail _ (List.Mem.tail _ (List.Mem.head _))))))) (hre 6 (by kernel_rfl)))
      simp only [e9] at hK ⊢
      have E9 := Lib.hid e9; clear e9
      have EJ := Lib.hid hj; clear hj
      have ED := Lib.hid hd; clear hd
      have HK := Lib.hid hK; clear hK hI hdep hcl hre hLi
      go_simp
      exact HK.out _ _ (ZI.step OK.out HI.out 8 _ (by decide) (by decide) (by decide) (by decide) (Ext.refl _) (List.forall_mem_cons.2 ⟨(fun h => absurd (show (0 : Nat) = 8 from h) (by decide)), (List.forall_mem_cons.2 ⟨(fun h => absurd (show (1 : Nat) = 8 from h) (by decide)), (List.forall_mem_cons.2 ⟨(fun h => absurd (show (2 : Nat) = 8 from h) (by decide)), (List.forall_mem_cons.2 ⟨(fun h => absurd (show (3 : Nat) = 8 from h) (by decide)), (List.forall_mem_cons.2 ⟨(fun h => absurd (show (4 : Nat) = 8 from h) (by decide)), (List.forall_mem_cons.2 ⟨(fun h => absurd (show (5 : Nat) = 8 from h) (by decide)), (List.forall_mem_cons.2 ⟨(fun h => absurd (show (6 : Nat) = 8 from h) (by decide)), (List.forall_mem_cons.2 ⟨(fun h => absurd (show (7 : Nat) = 8 from h) (by decide)), (List.forall_mem_cons.2 ⟨(fun _ => ED.out), (List.forall_mem_cons.2 ⟨(fun h => absurd (show (9 : Nat) = 8 from h) (by decide)), (List.forall_mem_nil _)⟩)⟩)⟩)⟩)⟩)⟩)⟩)⟩)⟩)⟩))
    -- 9: slot 85 := Op.extract t76 2
    refine ⟨?_, ?_⟩
    · intro v w' L hLi hdep hcl hre hI
      have hx := hI.1
      simp only [List.take_succ_cons, List.take_zero, putF, Act.put, List.setIfInBounds_toArray, List.set_cons_zero, List.set_cons_succ, Nat.reduceAdd, Nat.zero_add]
      rw [if_pos (by rfl)]
      intro K hK
      have HI := Lib.hid hI
      obtain ⟨v1, v2, e9, hj, hd⟩ := (show ∃ v1 v2, v 6 = .tuple #[v1, v2, .int .i64 0] ∧ Journal (SL L v 10 11) w' v1 T ∧ Disk (SL L v 10 11) w' v2 C from hI.2.1 _ (List.Mem.tail _ (List.Mem.tail _ (List.Mem.tail _ (List.Mem.tail _ (List.Mem.tail _ (List.Mem.tail _ (List.Mem.head _))))))) (hre 6 (by kernel_rfl)))
      simp only [e9] at hK ⊢
      have E9 := Lib.hid e9; clear e9 hj hd
      have HK := Lib.hid hK; clear hK hI hdep hcl hre hLi
      go_simp
      exact HK.out _ _ (ZI.step OK.out HI.out 9 _ (by decide) (by decide) (by decide) (by decide) (Ext.refl _) (List.forall_mem_cons.2 ⟨(fun h => absurd (show (0 : Nat) = 9 from h) (by decide)), (List.forall_mem_cons.2 ⟨(fun h => absurd (show (1 : Nat) = 9 from h) (by decide)), (List.forall_mem_cons.2 ⟨(fun h => absurd (show (2 : Nat) = 9 from h) (by decide)), (List.forall_mem_cons.2 ⟨(fun h => absurd (show (3 : Nat) = 9 from h) (by decide)), (List.forall_mem_cons.2 ⟨(fun h => absurd (show (4 : Nat) = 9 from h) (by decide)), (List.forall_mem_cons.2 ⟨(fun h => absurd (show (5 : Nat) = 9 from h) (by decide)), (List.forall_mem_cons.2 ⟨(fun h => absurd (show (6 : Nat) = 9 from h) (by decide)), (List.forall_mem_cons.2 ⟨(fun h => absurd (show (7 : Nat) = 9 from h) (by decide)), (List.forall_mem_cons.2 ⟨(fun h => absurd (show (8 : Nat) = 9 from h) (by decide)), (List.forall_mem_cons.2 ⟨(fun _ => rfl), (List.forall_mem_nil _)⟩)⟩)⟩)⟩)⟩)⟩)⟩)⟩)⟩)⟩))
    -- 10: slot 16 := Op.alloc 55
    refine ⟨?_, ?_⟩
    · intro v w' L hLi hdep hcl hre hI
      have hx := hI.1
      simp only [List.take_succ_cons, List.take_zero, putF, Act.put, List.setIfInBounds_toArray, List.set_cons_zero, List.set_cons_succ, Nat.reduceAdd, Nat.zero_add]
      rw [if_pos (by rfl)]
      intro K hK
      have HI := Lib.hid hI
      have HN := Lib.hid (show L 12 = false from (Bool.eq_false_iff.2 (fun h => by have := hcl 12 10 h (by kernel_rfl); rw [hLi] at this; cases this)))
      have HK := Lib.hid hK; clear hK hI hdep hcl hre hLi
      go_simp
      exact HK.out _ _ (ZI.allocB OK.out HI.out (by decide) (by decide) (by decide) HN.out (List.forall_mem_cons.2 ⟨(show (0 : Nat) ≠ 10 by decide), (List.forall_mem_cons.2 ⟨(show (1 : Nat) ≠ 10 by decide), (List.forall_mem_cons.2 ⟨(show (2 : Nat) ≠ 10 by decide), (List.forall_mem_cons.2 ⟨(show (3 : Nat) ≠ 10 by decide), (List.forall_mem_cons.2 ⟨(show (4 : Nat) ≠ 10 by decide), (List.forall_mem_cons.2 ⟨(show (5 : Nat) ≠ 10 by decide), (List.forall_mem_cons.2 ⟨(show (6 : Nat) ≠ 10 by decide), (List.forall_mem_cons.2 ⟨(show (7 : Nat) ≠ 10 by decide), (List.forall_mem_cons.2 ⟨(show (8 : Nat) ≠ 10 by decide), (List.forall_mem_cons.2 ⟨(show (9 : Nat) ≠ 10 by decide), (List.forall_mem_nil _)⟩)⟩)⟩)⟩)⟩)⟩)⟩)⟩)⟩)⟩))
    -- 11: slot 17 := Op.alloc 25
    refine ⟨?_, ?_⟩
    · intro v w' L hLi hdep hcl hre hI
      have hx := hI.1
      simp only [List.take_succ_cons, List.take_zero, putF, Act.put, List.setIfInBounds_toArray, List.set_cons_zero, List.set_cons_succ, Nat.reduceAdd, Nat.zero_add]
      rw [if_pos (by rfl)]
      intro K hK
      have HI := Lib.hid hI
      have HN := Lib.hid (show L 13 = false from (Bool.eq_false_iff.2 (fun h => by have := hcl 13 11 h (by kernel_rfl); rw [hLi] at this; cases this)))
      have HK := Lib.hid hK; clear hK hI hdep hcl hre hLi
      go_simp
      exact HK.out _ _ (ZI.allocD OK.out HI.out (by decide) (by decide) (by decide) HN.out (List.forall_mem_cons.2 ⟨(show (0 : Nat) ≠ 11 by decide), (List.forall_mem_cons.2 ⟨(show (1 : Nat) ≠ 11 by decide), (List.forall_mem_cons.2 ⟨(show (2 : Nat) ≠ 11 by decide), (List.forall_mem_cons.2 ⟨(show (3 : Nat) ≠ 11 by decide), (List.forall_mem_cons.2 ⟨(show (4 : Nat) ≠ 11 by decide), (List.forall_mem_cons.2 ⟨(show (5 : Nat) ≠ 11 by decide), (List.forall_mem_cons.2 ⟨(show (6 : Nat) ≠ 11 by decide), (List.forall_mem_cons.2 ⟨(show (7 : Nat) ≠ 11 by decide), (List.forall_mem_cons.2 ⟨(show (8 : Nat) ≠ 11 by decide), (List.forall_mem_cons.2 ⟨(show (9 : Nat) ≠ 11 by decide), (List.forall_mem_nil _)⟩)⟩)⟩)⟩)⟩)⟩)⟩)⟩)⟩)⟩))
    -- 12: slot None := Op.store 55 t16 t83
    refine ⟨?_, ?_⟩
    · intro v w' L hLi hdep hcl hre hI
      have hx := hI.1
      simp only [List.take_succ_cons, List.take_zero, putF, Act.put, List.setIfInBounds_toArray, List.set_cons_zero, List.set_cons_succ, Nat.reduceAdd, Nat.zero_add]
      rw [if_pos (by rfl)]
      intro K hK
      have HI := Lib.hid hI
      obtain ⟨g, eg, hg1, hz, -⟩ := hI.2.2.1 (hre 10 (by kernel_rfl))
      replace hz := hz hLi
      have hj : Journal (SL L v 10 11) w' (v 7) T := hI.2.1 _ (List.Mem.tail _ (List.Mem.tail _ (List.Mem.tail _ (List.Mem.tail _ (List.Mem.tail _ (List.Mem.tail _ (List.Mem.tail _ (List.Mem.head _)))))))) (hre 7 (by kernel_rfl))
      obtain ⟨a, c, ej, -, -, -⟩ := hj.open
      rw [ej] at hj
      simp only [eg, ej] at hK ⊢
      refine wp_store_box 55 (.tmp 16) (.tmp 83) rfl g (jc T a c) z3 rfl rfl hz (by kernel_rfl) rfl rfl ?_
      intro w2 hb2 ho
      exact hK undef _ (ZI.storeB OK.out HI.out undef (by decide) (by decide) (by decide) (List.forall_mem_cons.2 ⟨(show (0 : Nat) ≠ 12 by decide), (List.forall_mem_cons.2 ⟨(show (1 : Nat) ≠ 12 by decide), (List.forall_mem_cons.2 ⟨(show (2 : Nat) ≠ 12 by decide), (List.forall_mem_cons.2 ⟨(show (3 : Nat) ≠ 12 by decide), (List.forall_mem_cons.2 ⟨(show (4 : Nat) ≠ 12 by decide), (List.forall_mem_cons.2 ⟨(show (5 : Nat) ≠ 12 by decide), (List.forall_mem_cons.2 ⟨(show (6 : Nat) ≠ 12 by decide), (List.forall_mem_cons.2 ⟨(show (7 : Nat) ≠ 12 by decide), (List.forall_mem_cons.2 ⟨(show (8 : Nat) ≠ 12 by decide), (List.forall_mem_cons.2 ⟨(show (9 : Nat) ≠ 12 by decide), (List.forall_mem_nil _)⟩)⟩)⟩)⟩)⟩)⟩)⟩)⟩)⟩)⟩) eg (hre 10 (by kernel_rfl)) hg1 ho hb2 hz hj)
    -- 13: slot None := Op.store 25 t17 t84
    refine ⟨?_, ?_⟩
    · intro v w' L hLi hdep hcl hre hI
      have hx := hI.1
      simp only [List.take_succ_cons, List.take_zero, putF, Act.put, List.setIfInBounds_toArray, List.set_cons_zero, List.set_cons_succ, Nat.reduceAdd, Nat.zero_add]
      rw [if_pos (by rfl)]
      intro K hK
      have HI := Lib.hid hI
      obtain ⟨g, eg, hg1, hz, -⟩ := hI.2.2.2 (hre 11 (by kernel_rfl))
      replace hz := hz hLi
      have hj : Disk (SL L v 10 11) w' (v 8) C := hI.2.1 _ (List.Mem.tail _ (List.Mem.tail _ (List.Mem.tail _ (List.Mem.tail _ (List.Mem.tail _ (List.Mem.tail _ (List.Mem.tail _ (List.Mem.tail _ (List.Mem.head _))))))))) (hre 8 (by kernel_rfl))
      obtain ⟨a, c, b, e, ej, -, -, -, -, -, -⟩ := hj.open
      rw [ej] at hj
      simp only [eg, ej] at hK ⊢
      refine wp_store_box 25 (.tmp 17) (.tmp 84) rfl g (dc C a c b e) z4 rfl rfl hz (by kernel_rfl) rfl rfl ?_
      intro w2 hb2 ho
      exact hK undef _ (ZI.storeD OK.out HI.out undef (by decide) (by decide) (by decide) (List.forall_mem_cons.2 ⟨(show (0 : Nat) ≠ 13 by decide), (List.forall_mem_cons.2 ⟨(show (1 : Nat) ≠ 13 by decide), (List.forall_mem_cons.2 ⟨(show (2 : Nat) ≠ 13 by decide), (List.forall_mem_cons.2 ⟨(show (3 : Nat) ≠ 13 by decide), (List.forall_mem_cons.2 ⟨(show (4 : Nat) ≠ 13 by decide), (List.forall_mem_cons.2 ⟨(show (5 : Nat) ≠ 13 by decide), (List.forall_mem_cons.2 ⟨(show (6 : Nat) ≠ 13 by decide), (List.forall_mem_cons.2 ⟨(show (7 : Nat) ≠ 13 by decide), (List.forall_mem_cons.2 ⟨(show (8 : Nat) ≠ 13 by decide), (List.forall_mem_cons.2 ⟨(show (9 : Nat) ≠ 13 by decide), (List.forall_mem_nil _)⟩)⟩)⟩)⟩)⟩)⟩)⟩)⟩)⟩)⟩) eg (hre 11 (by kernel_rfl)) hg1 ho hb2 hz hj)
    exact trivial
  case tail =>
    intro v w' hI
    simp only [List.drop_succ_cons, List.drop_zero, List.take_succ_cons, List.take_zero, putF, Act.put, List.setIfInBounds_toArray, List.set_cons_zero, List.set_cons_succ, Nat.reduceAdd, Nat.zero_add]
    have hx := hI.1
    have et : v 9 = .int .i64 0 := hI.2.1 _ (List.Mem.tail _ (List.Mem.tail _ (List.Mem.tail _ (List.Mem.tail _ (List.Mem.tail _ (List.Mem.tail _ (List.Mem.tail _ (List.Mem.tail _ (List.Mem.tail _ (List.Mem.head _)))))))))) (by decide)
    obtain ⟨g10, e10, -, -, hb10⟩ := hI.2.2.1 (by decide)
    obtain ⟨a, c, hbx, hjx⟩ := hb10 (by decide)
    obtain ⟨g11, e11, -, -, hb11⟩ := hI.2.2.2 (by decide)
    obtain ⟨b, f, e, h, hby, hdx⟩ := hb11 (by decide)
    simp only [et, e10, e11]
    have HX := Lib.hid hx; clear hx
    have HBX := Lib.hid hbx; clear hbx
    have HBY := Lib.hid hby; clear hby
    have HJX := Lib.hid (hjx.more (S' := No) (fun _ h => h.elim)); clear hjx
    have HDX := Lib.hid (hdx.more (S' := No) (fun _ h => h.elim)); clear hdx
    clear hI et e10 e11 hb10 hb11
    go_wp2_with fail
    exact HQ.out _ _ _ _ _ _ _ _ _ _ g10 g11 a b e c f h w' HX.out HBX.out HBY.out HJX.out HDX.out
noncomputable def code15_10 : Code := ((Try.f15.body.bind (regionOf 10)).getD .skip)
set_option maxRecDepth 100000 in
set_option maxHeartbeats 4000000 in
theorem reg15_10 {Q : Exit → Act → World → Prop} (t2 t3 t4 t6 t9 t10 t11 t12 t13 t14 t15 t16 t17 t18 t19 t20 t21 t22 t23 t24 t25 t26 t27 t28 t29 t30 t31 t32 t33 t34 t35 t36 t37 t38 t39 t40 t41 t42 t43 t44 t45 t46 t47 t48 t49 t50 t51 t52 t53 t54 t55 t56 t57 t58 t59 t60 t61 t62 t63 t64 t65 t66 t67 t68 t69 t70 t71 t72 t73 t74 t75 t76 t77 t78 t79 t80 t81 t82 t83 t84 t85 t86 t87 t88 t89 t90 t91 t92 t93 t94 t95 t96 t97 t98 t99 t100 t101 t102 t103 t104 t105 t106 t107 t108 t109 t110 t111 t112 t113 t114 t115 t116 t117 t118 t119 t120 t121 t122 t123 t124 t125 t126 t127 t128 t129 t130 t131 t132 t133 t134 t135 t136 t137 t138 t139 t140 t141 t142 t143 t144 t145 t146 t147 t148 t149 t150 t151 t152 t153 : Value) (w1 : World) (gl gd cl cd ed ca cb : Nat) (al ad bd aa ab : Option Addr) (l A B T : Jn) (d C : Dk) (la lb : List (List UInt8))
    (hl : Box w1 gl [.slice al l.records.length cl, .int .i64 l.many, .int .i64 l.synced]) (hd : Box w1 gd [.slice ad d.sectors.length cd, .slice bd d.pending.length ed, .int .i64 d.left, .bool d.stopped]) (hJ : Journal No w1 (.agg #[.slice al l.records.length cl, .int .i64 l.many, .int .i64 l.synced]) l) (hD : Disk No w1 (.agg #[.slice ad d.sectors.length cd, .slice bd d.pending.length ed, .int .i64 d.left, .bool d.stopped]) d) (ha : Bss No w1 (.slice aa la.length ca) la) (hb : Bss No w1 (.slice ab lb.length cb) lb) (nL : Nice l) (nA : Nice A) (nB : Nice B) (hra : ReachB la) (hrb : ReachB lb) (eA : addJ l la = A) (eB : addJ A lb = B) (eS : syncJ B d = (T, C, 0))
    (hQ : ∀ (u54 u55 u56 u57 u58 u59 u60 u61 u62 u53 u63 u64 u65 : Value) (g10 g11 : Nat) (a b e : Option Addr) (c f h : Nat) (wx : World), Ext w1 wx → Box wx g10 (jc T a c) → Box wx g11 (dc C b f e h) → Journal No wx (.agg (jc T a c).toArray) T → Disk No wx (.agg (dc C b f e h).toArray) C → Q .normal ⟨#[.slice aa la.length ca, .slice ab lb.length cb, t2, t3, t4, .pointer (some ⟨gd, 0, none⟩), t6, .func (.func 50) #[] #[], .pointer (some ⟨gl, 0, none⟩), t9, .pointer (some ⟨g10, 0, none⟩), .pointer (some ⟨g11, 0, none⟩), .int .i64 0, t13, t14, t15, t16, t17, t18, t19, t20, t21, t22, t23, t24, t25, t26, t27, t28, t29, t30, t31, t32, t33, t34, t35, t36, t37, t38, t39, t40, t41, t42, t43, t44, t45, t46, t47, t48, t49, t50, t51, t52, u53, u54, u55, u56, u57, u58, u59, u60, u61, u62, u63, u64, u65, t66, t67, t68, t69, t70, t71, t72, t73, t74, t75, t76, t77, t78, t79, t80, t81, t82, t83, t84, t85, t86, t87, t88, t89, t90, t91, t92, t93, t94, t95, t96, t97, t98, t99, t100, t101, t102, t103, t104, t105, t106, t107, t108, t109, t110, t111, t112, t113, t114, t115, t116, t117, t118, t119, t120, t121, t122, t123, t124, t125, t126, t127, t128, t129, t130, t131, t132, t133, t134, t135, t136, t137, t138, t139, t140, t141, t142, t143, t144, t145, t146, t147, t148, t149, t150, t151, t152, t153], []⟩ wx) :
    Code.wp Try.prog code15_10 Q ⟨#[.slice aa la.length ca, .slice ab lb.length cb, t2, t3, t4, .pointer (some ⟨gd, 0, none⟩), t6, .func (.func 50) #[] #[], .pointer (some ⟨gl, 0, none⟩), t9, t10, t11, t12, t13, t14, t15, t16, t17, t18, t19, t20, t21, t22, t23, t24, t25, t26, t27, t28, t29, t30, t31, t32, t33, t34, t35, t36, t37, t38, t39, t40, t41, t42, t43, t44, t45, t46, t47, t48, t49, t50, t51, t52, t53, t54, t55, t56, t57, t58, t59, t60, t61, t62, t63, t64, t65, t66, t67, t68, t69, t70, t71, t72, t73, t74, t75, t76, t77, t78, t79, t80, t81, t82, t83, t84, t85, t86, t87, t88, t89, t90, t91, t92, t93, t94, t95, t96, t97, t98, t99, t100, t101, t102, t103, t104, t105, t106, t107, t108, t109, t110, t111, t112, t113, t114, t115, t116, t117, t118, t119, t120, t121, t122, t123, t124, t125, t126, t127, t128, t129, t130, t131, t132, t133, t134, t135, t136, t137, t138, t139, t140, t141, t142, t143, t144, t145, t146, t147, t148, t149, t150, t151, t152, t153], []⟩ w1 := by
  conv => arg 2; whnf
  have HQ := Lib.hid hQ; clear hQ
  have HJ := Lib.hid hJ; clear hJ
  have HD := Lib.hid hD; clear hD
  have HA := Lib.hid ha; clear ha
  have HB := Lib.hid hb; clear hb
  have HRA := Lib.hid hra; clear hra
  have HRB := Lib.hid hrb; clear hrb
  have NL := Lib.hid nL; clear nL
  have NA := Lib.hid nA; clear nA
  have EA := Lib.hid eA; clear eA
  have ES := Lib.hid eS; clear eS
  have NB := Lib.hid nB; clear nB
  have EB := Lib.hid eB; clear eB
  obtain ⟨c0, c1, c2, -, -, -⟩ := hl.three
  obtain ⟨d0, d1, d2, d3, -, -, -, -⟩ := hd.four
  clear hl hd
  have OK : Hid (∀ c ∈ ([cmpC 0 (.func (.func 50) #[] #[]), cmpC 1 (.func (.func 50) #[] #[]), cmpC 2 (.agg #[.slice al l.records.length cl, .int .i64 l.many, .int .i64 l.synced]), cmpC 3 (.slice aa la.length ca), cmpJ 4 A, cmpC 5 (.slice ab lb.length cb), cmpJ 6 B, cmpC 7 (.agg #[.slice ad d.sectors.length cd, .slice bd d.pending.length ed, .int .i64 d.left, .bool d.stopped]), cmpT 8 T C, cmpT 9 T C, cmpJ 10 T, cmpD 11 C, cmpC 12 (.int .i64 0)] : List Cmp), c.ok) := Lib.hid (List.forall_mem_cons.2 ⟨cmpC_ok _ _, (List.forall_mem_cons.2 ⟨cmpC_ok _ _, (List.forall_mem_cons.2 ⟨cmpC_ok _ _, (List.forall_mem_cons.2 ⟨cmpC_ok _ _, (List.forall_mem_cons.2 ⟨cmpJ_ok _ _, (List.forall_mem_cons.2 ⟨cmpC_ok _ _, (List.forall_mem_cons.2 ⟨cmpJ_ok _ _, (List.forall_mem_cons.2 ⟨cmpC_ok _ _, (List.forall_mem_cons.2 ⟨cmpT_ok _ _ _, (List.forall_mem_cons.2 ⟨cmpT_ok _ _ _, (List.forall_mem_cons.2 ⟨cmpJ_ok _ _, (List.forall_mem_cons.2 ⟨cmpD_ok _ _, (List.forall_mem_cons.2 ⟨cmpC_ok _ _, (List.forall_mem_nil _)⟩)⟩)⟩)⟩)⟩)⟩)⟩)⟩)⟩)⟩)⟩)⟩)⟩)
  refine wp_region_inv 17 (by kernel_rfl) (by kernel_rfl) (ZI w1 [cmpC 0 (.func (.func 50) #[] #[]), cmpC 1 (.func (.func 50) #[] #[]), cmpC 2 (.agg #[.slice al l.records.length cl, .int .i64 l.many, .int .i64 l.synced]), cmpC 3 (.slice aa la.length ca), cmpJ 4 A, cmpC 5 (.slice ab lb.length cb), cmpJ 6 B, cmpC 7 (.agg #[.slice ad d.sectors.length cd, .slice bd d.pending.length ed, .int .i64 d.left, .bool d.stopped]), cmpT 8 T C, cmpT 9 T C, cmpJ 10 T, cmpD 11 C, cmpC 12 (.int .i64 0)] T C 13 14 15 16) ?h0 ?steps ?tail
  case h0 => intro v; exact ⟨Ext.drew' w1, (fun c _ h => by cases h), (fun h => by cases h), (fun h => by cases h)⟩
  case steps =>
    simp only [List.take_succ_cons, List.take_zero]
    -- 0: slot 54 := Op.move t7
    refine ⟨?_, ?_⟩
    · intro v w' L hLi hdep hcl hre hI
      have hx := hI.1
      simp only [List.take_succ_cons, List.take_zero, putF, Act.put, List.setIfInBounds_toArray, List.set_cons_zero, List.set_cons_succ, Nat.reduceAdd, Nat.zero_add]
      rw [if_pos (by rfl)]
      intro K hK
      have HI := Lib.hid hI
      have HK := Lib.hid hK; clear hK hI hdep hcl hre hLi
      go_simp
      exact HK.out _ _ (ZI.step OK.out HI.out 0 _ (by decide) (by decide) (by decide) (by decide) (Ext.refl _) (List.forall_mem_cons.2 ⟨(fun _ => rfl), (List.forall_mem_cons.2 ⟨(fun h => absurd (show (1 : Nat) = 0 from h) (by decide)), (List.forall_mem_cons.2 ⟨(fun h => absurd (show (2 : Nat) = 0 from h) (by decide)), (List.forall_mem_cons.2 ⟨(fun h => absurd (show (3 : Nat) = 0 from h) (by decide)), (List.forall_mem_cons.2 ⟨(fun h => absurd (show (4 : Nat) = 0 from h) (by decide)), (List.forall_mem_cons.2 ⟨(fun h => absurd (show (5 : Nat) = 0 from h) (by decide)), (List.forall_mem_cons.2 ⟨(fun h => absurd (show (6 : Nat) = 0 from h) (by decide)), (List.forall_mem_cons.2 ⟨(fun h => absurd (show (7 : Nat) = 0 from h) (by decide)), (List.forall_mem_cons.2 ⟨(fun h => absurd (show (8 : Nat) = 0 from h) (by decide)), (List.forall_mem_cons.2 ⟨(fun h => absurd (show (9 : Nat) = 0 from h) (by decide)), (List.forall_mem_cons.2 ⟨(fun h => absurd (show (10 : Nat) = 0 from h) (by decide)), (List.forall_mem_cons.2 ⟨(fun h => absurd (show (11 : Nat) = 0 from h) (by decide)), (List.forall_mem_cons.2 ⟨(fun h => absurd (show (12 : Nat) = 0 from h) (by decide)), (List.forall_mem_nil _)⟩)⟩)⟩)⟩)⟩)⟩)⟩)⟩)⟩)⟩)⟩)⟩)⟩))
    -- 1: slot 55 := Op.move t7
    refine ⟨?_, ?_⟩
    · intro v w' L hLi hdep hcl hre hI
      have hx := hI.1
      simp only [List.take_succ_cons, List.take_zero, putF, Act.put, List.setIfInBounds_toArray, List.set_cons_zero, List.set_cons_succ, Nat.reduceAdd, Nat.zero_add]
      rw [if_pos (by rfl)]
      intro K hK
      have HI := Lib.hid hI
      have HK := Lib.hid hK; clear hK hI hdep hcl hre hLi
      go_simp
      exact HK.out _ _ (ZI.step OK.out HI.out 1 _ (by decide) (by decide) (by decide) (by decide) (Ext.refl _) (List.forall_mem_cons.2 ⟨(fun h => absurd (show (0 : Nat) = 1 from h) (by decide)), (List.forall_mem_cons.2 ⟨(fun _ => rfl), (List.forall_mem_cons.2 ⟨(fun h => absurd (show (2 : Nat) = 1 from h) (by decide)), (List.forall_mem_cons.2 ⟨(fun h => absurd (show (3 : Nat) = 1 from h) (by decide)), (List.forall_mem_cons.2 ⟨(fun h => absurd (show (4 : Nat) = 1 from h) (by decide)), (List.forall_mem_cons.2 ⟨(fun h => absurd (show (5 : Nat) = 1 from h) (by decide)), (List.forall_mem_cons.2 ⟨(fun h => absurd (show (6 : Nat) = 1 from h) (by decide)), (List.forall_mem_cons.2 ⟨(fun h => absurd (show (7 : Nat) = 1 from h) (by decide)), (List.forall_mem_cons.2 ⟨(fun h => absurd (show (8 : Nat) = 1 from h) (by decide)), (List.forall_mem_cons.2 ⟨(fun h => absurd (show (9 : Nat) = 1 from h) (by decide)), (List.forall_mem_cons.2 ⟨(fun h => absurd (show (10 : Nat) = 1 from h) (by decide)), (List.forall_mem_cons.2 ⟨(fun h => absurd (show (11 : Nat) = 1 from h) (by decide)), (List.forall_mem_cons.2 ⟨(fun h => absurd (show (12 : Nat) = 1 from h) (by decide)), (List.forall_mem_nil _)⟩)⟩)⟩)⟩)⟩)⟩)⟩)⟩)⟩)⟩)⟩)⟩)⟩))
    -- 2: slot 56 := Op.load 55 t8
    refine ⟨?_, ?_⟩
    · intro v w' L hLi hdep hcl hre hI
      have hx := hI.1
      simp only [List.take_succ_cons, List.take_zero, putF, Act.put, List.setIfInBounds_toArray, List.set_cons_zero, List.set_cons_succ, Nat.reduceAdd, Nat.zero_add]
      rw [if_pos (by rfl)]
      intro K hK
      have HI := Lib.hid hI
      have q0 := hx.cell c0
      have q1 := hx.cell c1
      have q2 := hx.cell c2
      have r0 := hx.cell d0
      have r1 := hx.cell d1
      have r2 := hx.cell d2
      have r3 := hx.cell d3
      have HK := Lib.hid hK; clear hK hI hdep hcl hre hLi
      go_simp
      exact HK.out _ _ (ZI.step OK.out HI.out 2 _ (by decide) (by decide) (by decide) (by decide) (Ext.refl _) (List.forall_mem_cons.2 ⟨(fun h => absurd (show (0 : Nat) = 2 from h) (by decide)), (List.forall_mem_cons.2 ⟨(fun h => absurd (show (1 : Nat) = 2 from h) (by decide)), (List.forall_mem_cons.2 ⟨(fun _ => rfl), (List.forall_mem_cons.2 ⟨(fun h => absurd (show (3 : Nat) = 2 from h) (by decide)), (List.forall_mem_cons.2 ⟨(fun h => absurd (show (4 : Nat) = 2 from h) (by decide)), (List.forall_mem_cons.2 ⟨(fun h => absurd (show (5 : Nat) = 2 from h) (by decide)), (List.forall_mem_cons.2 ⟨(fun h => absurd (show (6 : Nat) = 2 from h) (by decide)), (List.forall_mem_cons.2 ⟨(fun h => absurd (show (7 : Nat) = 2 from h) (by decide)), (List.forall_mem_cons.2 ⟨(fun h => absurd (show (8 : Nat) = 2 from h) (by decide)), (List.forall_mem_cons.2 ⟨(fun h => absurd (show (9 : Nat) = 2 from h) (by decide)), (List.forall_mem_cons.2 ⟨(fun h => absurd (show (10 : Nat) = 2 from h) (by decide)), (List.forall_mem_cons.2 ⟨(fun h => absurd (show (11 : Nat) = 2 from h) (by decide)), (List.forall_mem_cons.2 ⟨(fun h => absurd (show (12 : Nat) = 2 from h) (by decide)), (List.forall_mem_nil _)⟩)⟩)⟩)⟩)⟩)⟩)⟩)⟩)⟩)⟩)⟩)⟩)⟩))
    -- 3: slot 57 := Op.move t0
    refine ⟨?_, ?_⟩
    · intro v w' L hLi hdep hcl hre hI
      have hx := hI.1
      simp only [List.take_succ_cons, List.take_zero, putF, Act.put, List.setIfInBounds_toArray, List.set_cons_zero, List.set_cons_succ, Nat.reduceAdd, Nat.zero_add]
      rw [if_pos (by rfl)]
      intro K hK
      have HI := Lib.hid hI
      have HK := Lib.hid hK; clear hK hI hdep hcl hre hLi
      go_simp
      exact HK.out _ _ (ZI.step OK.out HI.out 3 _ (by decide) (by decide) (by decide) (by decide) (Ext.refl _) (List.forall_mem_cons.2 ⟨(fun h => absurd (show (0 : Nat) = 3 from h) (by decide)), (List.forall_mem_cons.2 ⟨(fun h => absurd (show (1 : Nat) = 3 from h) (by decide)), (List.forall_mem_cons.2 ⟨(fun h => absurd (show (2 : Nat) = 3 from h) (by decide)), (List.forall_mem_cons.2 ⟨(fun _ => rfl), (List.forall_mem_cons.2 ⟨(fun h => absurd (show (4 : Nat) = 3 from h) (by decide)), (List.forall_mem_cons.2 ⟨(fun h => absurd (show (5 : Nat) = 3 from h) (by decide)), (List.forall_mem_cons.2 ⟨(fun h => absurd (show (6 : Nat) = 3 from h) (by decide)), (List.forall_mem_cons.2 ⟨(fun h => absurd (show (7 : Nat) = 3 from h) (by decide)), (List.forall_mem_cons.2 ⟨(fun h => absurd (show (8 : Nat) = 3 from h) (by decide)), (List.forall_mem_cons.2 ⟨(fun h => absurd (show (9 : Nat) = 3 from h) (by decide)), (List.forall_mem_cons.2 ⟨(fun h => absurd (show (10 : Nat) = 3 from h) (by decide)), (List.forall_mem_cons.2 ⟨(fun h => absurd (show (11 : Nat) = 3 from h) (by decide)), (List.forall_mem_cons.2 ⟨(fun h => absurd (show (12 : Nat) = 3 from h) (by decide)), (List.forall_mem_nil _)⟩)⟩)⟩)⟩)⟩)⟩)⟩)⟩)⟩)⟩)⟩)⟩)⟩))
    -- 4: slot 58 := Op.call { value t55, args := #[t56, t57], argTypes := #[55, 22] }
    refine ⟨?_, ?_⟩
    · intro v w' L hLi hdep hcl hre hI
      have hx := hI.1
      have e1 : v 1 = .func (.func 50) #[] #[] := hI.2.1 _ (List.Mem.tail _ (List.Mem.head _)) (hre 1 (by kernel_rfl))
      have e2 : v 2 = .agg #[.slice al l.records.length cl, .int .i64 l.many, .int .i64 l.synced] := hI.2.1 _ (List.Mem.tail _ (List.Mem.tail _ (List.Mem.head _))) (hre 2 (by kernel_rfl))
      have e3 : v 3 = .slice aa la.length ca := hI.2.1 _ (List.Mem.tail _ (List.Mem.tail _ (List.Mem.tail _ (List.Mem.head _)))) (hre 3 (by kernel_rfl))
      simp only [List.take_succ_cons, List.take_zero, putF, Act.put, List.setIfInBounds_toArray, List.set_cons_zero, List.set_cons_succ, Nat.reduceAdd, Nat.zero_add]
      simp only [e1]
      simp only [e2]
      simp only [e3]
      clear e1 e2 e3
      rw [if_pos (by rfl)]
      intro K hK
      have HI := Lib.hid hI
      have HK := Lib.hid hK; clear hK hI hdep hcl hre hLi
      go_simp
      have k0 := add_ok (S := SL L v 13 14) w' _ _ l la (ZJ_of HJ.out HI.out) (ZR_of HA.out HI.out) NL.out HRA.out HI.out.lt
      rw [EA.out] at k0
      refine k0.mono ?_
      rintro e w2 ⟨v2, rfl, hj, hx2⟩
      exact HK.out _ _ (ZI.step OK.out HI.out 4 _ (by decide) (by decide) (by decide) (by decide) hx2 (List.forall_mem_cons.2 ⟨(fun h => absurd (show (0 : Nat) = 4 from h) (by decide)), (List.forall_mem_cons.2 ⟨(fun h => absurd (show (1 : Nat) = 4 from h) (by decide)), (List.forall_mem_cons.2 ⟨(fun h => absurd (show (2 : Nat) = 4 from h) (by decide)), (List.forall_mem_cons.2 ⟨(fun h => absurd (show (3 : Nat) = 4 from h) (by decide)), (List.forall_mem_cons.2 ⟨(fun _ => hj), (List.forall_mem_cons.2 ⟨(fun h => absurd (show (5 : Nat) = 4 from h) (by decide)), (List.forall_mem_cons.2 ⟨(fun h => absurd (show (6 : Nat) = 4 from h) (by decide)), (List.forall_mem_cons.2 ⟨(fun h => absurd (show (7 : Nat) = 4 from h) (by decide)), (List.forall_mem_cons.2 ⟨(fun h => absurd (show (8 : Nat) = 4 from h) (by decide)), (List.forall_mem_cons.2 ⟨(fun h => absurd (show (9 : Nat) = 4 from h) (by decide)), (List.forall_mem_cons.2 ⟨(fun h => absurd (show (10 : Nat) = 4 from h) (by decide)), (List.forall_mem_cons.2 ⟨(fun h => absurd (show (11 : Nat) = 4 from h) (by decide)), (List.forall_mem_cons.2 ⟨(fun h => absurd (show (12 : Nat) = 4 from h) (by decide)), (List.forall_mem_nil _)⟩)⟩)⟩)⟩)⟩)⟩)⟩)⟩)⟩)⟩)⟩)⟩)⟩))
    -- 5: slot 59 := Op.move t1
    refine ⟨?_, ?_⟩
    · intro v w' L hLi hdep hcl hre hI
      have hx := hI.1
      simp only [List.take_succ_cons, List.take_zero, putF, Act.put, List.setIfInBounds_toArray, List.set_cons_zero, List.set_cons_succ, Nat.reduceAdd, Nat.zero_add]
      rw [if_pos (by rfl)]
      intro K hK
      have HI := Lib.hid hI
      have HK := Lib.hid hK; clear hK hI hdep hcl hre hLi
      go_simp
      exact HK.out _ _ (ZI.step OK.out HI.out 5 _ (by decide) (by decide) (by decide) (by decide) (Ext.refl _) (List.forall_mem_cons.2 ⟨(fun h => absurd (show (0 : Nat) = 5 from h) (by decide)), (List.forall_mem_cons.2 ⟨(fun h => absurd (show (1 : Nat) = 5 from h) (by decide)), (List.forall_mem_cons.2 ⟨(fun h => absurd (show (2 : Nat) = 5 from h) (by decide)), (List.forall_mem_cons.2 ⟨(fun h => absurd (show (3 : Nat) = 5 from h) (by decide)), (List.forall_mem_cons.2 ⟨(fun h => absurd (show (4 : Nat) = 5 from h) (by decide)), (List.forall_mem_cons.2 ⟨(fun _ => rfl), (List.forall_mem_cons.2 ⟨(fun h => absurd (show (6 : Nat) = 5 from h) (by decide)), (List.forall_mem_cons.2 ⟨(fun h => absurd (show (7 : Nat) = 5 from h) (by decide)), (List.forall_mem_cons.2 ⟨(fun h => absurd (show (8 : Nat) = 5 from h) (by decide)), (List.forall_mem_cons.2 ⟨(fun h => absurd (show (9 : Nat) = 5 from h) (by decide)), (List.forall_mem_cons.2 ⟨(fun h => absurd (show (10 : Nat) = 5 from h) (by decide)), (List.forall_mem_cons.2 ⟨(fun h => absurd (show (11 : Nat) = 5 from h) (by decide)), (List.forall_mem_cons.2 ⟨(fun h => absurd (show (12 : Nat) = 5 from h) (by decide)), (List.forall_mem_nil _)⟩)⟩)⟩)⟩)⟩)⟩)⟩)⟩)⟩)⟩)⟩)⟩)⟩))
    -- 6: slot 60 := Op.call { value t54, args := #[t58, t59], argTypes := #[55, 22] }
    refine ⟨?_, ?_⟩
    · intro v w' L hLi hdep hcl hre hI
      have hx := hI.1
      have e0 : v 0 = .func (.func 50) #[] #[] := hI.2.1 _ (List.Mem.head _) (hre 0 (by kernel_rfl))
      have e5 : v 5 = .slice ab lb.length cb := hI.2.1 _ (List.Mem.tail _ (List.Mem.tail _ (List.Mem.tail _ (List.Mem.tail _ (List.Mem.tail _ (List.Mem.head _)))))) (hre 5 (by kernel_rfl))
      simp only [List.take_succ_cons, List.take_zero, putF, Act.put, List.setIfInBounds_toArray, List.set_cons_zero, List.set_cons_succ, Nat.reduceAdd, Nat.zero_add]
      simp only [e0]
      simp only [e5]
      clear e0 e5
      rw [if_pos (by rfl)]
      intro K hK
      have HI := Lib.hid hI
      have E4 := Lib.hid (show Journal (SL L v 13 14) w' (v 4) A from hI.2.1 _ (List.Mem.tail _ (List.Mem.tail _ (List.Mem.tail _ (List.Mem.tail _ (List.Mem.head _))))) (hre 4 (by kernel_rfl)))
      have HK := Lib.hid hK; clear hK hI hdep hcl hre hLi
      go_simp
      have k0 := add_ok (S := SL L v 13 14) w' _ _ A lb E4.out (ZR_of HB.out HI.out) NA.out HRB.out HI.out.lt
      rw [EB.out] at k0
      refine k0.mono ?_
      rintro e w2 ⟨v2, rfl, hj, hx2⟩
      exact HK.out _ _ (ZI.step OK.out HI.out 6 _ (by decide) (by decide) (by decide) (by decide) hx2 (List.forall_mem_cons.2 ⟨(fun h => absurd (show (0 : Nat) = 6 from h) (by decide)), (List.forall_mem_cons.2 ⟨(fun h => absurd (show (1 : Nat) = 6 from h) (by decide)), (List.forall_mem_cons.2 ⟨(fun h => absurd (show (2 : Nat) = 6 from h) (by decide)), (List.forall_mem_cons.2 ⟨(fun h => absurd (show (3 : Nat) = 6 from h) (by decide)), (List.forall_mem_cons.2 ⟨(fun h => absurd (show (4 : Nat) = 6 from h) (by decide)), (List.forall_mem_cons.2 ⟨(fun h => absurd (show (5 : Nat) = 6 from h) (by decide)), (List.forall_mem_cons.2 ⟨(fun _ => hj), (List.forall_mem_cons.2 ⟨(fun h => absurd (show (7 : Nat) = 6 from h) (by decide)), (List.forall_mem_cons.2 ⟨(fun h => absurd (show (8 : Nat) = 6 from h) (by decide)), (List.forall_mem_cons.2 ⟨(fun h => absurd (show (9 : Nat) = 6 from h) (by decide)), (List.forall_mem_cons.2 ⟨(fun h => absurd (show (10 : Nat) = 6 from h) (by decide)), (List.forall_mem_cons.2 ⟨(fun h => absurd (show (11 : Nat) = 6 from h) (by decide)), (List.forall_mem_cons.2 ⟨(fun h => absurd (show (12 : Nat) = 6 from h) (by decide)), (List.forall_mem_nil _)⟩)⟩)⟩)⟩)⟩)⟩)⟩)⟩)⟩)⟩)⟩)⟩)⟩))
    -- 7: slot 61 := Op.load 25 t5
    refine ⟨?_, ?_⟩
    · intro v w' L hLi hdep hcl hre hI
      have hx := hI.1
      simp only [List.take_succ_cons, List.take_zero, putF, Act.put, List.setIfInBounds_toArray, List.set_cons_zero, List.set_cons_succ, Nat.reduceAdd, Nat.zero_add]
      rw [if_pos (by rfl)]
      intro K hK
      have HI := Lib.hid hI
      have q0 := hx.cell c0
      have q1 := hx.cell c1
      have q2 := hx.cell c2
      have r0 := hx.cell d0
      have r1 := hx.cell d1
      have r2 := hx.cell d2
      have r3 := hx.cell d3
      have HK := Lib.hid hK; clear hK hI hdep hcl hre hLi
      go_simp
      exact HK.out _ _ (ZI.step OK.out HI.out 7 _ (by decide) (by decide) (by decide) (by decide) (Ext.refl _) (List.forall_mem_cons.2 ⟨(fun h => absurd (show (0 : Nat) = 7 from h) (by decide)), (List.forall_mem_cons.2 ⟨(fun h => absurd (show (1 : Nat) = 7 from h) (by decide)), (List.forall_mem_cons.2 ⟨(fun h => absurd (show (2 : Nat) = 7 from h) (by decide)), (List.forall_mem_cons.2 ⟨(fun h => absurd (show (3 : Nat) = 7 from h) (by decide)), (List.forall_mem_cons.2 ⟨(fun h => absurd (show (4 : Nat) = 7 from h) (by decide)), (List.forall_mem_cons.2 ⟨(fun h => absurd (show (5 : Nat) = 7 from h) (by decide)), (List.forall_mem_cons.2 ⟨(fun h => absurd (show (6 : Nat) = 7 from h) (by decide)), (List.forall_mem_cons.2 ⟨(fun _ => rfl), (List.forall_mem_cons.2 ⟨(fun h => absurd (show (8 : Nat) = 7 from h) (by decide)), (List.forall_mem_cons.2 ⟨(fun h => absurd (show (9 : Nat) = 7 from h) (by decide)), (List.forall_mem_cons.2 ⟨(fun h => absurd (show (10 : Nat) = 7 from h) (by decide)), (List.forall_mem_cons.2 ⟨(fun h => absurd (show (11 : Nat) = 7 from h) (by decide)), (List.forall_mem_cons.2 ⟨(fun h => absurd (show (12 : Nat) = 7 from h) (by decide)), (List.forall_mem_nil _)⟩)⟩)⟩)⟩)⟩)⟩)⟩)⟩)⟩)⟩)⟩)⟩)⟩))
    -- 8: slot 62 := Op.call { value (Operand.func 47), args := #[t60, t61], argTypes := #[55, 25] }
    refine ⟨?_, ?_⟩
    · intro v w' L hLi hdep hcl hre hI
      have hx := hI.1
      have e7 : v 7 = .agg #[.slice ad d.sectors.length cd, .slice bd d.pending.length ed, .int .i64 d.left, .bool d.stopped] := hI.2.1 _ (List.Mem.tail _ (List.Mem.tail _ (List.Mem.tail _ (List.Mem.tail _ (List.Mem.tail _ (List.Mem.tail _ (List.Mem.tail _ (List.Mem.head _)))))))) (hre 7 (by kernel_rfl))
      simp only [List.take_succ_cons, List.take_zero, putF, Act.put, List.setIfInBounds_toArray, List.set_cons_zero, List.set_cons_succ, Nat.reduceAdd, Nat.zero_add]
      simp only [e7]
      clear e7
      rw [if_pos (by rfl)]
      intro K hK
      have HI := Lib.hid hI
      have E4 := Lib.hid (show Journal (SL L v 13 14) w' (v 6) B from hI.2.1 _ (List.Mem.tail _ (List.Mem.tail _ (List.Mem.tail _ (List.Mem.tail _ (List.Mem.tail _ (List.Mem.tail _ (List.Mem.head _))))))) (hre 6 (by kernel_rfl)))
      have HK := Lib.hid hK; clear hK hI hdep hcl hre hLi
      go_simp
      have k0 := journalSync_ok (S := SL L v 13 14) w' _ _ B d E4.out (ZD_of HD.out HI.out) NB.out.reach NB.out.usedB HI.out.lt
      rw [ES.out] at k0
      refine k0.mono ?_
      rintro e w2 ⟨v1, v2, rfl, hj, hd, hx2⟩
      exact HK.out _ _ (ZI.step OK.out HI.out 8 _ (by decide) (by decide) (by decide) (by decide) hx2 (List.forall_mem_cons.2 ⟨(fun h => absurd (show (0 : Nat) = 8 from h) (by decide)), (List.forall_mem_cons.2 ⟨(fun h => absurd (show (1 : Nat) = 8 from h) (by decide)), (List.forall_mem_cons.2 ⟨(fun h => absurd (show (2 : Nat) = 8 from h) (by decide)), (List.forall_mem_cons.2 ⟨(fun h => absurd (show (3 : Nat) = 8 from h) (by decide)), (List.forall_mem_cons.2 ⟨(fun h => absurd (show (4 : Nat) = 8 from h) (by decide)), (List.forall_mem_cons.2 ⟨(fun h => absurd (show (5 : Nat) = 8 from h) (by decide)), (List.forall_mem_cons.2 ⟨(fun h => absurd (show (6 : Nat) = 8 from h) (by decide)), (List.forall_mem_cons.2 ⟨(fun h => absurd (show (7 : Nat) = 8 from h) (by decide)), (List.forall_mem_cons.2 ⟨(fun _ => ⟨v1, v2, rfl, hj, hd⟩), (List.forall_mem_cons.2 ⟨(fun h => absurd (show (9 : Nat) = 8 from h) (by decide)), (List.forall_mem_cons.2 ⟨(fun h => absurd (show (10 : Nat) = 8 from h) (by decide)), (List.forall_mem_cons.2 ⟨(fun h => absurd (show (11 : Nat) = 8 from h) (by decide)), (List.forall_mem_cons.2 ⟨(fun h => absurd (show (12 : Nat) = 8 from h) (by decide)), (List.forall_mem_nil _)⟩)⟩)⟩)⟩)⟩)⟩)⟩)⟩)⟩)⟩)⟩)⟩)⟩))
    -- 9: slot 53 := Op.move t62
    refine ⟨?_, ?_⟩
    · intro v w' L hLi hdep hcl hre hI
      have hx := hI.1
      simp only [List.take_succ_cons, List.take_zero, putF, Act.put, List.setIfInBounds_toArray, List.set_cons_zero, List.set_cons_succ, Nat.reduceAdd, Nat.zero_add]
      rw [if_pos (by rfl)]
      intro K hK
      have HI := Lib.hid hI
      have E8 := Lib.hid (hI.2.1 _ (List.Mem.tail _ (List.Mem.tail _ (List.Mem.tail _ (List.Mem.tail _ (List.Mem.tail _ (List.Mem.tail _ (List.Mem.tail _ (List.Mem.tail _ (List.Mem.head _))))))))) (hre 8 (by kernel_rfl)))
      have HK := Lib.hid hK; clear hK hI hdep hcl hre hLi
      go_simp
      exact HK.out _ _ (ZI.step OK.out HI.out 9 _ (by decide) (by decide) (by decide) (by decide) (Ext.refl _) (List.forall_mem_cons.2 ⟨(fun h => absurd (show (0 : Nat) = 9 from h) (by decide)), (List.forall_mem_cons.2 ⟨(fun h => absurd (show (1 : Nat) = 9 from h) (by decide)), (List.forall_mem_cons.2 ⟨(fun h => absurd (show (2 : Nat) = 9 from h) (by decide)), (List.forall_mem_cons.2 ⟨(fun h => absurd (show (3 : Nat) = 9 from h) (by decide)), (List.forall_mem_cons.2 ⟨(fun h => absurd (show (4 : Nat) = 9 from h) (by decide)), (List.forall_mem_cons.2 ⟨(fun h => absurd (show (5 : Nat) = 9 from h) (by decide)), (List.forall_mem_cons.2 ⟨(fun h => absurd (show (6 : Nat) = 9 from h) (by decide)), (List.forall_mem_cons.2 ⟨(fun h => absurd (show (7 : Nat) = 9 from h) (by decide)), (List.forall_mem_cons.2 ⟨(fun h => absurd (show (8 : Nat) = 9 from h) (by decide)), (List.forall_mem_cons.2 ⟨(fun _ => E8.out), (List.forall_mem_cons.2 ⟨(fun h => absurd (show (10 : Nat) = 9 from h) (by decide)), (List.forall_mem_cons.2 ⟨(fun h => absurd (show (11 : Nat) = 9 from h) (by decide)), (List.forall_mem_cons.2 ⟨(fun h => absurd (show (12 : Nat) = 9 from h) (by decide)), (List.forall_mem_nil _)⟩)⟩)⟩)⟩)⟩)⟩)⟩)⟩)⟩)⟩)⟩)⟩)⟩))
    -- 10: slot 63 := Op.extract t53 0
    refine ⟨?_, ?_⟩
    · intro v w' L hLi hdep hcl hre hI
      have hx := hI.1
      simp only [List.take_succ_cons, List.take_zero, putF, Act.put, List.setIfInBounds_toArray, List.set_cons_zero, List.set_cons_succ, Nat.reduceAdd, Nat.zero_add]
      rw [if_pos (by rfl)]
      intro K hK
      have HI := Lib.hid hI
      obtain ⟨v1, v2, e9, hj, hd⟩ := (show ∃ v1 v2, v 9 = .tuple #[v1, v2, .int .i64 0] ∧ Journal (SL L v 13 14) w' v1 T ∧ Disk (SL L v 13 14) w' v2 C from hI.2.1 _ (List.Mem.tail _ (List.Mem.tail _ (List.Mem.tail _ (List.Mem.tail _ (List.Mem.tail _ (List.Mem.tail _ (List.Mem.tail _ (List.Mem.tail _ (List.Mem.tail _ (List.Mem.head _)))))))))) (hre 9 (by kernel_rfl)))
      simp only [e9] at hK ⊢
      have E9 := Lib.hid e9; clear e9
      have EJ := Lib.hid hj; clear hj
      have ED := Lib.hid hd; clear hd
      have HK := Lib.hid hK; clear hK hI hdep hcl hre hLi
      go_simp
      exact HK.out _ _ (ZI.step OK.out HI.out 10 _ (by decide) (by decide) (by decide) (by decide) (Ext.refl _) (List.forall_mem_cons.2 ⟨(fun h => absurd (show (0 : Nat) = 10 from h) (by decide)), (List.forall_mem_cons.2 ⟨(fun h => absurd (show (1 : Nat) = 10 from h) (by decide)), (List.forall_mem_cons.2 ⟨(fun h => absurd (show (2 : Nat) = 10 from h) (by decide)), (List.forall_mem_cons.2 ⟨(fun h => absurd (show (3 : Nat) = 10 from h) (by decide)), (List.forall_mem_cons.2 ⟨(fun h => absurd (show (4 : Nat) = 10 from h) (by decide)), (List.forall_mem_cons.2 ⟨(fun h => absurd (show (5 : Nat) = 10 from h) (by decide)), (List.forall_mem_cons.2 ⟨(fun h => absurd (show (6 : Nat) = 10 from h) (by decide)), (List.forall_mem_cons.2 ⟨(fun h => absurd (show (7 : Nat) = 10 from h) (by decide)), (List.forall_mem_cons.2 ⟨(fun h => absurd (show (8 : Nat) = 10 from h) (by decide)), (List.forall_mem_cons.2 ⟨(fun h => absurd (show (9 : Nat) = 10 from h) (by decide)), (List.forall_mem_cons.2 ⟨(fun _ => EJ.out), (List.forall_mem_cons.2 ⟨(fun h => absurd (show (11 : Nat) = 10 from h) (by decide)), (List.forall_mem_cons.2 ⟨(fun h => absurd (show (12 : Nat) = 10 from h) (by decide)), (List.forall_mem_nil _)⟩)⟩)⟩)⟩)⟩)⟩)⟩)⟩)⟩)⟩)⟩)⟩)⟩))
    -- 11: slot 64 := Op.extract t53 1
    refine ⟨?_, ?_⟩
    · intro v w' L hLi hdep hcl hre hI
      have hx := hI.1
      simp only [List.take_succ_cons, List.take_zero, putF, Act.put, List.setIfInBounds_toArray, List.set_cons_zero, List.set_cons_succ, Nat.reduceAdd, Nat.zero_add]
      rw [if_pos (by rfl)]
      intro K hK
      have HI := Lib.hid hI
      obtain ⟨v1, v2, e9, hj, hd⟩ := (show ∃ v1 v2, v 9 = .tuple #[v1, v2, .int .i64 0] ∧ Journal (SL L v 13 14) w' v1 T ∧ Disk (SL L v 13 14) w' v2 C from hI.2.1 _ (List.Mem.tail _ (List.Mem.tail _ (List.Mem.tail _ (List.Mem.tail _ (List.Mem.tail _ (List.Mem.tail _ (List.Mem.tail _ (List.Mem.tail _ (List.Mem.tail _ (List.Mem.head _)))))))))) (hre 9 (by kernel_rfl)))
      simp only [e9] at hK ⊢
      have E9 := Lib.hid e9; clear e9
      have EJ := Lib.hid hj; clear hj
      have ED := Lib.hid hd; clear hd
      have HK := Lib.hid hK; clear hK hI hdep hcl hre hLi
      go_simp
      exact HK.out _ _ (ZI.step OK.out HI.out 11 _ (by decide) (by decide) (by decide) (by decide) (Ext.refl _) (List.forall_mem_cons.2 ⟨(fun h => absurd (show (0 : Nat) = 11 from h) (by decide)), (List.forall_mem_cons.2 ⟨(fun h => absurd (show (1 : Nat) = 11 from h) (by decide)), (List.forall_mem_cons.2 ⟨(fun h => absurd (show (2 : Nat) = 11 from h) (by decide)), (List.forall_mem_cons.2 ⟨(fun h => absurd (show (3 : Nat) = 11 from h) (by decide)), (List.forall_mem_cons.2 ⟨(fun h => absurd (show (4 : Nat) = 11 from h) (by decide)), (List.forall_mem_cons.2 ⟨(fun h => absurd (show (5 : Nat) = 11 from h) (by decide)), (List.forall_mem_cons.2 ⟨(fun h => absurd (show (6 : Nat) = 11 from h) (by decide)), (List.forall_mem_cons.2 ⟨(fun h => absurd (show (7 : Nat) = 11 from h) (by decide)), (List.forall_mem_cons.2 ⟨(fun h => absurd (show (8 : Nat) = 11 from h) (by decide)), (List.forall_mem_cons.2 ⟨(fun h => absurd (show (9 : Nat) = 11 from h) (by decide)), (List.forall_mem_cons.2 ⟨(fun h => absurd (show (10 : Nat) = 11 from h) (by decide)), (List.forall_mem_cons.2 ⟨(fun _ => ED.out), (List.forall_mem_cons.2 ⟨(fun h => absurd (show (12 : Nat) = 11 from h) (by decide)), (List.forall_mem_nil _)⟩)⟩)⟩)⟩)⟩)⟩)⟩)⟩)⟩)⟩)⟩)⟩)⟩))
    -- 12: slot 65 := Op.extract t53 2
    refine ⟨?_, ?_⟩
    · intro v w' L hLi hdep hcl hre hI
      have hx := hI.1
      simp only [List.take_succ_cons, List.take_zero, putF, Act.put, List.setIfInBounds_toArray, List.set_cons_zero, List.set_cons_succ, Nat.reduceAdd, Nat.zero_add]
      rw [if_pos (by rfl)]
      intro K hK
      have HI := Lib.hid hI
      obtain ⟨v1, v2, e9, hj, hd⟩ := (show ∃ v1 v2, v 9 = .tuple #[v1, v2, .int .i64 0] ∧ Journal (SL L v 13 14) w' v1 T ∧ Disk (SL L v 13 14) w' v2 C from hI.2.1 _ (List.Mem.tail _ (List.Mem.tail _ (List.Mem.tail _ (List.Mem.tail _ (List.Mem.tail _ (List.Mem.tail _ (List.Mem.tail _ (List.Mem.tail _ (List.Mem.tail _ (List.Mem.head _)))))))))) (hre 9 (by kernel_rfl)))
      simp only [e9] at hK ⊢
      have E9 := Lib.hid e9; clear e9 hj hd
      have HK := Lib.hid hK; clear hK hI hdep hcl hre hLi
      go_simp
      exact HK.out _ _ (ZI.step OK.out HI.out 12 _ (by decide) (by decide) (by decide) (by decide) (Ext.refl _) (List.forall_mem_cons.2 ⟨(fun h => absurd (show (0 : Nat) = 12 from h) (by decide)), (List.forall_mem_cons.2 ⟨(fun h => absurd (show (1 : Nat) = 12 from h) (by decide)), (List.forall_mem_cons.2 ⟨(fun h => absurd (show (2 : Nat) = 12 from h) (by decide)), (List.forall_mem_cons.2 ⟨(fun h => absurd (show (3 : Nat) = 12 from h) (by decide)), (List.forall_mem_cons.2 ⟨(fun h => absurd (show (4 : Nat) = 12 from h) (by decide)), (List.forall_mem_cons.2 ⟨(fun h => absurd (show (5 : Nat) = 12 from h) (by decide)), (List.forall_mem_cons.2 ⟨(fun h => absurd (show (6 : Nat) = 12 from h) (by decide)), (List.forall_mem_cons.2 ⟨(fun h => absurd (show (7 : Nat) = 12 from h) (by decide)), (List.forall_mem_cons.2 ⟨(fun h => absurd (show (8 : Nat) = 12 from h) (by decide)), (List.forall_mem_cons.2 ⟨(fun h => absurd (show (9 : Nat) = 12 from h) (by decide)), (List.forall_mem_cons.2 ⟨(fun h => absurd (show (10 : Nat) = 12 from h) (by decide)), (List.forall_mem_cons.2 ⟨(fun h => absurd (show (11 : Nat) = 12 from h) (by decide)), (List.forall_mem_cons.2 ⟨(fun _ => rfl), (List.forall_mem_nil _)⟩)⟩)⟩)⟩)⟩)⟩)⟩)⟩)⟩)⟩)⟩)⟩)⟩))
    -- 13: slot 10 := Op.alloc 55
    refine ⟨?_, ?_⟩
    · intro v w' L hLi hdep hcl hre hI
      have hx := hI.1
      simp only [List.take_succ_cons, List.take_zero, putF, Act.put, List.setIfInBounds_toArray, List.set_cons_zero, List.set_cons_succ, Nat.reduceAdd, Nat.zero_add]
      rw [if_pos (by rfl)]
      intro K hK
      have HI := Lib.hid hI
      have HN := Lib.hid (show L 15 = false from (Bool.eq_false_iff.2 (fun h => by have := hcl 15 13 h (by kernel_rfl); rw [hLi] at this; cases this)))
      have HK := Lib.hid hK; clear hK hI hdep hcl hre hLi
      go_simp
      exact HK.out _ _ (ZI.allocB OK.out HI.out (by decide) (by decide) (by decide) HN.out (List.forall_mem_cons.2 ⟨(show (0 : Nat) ≠ 13 by decide), (List.forall_mem_cons.2 ⟨(show (1 : Nat) ≠ 13 by decide), (List.forall_mem_cons.2 ⟨(show (2 : Nat) ≠ 13 by decide), (List.forall_mem_cons.2 ⟨(show (3 : Nat) ≠ 13 by decide), (List.forall_mem_cons.2 ⟨(show (4 : Nat) ≠ 13 by decide), (List.forall_mem_cons.2 ⟨(show (5 : Nat) ≠ 13 by decide), (List.forall_mem_cons.2 ⟨(show (6 : Nat) ≠ 13 by decide), (List.forall_mem_cons.2 ⟨(show (7 : Nat) ≠ 13 by decide), (List.forall_mem_cons.2 ⟨(show (8 : Nat) ≠ 13 by decide), (List.forall_mem_cons.2 ⟨(show (9 : Nat) ≠ 13 by decide), (List.forall_mem_cons.2 ⟨(show (10 : Nat) ≠ 13 by decide), (List.forall_mem_cons.2 ⟨(show (11 : Nat) ≠ 13 by decide), (List.forall_mem_cons.2 ⟨(show (12 : Nat) ≠ 13 by decide), (List.forall_mem_nil _)⟩)⟩)⟩)⟩)⟩)⟩)⟩)⟩)⟩)⟩)⟩)⟩)⟩))
    -- 14: slot 11 := Op.alloc 25
    refine ⟨?_, ?_⟩
    · intro v w' L hLi hdep hcl hre hI
      have hx := hI.1
      simp only [List.take_succ_cons, List.take_zero, putF, Act.put, List.setIfInBounds_toArray, List.set_cons_zero, List.set_cons_succ, Nat.reduceAdd, Nat.zero_add]
      rw [if_pos (by rfl)]
      intro K hK
      have HI := Lib.hid hI
      have HN := Lib.hid (show L 16 = false from (Bool.eq_false_iff.2 (fun h => by have := hcl 16 14 h (by kernel_rfl); rw [hLi] at this; cases this)))
      have HK := Lib.hid hK; clear hK hI hdep hcl hre hLi
      go_simp
      exact HK.out _ _ (ZI.allocD OK.out HI.out (by decide) (by decide) (by decide) HN.out (List.forall_mem_cons.2 ⟨(show (0 : Nat) ≠ 14 by decide), (List.forall_mem_cons.2 ⟨(show (1 : Nat) ≠ 14 by decide), (List.forall_mem_cons.2 ⟨(show (2 : Nat) ≠ 14 by decide), (List.forall_mem_cons.2 ⟨(show (3 : Nat) ≠ 14 by decide), (List.forall_mem_cons.2 ⟨(show (4 : Nat) ≠ 14 by decide), (List.forall_mem_cons.2 ⟨(show (5 : Nat) ≠ 14 by decide), (List.forall_mem_cons.2 ⟨(show (6 : Nat) ≠ 14 by decide), (List.forall_mem_cons.2 ⟨(show (7 : Nat) ≠ 14 by decide), (List.forall_mem_cons.2 ⟨(show (8 : Nat) ≠ 14 by decide), (List.forall_mem_cons.2 ⟨(show (9 : Nat) ≠ 14 by decide), (List.forall_mem_cons.2 ⟨(show (10 : Nat) ≠ 14 by decide), (List.forall_mem_cons.2 ⟨(show (11 : Nat) ≠ 14 by decide), (List.forall_mem_cons.2 ⟨(show (12 : Nat) ≠ 14 by decide), (List.forall_mem_nil _)⟩)⟩)⟩)⟩)⟩)⟩)⟩)⟩)⟩)⟩)⟩)⟩)⟩))
    -- 15: slot None := Op.store 55 t10 t63
    refine ⟨?_, ?_⟩
    · intro v w' L hLi hdep hcl hre hI
      have hx := hI.1
      simp only [List.take_succ_cons, List.take_zero, putF, Act.put, List.setIfInBounds_toArray, List.set_cons_zero, List.set_cons_succ, Nat.reduceAdd, Nat.zero_add]
      rw [if_pos (by rfl)]
      intro K hK
      have HI := Lib.hid hI
      obtain ⟨g, eg, hg1, hz, -⟩ := hI.2.2.1 (hre 13 (by kernel_rfl))
      replace hz := hz hLi
      have hj : Journal (SL L v 13 14) w' (v 10) T := hI.2.1 _ (List.Mem.tail _ (List.Mem.tail _ (List.Mem.tail _ (List.Mem.tail _ (List.Mem.tail _ (List.Mem.tail _ (List.Mem.tail _ (List.Mem.tail _ (List.Mem.tail _ (List.Mem.tail _ (List.Mem.head _))))))))))) (hre 10 (by kernel_rfl))
      obtain ⟨a, c, ej, -, -, -⟩ := hj.open
      rw [ej] at hj
      simp only [eg, ej] at hK ⊢
      refine wp_store_box 55 (.tmp 10) (.tmp 63) rfl g (jc T a c) z3 rfl rfl hz (by kernel_rfl) rfl rfl ?_
      intro w2 hb2 ho
      exact hK undef _ (ZI.storeB OK.out HI.out undef (by decide) (by decide) (by decide) (List.forall_mem_cons.2 ⟨(show (0 : Nat) ≠ 15 by decide), (List.forall_mem_cons.2 ⟨(show (1 : Nat) ≠ 15 by decide), (List.forall_mem_cons.2 ⟨(show (2 : Nat) ≠ 15 by decide), (List.forall_mem_cons.2 ⟨(show (3 : Nat) ≠ 15 by decide), (List.forall_mem_cons.2 ⟨(show (4 : Nat) ≠ 15 by decide), (List.forall_mem_cons.2 ⟨(show (5 : Nat) ≠ 15 by decide), (List.forall_mem_cons.2 ⟨(show (6 : Nat) ≠ 15 by decide), (List.forall_mem_cons.2 ⟨(show (7 : Nat) ≠ 15 by decide), (List.forall_mem_cons.2 ⟨(show (8 : Nat) ≠ 15 by decide), (List.forall_mem_cons.2 ⟨(show (9 : Nat) ≠ 15 by decide), (List.forall_mem_cons.2 ⟨(show (10 : Nat) ≠ 15 by decide), (List.forall_mem_cons.2 ⟨(show (11 : Nat) ≠ 15 by decide), (List.forall_mem_cons.2 ⟨(show (12 : Nat) ≠ 15 by decide), (List.forall_mem_nil _)⟩)⟩)⟩)⟩)⟩)⟩)⟩)⟩)⟩)⟩)⟩)⟩)⟩) eg (hre 13 (by kernel_rfl)) hg1 ho hb2 hz hj)
    -- 16: slot None := Op.store 25 t11 t64
    refine ⟨?_, ?_⟩
    · intro v w' L hLi hdep hcl hre hI
      have hx := hI.1
      simp only [List.take_succ_cons, List.take_zero, putF, Act.put, List.setIfInBounds_toArray, List.set_cons_zero, List.set_cons_succ, Nat.reduceAdd, Nat.zero_add]
      rw [if_pos (by rfl)]
      intro K hK
      have HI := Lib.hid hI
      obtain ⟨g, eg, hg1, hz, -⟩ := hI.2.2.2 (hre 14 (by kernel_rfl))
      replace hz := hz hLi
      have hj : Disk (SL L v 13 14) w' (v 11) C := hI.2.1 _ (List.Mem.tail _ (List.Mem.tail _ (List.Mem.tail _ (List.Mem.tail _ (List.Mem.tail _ (List.Mem.tail _ (List.Mem.tail _ (List.Mem.tail _ (List.Mem.tail _ (List.Mem.tail _ (List.Mem.tail _ (List.Mem.head _)))))))))))) (hre 11 (by kernel_rfl))
      obtain ⟨a, c, b, e, ej, -, -, -, -, -, -⟩ := hj.open
      rw [ej] at hj
      simp only [eg, ej] at hK ⊢
      refine wp_store_box 25 (.tmp 11) (.tmp 64) rfl g (dc C a c b e) z4 rfl rfl hz (by kernel_rfl) rfl rfl ?_
      intro w2 hb2 ho
      exact hK undef _ (ZI.storeD OK.out HI.out undef (by decide) (by decide) (by decide) (List.forall_mem_cons.2 ⟨(show (0 : Nat) ≠ 16 by decide), (List.forall_mem_cons.2 ⟨(show (1 : Nat) ≠ 16 by decide), (List.forall_mem_cons.2 ⟨(show (2 : Nat) ≠ 16 by decide), (List.forall_mem_cons.2 ⟨(show (3 : Nat) ≠ 16 by decide), (List.forall_mem_cons.2 ⟨(show (4 : Nat) ≠ 16 by decide), (List.forall_mem_cons.2 ⟨(show (5 : Nat) ≠ 16 by decide), (List.forall_mem_cons.2 ⟨(show (6 : Nat) ≠ 16 by decide), (List.forall_mem_cons.2 ⟨(show (7 : Nat) ≠ 16 by decide), (List.forall_mem_cons.2 ⟨(show (8 : Nat) ≠ 16 by decide), (List.forall_mem_cons.2 ⟨(show (9 : Nat) ≠ 16 by decide), (List.forall_mem_cons.2 ⟨(show (10 : Nat) ≠ 16 by decide), (List.forall_mem_cons.2 ⟨(show (11 : Nat) ≠ 16 by decide), (List.forall_mem_cons.2 ⟨(show (12 : Nat) ≠ 16 by decide), (List.forall_mem_nil _)⟩)⟩)⟩)⟩)⟩)⟩)⟩)⟩)⟩)⟩)⟩)⟩)⟩) eg (hre 14 (by kernel_rfl)) hg1 ho hb2 hz hj)
    exact trivial
  case tail =>
    intro v w' hI
    simp only [List.drop_succ_cons, List.drop_zero, List.take_succ_cons, List.take_zero, putF, Act.put, List.setIfInBounds_toArray, List.set_cons_zero, List.set_cons_succ, Nat.reduceAdd, Nat.zero_add]
    have hx := hI.1
    have et : v 12 = .int .i64 0 := hI.2.1 _ (List.Mem.tail _ (List.Mem.tail _ (List.Mem.tail _ (List.Mem.tail _ (List.Mem.tail _ (List.Mem.tail _ (List.Mem.tail _ (List.Mem.tail _ (List.Mem.tail _ (List.Mem.tail _ (List.Mem.tail _ (List.Mem.tail _ (List.Mem.head _))))))))))))) (by decide)
    obtain ⟨g10, e10, -, -, hb10⟩ := hI.2.2.1 (by decide)
    obtain ⟨a, c, hbx, hjx⟩ := hb10 (by decide)
    obtain ⟨g11, e11, -, -, hb11⟩ := hI.2.2.2 (by decide)
    obtain ⟨b, f, e, h, hby, hdx⟩ := hb11 (by decide)
    simp only [et, e10, e11]
    have HX := Lib.hid hx; clear hx
    have HBX := Lib.hid hbx; clear hbx
    have HBY := Lib.hid hby; clear hby
    have HJX := Lib.hid (hjx.more (S' := No) (fun _ h => h.elim)); clear hjx
    have HDX := Lib.hid (hdx.more (S' := No) (fun _ h => h.elim)); clear hdx
    clear hI et e10 e11 hb10 hb11
    go_wp2_with fail
    exact HQ.out _ _ _ _ _ _ _ _ _ _ _ _ _ g10 g11 a b e c f h w' HX.out HBX.out HBY.out HJX.out HDX.out
end Go.Proofs.Ytpciankfpagnhaa
