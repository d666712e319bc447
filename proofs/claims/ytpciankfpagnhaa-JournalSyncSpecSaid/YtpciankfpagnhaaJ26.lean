/- Drawn regions of the reference's Sync. -/
import Derived.Test.YtpciankfpagnhaaJ18
import Derived.Test.YtpciankfpagnhaaJ15
import Derived.Test.YtpciankfpagnhaaD19
namespace Go.Proofs.Ytpciankfpagnhaa
open Go.RowKit

noncomputable def code48_26 : Code := ((Try.f48.body.bind (regionOf 26)).getD .skip)
set_option maxRecDepth 100000 in
set_option maxHeartbeats 4000000 in
theorem reg48_26 {Q : Exit → Act → World → Prop} {S : Nat → Prop} (t0 t1 t2 t4 t5 t6 t7 t8 t11 t12 t16 t17 t18 t19 t20 t21 t22 t23 t24 t25 t26 t27 t28 t29 t30 t31 t32 t33 t34 t35 t36 t37 t38 t39 t40 t41 t42 t43 t44 t45 t46 t47 t48 t49 t50 t51 t52 t53 t54 t55 t56 t57 t58 t59 t60 t61 t62 t63 t64 t65 t66 t67 t68 t69 t70 t71 t72 t73 t74 t75 t76 t77 t78 t79 t80 t81 t82 t83 t84 t85 t86 t87 t88 t89 t90 t91 t92 t93 t94 t95 t96 t97 t98 t99 t100 t101 t102 t103 t104 t105 t106 t107 t108 t109 t110 t111 t112 t113 t114 t115 t116 t117 t118 t119 t120 t121 t122 t123 t124 t125 t126 t127 t128 t129 t130 t131 t132 t133 t134 t135 t136 t137 t138 t139 t140 t141 t142 t143 t144 t145 t146 t147 t148 : Value) (w1 : World) (g3 g at_ nB cB k n : Nat) (be ee : Bool) (aB a a2 : Option Addr) (c c2 : Nat) (d d' : Dk) (p : List UInt8)
    (hB : Box w1 g3 [.slice a d.sectors.length c, .slice a2 d.pending.length c2, .int .i64 d.left, .bool d.stopped]) (hd : Disk S w1 (.agg #[.slice a d.sectors.length c, .slice a2 d.pending.length c2, .int .i64 d.left, .bool d.stopped]) d) (hp : Bs S w1 (.slice aB nB cB) p) (hpl : p.length ≤ 112) (hg : g < 4294967296) (hat : at_ < 4096) (hn : n < 4294967296) (hbe : ((k : Int) == 0) = be) (hee : ((k : Int) == (n : Int) - 1) = ee) (hn1 : 1 ≤ n) (hwd : writeD d at_ (sect g at_ (kindOf be ee) p) = (d', 0)) (hS : ∀ k, S k → k < w1.heap.size) (hS3 : S g3)
    (hQ : ∀ (u116 u117 u118 u119 u120 u121 u122 u123 u124 u125 u126 u127 u128 u115 u129 u130 : Value) (wx : World), ∀ (w9 : World) (a' : Option Addr) (c' : Nat) (a2' : Option Addr) (c2' : Nat), Ext w1 w9 → Only g3 w9 wx → Box wx g3 [.slice a' d'.sectors.length c', .slice a2' d'.pending.length c2', .int .i64 d'.left, .bool d'.stopped] → Disk S wx (.agg #[.slice a' d'.sectors.length c', .slice a2' d'.pending.length c2', .int .i64 d'.left, .bool d'.stopped]) d' → Q .normal ⟨#[t0, t1, t2, .pointer (some ⟨g3, 0, none⟩), t4, t5, t6, t7, t8, .int .u64 (g : Int), .int .i64 (at_ : Int), t11, t12, .int .i64 (n : Int), .int .i64 (k : Int), .slice aB nB cB, t16, t17, t18, t19, t20, t21, t22, t23, t24, t25, t26, t27, t28, t29, t30, t31, t32, t33, t34, t35, t36, t37, t38, t39, t40, t41, t42, t43, t44, t45, t46, t47, t48, t49, t50, t51, t52, t53, t54, t55, t56, t57, t58, t59, t60, t61, t62, t63, t64, t65, t66, t67, t68, t69, t70, t71, t72, t73, t74, t75, t76, t77, t78, t79, t80, t81, t82, t83, t84, t85, t86, t87, t88, t89, t90, t91, t92, t93, t94, t95, t96, t97, t98, t99, t100, t101, t102, t103, t104, t105, t106, t107, t108, t109, t110, t111, t112, t113, t114, u115, u116, u117, u118, u119, u120, u121, u122, u123, u124, u125, u126, u127, u128, u129, u130, t131, t132, t133, t134, t135, t136, t137, t138, t139, t140, t141, t142, t143, t144, t145, t146, t147, t148], []⟩ wx) :
    Code.wp Try.prog code48_26 Q ⟨#[t0, t1, t2, .pointer (some ⟨g3, 0, none⟩), t4, t5, t6, t7, t8, .int .u64 (g : Int), .int .i64 (at_ : Int), t11, t12, .int .i64 (n : Int), .int .i64 (k : Int), .slice aB nB cB, t16, t17, t18, t19, t20, t21, t22, t23, t24, t25, t26, t27, t28, t29, t30, t31, t32, t33, t34, t35, t36, t37, t38, t39, t40, t41, t42, t43, t44, t45, t46, t47, t48, t49, t50, t51, t52, t53, t54, t55, t56, t57, t58, t59, t60, t61, t62, t63, t64, t65, t66, t67, t68, t69, t70, t71, t72, t73, t74, t75, t76, t77, t78, t79, t80, t81, t82, t83, t84, t85, t86, t87, t88, t89, t90, t91, t92, t93, t94, t95, t96, t97, t98, t99, t100, t101, t102, t103, t104, t105, t106, t107, t108, t109, t110, t111, t112, t113, t114, t115, t116, t117, t118, t119, t120, t121, t122, t123, t124, t125, t126, t127, t128, t129, t130, t131, t132, t133, t134, t135, t136, t137, t138, t139, t140, t141, t142, t143, t144, t145, t146, t147, t148], []⟩ w1 := by
  conv => arg 2; whnf
  refine wp_only ?_
  have HQ := Lib.hid hQ; clear hQ
  have HD := Lib.hid hd; clear hd
  have HP := Lib.hid hp; clear hp
  have HWD := Lib.hid hwd; clear hwd
  have HS := Lib.hid hS; clear hS
  have HB := Lib.hid hB
  obtain ⟨c0, c1, c2', c3, y0, y1, y2, y3⟩ := hB.four
  clear hB
  have hw1 : IntKind.i64.wrap ((n : Int) - 1) = (n : Int) - 1 := wraps_i64 _ (by omega) (by omega)
  have K76 : Hid (∀ W, Ext w1 W → Calls Try.prog 76 #[.int .u64 (g : Int), .int .i64 (at_ : Int), .bool be, .bool ee, .slice aB nB cB] W fun e w' => ∃ v', e = .returned v' ∧ Bs S w' v' (sect g at_ (kindOf be ee) p) ∧ Ext W w') :=
    fun W hx => sector_ok (S := S) W g at_ be ee _ p (by omega) (by omega) (HP.out.keep hx) hpl (fun k hk => Nat.lt_of_lt_of_le (HS.out k hk) hx.size)
  have K27 : Hid (∀ W v, Ext w1 W → Bs S W v (sect g at_ (kindOf be ee) p) → Calls Try.prog 27 #[(.agg #[.slice a d.sectors.length c, .slice a2 d.pending.length c2, .int .i64 d.left, .bool d.stopped]), .int .i64 (at_ : Int), v] W (DiskErr S W (d', 0))) := fun W v hx hb => by
    have := refWrite_ok (S := S) W _ d at_ v (sect g at_ (kindOf be ee) p) (HD.out.keep hx) hb (fun k hk => Nat.lt_of_lt_of_le (HS.out k hk) hx.size)
    rwa [HWD.out] at this
  go_region_with (first
    | (go_at_call 76; refine (K76.out _ (by repeat (first | exact Ext.refl _ | refine Ext.drew ?_))).mono ?_; rintro e w2 ⟨v2, rfl, hd2, hx2⟩; obtain ⟨a9, c9, rfl, _, _⟩ := hd2.open; have hxx : Ext w1 w2 := Ext.trans (by repeat (first | exact Ext.refl _ | refine Ext.drew ?_)) hx2; have q0 := hxx.cell c0; have q1 := hxx.cell c1; have q2 := hxx.cell c2'; have q3 := hxx.cell c3)
    | (go_at_call 27; refine (K27.out _ _ ‹Ext w1 _› ‹Bs S _ _ (sect g at_ (kindOf be ee) p)›).mono ?_; rintro e w3 ⟨v3, rfl, hd3, hx3⟩; obtain ⟨a', c', a2', c2'', rfl, _, _, _, _, _, _⟩ := hd3.open; have hyy : Ext w1 w3 := Ext.trans ‹Ext w1 _› hx3; obtain ⟨z0, z1, z2, z3, x0, x1, x2, x3⟩ := (HB.out.keep hyy).four))
  all_goals
    dsimp only [onlyN]
    try simp only [List.getElem_toArray, List.getElem_cons_succ, List.getElem_cons_zero, Act.put, List.setIfInBounds_toArray, List.set_cons_zero, List.set_cons_succ]
    generalize hW : World.setCell _ _ _ = wx
    obtain ⟨hbx, ho⟩ := box_set4 (HB.out.keep hyy) hW
    exact HQ.out _ _ _ _ _ _ _ _ _ _ _ _ _ _ _ _ wx w3 a' c' a2' c2'' hyy ho hbx (Disk.keepM hd3 (ho.mem hS3))
noncomputable def code48_12a : Code := ((Try.f48.body.bind (regionOf 12)).getD .skip)
set_option maxRecDepth 100000 in
set_option maxHeartbeats 4000000 in
theorem reg48_12a {Q : Exit → Act → World → Prop} {S : Nat → Prop} (t0 t1 t4 t5 t6 t7 t8 t10 t11 t12 t13 t14 t15 t16 t17 t18 t19 t20 t21 t22 t23 t24 t25 t26 t27 t28 t29 t30 t31 t32 t33 t34 t35 t36 t37 t38 t39 t40 t41 t42 t43 t44 t45 t46 t47 t48 t49 t50 t51 t52 t53 t54 t55 t56 t57 t58 t59 t60 t61 t62 t63 t64 t65 t66 t67 t68 t69 t70 t71 t72 t73 t74 t75 t76 t77 t78 t79 t80 t81 t82 t83 t84 t85 t86 t87 t88 t89 t90 t91 t92 t93 t94 t95 t96 t97 t98 t99 t100 t101 t102 t103 t104 t105 t106 t107 t108 t109 t110 t111 t112 t113 t114 t115 t116 t117 t118 t119 t120 t121 t122 t123 t124 t125 t126 t127 t128 t129 t130 t131 t132 t133 t134 t135 t136 t137 t138 t139 t140 t141 t142 t143 t144 t145 t146 t147 t148 : Value) (w1 : World) (g2 g3 nS cS nJ cJ sy g : Nat) (aS aJ : Option Addr) (sl rs js : List (List UInt8)) (bq : Bool)
    (h3 : w1.cell? ⟨g3, 0, none⟩ = some (.slice aS nS cS)) (h20 : w1.cell? ⟨g2, 0, none⟩ = some (.slice aJ nJ cJ)) (h22 : w1.cell? ⟨g2, 2, none⟩ = some (.int .i64 (sy : Int))) (hs : Bss S w1 (.slice aS nS cS) sl) (hrs : recs sl = rs) (hl2 : sl.length ≤ 4096) (h128 : ∀ s ∈ sl, s.length = 128) (hj : Bss S w1 (.slice aJ sy cJ) js) (hsy : sy ≤ nJ) (hnc : nJ ≤ cJ) (heq : decide (rs = js) = false) (_hbq : decide (4294967295 < (g : Int)) = bq)
    (hQ : ∀ (u53 u54 u55 u56 u57 u58 u59 u60 u61 u62 u63 u64 u65 : Value) (wx : World), Ext w1 wx → Q .normal ⟨#[t0, t1, .pointer (some ⟨g2, 0, none⟩), .pointer (some ⟨g3, 0, none⟩), t4, t5, t6, t7, t8, .int .u64 (g : Int), t10, t11, t12, t13, t14, t15, t16, t17, t18, t19, t20, t21, t22, t23, t24, t25, t26, t27, t28, t29, t30, t31, t32, t33, t34, t35, t36, t37, t38, t39, t40, t41, t42, t43, t44, t45, t46, t47, t48, t49, t50, t51, t52, u53, u54, u55, u56, u57, u58, u59, u60, u61, u62, u63, u64, u65, .bool true, t67, t68, t69, t70, t71, t72, t73, t74, t75, t76, t77, t78, t79, t80, t81, t82, t83, t84, t85, t86, t87, t88, t89, t90, t91, t92, t93, t94, t95, t96, t97, t98, t99, t100, t101, t102, t103, t104, t105, t106, t107, t108, t109, t110, t111, t112, t113, t114, t115, t116, t117, t118, t119, t120, t121, t122, t123, t124, t125, t126, t127, t128, t129, t130, t131, t132, t133, t134, t135, t136, t137, t138, t139, t140, t141, t142, t143, t144, t145, t146, t147, t148], []⟩ wx) :
    Code.wp Try.prog code48_12a Q ⟨#[t0, t1, .pointer (some ⟨g2, 0, none⟩), .pointer (some ⟨g3, 0, none⟩), t4, t5, t6, t7, t8, .int .u64 (g : Int), t10, t11, t12, t13, t14, t15, t16, t17, t18, t19, t20, t21, t22, t23, t24, t25, t26, t27, t28, t29, t30, t31, t32, t33, t34, t35, t36, t37, t38, t39, t40, t41, t42, t43, t44, t45, t46, t47, t48, t49, t50, t51, t52, t53, t54, t55, t56, t57, t58, t59, t60, t61, t62, t63, t64, t65, t66, t67, t68, t69, t70, t71, t72, t73, t74, t75, t76, t77, t78, t79, t80, t81, t82, t83, t84, t85, t86, t87, t88, t89, t90, t91, t92, t93, t94, t95, t96, t97, t98, t99, t100, t101, t102, t103, t104, t105, t106, t107, t108, t109, t110, t111, t112, t113, t114, t115, t116, t117, t118, t119, t120, t121, t122, t123, t124, t125, t126, t127, t128, t129, t130, t131, t132, t133, t134, t135, t136, t137, t138, t139, t140, t141, t142, t143, t144, t145, t146, t147, t148], []⟩ w1 := by
  conv => arg 2; whnf
  have HQ := Lib.hid hQ; clear hQ
  have HSS := Lib.hid hs; clear hs
  have HJS := Lib.hid hj; clear hj
  have HEQ := Lib.hid heq; clear heq
  have HRS := Lib.hid hrs; clear hrs
  have H128 := Lib.hid h128; clear h128
  have i1 : (sy : Int) ≤ nJ := by omega
  have i2 : (sy : Int) ≤ cJ := by omega
  have i3 : (0 : Int) ≤ sy := by omega
  refine wp_region_rg 14 (fun _ => none) (by kernel_rfl) (by kernel_rfl) (phi [fun v _ => v = .pointer (some ⟨g3, 0, none⟩),
      fun v _ => v = .slice aS nS cS,
      fun v w => ∃ a c, v = .slice a rs.length c ∧ rs.length ≤ c ∧ c ≤ 9223372036854775807 ∧ Bss (fun _ => False) w v rs,
      fun v _ => v = .pointer (some ⟨g2, 0, none⟩),
      fun v _ => v = .slice aJ nJ cJ,
      fun v _ => v = .pointer (some ⟨g2, 2, none⟩),
      fun v _ => v = .int .i64 (sy : Int),
      fun v _ => v = .slice aJ sy cJ,
      fun v _ => v = .bool false,
      fun v _ => v = .bool true,
      fun v _ => v = .bool true,
      fun v _ => v = undef,
      fun v _ => v = undef,
      fun v _ => v = .bool true]) (phi_stable ?stable) ?steps ?tail
  case stable =>
    exact List.forall_mem_cons.2 ⟨stab_eq _, List.forall_mem_cons.2 ⟨stab_eq _, List.forall_mem_cons.2 ⟨fun _ _ _ hx ⟨a, c, e, h1, h2, h⟩ => ⟨a, c, e, h1, h2, Bss.keep h hx⟩, List.forall_mem_cons.2 ⟨stab_eq _, List.forall_mem_cons.2 ⟨stab_eq _, List.forall_mem_cons.2 ⟨stab_eq _, List.forall_mem_cons.2 ⟨stab_eq _, List.forall_mem_cons.2 ⟨stab_eq _, List.forall_mem_cons.2 ⟨stab_eq _, List.forall_mem_cons.2 ⟨stab_eq _, List.forall_mem_cons.2 ⟨stab_eq _, List.forall_mem_cons.2 ⟨stab_eq _, List.forall_mem_cons.2 ⟨stab_eq _, List.forall_mem_cons.2 ⟨stab_eq _, fun _ h => by cases h⟩⟩⟩⟩⟩⟩⟩⟩⟩⟩⟩⟩⟩⟩
  case steps =>
    simp only [List.take_succ_cons, List.take_zero]
    -- 0: slot 53 := Op.fieldAddr 25 t3 0
    refine ⟨?_, ?_⟩
    · intro v w' hx hd
      simp only [List.take_succ_cons, List.take_zero, putF, Act.put, List.setIfInBounds_toArray, List.set_cons_zero, List.set_cons_succ, Nat.reduceAdd, Nat.zero_add]
      clear hd
      rw [if_pos (by rfl)]
      intro K hK
      have q9 := hx.cell h3
      have q20 := hx.cell h20
      have q22 := hx.cell h22
      have HK := Lib.hid hK; clear hK
      go_simp
      exact HK.out _ _ (.inl (Ext.refl _)) rfl
    -- 1: slot 54 := Op.load 22 t53
    refine ⟨?_, ?_⟩
    · intro v w' hx hd
      have e0 : v 0 = .pointer (some ⟨g3, 0, none⟩) := hd 0 (by kernel_rfl)
      simp only [List.take_succ_cons, List.take_zero, putF, Act.put, List.setIfInBounds_toArray, List.set_cons_zero, List.set_cons_succ, Nat.reduceAdd, Nat.zero_add]
      simp only [e0]
      clear hd e0
      rw [if_pos (by rfl)]
      intro K hK
      have q9 := hx.cell h3
      have q20 := hx.cell h20
      have q22 := hx.cell h22
      have HK := Lib.hid hK; clear hK
      go_simp
      exact HK.out _ _ (.inl (Ext.refl _)) rfl
    -- 2: slot 55 := Op.call { value (Operand.func 65), args := #[t54], argTypes := #[22] }
    refine ⟨?_, ?_⟩
    · intro v w' hx hd
      have e1 : v 1 = .slice aS nS cS := hd 1 (by kernel_rfl)
      simp only [List.take_succ_cons, List.take_zero, putF, Act.put, List.setIfInBounds_toArray, List.set_cons_zero, List.set_cons_succ, Nat.reduceAdd, Nat.zero_add]
      simp only [e1]
      clear hd e1
      rw [if_pos (by rfl)]
      intro K hK
      have q9 := hx.cell h3
      have q20 := hx.cell h20
      have q22 := hx.cell h22
      have HK := Lib.hid hK; clear hK
      go_simp
      refine (refRecords_ok (S := fun _ => False) w' _ sl (Bss.keep HSS.out hx) hl2 H128.out (fun _ h => h.elim)).mono ?_
      rintro e w2 ⟨v2, rfl, hb2, hx2⟩
      rw [HRS.out] at hb2
      obtain ⟨a9, c9, rfl, h91, h92⟩ := hb2.open
      exact HK.out _ _ (.inl hx2) ⟨a9, c9, rfl, h91, h92, hb2⟩
    -- 3: slot 56 := Op.fieldAddr 55 t2 0
    refine ⟨?_, ?_⟩
    · intro v w' hx hd
      simp only [List.take_succ_cons, List.take_zero, putF, Act.put, List.setIfInBounds_toArray, List.set_cons_zero, List.set_cons_succ, Nat.reduceAdd, Nat.zero_add]
      clear hd
      rw [if_pos (by rfl)]
      intro K hK
      have q9 := hx.cell h3
      have q20 := hx.cell h20
      have q22 := hx.cell h22
      have HK := Lib.hid hK; clear hK
      go_simp
      exact HK.out _ _ (.inl (Ext.refl _)) rfl
    -- 4: slot 57 := Op.load 22 t56
    refine ⟨?_, ?_⟩
    · intro v w' hx hd
      have e3 : v 3 = .pointer (some ⟨g2, 0, none⟩) := hd 3 (by kernel_rfl)
      simp only [List.take_succ_cons, List.take_zero, putF, Act.put, List.setIfInBounds_toArray, List.set_cons_zero, List.set_cons_succ, Nat.reduceAdd, Nat.zero_add]
      simp only [e3]
      clear hd e3
      rw [if_pos (by rfl)]
      intro K hK
      have q9 := hx.cell h3
      have q20 := hx.cell h20
      have q22 := hx.cell h22
      have HK := Lib.hid hK; clear hK
      go_simp
      exact HK.out _ _ (.inl (Ext.refl _)) rfl
    -- 5: slot 58 := Op.fieldAddr 55 t2 2
    refine ⟨?_, ?_⟩
    · intro v w' hx hd
      simp only [List.take_succ_cons, List.take_zero, putF, Act.put, List.setIfInBounds_toArray, List.set_cons_zero, List.set_cons_succ, Nat.reduceAdd, Nat.zero_add]
      clear hd
      rw [if_pos (by rfl)]
      intro K hK
      have q9 := hx.cell h3
      have q20 := hx.cell h20
      have q22 := hx.cell h22
      have HK := Lib.hid hK; clear hK
      go_simp
      exact HK.out _ _ (.inl (Ext.refl _)) rfl
    -- 6: slot 59 := Op.load 3 t58
    refine ⟨?_, ?_⟩
    · intro v w' hx hd
      have e5 : v 5 = .pointer (some ⟨g2, 2, none⟩) := hd 5 (by kernel_rfl)
      simp only [List.take_succ_cons, List.take_zero, putF, Act.put, List.setIfInBounds_toArray, List.set_cons_zero, List.set_cons_succ, Nat.reduceAdd, Nat.zero_add]
      simp only [e5]
      clear hd e5
      rw [if_pos (by rfl)]
      intro K hK
      have q9 := hx.cell h3
      have q20 := hx.cell h20
      have q22 := hx.cell h22
      have HK := Lib.hid hK; clear hK
      go_simp
      exact HK.out _ _ (.inl (Ext.refl _)) rfl
    -- 7: slot 60 := Op.slice 22 t57 none (some t59) none
    refine ⟨?_, ?_⟩
    · intro v w' hx hd
      have e4 : v 4 = .slice aJ nJ cJ := hd 4 (by kernel_rfl)
      have e6 : v 6 = .int .i64 (sy : Int) := hd 6 (by kernel_rfl)
      simp only [List.take_succ_cons, List.take_zero, putF, Act.put, List.setIfInBounds_toArray, List.set_cons_zero, List.set_cons_succ, Nat.reduceAdd, Nat.zero_add]
      simp only [e4]
      simp only [e6]
      clear hd e4 e6
      rw [if_pos (by rfl)]
      intro K hK
      have q9 := hx.cell h3
      have q20 := hx.cell h20
      have q22 := hx.cell h22
      have HK := Lib.hid hK; clear hK
      go_simp
      exact HK.out _ _ (.inl (Ext.refl _)) rfl
    -- 8: slot 61 := Op.call { value (Operand.func 49), args := #[t55, t60], argTypes := #[22, 22] }
    refine ⟨?_, ?_⟩
    · intro v w' hx hd
      have e2 : (fun v w => ∃ a c, v = .slice a rs.length c ∧ rs.length ≤ c ∧ c ≤ 9223372036854775807 ∧ Bss (fun _ => False) w v rs) (v 2) w' := hd 2 (by kernel_rfl)
      have e7 : v 7 = .slice aJ sy cJ := hd 7 (by kernel_rfl)
      simp only [List.take_succ_cons, List.take_zero, putF, Act.put, List.setIfInBounds_toArray, List.set_cons_zero, List.set_cons_succ, Nat.reduceAdd, Nat.zero_add]
      simp only [e7]
      clear hd e7
      rw [if_pos (by rfl)]
      intro K hK
      have q9 := hx.cell h3
      have q20 := hx.cell h20
      have q22 := hx.cell h22
      obtain ⟨a9, c9, e9, h91, h92, hb9⟩ := e2
      simp only [e9] at hK hb9 ⊢
      have HK := Lib.hid hK; clear hK
      go_simp
      refine (sameRecords_ok w' _ _ rs js hb9 (Bss.keep HJS.out hx)).mono ?_
      rintro e w2 ⟨rfl, m, rfl⟩
      rw [HEQ.out]
      exact HK.out _ _ (.inl (Ext.drewN _ m)) rfl
    -- 9: slot 62 := Op.unOp UnOp.not 4 t61
    refine ⟨?_, ?_⟩
    · intro v w' hx hd
      have e8 : v 8 = .bool false := hd 8 (by kernel_rfl)
      simp only [List.take_succ_cons, List.take_zero, putF, Act.put, List.setIfInBounds_toArray, List.set_cons_zero, List.set_cons_succ, Nat.reduceAdd, Nat.zero_add]
      simp only [e8]
      clear hd e8
      rw [if_pos (by rfl)]
      intro K hK
      have q9 := hx.cell h3
      have q20 := hx.cell h20
      have q22 := hx.cell h22
      have HK := Lib.hid hK; clear hK
      go_simp
      exact HK.out _ _ (.inl (Ext.refl _)) rfl
    -- 10: slot 63 := Op.move t62
    refine ⟨?_, ?_⟩
    · intro v w' hx hd
      have e9 : v 9 = .bool true := hd 9 (by kernel_rfl)
      simp only [List.take_succ_cons, List.take_zero, putF, Act.put, List.setIfInBounds_toArray, List.set_cons_zero, List.set_cons_succ, Nat.reduceAdd, Nat.zero_add]
      simp only [e9]
      clear hd e9
      rw [if_pos (by rfl)]
      intro K hK
      have q9 := hx.cell h3
      have q20 := hx.cell h20
      have q22 := hx.cell h22
      have HK := Lib.hid hK; clear hK
      go_simp
      exact HK.out _ _ (.inl (Ext.refl _)) rfl
    -- 11: slot 64 := Op.move t9   [guarded: some (10, false)]
    refine ⟨?_, ?_⟩
    · intro v w' hx hd
      have e10 : v 10 = .bool true := hd 10 (by kernel_rfl)
      simp only [List.take_succ_cons, List.take_zero, putF, Act.put, List.setIfInBounds_toArray, List.set_cons_zero, List.set_cons_succ, Nat.reduceAdd, Nat.zero_add]
      simp only [e10]
      clear hd e10
      rw [if_neg (ne_true_of_eq_false (by rfl))]
      exact rfl
    -- 12: slot 65 := Op.binOp BinOp.gtr 95 t64 (const (4294967295:u64)) 95   [guarded: some (10, false)]
    refine ⟨?_, ?_⟩
    · intro v w' hx hd
      have e10 : v 10 = .bool true := hd 10 (by kernel_rfl)
      simp only [List.take_succ_cons, List.take_zero, putF, Act.put, List.setIfInBounds_toArray, List.set_cons_zero, List.set_cons_succ, Nat.reduceAdd, Nat.zero_add]
      simp only [e10]
      clear hd e10
      rw [if_neg (ne_true_of_eq_false (by rfl))]
      exact rfl
    -- 13: slot 66 := Op.pick t63 (const (Value.bool true)) t65
    refine ⟨?_, ?_⟩
    · intro v w' hx hd
      have e10 : v 10 = .bool true := hd 10 (by kernel_rfl)
      have e12 : v 12 = undef := hd 12 (by kernel_rfl)
      simp only [List.take_succ_cons, List.take_zero, putF, Act.put, List.setIfInBounds_toArray, List.set_cons_zero, List.set_cons_succ, Nat.reduceAdd, Nat.zero_add]
      simp only [e10]
      simp only [e12]
      clear hd e10 e12
      rw [if_pos (by rfl)]
      intro K hK
      have q9 := hx.cell h3
      have q20 := hx.cell h20
      have q22 := hx.cell h22
      have HK := Lib.hid hK; clear hK
      go_simp
      exact HK.out _ _ (.inl (Ext.refl _)) rfl
    exact trivial
  case tail =>
    intro v w' hx hall
    simp only [List.drop_succ_cons, List.drop_zero, List.take_succ_cons, List.take_zero, putF, Act.put, List.setIfInBounds_toArray, List.set_cons_zero, List.set_cons_succ, Nat.reduceAdd, Nat.zero_add]
    have e13 : v 13 = .bool true := hall 13 (by decide) (fun k hk => by simp at hk)
    simp only [e13]
    have HX := Lib.hid hx; clear hx
    clear hall e13
    exact HQ.out _ _ _ _ _ _ _ _ _ _ _ _ _ w' HX.out
noncomputable def code48_12b : Code := ((Try.f48.body.bind (regionOf 12)).getD .skip)
set_option maxRecDepth 100000 in
set_option maxHeartbeats 4000000 in
theorem reg48_12b {Q : Exit → Act → World → Prop} {S : Nat → Prop} (t0 t1 t4 t5 t6 t7 t8 t10 t11 t12 t13 t14 t15 t16 t17 t18 t19 t20 t21 t22 t23 t24 t25 t26 t27 t28 t29 t30 t31 t32 t33 t34 t35 t36 t37 t38 t39 t40 t41 t42 t43 t44 t45 t46 t47 t48 t49 t50 t51 t52 t53 t54 t55 t56 t57 t58 t59 t60 t61 t62 t63 t64 t65 t66 t67 t68 t69 t70 t71 t72 t73 t74 t75 t76 t77 t78 t79 t80 t81 t82 t83 t84 t85 t86 t87 t88 t89 t90 t91 t92 t93 t94 t95 t96 t97 t98 t99 t100 t101 t102 t103 t104 t105 t106 t107 t108 t109 t110 t111 t112 t113 t114 t115 t116 t117 t118 t119 t120 t121 t122 t123 t124 t125 t126 t127 t128 t129 t130 t131 t132 t133 t134 t135 t136 t137 t138 t139 t140 t141 t142 t143 t144 t145 t146 t147 t148 : Value) (w1 : World) (g2 g3 nS cS nJ cJ sy g : Nat) (aS aJ : Option Addr) (sl rs js : List (List UInt8)) (bq : Bool)
    (h3 : w1.cell? ⟨g3, 0, none⟩ = some (.slice aS nS cS)) (h20 : w1.cell? ⟨g2, 0, none⟩ = some (.slice aJ nJ cJ)) (h22 : w1.cell? ⟨g2, 2, none⟩ = some (.int .i64 (sy : Int))) (hs : Bss S w1 (.slice aS nS cS) sl) (hrs : recs sl = rs) (hl2 : sl.length ≤ 4096) (h128 : ∀ s ∈ sl, s.length = 128) (hj : Bss S w1 (.slice aJ sy cJ) js) (hsy : sy ≤ nJ) (hnc : nJ ≤ cJ) (heq : decide (rs = js) = true) (hbq : decide (4294967295 < (g : Int)) = bq)
    (hQ : ∀ (u53 u54 u55 u56 u57 u58 u59 u60 u61 u62 u63 u64 u65 : Value) (wx : World), Ext w1 wx → Q .normal ⟨#[t0, t1, .pointer (some ⟨g2, 0, none⟩), .pointer (some ⟨g3, 0, none⟩), t4, t5, t6, t7, t8, .int .u64 (g : Int), t10, t11, t12, t13, t14, t15, t16, t17, t18, t19, t20, t21, t22, t23, t24, t25, t26, t27, t28, t29, t30, t31, t32, t33, t34, t35, t36, t37, t38, t39, t40, t41, t42, t43, t44, t45, t46, t47, t48, t49, t50, t51, t52, u53, u54, u55, u56, u57, u58, u59, u60, u61, u62, u63, u64, u65, .bool bq, t67, t68, t69, t70, t71, t72, t73, t74, t75, t76, t77, t78, t79, t80, t81, t82, t83, t84, t85, t86, t87, t88, t89, t90, t91, t92, t93, t94, t95, t96, t97, t98, t99, t100, t101, t102, t103, t104, t105, t106, t107, t108, t109, t110, t111, t112, t113, t114, t115, t116, t117, t118, t119, t120, t121, t122, t123, t124, t125, t126, t127, t128, t129, t130, t131, t132, t133, t134, t135, t136, t137, t138, t139, t140, t141, t142, t143, t144, t145, t146, t147, t148], []⟩ wx) :
    Code.wp Try.prog code48_12b Q ⟨#[t0, t1, .pointer (some ⟨g2, 0, none⟩), .pointer (some ⟨g3, 0, none⟩), t4, t5, t6, t7, t8, .int .u64 (g : Int), t10, t11, t12, t13, t14, t15, t16, t17, t18, t19, t20, t21, t22, t23, t24, t25, t26, t27, t28, t29, t30, t31, t32, t33, t34, t35, t36, t37, t38, t39, t40, t41, t42, t43, t44, t45, t46, t47, t48, t49, t50, t51, t52, t53, t54, t55, t56, t57, t58, t59, t60, t61, t62, t63, t64, t65, t66, t67, t68, t69, t70, t71, t72, t73, t74, t75, t76, t77, t78, t79, t80, t81, t82, t83, t84, t85, t86, t87, t88, t89, t90, t91, t92, t93, t94, t95, t96, t97, t98, t99, t100, t101, t102, t103, t104, t105, t106, t107, t108, t109, t110, t111, t112, t113, t114, t115, t116, t117, t118, t119, t120, t121, t122, t123, t124, t125, t126, t127, t128, t129, t130, t131, t132, t133, t134, t135, t136, t137, t138, t139, t140, t141, t142, t143, t144, t145, t146, t147, t148], []⟩ w1 := by
  conv => arg 2; whnf
  have HQ := Lib.hid hQ; clear hQ
  have HSS := Lib.hid hs; clear hs
  have HJS := Lib.hid hj; clear hj
  have HEQ := Lib.hid heq; clear heq
  have HRS := Lib.hid hrs; clear hrs
  have H128 := Lib.hid h128; clear h128
  have i1 : (sy : Int) ≤ nJ := by omega
  have i2 : (sy : Int) ≤ cJ := by omega
  have i3 : (0 : Int) ≤ sy := by omega
  refine wp_region_rg 14 (fun _ => none) (by kernel_rfl) (by kernel_rfl) (phi [fun v _ => v = .pointer (some ⟨g3, 0, none⟩),
      fun v _ => v = .slice aS nS cS,
      fun v w => ∃ a c, v = .slice a rs.length c ∧ rs.length ≤ c ∧ c ≤ 9223372036854775807 ∧ Bss (fun _ => False) w v rs,
      fun v _ => v = .pointer (some ⟨g2, 0, none⟩),
      fun v _ => v = .slice aJ nJ cJ,
      fun v _ => v = .pointer (some ⟨g2, 2, none⟩),
      fun v _ => v = .int .i64 (sy : Int),
      fun v _ => v = .slice aJ sy cJ,
      fun v _ => v = .bool true,
      fun v _ => v = .bool false,
      fun v _ => v = .bool false,
      fun v _ => v = .int .u64 (g : Int),
      fun v _ => v = .bool bq,
      fun v _ => v = .bool bq]) (phi_stable ?stable) ?steps ?tail
  case stable =>
    exact List.forall_mem_cons.2 ⟨stab_eq _, List.forall_mem_cons.2 ⟨stab_eq _, List.forall_mem_cons.2 ⟨fun _ _ _ hx ⟨a, c, e, h1, h2, h⟩ => ⟨a, c, e, h1, h2, Bss.keep h hx⟩, List.forall_mem_cons.2 ⟨stab_eq _, List.forall_mem_cons.2 ⟨stab_eq _, List.forall_mem_cons.2 ⟨stab_eq _, List.forall_mem_cons.2 ⟨stab_eq _, List.forall_mem_cons.2 ⟨stab_eq _, List.forall_mem_cons.2 ⟨stab_eq _, List.forall_mem_cons.2 ⟨stab_eq _, List.forall_mem_cons.2 ⟨stab_eq _, List.forall_mem_cons.2 ⟨stab_eq _, List.forall_mem_cons.2 ⟨stab_eq _, List.forall_mem_cons.2 ⟨stab_eq _, fun _ h => by cases h⟩⟩⟩⟩⟩⟩⟩⟩⟩⟩⟩⟩⟩⟩
  case steps =>
    simp only [List.take_succ_cons, List.take_zero]
    -- 0: slot 53 := Op.fieldAddr 25 t3 0
    refine ⟨?_, ?_⟩
    · intro v w' hx hd
      simp only [List.take_succ_cons, List.take_zero, putF, Act.put, List.setIfInBounds_toArray, List.set_cons_zero, List.set_cons_succ, Nat.reduceAdd, Nat.zero_add]
      clear hd
      rw [if_pos (by rfl)]
      intro K hK
      have q9 := hx.cell h3
      have q20 := hx.cell h20
      have q22 := hx.cell h22
      have HK := Lib.hid hK; clear hK
      go_simp
      exact HK.out _ _ (.inl (Ext.refl _)) rfl
    -- 1: slot 54 := Op.load 22 t53
    refine ⟨?_, ?_⟩
    · intro v w' hx hd
      have e0 : v 0 = .pointer (some ⟨g3, 0, none⟩) := hd 0 (by kernel_rfl)
      simp only [List.take_succ_cons, List.take_zero, putF, Act.put, List.setIfInBounds_toArray, List.set_cons_zero, List.set_cons_succ, Nat.reduceAdd, Nat.zero_add]
      simp only [e0]
      clear hd e0
      rw [if_pos (by rfl)]
      intro K hK
      have q9 := hx.cell h3
      have q20 := hx.cell h20
      have q22 := hx.cell h22
      have HK := Lib.hid hK; clear hK
      go_simp
      exact HK.out _ _ (.inl (Ext.refl _)) rfl
    -- 2: slot 55 := Op.call { value (Operand.func 65), args := #[t54], argTypes := #[22] }
    refine ⟨?_, ?_⟩
    · intro v w' hx hd
      have e1 : v 1 = .slice aS nS cS := hd 1 (by kernel_rfl)
      simp only [List.take_succ_cons, List.take_zero, putF, Act.put, List.setIfInBounds_toArray, List.set_cons_zero, List.set_cons_succ, Nat.reduceAdd, Nat.zero_add]
      simp only [e1]
      clear hd e1
      rw [if_pos (by rfl)]
      intro K hK
      have q9 := hx.cell h3
      have q20 := hx.cell h20
      have q22 := hx.cell h22
      have HK := Lib.hid hK; clear hK
      go_simp
      refine (refRecords_ok (S := fun _ => False) w' _ sl (Bss.keep HSS.out hx) hl2 H128.out (fun _ h => h.elim)).mono ?_
      rintro e w2 ⟨v2, rfl, hb2, hx2⟩
      rw [HRS.out] at hb2
      obtain ⟨a9, c9, rfl, h91, h92⟩ := hb2.open
      exact HK.out _ _ (.inl hx2) ⟨a9, c9, rfl, h91, h92, hb2⟩
    -- 3: slot 56 := Op.fieldAddr 55 t2 0
    refine ⟨?_, ?_⟩
    · intro v w' hx hd
      simp only [List.take_succ_cons, List.take_zero, putF, Act.put, List.setIfInBounds_toArray, List.set_cons_zero, List.set_cons_succ, Nat.reduceAdd, Nat.zero_add]
      clear hd
      rw [if_pos (by rfl)]
      intro K hK
      have q9 := hx.cell h3
      have q20 := hx.cell h20
      have q22 := hx.cell h22
      have HK := Lib.hid hK; clear hK
      go_simp
      exact HK.out _ _ (.inl (Ext.refl _)) rfl
    -- 4: slot 57 := Op.load 22 t56
    refine ⟨?_, ?_⟩
    · intro v w' hx hd
      have e3 : v 3 = .pointer (some ⟨g2, 0, none⟩) := hd 3 (by kernel_rfl)
      simp only [List.take_succ_cons, List.take_zero, putF, Act.put, List.setIfInBounds_toArray, List.set_cons_zero, List.set_cons_succ, Nat.reduceAdd, Nat.zero_add]
      simp only [e3]
      clear hd e3
      rw [if_pos (by rfl)]
      intro K hK
      have q9 := hx.cell h3
      have q20 := hx.cell h20
      have q22 := hx.cell h22
      have HK := Lib.hid hK; clear hK
      go_simp
      exact HK.out _ _ (.inl (Ext.refl _)) rfl
    -- 5: slot 58 := Op.fieldAddr 55 t2 2
    refine ⟨?_, ?_⟩
    · intro v w' hx hd
      simp only [List.take_succ_cons, List.take_zero, putF, Act.put, List.setIfInBounds_toArray, List.set_cons_zero, List.set_cons_succ, Nat.reduceAdd, Nat.zero_add]
      clear hd
      rw [if_pos (by rfl)]
      intro K hK
      have q9 := hx.cell h3
      have q20 := hx.cell h20
      have q22 := hx.cell h22
      have HK := Lib.hid hK; clear hK
      go_simp
      exact HK.out _ _ (.inl (Ext.refl _)) rfl
    -- 6: slot 59 := Op.load 3 t58
    refine ⟨?_, ?_⟩
    · intro v w' hx hd
      have e5 : v 5 = .pointer (some ⟨g2, 2, none⟩) := hd 5 (by kernel_rfl)
      simp only [List.take_succ_cons, List.take_zero, putF, Act.put, List.setIfInBounds_toArray, List.set_cons_zero, List.set_cons_succ, Nat.reduceAdd, Nat.zero_add]
      simp only [e5]
      clear hd e5
      rw [if_pos (by rfl)]
      intro K hK
      have q9 := hx.cell h3
      have q20 := hx.cell h20
      have q22 := hx.cell h22
      have HK := Lib.hid hK; clear hK
      go_simp
      exact HK.out _ _ (.inl (Ext.refl _)) rfl
    -- 7: slot 60 := Op.slice 22 t57 none (some t59) none
    refine ⟨?_, ?_⟩
    · intro v w' hx hd
      have e4 : v 4 = .slice aJ nJ cJ := hd 4 (by kernel_rfl)
      have e6 : v 6 = .int .i64 (sy : Int) := hd 6 (by kernel_rfl)
      simp only [List.take_succ_cons, List.take_zero, putF, Act.put, List.setIfInBounds_toArray, List.set_cons_zero, List.set_cons_succ, Nat.reduceAdd, Nat.zero_add]
      simp only [e4]
      simp only [e6]
      clear hd e4 e6
      rw [if_pos (by rfl)]
      intro K hK
      have q9 := hx.cell h3
      have q20 := hx.cell h20
      have q22 := hx.cell h22
      have HK := Lib.hid hK; clear hK
      go_simp
      exact HK.out _ _ (.inl (Ext.refl _)) rfl
    -- 8: slot 61 := Op.call { value (Operand.func 49), args := #[t55, t60], argTypes := #[22, 22] }
    refine ⟨?_, ?_⟩
    · intro v w' hx hd
      have e2 : (fun v w => ∃ a c, v = .slice a rs.length c ∧ rs.length ≤ c ∧ c ≤ 9223372036854775807 ∧ Bss (fun _ => False) w v rs) (v 2) w' := hd 2 (by kernel_rfl)
      have e7 : v 7 = .slice aJ sy cJ := hd 7 (by kernel_rfl)
      simp only [List.take_succ_cons, List.take_zero, putF, Act.put, List.setIfInBounds_toArray, List.set_cons_zero, List.set_cons_succ, Nat.reduceAdd, Nat.zero_add]
      simp only [e7]
      clear hd e7
      rw [if_pos (by rfl)]
      intro K hK
      have q9 := hx.cell h3
      have q20 := hx.cell h20
      have q22 := hx.cell h22
      obtain ⟨a9, c9, e9, h91, h92, hb9⟩ := e2
      simp only [e9] at hK hb9 ⊢
      have HK := Lib.hid hK; clear hK
      go_simp
      refine (sameRecords_ok w' _ _ rs js hb9 (Bss.keep HJS.out hx)).mono ?_
      rintro e w2 ⟨rfl, m, rfl⟩
      rw [HEQ.out]
      exact HK.out _ _ (.inl (Ext.drewN _ m)) rfl
    -- 9: slot 62 := Op.unOp UnOp.not 4 t61
    refine ⟨?_, ?_⟩
    · intro v w' hx hd
      have e8 : v 8 = .bool true := hd 8 (by kernel_rfl)
      simp only [List.take_succ_cons, List.take_zero, putF, Act.put, List.setIfInBounds_toArray, List.set_cons_zero, List.set_cons_succ, Nat.reduceAdd, Nat.zero_add]
      simp only [e8]
      clear hd e8
      rw [if_pos (by rfl)]
      intro K hK
      have q9 := hx.cell h3
      have q20 := hx.cell h20
      have q22 := hx.cell h22
      have HK := Lib.hid hK; clear hK
      go_simp
      exact HK.out _ _ (.inl (Ext.refl _)) rfl
    -- 10: slot 63 := Op.move t62
    refine ⟨?_, ?_⟩
    · intro v w' hx hd
      have e9 : v 9 = .bool false := hd 9 (by kernel_rfl)
      simp only [List.take_succ_cons, List.take_zero, putF, Act.put, List.setIfInBounds_toArray, List.set_cons_zero, List.set_cons_succ, Nat.reduceAdd, Nat.zero_add]
      simp only [e9]
      clear hd e9
      rw [if_pos (by rfl)]
      intro K hK
      have q9 := hx.cell h3
      have q20 := hx.cell h20
      have q22 := hx.cell h22
      have HK := Lib.hid hK; clear hK
      go_simp
      exact HK.out _ _ (.inl (Ext.refl _)) rfl
    -- 11: slot 64 := Op.move t9   [guarded: some (10, false)]
    refine ⟨?_, ?_⟩
    · intro v w' hx hd
      have e10 : v 10 = .bool false := hd 10 (by kernel_rfl)
      simp only [List.take_succ_cons, List.take_zero, putF, Act.put, List.setIfInBounds_toArray, List.set_cons_zero, List.set_cons_succ, Nat.reduceAdd, Nat.zero_add]
      simp only [e10]
      clear hd e10
      rw [if_pos (by rfl)]
      intro K hK
      have q9 := hx.cell h3
      have q20 := hx.cell h20
      have q22 := hx.cell h22
      have HK := Lib.hid hK; clear hK
      go_simp
      exact HK.out _ _ (.inl (Ext.refl _)) rfl
    -- 12: slot 65 := Op.binOp BinOp.gtr 95 t64 (const (4294967295:u64)) 95   [guarded: some (10, false)]
    refine ⟨?_, ?_⟩
    · intro v w' hx hd
      have e11 : v 11 = .int .u64 (g : Int) := hd 11 (by kernel_rfl)
      have e10 : v 10 = .bool false := hd 10 (by kernel_rfl)
      simp only [List.take_succ_cons, List.take_zero, putF, Act.put, List.setIfInBounds_toArray, List.set_cons_zero, List.set_cons_succ, Nat.reduceAdd, Nat.zero_add]
      simp only [e11]
      simp only [e10]
      clear hd e11 e10
      rw [if_pos (by rfl)]
      intro K hK
      have q9 := hx.cell h3
      have q20 := hx.cell h20
      have q22 := hx.cell h22
      have HK := Lib.hid hK; clear hK
      go_simp
      exact HK.out _ _ (.inl (Ext.refl _)) rfl
    -- 13: slot 66 := Op.pick t63 (const (Value.bool true)) t65
    refine ⟨?_, ?_⟩
    · intro v w' hx hd
      have e10 : v 10 = .bool false := hd 10 (by kernel_rfl)
      have e12 : v 12 = .bool bq := hd 12 (by kernel_rfl)
      simp only [List.take_succ_cons, List.take_zero, putF, Act.put, List.setIfInBounds_toArray, List.set_cons_zero, List.set_cons_succ, Nat.reduceAdd, Nat.zero_add]
      simp only [e10]
      simp only [e12]
      clear hd e10 e12
      rw [if_pos (by rfl)]
      intro K hK
      have q9 := hx.cell h3
      have q20 := hx.cell h20
      have q22 := hx.cell h22
      have HK := Lib.hid hK; clear hK
      go_simp
      exact HK.out _ _ (.inl (Ext.refl _)) rfl
    exact trivial
  case tail =>
    intro v w' hx hall
    simp only [List.drop_succ_cons, List.drop_zero, List.take_succ_cons, List.take_zero, putF, Act.put, List.setIfInBounds_toArray, List.set_cons_zero, List.set_cons_succ, Nat.reduceAdd, Nat.zero_add]
    have e13 : v 13 = .bool bq := hall 13 (by decide) (fun k hk => by simp at hk)
    simp only [e13]
    have HX := Lib.hid hx; clear hx
    clear hall e13
    exact HQ.out _ _ _ _ _ _ _ _ _ _ _ _ _ w' HX.out
noncomputable def code48_15 : Code := ((Try.f48.body.bind (regionOf 15)).getD .skip)
set_option maxRecDepth 100000 in
set_option maxHeartbeats 4000000 in
theorem reg48_15 {Q : Exit → Act → World → Prop} (t0 t1 t6 t7 t8 t9 t10 t11 t12 t13 t14 t15 t16 t17 t18 t19 t20 t21 t22 t23 t24 t25 t26 t27 t28 t29 t30 t31 t32 t33 t34 t35 t36 t37 t38 t39 t40 t41 t42 t43 t44 t45 t46 t47 t48 t49 t50 t51 t52 t53 t54 t55 t56 t57 t58 t59 t60 t61 t62 t63 t64 t65 t66 t67 t68 t69 t70 t71 t72 t73 t74 t75 t76 t77 t78 t79 t80 t81 t82 t83 t84 t85 t86 t87 t88 t89 t90 t91 t92 t93 t94 t95 t96 t97 t98 t99 t100 t101 t102 t103 t104 t105 t106 t107 t108 t109 t110 t111 t112 t113 t114 t115 t116 t117 t118 t119 t120 t121 t122 t123 t124 t125 t126 t127 t128 t129 t130 t131 t132 t133 t134 t135 t136 t137 t138 t139 t140 t141 t142 t143 t144 t145 t146 t147 t148 : Value) (w1 : World) (g2 g3 g4 g5 nJ cJ n c n2 c2 : Nat) (aJ a a2 : Option Addr) (m sy le : Int) (st : Bool) (y0 y1 y2 x0 x1 x2 x3 : Value)
    (h2 : Box w1 g2 [.slice aJ nJ cJ, .int .i64 m, .int .i64 sy]) (h3 : Box w1 g3 [.slice a n c, .slice a2 n2 c2, .int .i64 le, .bool st]) (h4 : Box w1 g4 [y0, y1, y2]) (h5 : Box w1 g5 [x0, x1, x2, x3]) (n34 : g3 ≠ g4) (n45 : g4 ≠ g5)
    (hQ : ∀ (u75 u76 : Value) (wx : World), ∀ (w9 wa : World), Ext w1 w9 → Only g4 w9 wa → Only g5 wa wx → Box wx g4 [.slice aJ nJ cJ, .int .i64 m, .int .i64 sy] → Box wx g5 [.slice a n c, .slice a2 n2 c2, .int .i64 le, .bool st] → Q .normal ⟨#[t0, t1, .pointer (some ⟨g2, 0, none⟩), .pointer (some ⟨g3, 0, none⟩), .pointer (some ⟨g4, 0, none⟩), .pointer (some ⟨g5, 0, none⟩), .int .i64 0, t7, t8, t9, t10, t11, t12, t13, t14, t15, t16, t17, t18, t19, t20, t21, t22, t23, t24, t25, t26, t27, t28, t29, t30, t31, t32, t33, t34, t35, t36, t37, t38, t39, t40, t41, t42, t43, t44, t45, t46, t47, t48, t49, t50, t51, t52, t53, t54, t55, t56, t57, t58, t59, t60, t61, t62, t63, t64, t65, t66, t67, t68, t69, t70, t71, t72, t73, t74, u75, u76, t77, t78, t79, t80, t81, t82, t83, t84, t85, t86, t87, t88, t89, t90, t91, t92, t93, t94, t95, t96, t97, t98, t99, t100, t101, t102, t103, t104, t105, t106, t107, t108, t109, t110, t111, t112, t113, t114, t115, t116, t117, t118, t119, t120, t121, t122, t123, t124, t125, t126, t127, t128, t129, t130, t131, t132, t133, t134, t135, t136, t137, t138, t139, t140, t141, t142, t143, t144, t145, t146, t147, t148], []⟩ wx) :
    Code.wp Try.prog code48_15 Q ⟨#[t0, t1, .pointer (some ⟨g2, 0, none⟩), .pointer (some ⟨g3, 0, none⟩), .pointer (some ⟨g4, 0, none⟩), .pointer (some ⟨g5, 0, none⟩), t6, t7, t8, t9, t10, t11, t12, t13, t14, t15, t16, t17, t18, t19, t20, t21, t22, t23, t24, t25, t26, t27, t28, t29, t30, t31, t32, t33, t34, t35, t36, t37, t38, t39, t40, t41, t42, t43, t44, t45, t46, t47, t48, t49, t50, t51, t52, t53, t54, t55, t56, t57, t58, t59, t60, t61, t62, t63, t64, t65, t66, t67, t68, t69, t70, t71, t72, t73, t74, t75, t76, t77, t78, t79, t80, t81, t82, t83, t84, t85, t86, t87, t88, t89, t90, t91, t92, t93, t94, t95, t96, t97, t98, t99, t100, t101, t102, t103, t104, t105, t106, t107, t108, t109, t110, t111, t112, t113, t114, t115, t116, t117, t118, t119, t120, t121, t122, t123, t124, t125, t126, t127, t128, t129, t130, t131, t132, t133, t134, t135, t136, t137, t138, t139, t140, t141, t142, t143, t144, t145, t146, t147, t148], []⟩ w1 := by
  conv => arg 2; whnf
  refine wp_only ?_
  have HQ := Lib.hid hQ; clear hQ
  have H4 := Lib.hid h4
  have H5 := Lib.hid h5
  obtain ⟨a0, a1, a2', -, -, -⟩ := h2.three
  clear h2
  obtain ⟨b0, b1, b2, b3, -, -, -, -⟩ := h3.four
  obtain ⟨d0, d1, d2, e0, e1, e2⟩ := h4.three
  obtain ⟨p0, p1, p2, p3, q0, q1, q2, q3⟩ := h5.four
  have n54 : g5 ≠ g4 := fun h => n45 h.symm
  clear h3 h4 h5
  go_region_with (fail)
  all_goals
    dsimp only [onlyN]
    try simp only [List.getElem_toArray, List.getElem_cons_succ, List.getElem_cons_zero, Act.put, List.setIfInBounds_toArray, List.set_cons_zero, List.set_cons_succ]
    generalize hWa : World.setCell (World.setCell (World.setCell w1 ⟨g4, 0, none⟩ _) ⟨g4, 1, none⟩ _) ⟨g4, 2, none⟩ _ = wa
    generalize hWx : World.setCell (World.setCell (World.setCell (World.setCell wa _ _) _ _) _ _) _ _ = wy
    obtain ⟨hba, hoa⟩ := box_set3 H4.out hWa
    obtain ⟨hbx, hox⟩ := box_set4 (hoa.box H5.out n54) hWx
    have hox' : Only g5 wa wy.drew := ⟨hox.os, hox.tape, hox.output, hox.size, hox.block⟩
    exact HQ.out _ _ _ w1 wa (Ext.refl w1) hoa hox' (hox.box hba n45).drew hbx.drew
noncomputable def code48_32 : Code := ((Try.f48.body.bind (regionOf 32)).getD .skip)
set_option maxRecDepth 100000 in
set_option maxHeartbeats 4000000 in
theorem reg48_32 {Q : Exit → Act → World → Prop} (t0 t1 t3 t6 t7 t8 t9 t10 t11 t12 t13 t14 t15 t17 t18 t19 t20 t21 t22 t23 t24 t25 t26 t27 t28 t29 t30 t31 t32 t33 t34 t35 t36 t37 t38 t39 t40 t41 t42 t43 t44 t45 t46 t47 t48 t49 t50 t51 t52 t53 t54 t55 t56 t57 t58 t59 t60 t61 t62 t63 t64 t65 t66 t67 t68 t69 t70 t71 t72 t73 t74 t75 t76 t77 t78 t79 t80 t81 t82 t83 t84 t85 t86 t87 t88 t89 t90 t91 t92 t93 t94 t95 t96 t97 t98 t99 t100 t101 t102 t103 t104 t105 t106 t107 t108 t109 t110 t111 t112 t113 t114 t115 t116 t117 t118 t119 t120 t121 t122 t123 t124 t125 t126 t127 t128 t129 t130 t131 t132 t133 t134 t135 t136 t137 t138 t139 t140 t141 t142 t143 t144 t145 t146 t147 t148 : Value) (w1 : World) (g2 g3 g4 g5 nJ cJ n c n2 c2 : Nat) (aJ a a2 : Option Addr) (m sy le : Int) (st : Bool) (y0 y1 y2 x0 x1 x2 x3 : Value)
    (h2 : Box w1 g2 [.slice aJ nJ cJ, .int .i64 m, .int .i64 sy]) (h3 : Box w1 g3 [.slice a n c, .slice a2 n2 c2, .int .i64 le, .bool st]) (h4 : Box w1 g4 [y0, y1, y2]) (h5 : Box w1 g5 [x0, x1, x2, x3]) (n34 : g3 ≠ g4) (n45 : g4 ≠ g5)
    (hQ : ∀ (u147 u148 : Value) (wx : World), ∀ (w9 wa : World), Ext w1 w9 → Only g4 w9 wa → Only g5 wa wx → Box wx g4 [.slice aJ nJ cJ, .int .i64 m, .int .i64 sy] → Box wx g5 [.slice a n c, .slice a2 n2 c2, .int .i64 le, .bool st] → Q .normal ⟨#[t0, t1, .pointer (some ⟨g2, 0, none⟩), t3, .pointer (some ⟨g4, 0, none⟩), .pointer (some ⟨g5, 0, none⟩), .int .i64 0, t7, t8, t9, t10, t11, t12, t13, t14, t15, .pointer (some ⟨g3, 0, none⟩), t17, t18, t19, t20, t21, t22, t23, t24, t25, t26, t27, t28, t29, t30, t31, t32, t33, t34, t35, t36, t37, t38, t39, t40, t41, t42, t43, t44, t45, t46, t47, t48, t49, t50, t51, t52, t53, t54, t55, t56, t57, t58, t59, t60, t61, t62, t63, t64, t65, t66, t67, t68, t69, t70, t71, t72, t73, t74, t75, t76, t77, t78, t79, t80, t81, t82, t83, t84, t85, t86, t87, t88, t89, t90, t91, t92, t93, t94, t95, t96, t97, t98, t99, t100, t101, t102, t103, t104, t105, t106, t107, t108, t109, t110, t111, t112, t113, t114, t115, t116, t117, t118, t119, t120, t121, t122, t123, t124, t125, t126, t127, t128, t129, t130, t131, t132, t133, t134, t135, t136, t137, t138, t139, t140, t141, t142, t143, t144, t145, t146, u147, u148], []⟩ wx) :
    Code.wp Try.prog code48_32 Q ⟨#[t0, t1, .pointer (some ⟨g2, 0, none⟩), t3, .pointer (some ⟨g4, 0, none⟩), .pointer (some ⟨g5, 0, none⟩), t6, t7, t8, t9, t10, t11, t12, t13, t14, t15, .pointer (some ⟨g3, 0, none⟩), t17, t18, t19, t20, t21, t22, t23, t24, t25, t26, t27, t28, t29, t30, t31, t32, t33, t34, t35, t36, t37, t38, t39, t40, t41, t42, t43, t44, t45, t46, t47, t48, t49, t50, t51, t52, t53, t54, t55, t56, t57, t58, t59, t60, t61, t62, t63, t64, t65, t66, t67, t68, t69, t70, t71, t72, t73, t74, t75, t76, t77, t78, t79, t80, t81, t82, t83, t84, t85, t86, t87, t88, t89, t90, t91, t92, t93, t94, t95, t96, t97, t98, t99, t100, t101, t102, t103, t104, t105, t106, t107, t108, t109, t110, t111, t112, t113, t114, t115, t116, t117, t118, t119, t120, t121, t122, t123, t124, t125, t126, t127, t128, t129, t130, t131, t132, t133, t134, t135, t136, t137, t138, t139, t140, t141, t142, t143, t144, t145, t146, t147, t148], []⟩ w1 := by
  conv => arg 2; whnf
  refine wp_only ?_
  have HQ := Lib.hid hQ; clear hQ
  have H4 := Lib.hid h4
  have H5 := Lib.hid h5
  obtain ⟨a0, a1, a2', -, -, -⟩ := h2.three
  clear h2
  obtain ⟨b0, b1, b2, b3, -, -, -, -⟩ := h3.four
  obtain ⟨d0, d1, d2, e0, e1, e2⟩ := h4.three
  obtain ⟨p0, p1, p2, p3, q0, q1, q2, q3⟩ := h5.four
  have n54 : g5 ≠ g4 := fun h => n45 h.symm
  clear h3 h4 h5
  go_region_with (fail)
  all_goals
    dsimp only [onlyN]
    try simp only [List.getElem_toArray, List.getElem_cons_succ, List.getElem_cons_zero, Act.put, List.setIfInBounds_toArray, List.set_cons_zero, List.set_cons_succ]
    generalize hWa : World.setCell (World.setCell (World.setCell w1 ⟨g4, 0, none⟩ _) ⟨g4, 1, none⟩ _) ⟨g4, 2, none⟩ _ = wa
    generalize hWx : World.setCell (World.setCell (World.setCell (World.setCell wa _ _) _ _) _ _) _ _ = wy
    obtain ⟨hba, hoa⟩ := box_set3 H4.out hWa
    obtain ⟨hbx, hox⟩ := box_set4 (hoa.box H5.out n54) hWx
    have hox' : Only g5 wa wy.drew := ⟨hox.os, hox.tape, hox.output, hox.size, hox.block⟩
    exact HQ.out _ _ _ w1 wa (Ext.refl w1) hoa hox' (hox.box hba n45).drew hbx.drew
noncomputable def code48_30 : Code := ((Try.f48.body.bind (regionOf 30)).getD .skip)
set_option maxRecDepth 100000 in
set_option maxHeartbeats 4000000 in
theorem reg48_30 {Q : Exit → Act → World → Prop} (t0 t1 t2 t3 t6 t7 t8 t9 t10 t11 t12 t13 t14 t15 t18 t19 t20 t21 t22 t23 t24 t25 t26 t27 t28 t29 t30 t31 t32 t33 t34 t35 t36 t37 t38 t39 t40 t41 t42 t43 t44 t45 t46 t47 t48 t49 t50 t51 t52 t53 t54 t55 t56 t57 t58 t59 t60 t61 t62 t63 t64 t65 t66 t67 t68 t69 t70 t71 t72 t73 t74 t75 t76 t77 t78 t79 t80 t81 t82 t83 t84 t85 t86 t87 t88 t89 t90 t91 t92 t93 t94 t95 t96 t97 t98 t99 t100 t101 t102 t103 t104 t105 t106 t107 t108 t109 t110 t111 t112 t113 t114 t115 t116 t117 t118 t119 t120 t121 t122 t123 t124 t125 t126 t127 t128 t129 t130 t131 t132 t133 t134 t135 t136 t137 t138 t139 t140 t141 t142 t143 t144 t145 t146 t147 t148 : Value) (w1 : World) (g3 g4 g5 n c n2 c2 : Nat) (a a2 : Option Addr) (le e : Int) (st : Bool) (y0 y1 y2 x0 x1 x2 x3 : Value)
    (h3 : Box w1 g3 [.slice a n c, .slice a2 n2 c2, .int .i64 le, .bool st]) (h4 : Box w1 g4 [y0, y1, y2]) (h5 : Box w1 g5 [x0, x1, x2, x3]) (n34 : g3 ≠ g4) (n45 : g4 ≠ g5)
    (hQ : ∀ (u140 u141 u142 : Value) (wx : World), ∀ (w9 wa : World), Ext w1 w9 → Only g4 w9 wa → Only g5 wa wx → Box wx g4 [.slice none 0 0, .int .i64 0, .int .i64 0] → Box wx g5 [.slice a n c, .slice a2 n2 c2, .int .i64 le, .bool st] → Q .normal ⟨#[t0, t1, t2, t3, .pointer (some ⟨g4, 0, none⟩), .pointer (some ⟨g5, 0, none⟩), .int .i64 e, t7, t8, t9, t10, t11, t12, t13, t14, t15, .pointer (some ⟨g3, 0, none⟩), .int .i64 e, t18, t19, t20, t21, t22, t23, t24, t25, t26, t27, t28, t29, t30, t31, t32, t33, t34, t35, t36, t37, t38, t39, t40, t41, t42, t43, t44, t45, t46, t47, t48, t49, t50, t51, t52, t53, t54, t55, t56, t57, t58, t59, t60, t61, t62, t63, t64, t65, t66, t67, t68, t69, t70, t71, t72, t73, t74, t75, t76, t77, t78, t79, t80, t81, t82, t83, t84, t85, t86, t87, t88, t89, t90, t91, t92, t93, t94, t95, t96, t97, t98, t99, t100, t101, t102, t103, t104, t105, t106, t107, t108, t109, t110, t111, t112, t113, t114, t115, t116, t117, t118, t119, t120, t121, t122, t123, t124, t125, t126, t127, t128, t129, t130, t131, t132, t133, t134, t135, t136, t137, t138, t139, u140, u141, u142, t143, t144, t145, t146, t147, t148], []⟩ wx) :
    Code.wp Try.prog code48_30 Q ⟨#[t0, t1, t2, t3, .pointer (some ⟨g4, 0, none⟩), .pointer (some ⟨g5, 0, none⟩), t6, t7, t8, t9, t10, t11, t12, t13, t14, t15, .pointer (some ⟨g3, 0, none⟩), .int .i64 e, t18, t19, t20, t21, t22, t23, t24, t25, t26, t27, t28, t29, t30, t31, t32, t33, t34, t35, t36, t37, t38, t39, t40, t41, t42, t43, t44, t45, t46, t47, t48, t49, t50, t51, t52, t53, t54, t55, t56, t57, t58, t59, t60, t61, t62, t63, t64, t65, t66, t67, t68, t69, t70, t71, t72, t73, t74, t75, t76, t77, t78, t79, t80, t81, t82, t83, t84, t85, t86, t87, t88, t89, t90, t91, t92, t93, t94, t95, t96, t97, t98, t99, t100, t101, t102, t103, t104, t105, t106, t107, t108, t109, t110, t111, t112, t113, t114, t115, t116, t117, t118, t119, t120, t121, t122, t123, t124, t125, t126, t127, t128, t129, t130, t131, t132, t133, t134, t135, t136, t137, t138, t139, t140, t141, t142, t143, t144, t145, t146, t147, t148], []⟩ w1 := by
  conv => arg 2; whnf
  refine wp_only ?_
  have HQ := Lib.hid hQ; clear hQ
  have H4 := Lib.hid h4
  have H5 := Lib.hid h5
  obtain ⟨b0, b1, b2, b3, -, -, -, -⟩ := h3.four
  obtain ⟨d0, d1, d2, e0, e1, e2⟩ := h4.three
  obtain ⟨p0, p1, p2, p3, q0, q1, q2, q3⟩ := h5.four
  have n54 : g5 ≠ g4 := fun h => n45 h.symm
  clear h3 h4 h5
  go_region_with (fail)
  all_goals
    dsimp only [onlyN]
    try simp only [List.getElem_toArray, List.getElem_cons_succ, List.getElem_cons_zero, Act.put, List.setIfInBounds_toArray, List.set_cons_zero, List.set_cons_succ]
    generalize hWa : World.setCell (World.setCell (World.setCell w1 ⟨g4, 0, none⟩ _) ⟨g4, 1, none⟩ _) ⟨g4, 2, none⟩ _ = wa
    generalize hWx : World.setCell (World.setCell (World.setCell (World.setCell wa _ _) _ _) _ _) _ _ = wy
    obtain ⟨hba, hoa⟩ := box_set3 H4.out hWa
    obtain ⟨hbx, hox⟩ := box_set4 (hoa.box H5.out n54) hWx
    have hox' : Only g5 wa wy.drew := ⟨hox.os, hox.tape, hox.output, hox.size, hox.block⟩
    exact HQ.out _ _ _ _ w1 wa (Ext.refl w1) hoa hox' (hox.box hba n45).drew hbx.drew
end Go.Proofs.Ytpciankfpagnhaa
