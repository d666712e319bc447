/- A piece is written in the reference's Sync, whether it fits or not. -/
import Derived.Test.YtpciankfpagnhaaJ26
import Derived.Test.YtpciankfpagnhaaJ38
import Derived.Test.YtpciankfpagnhaaJ39
namespace Go.Proofs.Ytpciankfpagnhaa
open Go.RowKit

set_option maxRecDepth 100000 in
set_option maxHeartbeats 4000000 in
theorem reg48_26Z {Q : Exit → Act → World → Prop} {S : Nat → Prop} (t0 t1 t2 t4 t5 t6 t7 t8 t11 t12 t16 t17 t18 t19 t20 t21 t22 t23 t24 t25 t26 t27 t28 t29 t30 t31 t32 t33 t34 t35 t36 t37 t38 t39 t40 t41 t42 t43 t44 t45 t46 t47 t48 t49 t50 t51 t52 t53 t54 t55 t56 t57 t58 t59 t60 t61 t62 t63 t64 t65 t66 t67 t68 t69 t70 t71 t72 t73 t74 t75 t76 t77 t78 t79 t80 t81 t82 t83 t84 t85 t86 t87 t88 t89 t90 t91 t92 t93 t94 t95 t96 t97 t98 t99 t100 t101 t102 t103 t104 t105 t106 t107 t108 t109 t110 t111 t112 t113 t114 t115 t116 t117 t118 t119 t120 t121 t122 t123 t124 t125 t126 t127 t128 t129 t130 t131 t132 t133 t134 t135 t136 t137 t138 t139 t140 t141 t142 t143 t144 t145 t146 t147 t148 : Value) (w1 : World) (g3 g at_ nB cB k n : Nat) (be ee : Bool) (aB a a2 : Option Addr) (c c2 : Nat) (d d' : Dk) (z er : Int) (p : List UInt8)
    (hB : Box w1 g3 [.slice a d.sectors.length c, .slice a2 d.pending.length c2, .int .i64 d.left, .bool d.stopped]) (hd : Disk S w1 (.agg #[.slice a d.sectors.length c, .slice a2 d.pending.length c2, .int .i64 d.left, .bool d.stopped]) d) (hp : Bs S w1 (.slice aB nB cB) p) (hpl : p.length ≤ 112) (hg : g < 4294967296) (hwz : IntKind.u64.wrap z = (at_ : Int)) (hat : at_ < 18446744073709551616) (hn : n ≤ 4611686018427387904) (hbe : ((k : Int) == 0) = be) (hee : ((k : Int) == (n : Int) - 1) = ee) (hn1 : 1 ≤ n) (hwd : writeD d z (sect g at_ (kindOf be ee) p) = (d', er)) (hS : ∀ k, S k → k < w1.heap.size) (hS3 : S g3)
    (hQ : ∀ (u116 u117 u118 u119 u120 u121 u122 u123 u124 u125 u126 u127 u128 u115 u129 u130 : Value) (wx : World), ∀ (w9 : World) (a' : Option Addr) (c' : Nat) (a2' : Option Addr) (c2' : Nat), Ext w1 w9 → Only g3 w9 wx → Box wx g3 [.slice a' d'.sectors.length c', .slice a2' d'.pending.length c2', .int .i64 d'.left, .bool d'.stopped] → Disk S wx (.agg #[.slice a' d'.sectors.length c', .slice a2' d'.pending.length c2', .int .i64 d'.left, .bool d'.stopped]) d' → Q .normal ⟨#[t0, t1, t2, .pointer (some ⟨g3, 0, none⟩), t4, t5, t6, t7, t8, .int .u64 (g : Int), .int .i64 z, t11, t12, .int .i64 (n : Int), .int .i64 (k : Int), .slice aB nB cB, t16, t17, t18, t19, t20, t21, t22, t23, t24, t25, t26, t27, t28, t29, t30, t31, t32, t33, t34, t35, t36, t37, t38, t39, t40, t41, t42, t43, t44, t45, t46, t47, t48, t49, t50, t51, t52, t53, t54, t55, t56, t57, t58, t59, t60, t61, t62, t63, t64, t65, t66, t67, t68, t69, t70, t71, t72, t73, t74, t75, t76, t77, t78, t79, t80, t81, t82, t83, t84, t85, t86, t87, t88, t89, t90, t91, t92, t93, t94, t95, t96, t97, t98, t99, t100, t101, t102, t103, t104, t105, t106, t107, t108, t109, t110, t111, t112, t113, t114, u115, u116, u117, u118, u119, u120, u121, u122, u123, u124, u125, u126, u127, u128, u129, u130, t131, t132, t133, t134, t135, t136, t137, t138, t139, t140, t141, t142, t143, t144, t145, t146, t147, t148], []⟩ wx) :
    Code.wp Try.prog code48_26 Q ⟨#[t0, t1, t2, .pointer (some ⟨g3, 0, none⟩), t4, t5, t6, t7, t8, .int .u64 (g : Int), .int .i64 z, t11, t12, .int .i64 (n : Int), .int .i64 (k : Int), .slice aB nB cB, t16, t17, t18, t19, t20, t21, t22, t23, t24, t25, t26, t27, t28, t29, t30, t31, t32, t33, t34, t35, t36, t37, t38, t39, t40, t41, t42, t43, t44, t45, t46, t47, t48, t49, t50, t51, t52, t53, t54, t55, t56, t57, t58, t59, t60, t61, t62, t63, t64, t65, t66, t67, t68, t69, t70, t71, t72, t73, t74, t75, t76, t77, t78, t79, t80, t81, t82, t83, t84, t85, t86, t87, t88, t89, t90, t91, t92, t93, t94, t95, t96, t97, t98, t99, t100, t101, t102, t103, t104, t105, t106, t107, t108, t109, t110, t111, t112, t113, t114, t115, t116, t117, t118, t119, t120, t121, t122, t123, t124, t125, t126, t127, t128, t129, t130, t131, t132, t133, t134, t135, t136, t137, t138, t139, t140, t141, t142, t143, t144, t145, t146, t147, t148], []⟩ w1 := by
  conv => arg 2; whnf
  refine wp_only ?_
  have HQ := Lib.hid hQ; clear hQ
  have HD := Lib.hid hd; clear hd
  have HP := Lib.hid hp; clear hp
  have HWD := Lib.hid hwd; clear hwd
  have HWZ := Lib.hid hwz; clear hwz
  have HS := Lib.hid hS; clear hS
  have HB := Lib.hid hB
  obtain ⟨c0, c1, c2', c3, y0, y1, y2, y3⟩ := hB.four
  clear hB
  have hw1 : IntKind.i64.wrap ((n : Int) - 1) = (n : Int) - 1 := wraps_i64 _ (by omega) (by omega)
  have K76 : Hid (∀ W, Ext w1 W → Calls Try.prog 76 #[.int .u64 (g : Int), .int .i64 z, .bool be, .bool ee, .slice aB nB cB] W fun e w' => ∃ v', e = .returned v' ∧ Bs S w' v' (sect g at_ (kindOf be ee) p) ∧ Ext W w') :=
    fun W hx => sectorZ_ok (S := S) W g at_ z be ee _ p (by omega) HWZ.out hat (HP.out.keep hx) hpl (fun k hk => Nat.lt_of_lt_of_le (HS.out k hk) hx.size)
  have K27 : Hid (∀ W v, Ext w1 W → Bs S W v (sect g at_ (kindOf be ee) p) → Calls Try.prog 27 #[(.agg #[.slice a d.sectors.length c, .slice a2 d.pending.length c2, .int .i64 d.left, .bool d.stopped]), .int .i64 z, v] W (DiskErr S W (d', er))) := fun W v hx hb => by
    have := refWrite_ok (S := S) W _ d z v (sect g at_ (kindOf be ee) p) (HD.out.keep hx) hb (fun k hk => Nat.lt_of_lt_of_le (HS.out k hk) hx.size)
    rwa [HWD.out] at this
  go_region_with (first
    | (go_at_call 76; refine (K76.out _ (by repeat (first | exact Ext.refl _ | refine Ext.drew ?_))).mono ?_; rintro e w2 ⟨v2, rfl, hd2, hx2⟩; obtain ⟨a9, c9, rfl, _, _⟩ := hd2.open; have hxx : Ext w1 w2 := Ext.trans (by repeat (first | exact Ext.refl _ | refine Ext.drew ?_)) hx2; have q0 := hxx.cell c0; have q1 := hxx.cell c1; have q2 := hxx.cell c2'; have q3 := hxx.cell c3)
    | (go_at_call 27; refine (K27.out _ _ ‹Ext w1 _› ‹Bs S _ _ (sect g at_ (kindOf be ee) p)›).mono ?_; rintro e w3 ⟨v3, rfl, hd3, hx3⟩; obtain ⟨a', c', a2', c2'', rfl, _, _, _, _, _, _⟩ := hd3.open; have hyy : Ext w1 w3 := Ext.trans ‹Ext w1 _› hx3; obtain ⟨z0, z1, z2, z3, x0, x1, x2, x3⟩ := (HB.out.keep hyy).four))
  all_goals
    dsimp only [onlyN]
    try simp only [List.getElem_toArray, List.getElem_cons_succ, List.getElem_cons_zero, Act.put, List.setIfInBounds_toArray, List.set_cons_zero, List.set_cons_succ]
    generalize hW : World.setCell _ _ _ = wx
    obtain ⟨hbx, ho⟩ := box_set4 (HB.out.keep hyy) hW
    exact HQ.out _ _ _ _ _ _ _ _ _ _ _ _ _ _ _ _ wx w3 a' c' a2' c2'' hyy ho hbx (Disk.keepM hd3 (ho.mem hS3))
end Go.Proofs.Ytpciankfpagnhaa
