/- A region of the law DiskHistory. -/
import Derived.Test.YtpciankfpagnhaaD25
import Derived.Test.YtpciankfpagnhaaM11
import Derived.Test.YtpciankfpagnhaaD30
namespace Go.Proofs.Ytpciankfpagnhaa
open Go.RowKit
noncomputable def reg6_17c : Code := ((Try.f6.body.bind (regionOf 17)).getD .skip)
set_option maxRecDepth 100000 in
set_option maxHeartbeats 4000000 in
theorem reg6_17 {Q : Exit → Act → World → Prop} {S : Nat → Prop} (t0 t1 t2 t3 t4 t6 t7 t8 t9 t10 t11 t12 t13 t15 t16 t17 t18 t19 t20 t21 t22 t23 t24 t25 t26 t27 t28 t29 t30 t31 t32 t33 t34 t35 t36 t37 t38 t39 t40 t41 t42 t43 t44 t45 t46 t47 t48 t49 t50 t51 t52 t53 t54 t55 t56 t57 t58 t59 t60 t61 t62 t63 t64 t65 t66 t67 t68 t69 t70 t71 t72 t73 t74 t75 t76 t77 t78 t79 t80 t81 t82 t83 t84 t85 t86 t87 t88 t89 t90 t91 t92 t93 t94 t95 t96 t97 t98 t99 t100 t101 t102 t103 t104 t105 t106 t107 t108 t109 t110 t111 t112 t113 t114 t115 t116 t117 t118 t119 t120 t121 t122 t123 t124 t125 t126 t127 t128 t129 t130 t131 t132 t133 t134 t135 t136 t137 t138 t139 t140 t141 t142 t143 t144 t145 t146 t147 t148 t149 t150 t151 t152 t153 t154 t155 t156 t157 t158 t159 t160 t161 t162 : Value) (w1 : World) (g5 g14 : Nat) (a5 : Option Addr) (c5 : Nat) (a6 : Option Addr) (c6 : Nat) (x z : Dk) (ac : Ac)
    (hB : Box w1 g5 [.slice a5 x.sectors.length c5, .slice a6 x.pending.length c6, .int .i64 x.left, .bool x.stopped]) (hD : Disk S w1 (.agg #[.slice a5 x.sectors.length c5, .slice a6 x.pending.length c6, .int .i64 x.left, .bool x.stopped]) x) (hS : ∀ k, S k → k < w1.heap.size)
    (ya : w1.cell? ⟨g14, 1, none⟩ = some (.int .u8 (ac.at_.toNat : Int))) (yb : w1.cell? ⟨g14, 2, none⟩ = some (.int .u8 (ac.byte.toNat : Int))) (hz : writeD x (IntKind.i64.wrap ((ac.at_.toNat : Int).tmod 4)) (dbl ac.byte) = (z, 0))
    (hQ : ∀ (u60 u61 u62 u63 u64 u65 u66 u67 u68 u59 u69 u70 : Value) (g7 : Nat) (a7 : Option Addr) (c7 : Nat) (a8 : Option Addr) (c8 : Nat) (wx : World), w1.heap.size ≤ g7 → Box wx g7 [.slice a7 z.sectors.length c7, .slice a8 z.pending.length c8, .int .i64 z.left, .bool z.stopped] → Disk S wx (.agg #[.slice a7 z.sectors.length c7, .slice a8 z.pending.length c8, .int .i64 z.left, .bool z.stopped]) z → Ext w1 wx → Q .normal ⟨#[t0, t1, t2, t3, t4, .pointer (some ⟨g5, 0, none⟩), t6, t7, t8, t9, t10, t11, t12, t13, .pointer (some ⟨g14, 0, none⟩), .pointer (some ⟨g7, 0, none⟩), .int .i64 0, t17, t18, t19, t20, t21, t22, t23, t24, t25, t26, t27, t28, t29, t30, t31, t32, t33, t34, t35, t36, t37, t38, t39, t40, t41, t42, t43, t44, t45, t46, t47, t48, t49, t50, t51, t52, t53, t54, t55, t56, t57, t58, u59, u60, u61, u62, u63, u64, u65, u66, u67, u68, u69, u70, t71, t72, t73, t74, t75, t76, t77, t78, t79, t80, t81, t82, t83, t84, t85, t86, t87, t88, t89, t90, t91, t92, t93, t94, t95, t96, t97, t98, t99, t100, t101, t102, t103, t104, t105, t106, t107, t108, t109, t110, t111, t112, t113, t114, t115, t116, t117, t118, t119, t120, t121, t122, t123, t124, t125, t126, t127, t128, t129, t130, t131, t132, t133, t134, t135, t136, t137, t138, t139, t140, t141, t142, t143, t144, t145, t146, t147, t148, t149, t150, t151, t152, t153, t154, t155, t156, t157, t158, t159, t160, t161, t162], []⟩ wx) :
    Code.wp Try.prog reg6_17c Q ⟨#[t0, t1, t2, t3, t4, .pointer (some ⟨g5, 0, none⟩), t6, t7, t8, t9, t10, t11, t12, t13, .pointer (some ⟨g14, 0, none⟩), t15, t16, t17, t18, t19, t20, t21, t22, t23, t24, t25, t26, t27, t28, t29, t30, t31, t32, t33, t34, t35, t36, t37, t38, t39, t40, t41, t42, t43, t44, t45, t46, t47, t48, t49, t50, t51, t52, t53, t54, t55, t56, t57, t58, t59, t60, t61, t62, t63, t64, t65, t66, t67, t68, t69, t70, t71, t72, t73, t74, t75, t76, t77, t78, t79, t80, t81, t82, t83, t84, t85, t86, t87, t88, t89, t90, t91, t92, t93, t94, t95, t96, t97, t98, t99, t100, t101, t102, t103, t104, t105, t106, t107, t108, t109, t110, t111, t112, t113, t114, t115, t116, t117, t118, t119, t120, t121, t122, t123, t124, t125, t126, t127, t128, t129, t130, t131, t132, t133, t134, t135, t136, t137, t138, t139, t140, t141, t142, t143, t144, t145, t146, t147, t148, t149, t150, t151, t152, t153, t154, t155, t156, t157, t158, t159, t160, t161, t162], []⟩ w1 := by
  conv => arg 2; whnf
  have HQ := Lib.hid hQ; clear hQ
  have HD := Lib.hid hD; clear hD
  have HS := Lib.hid hS; clear hS
  have HZ := Lib.hid hz; clear hz
  obtain ⟨d0, d1, d2, d3, -, -, -, -⟩ := hB.four
  have hat : ac.at_.toNat < 256 := ac.at_.toNat_lt
  refine wp_region_facts 14 (by kernel_rfl) (by kernel_rfl) [⟨[0], [], fun v _ => v 0 = .agg #[.slice a5 x.sectors.length c5, .slice a6 x.pending.length c6, .int .i64 x.left, .bool x.stopped]⟩,
      ⟨[1], [], fun v _ => v 1 = .pointer (some ⟨g14, 1, none⟩)⟩,
      ⟨[2], [], fun v _ => v 2 = .int .u8 (ac.at_.toNat : Int)⟩,
      ⟨[3], [], fun v _ => v 3 = .int .u8 ((ac.at_.toNat : Int).tmod 4)⟩,
      ⟨[4], [], fun v _ => v 4 = .int .i64 (IntKind.i64.wrap ((ac.at_.toNat : Int).tmod 4))⟩,
      ⟨[5], [], fun v _ => v 5 = .pointer (some ⟨g14, 2, none⟩)⟩,
      ⟨[6], [], fun v _ => v 6 = .int .u8 (ac.byte.toNat : Int)⟩,
      ⟨[7], [13], fun v w => Bs S w (v 7) (dbl ac.byte)⟩,
      ⟨[8], [13], fun v w => ∃ vd, v 8 = .tuple #[vd, .int .i64 0] ∧ Disk S w vd z⟩,
      ⟨[9], [13], fun v w => ∃ vd, v 9 = .tuple #[vd, .int .i64 0] ∧ Disk S w vd z⟩,
      ⟨[10], [13], fun v w => Disk S w (v 10) z⟩,
      ⟨[11], [], fun v _ => v 11 = .int .i64 0⟩,
      ⟨[12], [13], fun v w => ∃ g, v 12 = .pointer (some ⟨g, 0, none⟩) ∧ w1.heap.size ≤ g ∧ Box w g [.slice none 0 0, .slice none 0 0, .int .i64 0, .bool false]⟩,
      ⟨[12, 13], [], fun v w => ∃ g a7 c7 a8 c8, v 12 = .pointer (some ⟨g, 0, none⟩) ∧ w1.heap.size ≤ g ∧ Box w g [.slice a7 z.sectors.length c7, .slice a8 z.pending.length c8, .int .i64 z.left, .bool z.stopped] ∧ Disk S w (.agg #[.slice a7 z.sectors.length c7, .slice a8 z.pending.length c8, .int .i64 z.left, .bool z.stopped]) z⟩,
      ⟨[7, 12], [13], fun v w => ∃ g, v 12 = .pointer (some ⟨g, 0, none⟩) ∧ Bs (Pl S g) w (v 7) (dbl ac.byte)⟩,
      ⟨[8, 12], [13], fun v w => ∃ g vd, v 12 = .pointer (some ⟨g, 0, none⟩) ∧ v 8 = .tuple #[vd, .int .i64 0] ∧ Disk (Pl S g) w vd z⟩,
      ⟨[9, 12], [13], fun v w => ∃ g vd, v 12 = .pointer (some ⟨g, 0, none⟩) ∧ v 9 = .tuple #[vd, .int .i64 0] ∧ Disk (Pl S g) w vd z⟩,
      ⟨[10, 12], [13], fun v w => ∃ g, v 12 = .pointer (some ⟨g, 0, none⟩) ∧ Disk (Pl S g) w (v 10) z⟩,
      ⟨[9], [], fun v _ => ∃ vd, v 9 = .tuple #[vd, .int .i64 0]⟩] ?stable ?cong ?nonempty ?steps ?tail
  case stable => exact List.forall_mem_cons.2 ⟨fun _ _ _ _ h => h, List.forall_mem_cons.2 ⟨fun _ _ _ _ h => h, List.forall_mem_cons.2 ⟨fun _ _ _ _ h => h, List.forall_mem_cons.2 ⟨fun _ _ _ _ h => h, List.forall_mem_cons.2 ⟨fun _ _ _ _ h => h, List.forall_mem_cons.2 ⟨fun _ _ _ _ h => h, List.forall_mem_cons.2 ⟨fun _ _ _ _ h => h, List.forall_mem_cons.2 ⟨fun _ _ _ hx h => Bs.keep h hx, List.forall_mem_cons.2 ⟨fun _ _ _ hx ⟨vd, e, h⟩ => ⟨vd, e, h.keep hx⟩, List.forall_mem_cons.2 ⟨fun _ _ _ hx ⟨vd, e, h⟩ => ⟨vd, e, h.keep hx⟩, List.forall_mem_cons.2 ⟨fun _ _ _ hx h => Disk.keep h hx, List.forall_mem_cons.2 ⟨fun _ _ _ _ h => h, List.forall_mem_cons.2 ⟨fun _ _ _ hx ⟨g, e, hg, h⟩ => ⟨g, e, hg, h.keep hx⟩, List.forall_mem_cons.2 ⟨fun _ _ _ hx ⟨g, a7, c7, a8, c8, e, hg, h, hd⟩ => ⟨g, a7, c7, a8, c8, e, hg, h.keep hx, hd.keep hx⟩, List.forall_mem_cons.2 ⟨fun _ _ _ hx ⟨g, e, h⟩ => ⟨g, e, h.keep hx⟩, List.forall_mem_cons.2 ⟨fun _ _ _ hx ⟨g, vd, e0, e, h⟩ => ⟨g, vd, e0, e, h.keep hx⟩, List.forall_mem_cons.2 ⟨fun _ _ _ hx ⟨g, vd, e0, e, h⟩ => ⟨g, vd, e0, e, h.keep hx⟩, List.forall_mem_cons.2 ⟨fun _ _ _ hx ⟨g, e, h⟩ => ⟨g, e, h.keep hx⟩, List.forall_mem_cons.2 ⟨fun _ _ _ _ h => h, fun _ h => by cases h⟩⟩⟩⟩⟩⟩⟩⟩⟩⟩⟩⟩⟩⟩⟩⟩⟩⟩⟩
  case cong => exact List.forall_mem_cons.2 ⟨fun v v' w h hp => by simp only [← h 0 (by simp)]; exact hp, List.forall_mem_cons.2 ⟨fun v v' w h hp => by simp only [← h 1 (by simp)]; exact hp, List.forall_mem_cons.2 ⟨fun v v' w h hp => by simp only [← h 2 (by simp)]; exact hp, List.forall_mem_cons.2 ⟨fun v v' w h hp => by simp only [← h 3 (by simp)]; exact hp, List.forall_mem_cons.2 ⟨fun v v' w h hp => by simp only [← h 4 (by simp)]; exact hp, List.forall_mem_cons.2 ⟨fun v v' w h hp => by simp only [← h 5 (by simp)]; exact hp, List.forall_mem_cons.2 ⟨fun v v' w h hp => by simp only [← h 6 (by simp)]; exact hp, List.forall_mem_cons.2 ⟨fun v v' w h hp => by simp only [← h 7 (by simp)]; exact hp, List.forall_mem_cons.2 ⟨fun v v' w h hp => by simp only [← h 8 (by simp)]; exact hp, List.forall_mem_cons.2 ⟨fun v v' w h hp => by simp only [← h 9 (by simp)]; exact hp, List.forall_mem_cons.2 ⟨fun v v' w h hp => by simp only [← h 10 (by simp)]; exact hp, List.forall_mem_cons.2 ⟨fun v v' w h hp => by simp only [← h 11 (by simp)]; exact hp, List.forall_mem_cons.2 ⟨fun v v' w h hp => by simp only [← h 12 (by simp)]; exact hp, List.forall_mem_cons.2 ⟨fun v v' w h hp => by simp only [← h 12 (by simp)]; exact hp, List.forall_mem_cons.2 ⟨fun v v' w h hp => by simp only [← h 7 (by simp), ← h 12 (by simp)]; exact hp, List.forall_mem_cons.2 ⟨fun v v' w h hp => by simp only [← h 8 (by simp), ← h 12 (by simp)]; exact hp, List.forall_mem_cons.2 ⟨fun v v' w h hp => by simp only [← h 9 (by simp), ← h 12 (by simp)]; exact hp, List.forall_mem_cons.2 ⟨fun v v' w h hp => by simp only [← h 10 (by simp), ← h 12 (by simp)]; exact hp, List.forall_mem_cons.2 ⟨fun v v' w h hp => by simp only [← h 9 (by simp)]; exact hp, fun _ h => by cases h⟩⟩⟩⟩⟩⟩⟩⟩⟩⟩⟩⟩⟩⟩⟩⟩⟩⟩⟩
  case nonempty => exact List.forall_mem_cons.2 ⟨by simp, List.forall_mem_cons.2 ⟨by simp, List.forall_mem_cons.2 ⟨by simp, List.forall_mem_cons.2 ⟨by simp, List.forall_mem_cons.2 ⟨by simp, List.forall_mem_cons.2 ⟨by simp, List.forall_mem_cons.2 ⟨by simp, List.forall_mem_cons.2 ⟨by simp, List.forall_mem_cons.2 ⟨by simp, List.forall_mem_cons.2 ⟨by simp, List.forall_mem_cons.2 ⟨by simp, List.forall_mem_cons.2 ⟨by simp, List.forall_mem_cons.2 ⟨by simp, List.forall_mem_cons.2 ⟨by simp, List.forall_mem_cons.2 ⟨by simp, List.forall_mem_cons.2 ⟨by simp, List.forall_mem_cons.2 ⟨by simp, List.forall_mem_cons.2 ⟨by simp, List.forall_mem_cons.2 ⟨by simp, fun _ h => by cases h⟩⟩⟩⟩⟩⟩⟩⟩⟩⟩⟩⟩⟩⟩⟩⟩⟩⟩⟩
  case steps =>
    simp only [List.take_succ_cons, List.take_zero]
    -- 0: slot 60 := Op.load 25 t5
    refine ⟨?_, ?_⟩
    · intro v w' L hx hLi hdep hcl hre hF
      simp only [List.take_succ_cons, List.take_zero, putF, Act.put, List.setIfInBounds_toArray, List.set_cons_zero, List.set_cons_succ, Nat.reduceAdd, Nat.zero_add]
      rw [if_pos (by rfl)]
      intro K hK
      have q0 := hx.cell d0
      have q1 := hx.cell d1
      have q2 := hx.cell d2
      have q3 := hx.cell d3
      have qa := hx.cell ya
      have qb := hx.cell yb
      clear hdep hcl hre hF hLi
      have HK := Lib.hid hK; clear hK
      go_simp
      exact HK.out _ _ (.inl (Ext.refl _)) (List.forall_mem_cons.2 ⟨fun _ _ _ => rfl, List.forall_mem_cons.2 ⟨fun h => absurd h (by decide : ¬ (0 : Nat) ∈ ([1] : List Nat)), List.forall_mem_cons.2 ⟨fun h => absurd h (by decide : ¬ (0 : Nat) ∈ ([2] : List Nat)), List.forall_mem_cons.2 ⟨fun h => absurd h (by decide : ¬ (0 : Nat) ∈ ([3] : List Nat)), List.forall_mem_cons.2 ⟨fun h => absurd h (by decide : ¬ (0 : Nat) ∈ ([4] : List Nat)), List.forall_mem_cons.2 ⟨fun h => absurd h (by decide : ¬ (0 : Nat) ∈ ([5] : List Nat)), List.forall_mem_cons.2 ⟨fun h => absurd h (by decide : ¬ (0 : Nat) ∈ ([6] : List Nat)), List.forall_mem_cons.2 ⟨fun h => absurd h (by decide : ¬ (0 : Nat) ∈ ([7] : List Nat)), List.forall_mem_cons.2 ⟨fun h => absurd h (by decide : ¬ (0 : Nat) ∈ ([8] : List Nat)), List.forall_mem_cons.2 ⟨fun h => absurd h (by decide : ¬ (0 : Nat) ∈ ([9] : List Nat)), List.forall_mem_cons.2 ⟨fun h => absurd h (by decide : ¬ (0 : Nat) ∈ ([10] : List Nat)), List.forall_mem_cons.2 ⟨fun h => absurd h (by decide : ¬ (0 : Nat) ∈ ([11] : List Nat)), List.forall_mem_cons.2 ⟨fun h => absurd h (by decide : ¬ (0 : Nat) ∈ ([12] : List Nat)), List.forall_mem_cons.2 ⟨fun h => absurd h (by decide : ¬ (0 : Nat) ∈ ([12, 13] : List Nat)), List.forall_mem_cons.2 ⟨fun h => absurd h (by decide : ¬ (0 : Nat) ∈ ([7, 12] : List Nat)), List.forall_mem_cons.2 ⟨fun h => absurd h (by decide : ¬ (0 : Nat) ∈ ([8, 12] : List Nat)), List.forall_mem_cons.2 ⟨fun h => absurd h (by decide : ¬ (0 : Nat) ∈ ([9, 12] : List Nat)), List.forall_mem_cons.2 ⟨fun h => absurd h (by decide : ¬ (0 : Nat) ∈ ([10, 12] : List Nat)), List.forall_mem_cons.2 ⟨fun h => absurd h (by decide : ¬ (0 : Nat) ∈ ([9] : List Nat)), fun _ h => by cases h⟩⟩⟩⟩⟩⟩⟩⟩⟩⟩⟩⟩⟩⟩⟩⟩⟩⟩⟩)
    -- 1: slot 61 := Op.fieldAddr 46 t14 1
    refine ⟨?_, ?_⟩
    · intro v w' L hx hLi hdep hcl hre hF
      simp only [List.take_succ_cons, List.take_zero, putF, Act.put, List.setIfInBounds_toArray, List.set_cons_zero, List.set_cons_succ, Nat.reduceAdd, Nat.zero_add]
      rw [if_pos (by rfl)]
      intro K hK
      have q0 := hx.cell d0
      have q1 := hx.cell d1
      have q2 := hx.cell d2
      have q3 := hx.cell d3
      have qa := hx.cell ya
      have qb := hx.cell yb
      clear hdep hcl hre hF hLi
      have HK := Lib.hid hK; clear hK
      go_simp
      exact HK.out _ _ (.inl (Ext.refl _)) (List.forall_mem_cons.2 ⟨fun h => absurd h (by decide : ¬ (1 : Nat) ∈ ([0] : List Nat)), List.forall_mem_cons.2 ⟨fun _ _ _ => rfl, List.forall_mem_cons.2 ⟨fun h => absurd h (by decide : ¬ (1 : Nat) ∈ ([2] : List Nat)), List.forall_mem_cons.2 ⟨fun h => absurd h (by decide : ¬ (1 : Nat) ∈ ([3] : List Nat)), List.forall_mem_cons.2 ⟨fun h => absurd h (by decide : ¬ (1 : Nat) ∈ ([4] : List Nat)), List.forall_mem_cons.2 ⟨fun h => absurd h (by decide : ¬ (1 : Nat) ∈ ([5] : List Nat)), List.forall_mem_cons.2 ⟨fun h => absurd h (by decide : ¬ (1 : Nat) ∈ ([6] : List Nat)), List.forall_mem_cons.2 ⟨fun h => absurd h (by decide : ¬ (1 : Nat) ∈ ([7] : List Nat)), List.forall_mem_cons.2 ⟨fun h => absurd h (by decide : ¬ (1 : Nat) ∈ ([8] : List Nat)), List.forall_mem_cons.2 ⟨fun h => absurd h (by decide : ¬ (1 : Nat) ∈ ([9] : List Nat)), List.forall_mem_cons.2 ⟨fun h => absurd h (by decide : ¬ (1 : Nat) ∈ ([10] : List Nat)), List.forall_mem_cons.2 ⟨fun h => absurd h (by decide : ¬ (1 : Nat) ∈ ([11] : List Nat)), List.forall_mem_cons.2 ⟨fun h => absurd h (by decide : ¬ (1 : Nat) ∈ ([12] : List Nat)), List.forall_mem_cons.2 ⟨fun h => absurd h (by decide : ¬ (1 : Nat) ∈ ([12, 13] : List Nat)), List.forall_mem_cons.2 ⟨fun h => absurd h (by decide : ¬ (1 : Nat) ∈ ([7, 12] : List Nat)), List.forall_mem_cons.2 ⟨fun h => absurd h (by decide : ¬ (1 : Nat) ∈ ([8, 12] : List Nat)), List.forall_mem_cons.2 ⟨fun h => absurd h (by decide : ¬ (1 : Nat) ∈ ([9, 12] : List Nat)), List.forall_mem_cons.2 ⟨fun h => absurd h (by decide : ¬ (1 : Nat) ∈ ([10, 12] : List Nat)), List.forall_mem_cons.2 ⟨fun h => absurd h (by decide : ¬ (1 : Nat) ∈ ([9] : List Nat)), fun _ h => by cases h⟩⟩⟩⟩⟩⟩⟩⟩⟩⟩⟩⟩⟩⟩⟩⟩⟩⟩⟩)
    -- 2: slot 62 := Op.load 5 t61
    refine ⟨?_, ?_⟩
    · intro v w' L hx hLi hdep hcl hre hF
      have e1 : v 1 = .pointer (some ⟨g14, 1, none⟩) := hF _ (List.Mem.tail _ (List.Mem.head _)) (List.forall_mem_cons.2 ⟨(hre 1 (by kernel_rfl)), fun _ h => by cases h⟩) (fun _ h => by cases h)
      simp only [List.take_succ_cons, List.take_zero, putF, Act.put, List.setIfInBounds_toArray, List.set_cons_zero, List.set_cons_succ, Nat.reduceAdd, Nat.zero_add]
      simp only [e1]
      clear e1
      rw [if_pos (by rfl)]
      intro K hK
      have q0 := hx.cell d0
      have q1 := hx.cell d1
      have q2 := hx.cell d2
      have q3 := hx.cell d3
      have qa := hx.cell ya
      have qb := hx.cell yb
      clear hdep hcl hre hF hLi
      have HK := Lib.hid hK; clear hK
      go_simp
      exact HK.out _ _ (.inl (Ext.refl _)) (List.forall_mem_cons.2 ⟨fun h => absurd h (by decide : ¬ (2 : Nat) ∈ ([0] : List Nat)), List.forall_mem_cons.2 ⟨fun h => absurd h (by decide : ¬ (2 : Nat) ∈ ([1] : List Nat)), List.forall_mem_cons.2 ⟨fun _ _ _ => rfl, List.forall_mem_cons.2 ⟨fun h => absurd h (by decide : ¬ (2 : Nat) ∈ ([3] : List Nat)), List.forall_mem_cons.2 ⟨fun h => absurd h (by decide : ¬ (2 : Nat) ∈ ([4] : List Nat)), List.forall_mem_cons.2 ⟨fun h => absurd h (by decide : ¬ (2 : Nat) ∈ ([5] : List Nat)), List.forall_mem_cons.2 ⟨fun h => absurd h (by decide : ¬ (2 : Nat) ∈ ([6] : List Nat)), List.forall_mem_cons.2 ⟨fun h => absurd h (by decide : ¬ (2 : Nat) ∈ ([7] : List Nat)), List.forall_mem_cons.2 ⟨fun h => absurd h (by decide : ¬ (2 : Nat) ∈ ([8] : List Nat)), List.forall_mem_cons.2 ⟨fun h => absurd h (by decide : ¬ (2 : Nat) ∈ ([9] : List Nat)), List.forall_mem_cons.2 ⟨fun h => absurd h (by decide : ¬ (2 : Nat) ∈ ([10] : List Nat)), List.forall_mem_cons.2 ⟨fun h => absurd h (by decide : ¬ (2 : Nat) ∈ ([11] : List Nat)), List.forall_mem_cons.2 ⟨fun h => absurd h (by decide : ¬ (2 : Nat) ∈ ([12] : List Nat)), List.forall_mem_cons.2 ⟨fun h => absurd h (by decide : ¬ (2 : Nat) ∈ ([12, 13] : List Nat)), List.forall_mem_cons.2 ⟨fun h => absurd h (by decide : ¬ (2 : Nat) ∈ ([7, 12] : List Nat)), List.forall_mem_cons.2 ⟨fun h => absurd h (by decide : ¬ (2 : Nat) ∈ ([8, 12] : List Nat)), List.forall_mem_cons.2 ⟨fun h => absurd h (by decide : ¬ (2 : Nat) ∈ ([9, 12] : List Nat)), List.forall_mem_cons.2 ⟨fun h => absurd h (by decide : ¬ (2 : Nat) ∈ ([10, 12] : List Nat)), List.forall_mem_cons.2 ⟨fun h => absurd h (by decide : ¬ (2 : Nat) ∈ ([9] : List Nat)), fun _ h => by cases h⟩⟩⟩⟩⟩⟩⟩⟩⟩⟩⟩⟩⟩⟩⟩⟩⟩⟩⟩)
    -- 3: slot 63 := Op.binOp BinOp.rem 5 t62 (const (4:u8)) 5
    refine ⟨?_, ?_⟩
    · intro v w' L hx hLi hdep hcl hre hF
      have e2 : v 2 = .int .u8 (ac.at_.toNat : Int) := hF _ (List.Mem.tail _ (List.Mem.tail _ (List.Mem.head _))) (List.forall_mem_cons.2 ⟨(hre 2 (by kernel_rfl)), fun _ h => by cases h⟩) (fun _ h => by cases h)
      simp only [List.take_succ_cons, List.take_zero, putF, Act.put, List.setIfInBounds_toArray, List.set_cons_zero, List.set_cons_succ, Nat.reduceAdd, Nat.zero_add]
      simp only [e2]
      clear e2
      rw [if_pos (by rfl)]
      intro K hK
      have q0 := hx.cell d0
      have q1 := hx.cell d1
      have q2 := hx.cell d2
      have q3 := hx.cell d3
      have qa := hx.cell ya
      have qb := hx.cell yb
      clear hdep hcl hre hF hLi
      have HK := Lib.hid hK; clear hK
      go_simp
      exact HK.out _ _ (.inl (Ext.refl _)) (List.forall_mem_cons.2 ⟨fun h => absurd h (by decide : ¬ (3 : Nat) ∈ ([0] : List Nat)), List.forall_mem_cons.2 ⟨fun h => absurd h (by decide : ¬ (3 : Nat) ∈ ([1] : List Nat)), List.forall_mem_cons.2 ⟨fun h => absurd h (by decide : ¬ (3 : Nat) ∈ ([2] : List Nat)), List.forall_mem_cons.2 ⟨fun _ _ _ => rfl, List.forall_mem_cons.2 ⟨fun h => absurd h (by decide : ¬ (3 : Nat) ∈ ([4] : List Nat)), List.forall_mem_cons.2 ⟨fun h => absurd h (by decide : ¬ (3 : Nat) ∈ ([5] : List Nat)), List.forall_mem_cons.2 ⟨fun h => absurd h (by decide : ¬ (3 : Nat) ∈ ([6] : List Nat)), List.forall_mem_cons.2 ⟨fun h => absurd h (by decide : ¬ (3 : Nat) ∈ ([7] : List Nat)), List.forall_mem_cons.2 ⟨fun h => absurd h (by decide : ¬ (3 : Nat) ∈ ([8] : List Nat)), List.forall_mem_cons.2 ⟨fun h => absurd h (by decide : ¬ (3 : Nat) ∈ ([9] : List Nat)), List.forall_mem_cons.2 ⟨fun h => absurd h (by decide : ¬ (3 : Nat) ∈ ([10] : List Nat)), List.forall_mem_cons.2 ⟨fun h => absurd h (by decide : ¬ (3 : Nat) ∈ ([11] : List Nat)), List.forall_mem_cons.2 ⟨fun h => absurd h (by decide : ¬ (3 : Nat) ∈ ([12] : List Nat)), List.forall_mem_cons.2 ⟨fun h => absurd h (by decide : ¬ (3 : Nat) ∈ ([12, 13] : List Nat)), List.forall_mem_cons.2 ⟨fun h => absurd h (by decide : ¬ (3 : Nat) ∈ ([7, 12] : List Nat)), List.forall_mem_cons.2 ⟨fun h => absurd h (by decide : ¬ (3 : Nat) ∈ ([8, 12] : List Nat)), List.forall_mem_cons.2 ⟨fun h => absurd h (by decide : ¬ (3 : Nat) ∈ ([9, 12] : List Nat)), List.forall_mem_cons.2 ⟨fun h => absurd h (by decide : ¬ (3 : Nat) ∈ ([10, 12] : List Nat)), List.forall_mem_cons.2 ⟨fun h => absurd h (by decide : ¬ (3 : Nat) ∈ ([9] : List Nat)), fun _ h => by cases h⟩⟩⟩⟩⟩⟩⟩⟩⟩⟩⟩⟩⟩⟩⟩⟩⟩⟩⟩)
    -- 4: slot 64 := Op.convert 5 3 t63
    refine ⟨?_, ?_⟩
    · intro v w' L hx hLi hdep hcl hre hF
      have e3 : v 3 = .int .u8 ((ac.at_.toNat : Int).tmod 4) := hF _ (List.Mem.tail _ (List.Mem.tail _ (List.Mem.tail _ (List.Mem.head _)))) (List.forall_mem_cons.2 ⟨(hre 3 (by kernel_rfl)), fun _ h => by cases h⟩) (fun _ h => by cases h)
      simp only [List.take_succ_cons, List.take_zero, putF, Act.put, List.setIfInBounds_toArray, List.set_cons_zero, List.set_cons_succ, Nat.reduceAdd, Nat.zero_add]
      simp only [e3]
      clear e3
      rw [if_pos (by rfl)]
      intro K hK
      have q0 := hx.cell d0
      have q1 := hx.cell d1
      have q2 := hx.cell d2
      have q3 := hx.cell d3
      have qa := hx.cell ya
      have qb := hx.cell yb
      clear hdep hcl hre hF hLi
      have HK := Lib.hid hK; clear hK
      go_simp
      exact HK.out _ _ (.inl (Ext.refl _)) (List.forall_mem_cons.2 ⟨fun h => absurd h (by decide : ¬ (4 : Nat) ∈ ([0] : List Nat)), List.forall_mem_cons.2 ⟨fun h => absurd h (by decide : ¬ (4 : Nat) ∈ ([1] : List Nat)), List.forall_mem_cons.2 ⟨fun h => absurd h (by decide : ¬ (4 : Nat) ∈ ([2] : List Nat)), List.forall_mem_cons.2 ⟨fun h => absurd h (by decide : ¬ (4 : Nat) ∈ ([3] : List Nat)), List.forall_mem_cons.2 ⟨fun _ _ _ => rfl, List.forall_mem_cons.2 ⟨fun h => absurd h (by decide : ¬ (4 : Nat) ∈ ([5] : List Nat)), List.forall_mem_cons.2 ⟨fun h => absurd h (by decide : ¬ (4 : Nat) ∈ ([6] : List Nat)), List.forall_mem_cons.2 ⟨fun h => absurd h (by decide : ¬ (4 : Nat) ∈ ([7] : List Nat)), List.forall_mem_cons.2 ⟨fun h => absurd h (by decide : ¬ (4 : Nat) ∈ ([8] : List Nat)), List.forall_mem_cons.2 ⟨fun h => absurd h (by decide : ¬ (4 : Nat) ∈ ([9] : List Nat)), List.forall_mem_cons.2 ⟨fun h => absurd h (by decide : ¬ (4 : Nat) ∈ ([10] : List Nat)), List.forall_mem_cons.2 ⟨fun h => absurd h (by decide : ¬ (4 : Nat) ∈ ([11] : List Nat)), List.forall_mem_cons.2 ⟨fun h => absurd h (by decide : ¬ (4 : Nat) ∈ ([12] : List Nat)), List.forall_mem_cons.2 ⟨fun h => absurd h (by decide : ¬ (4 : Nat) ∈ ([12, 13] : List Nat)), List.forall_mem_cons.2 ⟨fun h => absurd h (by decide : ¬ (4 : Nat) ∈ ([7, 12] : List Nat)), List.forall_mem_cons.2 ⟨fun h => absurd h (by decide : ¬ (4 : Nat) ∈ ([8, 12] : List Nat)), List.forall_mem_cons.2 ⟨fun h => absurd h (by decide : ¬ (4 : Nat) ∈ ([9, 12] : List Nat)), List.forall_mem_cons.2 ⟨fun h => absurd h (by decide : ¬ (4 : Nat) ∈ ([10, 12] : List Nat)), List.forall_mem_cons.2 ⟨fun h => absurd h (by decide : ¬ (4 : Nat) ∈ ([9] : List Nat)), fun _ h => by cases h⟩⟩⟩⟩⟩⟩⟩⟩⟩⟩⟩⟩⟩⟩⟩⟩⟩⟩⟩)
    -- 5: slot 65 := Op.fieldAddr 46 t14 2
    refine ⟨?_, ?_⟩
    · intro v w' L hx hLi hdep hcl hre hF
      simp only [List.take_succ_cons, List.take_zero, putF, Act.put, List.setIfInBounds_toArray, List.set_cons_zero, List.set_cons_succ, Nat.reduceAdd, Nat.zero_add]
      rw [if_pos (by rfl)]
      intro K hK
      have q0 := hx.cell d0
      have q1 := hx.cell d1
      have q2 := hx.cell d2
      have q3 := hx.cell d3
      have qa := hx.cell ya
      have qb := hx.cell yb
      clear hdep hcl hre hF hLi
      have HK := Lib.hid hK; clear hK
      go_simp
      exact HK.out _ _ (.inl (Ext.refl _)) (List.forall_mem_cons.2 ⟨fun h => absurd h (by decide : ¬ (5 : Nat) ∈ ([0] : List Nat)), List.forall_mem_cons.2 ⟨fun h => absurd h (by decide : ¬ (5 : Nat) ∈ ([1] : List Nat)), List.forall_mem_cons.2 ⟨fun h => absurd h (by decide : ¬ (5 : Nat) ∈ ([2] : List Nat)), List.forall_mem_cons.2 ⟨fun h => absurd h (by decide : ¬ (5 : Nat) ∈ ([3] : List Nat)), List.forall_mem_cons.2 ⟨fun h => absurd h (by decide : ¬ (5 : Nat) ∈ ([4] : List Nat)), List.forall_mem_cons.2 ⟨fun _ _ _ => rfl, List.forall_mem_cons.2 ⟨fun h => absurd h (by decide : ¬ (5 : Nat) ∈ ([6] : List Nat)), List.forall_mem_cons.2 ⟨fun h => absurd h (by decide : ¬ (5 : Nat) ∈ ([7] : List Nat)), List.forall_mem_cons.2 ⟨fun h => absurd h (by decide : ¬ (5 : Nat) ∈ ([8] : List Nat)), List.forall_mem_cons.2 ⟨fun h => absurd h (by decide : ¬ (5 : Nat) ∈ ([9] : List Nat)), List.forall_mem_cons.2 ⟨fun h => absurd h (by decide : ¬ (5 : Nat) ∈ ([10] : List Nat)), List.forall_mem_cons.2 ⟨fun h => absurd h (by decide : ¬ (5 : Nat) ∈ ([11] : List Nat)), List.forall_mem_cons.2 ⟨fun h => absurd h (by decide : ¬ (5 : Nat) ∈ ([12] : List Nat)), List.forall_mem_cons.2 ⟨fun h => absurd h (by decide : ¬ (5 : Nat) ∈ ([12, 13] : List Nat)), List.forall_mem_cons.2 ⟨fun h => absurd h (by decide : ¬ (5 : Nat) ∈ ([7, 12] : List Nat)), List.forall_mem_cons.2 ⟨fun h => absurd h (by decide : ¬ (5 : Nat) ∈ ([8, 12] : List Nat)), List.forall_mem_cons.2 ⟨fun h => absurd h (by decide : ¬ (5 : Nat) ∈ ([9, 12] : List Nat)), List.forall_mem_cons.2 ⟨fun h => absurd h (by decide : ¬ (5 : Nat) ∈ ([10, 12] : List Nat)), List.forall_mem_cons.2 ⟨fun h => absurd h (by decide : ¬ (5 : Nat) ∈ ([9] : List Nat)), fun _ h => by cases h⟩⟩⟩⟩⟩⟩⟩⟩⟩⟩⟩⟩⟩⟩⟩⟩⟩⟩⟩)
    -- 6: slot 66 := Op.load 5 t65
    refine ⟨?_, ?_⟩
    · intro v w' L hx hLi hdep hcl hre hF
      have e5 : v 5 = .pointer (some ⟨g14, 2, none⟩) := hF _ (List.Mem.tail _ (List.Mem.tail _ (List.Mem.tail _ (List.Mem.tail _ (List.Mem.tail _ (List.Mem.head _)))))) (List.forall_mem_cons.2 ⟨(hre 5 (by kernel_rfl)), fun _ h => by cases h⟩) (fun _ h => by cases h)
      simp only [List.take_succ_cons, List.take_zero, putF, Act.put, List.setIfInBounds_toArray, List.set_cons_zero, List.set_cons_succ, Nat.reduceAdd, Nat.zero_add]
      simp only [e5]
      clear e5
      rw [if_pos (by rfl)]
      intro K hK
      have q0 := hx.cell d0
      have q1 := hx.cell d1
      have q2 := hx.cell d2
      have q3 := hx.cell d3
      have qa := hx.cell ya
      have qb := hx.cell yb
      clear hdep hcl hre hF hLi
      have HK := Lib.hid hK; clear hK
      go_simp
      exact HK.out _ _ (.inl (Ext.refl _)) (List.forall_mem_cons.2 ⟨fun h => absurd h (by decide : ¬ (6 : Nat) ∈ ([0] : List Nat)), List.forall_mem_cons.2 ⟨fun h => absurd h (by decide : ¬ (6 : Nat) ∈ ([1] : List Nat)), List.forall_mem_cons.2 ⟨fun h => absurd h (by decide : ¬ (6 : Nat) ∈ ([2] : List Nat)), List.forall_mem_cons.2 ⟨fun h => absurd h (by decide : ¬ (6 : Nat) ∈ ([3] : List Nat)), List.forall_mem_cons.2 ⟨fun h => absurd h (by decide : ¬ (6 : Nat) ∈ ([4] : List Nat)), List.forall_mem_cons.2 ⟨fun h => absurd h (by decide : ¬ (6 : Nat) ∈ ([5] : List Nat)), List.forall_mem_cons.2 ⟨fun _ _ _ => rfl, List.forall_mem_cons.2 ⟨fun h => absurd h (by decide : ¬ (6 : Nat) ∈ ([7] : List Nat)), List.forall_mem_cons.2 ⟨fun h => absurd h (by decide : ¬ (6 : Nat) ∈ ([8] : List Nat)), List.forall_mem_cons.2 ⟨fun h => absurd h (by decide : ¬ (6 : Nat) ∈ ([9] : List Nat)), List.forall_mem_cons.2 ⟨fun h => absurd h (by decide : ¬ (6 : Nat) ∈ ([10] : List Nat)), List.forall_mem_cons.2 ⟨fun h => absurd h (by decide : ¬ (6 : Nat) ∈ ([11] : List Nat)), List.forall_mem_cons.2 ⟨fun h => absurd h (by decide : ¬ (6 : Nat) ∈ ([12] : List Nat)), List.forall_mem_cons.2 ⟨fun h => absurd h (by decide : ¬ (6 : Nat) ∈ ([12, 13] : List Nat)), List.forall_mem_cons.2 ⟨fun h => absurd h (by decide : ¬ (6 : Nat) ∈ ([7, 12] : List Nat)), List.forall_mem_cons.2 ⟨fun h => absurd h (by decide : ¬ (6 : Nat) ∈ ([8, 12] : List Nat)), List.forall_mem_cons.2 ⟨fun h => absurd h (by decide : ¬ (6 : Nat) ∈ ([9, 12] : List Nat)), List.forall_mem_cons.2 ⟨fun h => absurd h (by decide : ¬ (6 : Nat) ∈ ([10, 12] : List Nat)), List.forall_mem_cons.2 ⟨fun h => absurd h (by decide : ¬ (6 : Nat) ∈ ([9] : List Nat)), fun _ h => by cases h⟩⟩⟩⟩⟩⟩⟩⟩⟩⟩⟩⟩⟩⟩⟩⟩⟩⟩⟩)
    -- 7: slot 67 := Op.call { value (Operand.func 34), args := #[t66], argTypes := #[5] }
    refine ⟨?_, ?_⟩
    · intro v w' L hx hLi hdep hcl hre hF
      have e6 : v 6 = .int .u8 (ac.byte.toNat : Int) := hF _ (List.Mem.tail _ (List.Mem.tail _ (List.Mem.tail _ (List.Mem.tail _ (List.Mem.tail _ (List.Mem.tail _ (List.Mem.head _))))))) (List.forall_mem_cons.2 ⟨(hre 6 (by kernel_rfl)), fun _ h => by cases h⟩) (fun _ h => by cases h)
      simp only [List.take_succ_cons, List.take_zero, putF, Act.put, List.setIfInBounds_toArray, List.set_cons_zero, List.set_cons_succ, Nat.reduceAdd, Nat.zero_add]
      simp only [e6]
      clear e6
      rw [if_pos (by rfl)]
      intro K hK
      have q0 := hx.cell d0
      have q1 := hx.cell d1
      have q2 := hx.cell d2
      have q3 := hx.cell d3
      have qa := hx.cell ya
      have qb := hx.cell yb
      have HK := Lib.hid hK; clear hK
      cases hL12 : L 12
      case false =>
        go_simp
        refine (double_ok (S := S) w' ac.byte (fun k hk => Nat.lt_of_lt_of_le (HS.out k hk) hx.size)).mono ?_
        rintro e w2 ⟨v2, rfl, hb2, hx2⟩
        exact HK.out _ _ (.inl hx2) (List.forall_mem_cons.2 ⟨fun h => absurd h (by decide : ¬ (7 : Nat) ∈ ([0] : List Nat)), List.forall_mem_cons.2 ⟨fun h => absurd h (by decide : ¬ (7 : Nat) ∈ ([1] : List Nat)), List.forall_mem_cons.2 ⟨fun h => absurd h (by decide : ¬ (7 : Nat) ∈ ([2] : List Nat)), List.forall_mem_cons.2 ⟨fun h => absurd h (by decide : ¬ (7 : Nat) ∈ ([3] : List Nat)), List.forall_mem_cons.2 ⟨fun h => absurd h (by decide : ¬ (7 : Nat) ∈ ([4] : List Nat)), List.forall_mem_cons.2 ⟨fun h => absurd h (by decide : ¬ (7 : Nat) ∈ ([5] : List Nat)), List.forall_mem_cons.2 ⟨fun h => absurd h (by decide : ¬ (7 : Nat) ∈ ([6] : List Nat)), List.forall_mem_cons.2 ⟨fun _ h1 h2 => (hb2), List.forall_mem_cons.2 ⟨fun h => absurd h (by decide : ¬ (7 : Nat) ∈ ([8] : List Nat)), List.forall_mem_cons.2 ⟨fun h => absurd h (by decide : ¬ (7 : Nat) ∈ ([9] : List Nat)), List.forall_mem_cons.2 ⟨fun h => absurd h (by decide : ¬ (7 : Nat) ∈ ([10] : List Nat)), List.forall_mem_cons.2 ⟨fun h => absurd h (by decide : ¬ (7 : Nat) ∈ ([11] : List Nat)), List.forall_mem_cons.2 ⟨fun h => absurd h (by decide : ¬ (7 : Nat) ∈ ([12] : List Nat)), List.forall_mem_cons.2 ⟨fun h => absurd h (by decide : ¬ (7 : Nat) ∈ ([12, 13] : List Nat)), List.forall_mem_cons.2 ⟨fun _ h1 h2 => (by have := h1 12 (by simp) (by decide); rw [hL12] at this; cases this), List.forall_mem_cons.2 ⟨fun h => absurd h (by decide : ¬ (7 : Nat) ∈ ([8, 12] : List Nat)), List.forall_mem_cons.2 ⟨fun h => absurd h (by decide : ¬ (7 : Nat) ∈ ([9, 12] : List Nat)), List.forall_mem_cons.2 ⟨fun h => absurd h (by decide : ¬ (7 : Nat) ∈ ([10, 12] : List Nat)), List.forall_mem_cons.2 ⟨fun h => absurd h (by decide : ¬ (7 : Nat) ∈ ([9] : List Nat)), fun _ h => by cases h⟩⟩⟩⟩⟩⟩⟩⟩⟩⟩⟩⟩⟩⟩⟩⟩⟩⟩⟩)
      case true =>
        obtain ⟨g12, e12, hg12, hb12⟩ := (show (fun v w => ∃ g, v 12 = .pointer (some ⟨g, 0, none⟩) ∧ w1.heap.size ≤ g ∧ Box w g [.slice none 0 0, .slice none 0 0, .int .i64 0, .bool false]) v w' from hF _ (List.Mem.tail _ (List.Mem.tail _ (List.Mem.tail _ (List.Mem.tail _ (List.Mem.tail _ (List.Mem.tail _ (List.Mem.tail _ (List.Mem.tail _ (List.Mem.tail _ (List.Mem.tail _ (List.Mem.tail _ (List.Mem.tail _ (List.Mem.head _))))))))))))) (List.forall_mem_cons.2 ⟨hL12, fun _ h => by cases h⟩) (List.forall_mem_cons.2 ⟨(Bool.eq_false_iff.2 (fun h => by have := hcl 13 7 h (by kernel_rfl); rw [hLi] at this; cases this)), fun _ h => by cases h⟩))
        have E12 := Lib.hid e12; clear e12
        go_simp
        refine (double_ok (S := Pl S g12) w' ac.byte (fun k hk => by rcases hk with hk | hk; exact Nat.lt_of_lt_of_le (HS.out k hk) hx.size; subst hk; exact hb12.lt)).mono ?_
        rintro e w2 ⟨v2, rfl, hb2, hx2⟩
        exact HK.out _ _ (.inl hx2) (List.forall_mem_cons.2 ⟨fun h => absurd h (by decide : ¬ (7 : Nat) ∈ ([0] : List Nat)), List.forall_mem_cons.2 ⟨fun h => absurd h (by decide : ¬ (7 : Nat) ∈ ([1] : List Nat)), List.forall_mem_cons.2 ⟨fun h => absurd h (by decide : ¬ (7 : Nat) ∈ ([2] : List Nat)), List.forall_mem_cons.2 ⟨fun h => absurd h (by decide : ¬ (7 : Nat) ∈ ([3] : List Nat)), List.forall_mem_cons.2 ⟨fun h => absurd h (by decide : ¬ (7 : Nat) ∈ ([4] : List Nat)), List.forall_mem_cons.2 ⟨fun h => absurd h (by decide : ¬ (7 : Nat) ∈ ([5] : List Nat)), List.forall_mem_cons.2 ⟨fun h => absurd h (by decide : ¬ (7 : Nat) ∈ ([6] : List Nat)), List.forall_mem_cons.2 ⟨fun _ h1 h2 => (hb2.more etByte Pl.less), List.forall_mem_cons.2 ⟨fun h => absurd h (by decide : ¬ (7 : Nat) ∈ ([8] : List Nat)), List.forall_mem_cons.2 ⟨fun h => absurd h (by decide : ¬ (7 : Nat) ∈ ([9] : List Nat)), List.forall_mem_cons.2 ⟨fun h => absurd h (by decide : ¬ (7 : Nat) ∈ ([10] : List Nat)), List.forall_mem_cons.2 ⟨fun h => absurd h (by decide : ¬ (7 : Nat) ∈ ([11] : List Nat)), List.forall_mem_cons.2 ⟨fun h => absurd h (by decide : ¬ (7 : Nat) ∈ ([12] : List Nat)), List.forall_mem_cons.2 ⟨fun h => absurd h (by decide : ¬ (7 : Nat) ∈ ([12, 13] : List Nat)), List.forall_mem_cons.2 ⟨fun _ h1 h2 => (⟨g12, E12.out, hb2⟩), List.forall_mem_cons.2 ⟨fun h => absurd h (by decide : ¬ (7 : Nat) ∈ ([8, 12] : List Nat)), List.forall_mem_cons.2 ⟨fun h => absurd h (by decide : ¬ (7 : Nat) ∈ ([9, 12] : List Nat)), List.forall_mem_cons.2 ⟨fun h => absurd h (by decide : ¬ (7 : Nat) ∈ ([10, 12] : List Nat)), List.forall_mem_cons.2 ⟨fun h => absurd h (by decide : ¬ (7 : Nat) ∈ ([9] : List Nat)), fun _ h => by cases h⟩⟩⟩⟩⟩⟩⟩⟩⟩⟩⟩⟩⟩⟩⟩⟩⟩⟩⟩)
    -- 8: slot 68 := Op.call { value (Operand.func 26), args := #[t60, t64, t67], argTypes := #[25, 3, 35] }
    refine ⟨?_, ?_⟩
    · intro v w' L hx hLi hdep hcl hre hF
      have e0 : v 0 = .agg #[.slice a5 x.sectors.length c5, .slice a6 x.pending.length c6, .int .i64 x.left, .bool x.stopped] := hF _ (List.Mem.head _) (List.forall_mem_cons.2 ⟨(hre 0 (by kernel_rfl)), fun _ h => by cases h⟩) (fun _ h => by cases h)
      have e4 : v 4 = .int .i64 (IntKind.i64.wrap ((ac.at_.toNat : Int).tmod 4)) := hF _ (List.Mem.tail _ (List.Mem.tail _ (List.Mem.tail _ (List.Mem.tail _ (List.Mem.head _))))) (List.forall_mem_cons.2 ⟨(hre 4 (by kernel_rfl)), fun _ h => by cases h⟩) (fun _ h => by cases h)
      simp only [List.take_succ_cons, List.take_zero, putF, Act.put, List.setIfInBounds_toArray, List.set_cons_zero, List.set_cons_succ, Nat.reduceAdd, Nat.zero_add]
      simp only [e0]
      simp only [e4]
      clear e0 e4
      rw [if_pos (by rfl)]
      intro K hK
      have q0 := hx.cell d0
      have q1 := hx.cell d1
      have q2 := hx.cell d2
      have q3 := hx.cell d3
      have qa := hx.cell ya
      have qb := hx.cell yb
      cases hL12 : L 12
      case false =>
        have e7 : Bs S w' (v 7) (dbl ac.byte) := hF _ (List.Mem.tail _ (List.Mem.tail _ (List.Mem.tail _ (List.Mem.tail _ (List.Mem.tail _ (List.Mem.tail _ (List.Mem.tail _ (List.Mem.head _)))))))) (List.forall_mem_cons.2 ⟨(hre 7 (by kernel_rfl)), fun _ h => by cases h⟩) (List.forall_mem_cons.2 ⟨(Bool.eq_false_iff.2 (fun h => by have := hcl 13 8 h (by kernel_rfl); rw [hLi] at this; cases this)), fun _ h => by cases h⟩)
        obtain ⟨a9, c9, e7v, _, _⟩ := e7.open
        have k0 := write_ok (S := S) w' _ x (IntKind.i64.wrap ((ac.at_.toNat : Int).tmod 4)) _ (dbl ac.byte) (HD.out.keep hx) e7 (fun k hk => Nat.lt_of_lt_of_le (HS.out k hk) hx.size)
        rw [HZ.out] at k0
        rw [e7v] at k0
        simp only [e7v] at hK ⊢
        have K0 := Lib.hid k0; clear k0
        have E7 := Lib.hid e7; clear e7
        have HK := Lib.hid hK; clear hK
        have E7V := Lib.hid e7v; clear e7v
        go_simp
        refine K0.out.mono ?_
        rintro e w2 ⟨v2, rfl, hd2, hx2⟩
        exact HK.out _ _ (.inl hx2) (List.forall_mem_cons.2 ⟨fun h => absurd h (by decide : ¬ (8 : Nat) ∈ ([0] : List Nat)), List.forall_mem_cons.2 ⟨fun h => absurd h (by decide : ¬ (8 : Nat) ∈ ([1] : List Nat)), List.forall_mem_cons.2 ⟨fun h => absurd h (by decide : ¬ (8 : Nat) ∈ ([2] : List Nat)), List.forall_mem_cons.2 ⟨fun h => absurd h (by decide : ¬ (8 : Nat) ∈ ([3] : List Nat)), List.forall_mem_cons.2 ⟨fun h => absurd h (by decide : ¬ (8 : Nat) ∈ ([4] : List Nat)), List.forall_mem_cons.2 ⟨fun h => absurd h (by decide : ¬ (8 : Nat) ∈ ([5] : List Nat)), List.forall_mem_cons.2 ⟨fun h => absurd h (by decide : ¬ (8 : Nat) ∈ ([6] : List Nat)), List.forall_mem_cons.2 ⟨fun h => absurd h (by decide : ¬ (8 : Nat) ∈ ([7] : List Nat)), List.forall_mem_cons.2 ⟨fun _ h1 h2 => (⟨v2, rfl, hd2⟩), List.forall_mem_cons.2 ⟨fun h => absurd h (by decide : ¬ (8 : Nat) ∈ ([9] : List Nat)), List.forall_mem_cons.2 ⟨fun h => absurd h (by decide : ¬ (8 : Nat) ∈ ([10] : List Nat)), List.forall_mem_cons.2 ⟨fun h => absurd h (by decide : ¬ (8 : Nat) ∈ ([11] : List Nat)), List.forall_mem_cons.2 ⟨fun h => absurd h (by decide : ¬ (8 : Nat) ∈ ([12] : List Nat)), List.forall_mem_cons.2 ⟨fun h => absurd h (by decide : ¬ (8 : Nat) ∈ ([12, 13] : List Nat)), List.forall_mem_cons.2 ⟨fun h => absurd h (by decide : ¬ (8 : Nat) ∈ ([7, 12] : List Nat)), List.forall_mem_cons.2 ⟨fun _ h1 h2 => (by have := h1 12 (by simp) (by decide); rw [hL12] at this; cases this), List.forall_mem_cons.2 ⟨fun h => absurd h (by decide : ¬ (8 : Nat) ∈ ([9, 12] : List Nat)), List.forall_mem_cons.2 ⟨fun h => absurd h (by decide : ¬ (8 : Nat) ∈ ([10, 12] : List Nat)), List.forall_mem_cons.2 ⟨fun h => absurd h (by decide : ¬ (8 : Nat) ∈ ([9] : List Nat)), fun _ h => by cases h⟩⟩⟩⟩⟩⟩⟩⟩⟩⟩⟩⟩⟩⟩⟩⟩⟩⟩⟩)
      case true =>
        obtain ⟨g12, e12, hg12, hb12⟩ := (show (fun v w => ∃ g, v 12 = .pointer (some ⟨g, 0, none⟩) ∧ w1.heap.size ≤ g ∧ Box w g [.slice none 0 0, .slice none 0 0, .int .i64 0, .bool false]) v w' from hF _ (List.Mem.tail _ (List.Mem.tail _ (List.Mem.tail _ (List.Mem.tail _ (List.Mem.tail _ (List.Mem.tail _ (List.Mem.tail _ (List.Mem.tail _ (List.Mem.tail _ (List.Mem.tail _ (List.Mem.tail _ (List.Mem.tail _ (List.Mem.head _))))))))))))) (List.forall_mem_cons.2 ⟨hL12, fun _ h => by cases h⟩) (List.forall_mem_cons.2 ⟨(Bool.eq_false_iff.2 (fun h => by have := hcl 13 8 h (by kernel_rfl); rw [hLi] at this; cases this)), fun _ h => by cases h⟩))
        have E12 := Lib.hid e12; clear e12
        obtain ⟨g13, e13, e7⟩ := (show (fun v w => ∃ g, v 12 = .pointer (some ⟨g, 0, none⟩) ∧ Bs (Pl S g) w (v 7) (dbl ac.byte)) v w' from hF _ (List.Mem.tail _ (List.Mem.tail _ (List.Mem.tail _ (List.Mem.tail _ (List.Mem.tail _ (List.Mem.tail _ (List.Mem.tail _ (List.Mem.tail _ (List.Mem.tail _ (List.Mem.tail _ (List.Mem.tail _ (List.Mem.tail _ (List.Mem.tail _ (List.Mem.tail _ (List.Mem.head _))))))))))))))) (List.forall_mem_cons.2 ⟨(hre 7 (by kernel_rfl)), List.forall_mem_cons.2 ⟨hL12, fun _ h => by cases h⟩⟩) (List.forall_mem_cons.2 ⟨(Bool.eq_false_iff.2 (fun h => by have := hcl 13 8 h (by kernel_rfl); rw [hLi] at this; cases this)), fun _ h => by cases h⟩))
        cases E12.out.symm.trans e13
        clear e13
        obtain ⟨a9, c9, e7v, _, _⟩ := e7.open
        have k0 := write_ok (S := Pl S g12) w' _ x (IntKind.i64.wrap ((ac.at_.toNat : Int).tmod 4)) _ (dbl ac.byte) ((HD.out.more (fun k hk => by rcases hk with hk | hk; exact .inl hk; subst hk; exact .inr hg12)).keepM (hx.mem _)) e7 (fun k hk => by rcases hk with hk | hk; exact Nat.lt_of_lt_of_le (HS.out k hk) hx.size; subst hk; exact hb12.lt)
        rw [HZ.out] at k0
        rw [e7v] at k0
        simp only [e7v] at hK ⊢
        have K0 := Lib.hid k0; clear k0
        have E7 := Lib.hid e7; clear e7
        have HK := Lib.hid hK; clear hK
        have E7V := Lib.hid e7v; clear e7v
        go_simp
        refine K0.out.mono ?_
        rintro e w2 ⟨v2, rfl, hd2, hx2⟩
        exact HK.out _ _ (.inl hx2) (List.forall_mem_cons.2 ⟨fun h => absurd h (by decide : ¬ (8 : Nat) ∈ ([0] : List Nat)), List.forall_mem_cons.2 ⟨fun h => absurd h (by decide : ¬ (8 : Nat) ∈ ([1] : List Nat)), List.forall_mem_cons.2 ⟨fun h => absurd h (by decide : ¬ (8 : Nat) ∈ ([2] : List Nat)), List.forall_mem_cons.2 ⟨fun h => absurd h (by decide : ¬ (8 : Nat) ∈ ([3] : List Nat)), List.forall_mem_cons.2 ⟨fun h => absurd h (by decide : ¬ (8 : Nat) ∈ ([4] : List Nat)), List.forall_mem_cons.2 ⟨fun h => absurd h (by decide : ¬ (8 : Nat) ∈ ([5] : List Nat)), List.forall_mem_cons.2 ⟨fun h => absurd h (by decide : ¬ (8 : Nat) ∈ ([6] : List Nat)), List.forall_mem_cons.2 ⟨fun h => absurd h (by decide : ¬ (8 : Nat) ∈ ([7] : List Nat)), List.forall_mem_cons.2 ⟨fun _ h1 h2 => (⟨v2, rfl, hd2.more Pl.less⟩), List.forall_mem_cons.2 ⟨fun h => absurd h (by decide : ¬ (8 : Nat) ∈ ([9] : List Nat)), List.forall_mem_cons.2 ⟨fun h => absurd h (by decide : ¬ (8 : Nat) ∈ ([10] : List Nat)), List.forall_mem_cons.2 ⟨fun h => absurd h (by decide : ¬ (8 : Nat) ∈ ([11] : List Nat)), List.forall_mem_cons.2 ⟨fun h => absurd h (by decide : ¬ (8 : Nat) ∈ ([12] : List Nat)), List.forall_mem_cons.2 ⟨fun h => absurd h (by decide : ¬ (8 : Nat) ∈ ([12, 13] : List Nat)), List.forall_mem_cons.2 ⟨fun h => absurd h (by decide : ¬ (8 : Nat) ∈ ([7, 12] : List Nat)), List.forall_mem_cons.2 ⟨fun _ h1 h2 => (⟨g12, v2, E12.out, rfl, hd2⟩), List.forall_mem_cons.2 ⟨fun h => absurd h (by decide : ¬ (8 : Nat) ∈ ([9, 12] : List Nat)), List.forall_mem_cons.2 ⟨fun h => absurd h (by decide : ¬ (8 : Nat) ∈ ([10, 12] : List Nat)), List.forall_mem_cons.2 ⟨fun h => absurd h (by decide : ¬ (8 : Nat) ∈ ([9] : List Nat)), fun _ h => by cases h⟩⟩⟩⟩⟩⟩⟩⟩⟩⟩⟩⟩⟩⟩⟩⟩⟩⟩⟩)
    -- 9: slot 59 := Op.move t68
    refine ⟨?_, ?_⟩
    · intro v w' L hx hLi hdep hcl hre hF
      simp only [List.take_succ_cons, List.take_zero, putF, Act.put, List.setIfInBounds_toArray, List.set_cons_zero, List.set_cons_succ, Nat.reduceAdd, Nat.zero_add]
      rw [if_pos (by rfl)]
      intro K hK
      have q0 := hx.cell d0
      have q1 := hx.cell d1
      have q2 := hx.cell d2
      have q3 := hx.cell d3
      have qa := hx.cell ya
      have qb := hx.cell yb
      have HK := Lib.hid hK; clear hK
      have E8 := Lib.hid (show (fun v w => ∃ vd, v 8 = .tuple #[vd, .int .i64 0] ∧ Disk S w vd z) v w' from hF _ (List.Mem.tail _ (List.Mem.tail _ (List.Mem.tail _ (List.Mem.tail _ (List.Mem.tail _ (List.Mem.tail _ (List.Mem.tail _ (List.Mem.tail _ (List.Mem.head _))))))))) (List.forall_mem_cons.2 ⟨(hre 8 (by kernel_rfl)), fun _ h => by cases h⟩) (List.forall_mem_cons.2 ⟨(Bool.eq_false_iff.2 (fun h => by have := hcl 13 9 h (by kernel_rfl); rw [hLi] at this; cases this)), fun _ h => by cases h⟩))
      have E15 := Lib.hid (fun (hL12 : L 12 = true) => (show (fun v w => ∃ g vd, v 12 = .pointer (some ⟨g, 0, none⟩) ∧ v 8 = .tuple #[vd, .int .i64 0] ∧ Disk (Pl S g) w vd z) v w' from hF _ (List.Mem.tail _ (List.Mem.tail _ (List.Mem.tail _ (List.Mem.tail _ (List.Mem.tail _ (List.Mem.tail _ (List.Mem.tail _ (List.Mem.tail _ (List.Mem.tail _ (List.Mem.tail _ (List.Mem.tail _ (List.Mem.tail _ (List.Mem.tail _ (List.Mem.tail _ (List.Mem.tail _ (List.Mem.head _)))))))))))))))) (List.forall_mem_cons.2 ⟨(hre 8 (by kernel_rfl)), List.forall_mem_cons.2 ⟨hL12, fun _ h => by cases h⟩⟩) (List.forall_mem_cons.2 ⟨(Bool.eq_false_iff.2 (fun h => by have := hcl 13 9 h (by kernel_rfl); rw [hLi] at this; cases this)), fun _ h => by cases h⟩)))
      go_simp
      exact HK.out _ _ (.inl (Ext.refl _)) (List.forall_mem_cons.2 ⟨fun h => absurd h (by decide : ¬ (9 : Nat) ∈ ([0] : List Nat)), List.forall_mem_cons.2 ⟨fun h => absurd h (by decide : ¬ (9 : Nat) ∈ ([1] : List Nat)), List.forall_mem_cons.2 ⟨fun h => absurd h (by decide : ¬ (9 : Nat) ∈ ([2] : List Nat)), List.forall_mem_cons.2 ⟨fun h => absurd h (by decide : ¬ (9 : Nat) ∈ ([3] : List Nat)), List.forall_mem_cons.2 ⟨fun h => absurd h (by decide : ¬ (9 : Nat) ∈ ([4] : List Nat)), List.forall_mem_cons.2 ⟨fun h => absurd h (by decide : ¬ (9 : Nat) ∈ ([5] : List Nat)), List.forall_mem_cons.2 ⟨fun h => absurd h (by decide : ¬ (9 : Nat) ∈ ([6] : List Nat)), List.forall_mem_cons.2 ⟨fun h => absurd h (by decide : ¬ (9 : Nat) ∈ ([7] : List Nat)), List.forall_mem_cons.2 ⟨fun h => absurd h (by decide : ¬ (9 : Nat) ∈ ([8] : List Nat)), List.forall_mem_cons.2 ⟨fun _ h1 h2 => (E8.out), List.forall_mem_cons.2 ⟨fun h => absurd h (by decide : ¬ (9 : Nat) ∈ ([10] : List Nat)), List.forall_mem_cons.2 ⟨fun h => absurd h (by decide : ¬ (9 : Nat) ∈ ([11] : List Nat)), List.forall_mem_cons.2 ⟨fun h => absurd h (by decide : ¬ (9 : Nat) ∈ ([12] : List Nat)), List.forall_mem_cons.2 ⟨fun h => absurd h (by decide : ¬ (9 : Nat) ∈ ([12, 13] : List Nat)), List.forall_mem_cons.2 ⟨fun h => absurd h (by decide : ¬ (9 : Nat) ∈ ([7, 12] : List Nat)), List.forall_mem_cons.2 ⟨fun h => absurd h (by decide : ¬ (9 : Nat) ∈ ([8, 12] : List Nat)), List.forall_mem_cons.2 ⟨fun _ h1 h2 => (E15.out (h1 12 (by simp) (by decide))), List.forall_mem_cons.2 ⟨fun h => absurd h (by decide : ¬ (9 : Nat) ∈ ([10, 12] : List Nat)), List.forall_mem_cons.2 ⟨fun _ h1 h2 => (by obtain ⟨vd, e, _⟩ := E8.out; exact ⟨vd, e⟩), fun _ h => by cases h⟩⟩⟩⟩⟩⟩⟩⟩⟩⟩⟩⟩⟩⟩⟩⟩⟩⟩⟩)
    -- 10: slot 69 := Op.extract t59 0
    refine ⟨?_, ?_⟩
    · intro v w' L hx hLi hdep hcl hre hF
      simp only [List.take_succ_cons, List.take_zero, putF, Act.put, List.setIfInBounds_toArray, List.set_cons_zero, List.set_cons_succ, Nat.reduceAdd, Nat.zero_add]
      rw [if_pos (by rfl)]
      intro K hK
      have q0 := hx.cell d0
      have q1 := hx.cell d1
      have q2 := hx.cell d2
      have q3 := hx.cell d3
      have qa := hx.cell ya
      have qb := hx.cell yb
      obtain ⟨vd, e9v, h9⟩ := (show (fun v w => ∃ vd, v 9 = .tuple #[vd, .int .i64 0] ∧ Disk S w vd z) v w' from hF _ (List.Mem.tail _ (List.Mem.tail _ (List.Mem.tail _ (List.Mem.tail _ (List.Mem.tail _ (List.Mem.tail _ (List.Mem.tail _ (List.Mem.tail _ (List.Mem.tail _ (List.Mem.head _)))))))))) (List.forall_mem_cons.2 ⟨(hre 9 (by kernel_rfl)), fun _ h => by cases h⟩) (List.forall_mem_cons.2 ⟨(Bool.eq_false_iff.2 (fun h => by have := hcl 13 10 h (by kernel_rfl); rw [hLi] at this; cases this)), fun _ h => by cases h⟩))
      have E9 := Lib.hid h9; clear h9
      have E16 := Lib.hid (fun (hL12 : L 12 = true) => (show (fun v w => ∃ g vd, v 12 = .pointer (some ⟨g, 0, none⟩) ∧ v 9 = .tuple #[vd, .int .i64 0] ∧ Disk (Pl S g) w vd z) v w' from hF _ (List.Mem.tail _ (List.Mem.tail _ (List.Mem.tail _ (List.Mem.tail _ (List.Mem.tail _ (List.Mem.tail _ (List.Mem.tail _ (List.Mem.tail _ (List.Mem.tail _ (List.Mem.tail _ (List.Mem.tail _ (List.Mem.tail _ (List.Mem.tail _ (List.Mem.tail _ (List.Mem.tail _ (List.Mem.tail _ (List.Mem.head _))))))))))))))))) (List.forall_mem_cons.2 ⟨(hre 9 (by kernel_rfl)), List.forall_mem_cons.2 ⟨hL12, fun _ h => by cases h⟩⟩) (List.forall_mem_cons.2 ⟨(Bool.eq_false_iff.2 (fun h => by have := hcl 13 10 h (by kernel_rfl); rw [hLi] at this; cases this)), fun _ h => by cases h⟩)))
      simp only [e9v] at hK ⊢
      have HK := Lib.hid hK; clear hK
      have E9V := Lib.hid e9v; clear e9v
      go_simp
      exact HK.out _ _ (.inl (Ext.refl _)) (List.forall_mem_cons.2 ⟨fun h => absurd h (by decide : ¬ (10 : Nat) ∈ ([0] : List Nat)), List.forall_mem_cons.2 ⟨fun h => absurd h (by decide : ¬ (10 : Nat) ∈ ([1] : List Nat)), List.forall_mem_cons.2 ⟨fun h => absurd h (by decide : ¬ (10 : Nat) ∈ ([2] : List Nat)), List.forall_mem_cons.2 ⟨fun h => absurd h (by decide : ¬ (10 : Nat) ∈ ([3] : List Nat)), List.forall_mem_cons.2 ⟨fun h => absurd h (by decide : ¬ (10 : Nat) ∈ ([4] : List Nat)), List.forall_mem_cons.2 ⟨fun h => absurd h (by decide : ¬ (10 : Nat) ∈ ([5] : List Nat)), List.forall_mem_cons.2 ⟨fun h => absurd h (by decide : ¬ (10 : Nat) ∈ ([6] : List Nat)), List.forall_mem_cons.2 ⟨fun h => absurd h (by decide : ¬ (10 : Nat) ∈ ([7] : List Nat)), List.forall_mem_cons.2 ⟨fun h => absurd h (by decide : ¬ (10 : Nat) ∈ ([8] : List Nat)), List.forall_mem_cons.2 ⟨fun h => absurd h (by decide : ¬ (10 : Nat) ∈ ([9] : List Nat)), List.forall_mem_cons.2 ⟨fun _ h1 h2 => (E9.out), List.forall_mem_cons.2 ⟨fun h => absurd h (by decide : ¬ (10 : Nat) ∈ ([11] : List Nat)), List.forall_mem_cons.2 ⟨fun h => absurd h (by decide : ¬ (10 : Nat) ∈ ([12] : List Nat)), List.forall_mem_cons.2 ⟨fun h => absurd h (by decide : ¬ (10 : Nat) ∈ ([12, 13] : List Nat)), List.forall_mem_cons.2 ⟨fun h => absurd h (by decide : ¬ (10 : Nat) ∈ ([7, 12] : List Nat)), List.forall_mem_cons.2 ⟨fun h => absurd h (by decide : ¬ (10 : Nat) ∈ ([8, 12] : List Nat)), List.forall_mem_cons.2 ⟨fun h => absurd h (by decide : ¬ (10 : Nat) ∈ ([9, 12] : List Nat)), List.forall_mem_cons.2 ⟨fun _ h1 h2 => (by obtain ⟨g, vd2, q0, q1, q2⟩ := E16.out (h1 12 (by simp) (by decide)); rw [E9V.out] at q1; cases q1; exact ⟨g, q0, q2⟩), List.forall_mem_cons.2 ⟨fun h => absurd h (by decide : ¬ (10 : Nat) ∈ ([9] : List Nat)), fun _ h => by cases h⟩⟩⟩⟩⟩⟩⟩⟩⟩⟩⟩⟩⟩⟩⟩⟩⟩⟩⟩)
    -- 11: slot 70 := Op.extract t59 1
    refine ⟨?_, ?_⟩
    · intro v w' L hx hLi hdep hcl hre hF
      simp only [List.take_succ_cons, List.take_zero, putF, Act.put, List.setIfInBounds_toArray, List.set_cons_zero, List.set_cons_succ, Nat.reduceAdd, Nat.zero_add]
      rw [if_pos (by rfl)]
      intro K hK
      have q0 := hx.cell d0
      have q1 := hx.cell d1
      have q2 := hx.cell d2
      have q3 := hx.cell d3
      have qa := hx.cell ya
      have qb := hx.cell yb
      obtain ⟨vd, e9v⟩ := (show (fun v _ => ∃ vd, v 9 = .tuple #[vd, .int .i64 0]) v w' from hF _ (List.Mem.tail _ (List.Mem.tail _ (List.Mem.tail _ (List.Mem.tail _ (List.Mem.tail _ (List.Mem.tail _ (List.Mem.tail _ (List.Mem.tail _ (List.Mem.tail _ (List.Mem.tail _ (List.Mem.tail _ (List.Mem.tail _ (List.Mem.tail _ (List.Mem.tail _ (List.Mem.tail _ (List.Mem.tail _ (List.Mem.tail _ (List.Mem.tail _ (List.Mem.head _))))))))))))))))))) (List.forall_mem_cons.2 ⟨(hre 9 (by kernel_rfl)), fun _ h => by cases h⟩) (fun _ h => by cases h))
      simp only [e9v] at hK ⊢
      have HK := Lib.hid hK; clear hK
      have E9V := Lib.hid e9v; clear e9v
      go_simp
      exact HK.out _ _ (.inl (Ext.refl _)) (List.forall_mem_cons.2 ⟨fun h => absurd h (by decide : ¬ (11 : Nat) ∈ ([0] : List Nat)), List.forall_mem_cons.2 ⟨fun h => absurd h (by decide : ¬ (11 : Nat) ∈ ([1] : List Nat)), List.forall_mem_cons.2 ⟨fun h => absurd h (by decide : ¬ (11 : Nat) ∈ ([2] : List Nat)), List.forall_mem_cons.2 ⟨fun h => absurd h (by decide : ¬ (11 : Nat) ∈ ([3] : List Nat)), List.forall_mem_cons.2 ⟨fun h => absurd h (by decide : ¬ (11 : Nat) ∈ ([4] : List Nat)), List.forall_mem_cons.2 ⟨fun h => absurd h (by decide : ¬ (11 : Nat) ∈ ([5] : List Nat)), List.forall_mem_cons.2 ⟨fun h => absurd h (by decide : ¬ (11 : Nat) ∈ ([6] : List Nat)), List.forall_mem_cons.2 ⟨fun h => absurd h (by decide : ¬ (11 : Nat) ∈ ([7] : List Nat)), List.forall_mem_cons.2 ⟨fun h => absurd h (by decide : ¬ (11 : Nat) ∈ ([8] : List Nat)), List.forall_mem_cons.2 ⟨fun h => absurd h (by decide : ¬ (11 : Nat) ∈ ([9] : List Nat)), List.forall_mem_cons.2 ⟨fun h => absurd h (by decide : ¬ (11 : Nat) ∈ ([10] : List Nat)), List.forall_mem_cons.2 ⟨fun _ _ _ => rfl, List.forall_mem_cons.2 ⟨fun h => absurd h (by decide : ¬ (11 : Nat) ∈ ([12] : List Nat)), List.forall_mem_cons.2 ⟨fun h => absurd h (by decide : ¬ (11 : Nat) ∈ ([12, 13] : List Nat)), List.forall_mem_cons.2 ⟨fun h => absurd h (by decide : ¬ (11 : Nat) ∈ ([7, 12] : List Nat)), List.forall_mem_cons.2 ⟨fun h => absurd h (by decide : ¬ (11 : Nat) ∈ ([8, 12] : List Nat)), List.forall_mem_cons.2 ⟨fun h => absurd h (by decide : ¬ (11 : Nat) ∈ ([9, 12] : List Nat)), List.forall_mem_cons.2 ⟨fun h => absurd h (by decide : ¬ (11 : Nat) ∈ ([10, 12] : List Nat)), List.forall_mem_cons.2 ⟨fun h => absurd h (by decide : ¬ (11 : Nat) ∈ ([9] : List Nat)), fun _ h => by cases h⟩⟩⟩⟩⟩⟩⟩⟩⟩⟩⟩⟩⟩⟩⟩⟩⟩⟩⟩)
    -- 12: slot 15 := Op.alloc 25
    refine ⟨?_, ?_⟩
    · intro v w' L hx hLi hdep hcl hre hF
      simp only [List.take_succ_cons, List.take_zero, putF, Act.put, List.setIfInBounds_toArray, List.set_cons_zero, List.set_cons_succ, Nat.reduceAdd, Nat.zero_add]
      rw [if_pos (by rfl)]
      intro K hK
      have q0 := hx.cell d0
      have q1 := hx.cell d1
      have q2 := hx.cell d2
      have q3 := hx.cell d3
      have qa := hx.cell ya
      have qb := hx.cell yb
      have HK := Lib.hid hK; clear hK
      have E7 := Lib.hid (fun (hL7 : L 7 = true) => (show (fun v w => Bs S w (v 7) (dbl ac.byte)) v w' from hF _ (List.Mem.tail _ (List.Mem.tail _ (List.Mem.tail _ (List.Mem.tail _ (List.Mem.tail _ (List.Mem.tail _ (List.Mem.tail _ (List.Mem.head _)))))))) (List.forall_mem_cons.2 ⟨hL7, fun _ h => by cases h⟩) (List.forall_mem_cons.2 ⟨(Bool.eq_false_iff.2 (fun h => by have := hcl 13 12 h (by kernel_rfl); rw [hLi] at this; cases this)), fun _ h => by cases h⟩)))
      have E8 := Lib.hid (fun (hL8 : L 8 = true) => (show (fun v w => ∃ vd, v 8 = .tuple #[vd, .int .i64 0] ∧ Disk S w vd z) v w' from hF _ (List.Mem.tail _ (List.Mem.tail _ (List.Mem.tail _ (List.Mem.tail _ (List.Mem.tail _ (List.Mem.tail _ (List.Mem.tail _ (List.Mem.tail _ (List.Mem.head _))))))))) (List.forall_mem_cons.2 ⟨hL8, fun _ h => by cases h⟩) (List.forall_mem_cons.2 ⟨(Bool.eq_false_iff.2 (fun h => by have := hcl 13 12 h (by kernel_rfl); rw [hLi] at this; cases this)), fun _ h => by cases h⟩)))
      have E9 := Lib.hid (fun (hL9 : L 9 = true) => (show (fun v w => ∃ vd, v 9 = .tuple #[vd, .int .i64 0] ∧ Disk S w vd z) v w' from hF _ (List.Mem.tail _ (List.Mem.tail _ (List.Mem.tail _ (List.Mem.tail _ (List.Mem.tail _ (List.Mem.tail _ (List.Mem.tail _ (List.Mem.tail _ (List.Mem.tail _ (List.Mem.head _)))))))))) (List.forall_mem_cons.2 ⟨hL9, fun _ h => by cases h⟩) (List.forall_mem_cons.2 ⟨(Bool.eq_false_iff.2 (fun h => by have := hcl 13 12 h (by kernel_rfl); rw [hLi] at this; cases this)), fun _ h => by cases h⟩)))
      have E10 := Lib.hid (fun (hL10 : L 10 = true) => (show (fun v w => Disk S w (v 10) z) v w' from hF _ (List.Mem.tail _ (List.Mem.tail _ (List.Mem.tail _ (List.Mem.tail _ (List.Mem.tail _ (List.Mem.tail _ (List.Mem.tail _ (List.Mem.tail _ (List.Mem.tail _ (List.Mem.tail _ (List.Mem.head _))))))))))) (List.forall_mem_cons.2 ⟨hL10, fun _ h => by cases h⟩) (List.forall_mem_cons.2 ⟨(Bool.eq_false_iff.2 (fun h => by have := hcl 13 12 h (by kernel_rfl); rw [hLi] at this; cases this)), fun _ h => by cases h⟩)))
      have hpl : ∀ k, Pl S w'.heap.size k → S k ∨ w'.heap.size ≤ k := fun k hk => by rcases hk with hk | hk; exact .inl hk; exact .inr (by omega)
      have HPL := Lib.hid hpl; clear hpl
      go_simp
      exact HK.out _ _ (.inl ((Ext.refl _).alloc _)) (List.forall_mem_cons.2 ⟨fun h => absurd h (by decide : ¬ (12 : Nat) ∈ ([0] : List Nat)), List.forall_mem_cons.2 ⟨fun h => absurd h (by decide : ¬ (12 : Nat) ∈ ([1] : List Nat)), List.forall_mem_cons.2 ⟨fun h => absurd h (by decide : ¬ (12 : Nat) ∈ ([2] : List Nat)), List.forall_mem_cons.2 ⟨fun h => absurd h (by decide : ¬ (12 : Nat) ∈ ([3] : List Nat)), List.forall_mem_cons.2 ⟨fun h => absurd h (by decide : ¬ (12 : Nat) ∈ ([4] : List Nat)), List.forall_mem_cons.2 ⟨fun h => absurd h (by decide : ¬ (12 : Nat) ∈ ([5] : List Nat)), List.forall_mem_cons.2 ⟨fun h => absurd h (by decide : ¬ (12 : Nat) ∈ ([6] : List Nat)), List.forall_mem_cons.2 ⟨fun h => absurd h (by decide : ¬ (12 : Nat) ∈ ([7] : List Nat)), List.forall_mem_cons.2 ⟨fun h => absurd h (by decide : ¬ (12 : Nat) ∈ ([8] : List Nat)), List.forall_mem_cons.2 ⟨fun h => absurd h (by decide : ¬ (12 : Nat) ∈ ([9] : List Nat)), List.forall_mem_cons.2 ⟨fun h => absurd h (by decide : ¬ (12 : Nat) ∈ ([10] : List Nat)), List.forall_mem_cons.2 ⟨fun h => absurd h (by decide : ¬ (12 : Nat) ∈ ([11] : List Nat)), List.forall_mem_cons.2 ⟨fun _ h1 h2 => (⟨w'.heap.size, rfl, hx.size, Box.new w' _ 25⟩), List.forall_mem_cons.2 ⟨fun _ h1 h2 => (by have := h1 13 (by simp) (by decide); rw [show L 13 = false from (Bool.eq_false_iff.2 (fun h => by have := hcl 13 12 h (by kernel_rfl); rw [hLi] at this; cases this))] at this; cases this), List.forall_mem_cons.2 ⟨fun _ h1 h2 => (⟨w'.heap.size, rfl, ((E7.out (h1 7 (by simp) (by decide))).more etByte HPL.out).keepM etByte (((Ext.refl _).alloc _).mem _)⟩), List.forall_mem_cons.2 ⟨fun _ h1 h2 => (by obtain ⟨vd, q, h⟩ := E8.out (h1 8 (by simp) (by decide)); exact ⟨w'.heap.size, vd, rfl, q, (h.more HPL.out).keepM (((Ext.refl _).alloc _).mem _)⟩), List.forall_mem_cons.2 ⟨fun _ h1 h2 => (by obtain ⟨vd, q, h⟩ := E9.out (h1 9 (by simp) (by decide)); exact ⟨w'.heap.size, vd, rfl, q, (h.more HPL.out).keepM (((Ext.refl _).alloc _).mem _)⟩), List.forall_mem_cons.2 ⟨fun _ h1 h2 => (⟨w'.heap.size, rfl, ((E10.out (h1 10 (by simp) (by decide))).more HPL.out).keepM (((Ext.refl _).alloc _).mem _)⟩), List.forall_mem_cons.2 ⟨fun h => absurd h (by decide : ¬ (12 : Nat) ∈ ([9] : List Nat)), fun _ h => by cases h⟩⟩⟩⟩⟩⟩⟩⟩⟩⟩⟩⟩⟩⟩⟩⟩⟩⟩⟩)
    -- 13: slot None := Op.store 25 t15 t69
    refine ⟨?_, ?_⟩
    · intro v w' L hx hLi hdep hcl hre hF
      simp only [List.take_succ_cons, List.take_zero, putF, Act.put, List.setIfInBounds_toArray, List.set_cons_zero, List.set_cons_succ, Nat.reduceAdd, Nat.zero_add]
      rw [if_pos (by rfl)]
      intro K hK
      have q0 := hx.cell d0
      have q1 := hx.cell d1
      have q2 := hx.cell d2
      have q3 := hx.cell d3
      have qa := hx.cell ya
      have qb := hx.cell yb
      obtain ⟨g, e12v, hg, hb0⟩ := (show (fun v w => ∃ g, v 12 = .pointer (some ⟨g, 0, none⟩) ∧ w1.heap.size ≤ g ∧ Box w g [.slice none 0 0, .slice none 0 0, .int .i64 0, .bool false]) v w' from hF _ (List.Mem.tail _ (List.Mem.tail _ (List.Mem.tail _ (List.Mem.tail _ (List.Mem.tail _ (List.Mem.tail _ (List.Mem.tail _ (List.Mem.tail _ (List.Mem.tail _ (List.Mem.tail _ (List.Mem.tail _ (List.Mem.tail _ (List.Mem.head _))))))))))))) (List.forall_mem_cons.2 ⟨(hre 12 (by kernel_rfl)), fun _ h => by cases h⟩) (List.forall_mem_cons.2 ⟨hLi, fun _ h => by cases h⟩))
      obtain ⟨g', e12w, hd⟩ := (show (fun v w => ∃ g, v 12 = .pointer (some ⟨g, 0, none⟩) ∧ Disk (Pl S g) w (v 10) z) v w' from hF _ (List.Mem.tail _ (List.Mem.tail _ (List.Mem.tail _ (List.Mem.tail _ (List.Mem.tail _ (List.Mem.tail _ (List.Mem.tail _ (List.Mem.tail _ (List.Mem.tail _ (List.Mem.tail _ (List.Mem.tail _ (List.Mem.tail _ (List.Mem.tail _ (List.Mem.tail _ (List.Mem.tail _ (List.Mem.tail _ (List.Mem.tail _ (List.Mem.head _)))))))))))))))))) (List.forall_mem_cons.2 ⟨(hre 10 (by kernel_rfl)), List.forall_mem_cons.2 ⟨(hre 12 (by kernel_rfl)), fun _ h => by cases h⟩⟩) (List.forall_mem_cons.2 ⟨hLi, fun _ h => by cases h⟩))
      cases e12v.symm.trans e12w
      obtain ⟨a7, c7, a8, c8, e10v, _, _, _, _, _, _⟩ := hd.open
      rw [e10v] at hd
      simp only [e12v, e10v] at hK ⊢
      refine wp_store_box 25 (.tmp 15) (.tmp 69) rfl g [.slice a7 z.sectors.length c7, .slice a8 z.pending.length c8, .int .i64 z.left, .bool z.stopped] [.slice none 0 0, .slice none 0 0, .int .i64 0, .bool false] rfl rfl hb0 (by kernel_rfl) rfl rfl ?_
      intro w2 hb2 ho
      exact hK undef _ (.inr ⟨ho.ext hx hg, (List.forall_mem_cons.2 ⟨fun _ _ _ _ h => h, List.forall_mem_cons.2 ⟨fun _ _ _ _ h => h, List.forall_mem_cons.2 ⟨fun _ _ _ _ h => h, List.forall_mem_cons.2 ⟨fun _ _ _ _ h => h, List.forall_mem_cons.2 ⟨fun _ _ _ _ h => h, List.forall_mem_cons.2 ⟨fun _ _ _ _ h => h, List.forall_mem_cons.2 ⟨fun _ _ _ _ h => h, List.forall_mem_cons.2 ⟨fun _ h => absurd (by decide : (13 : Nat) ∈ ([13] : List Nat)) h, List.forall_mem_cons.2 ⟨fun _ h => absurd (by decide : (13 : Nat) ∈ ([13] : List Nat)) h, List.forall_mem_cons.2 ⟨fun _ h => absurd (by decide : (13 : Nat) ∈ ([13] : List Nat)) h, List.forall_mem_cons.2 ⟨fun _ h => absurd (by decide : (13 : Nat) ∈ ([13] : List Nat)) h, List.forall_mem_cons.2 ⟨fun _ _ _ _ h => h, List.forall_mem_cons.2 ⟨fun _ h => absurd (by decide : (13 : Nat) ∈ ([13] : List Nat)) h, List.forall_mem_cons.2 ⟨fun h => absurd (by decide : (13 : Nat) ∈ ([12, 13] : List Nat)) h, List.forall_mem_cons.2 ⟨fun _ h => absurd (by decide : (13 : Nat) ∈ ([13] : List Nat)) h, List.forall_mem_cons.2 ⟨fun _ h => absurd (by decide : (13 : Nat) ∈ ([13] : List Nat)) h, List.forall_mem_cons.2 ⟨fun _ h => absurd (by decide : (13 : Nat) ∈ ([13] : List Nat)) h, List.forall_mem_cons.2 ⟨fun _ h => absurd (by decide : (13 : Nat) ∈ ([13] : List Nat)) h, List.forall_mem_cons.2 ⟨fun _ _ h1 h2 h => (h), fun _ h => by cases h⟩⟩⟩⟩⟩⟩⟩⟩⟩⟩⟩⟩⟩⟩⟩⟩⟩⟩⟩)⟩) (List.forall_mem_cons.2 ⟨fun h => absurd h (by decide : ¬ (13 : Nat) ∈ ([0] : List Nat)), List.forall_mem_cons.2 ⟨fun h => absurd h (by decide : ¬ (13 : Nat) ∈ ([1] : List Nat)), List.forall_mem_cons.2 ⟨fun h => absurd h (by decide : ¬ (13 : Nat) ∈ ([2] : List Nat)), List.forall_mem_cons.2 ⟨fun h => absurd h (by decide : ¬ (13 : Nat) ∈ ([3] : List Nat)), List.forall_mem_cons.2 ⟨fun h => absurd h (by decide : ¬ (13 : Nat) ∈ ([4] : List Nat)), List.forall_mem_cons.2 ⟨fun h => absurd h (by decide : ¬ (13 : Nat) ∈ ([5] : List Nat)), List.forall_mem_cons.2 ⟨fun h => absurd h (by decide : ¬ (13 : Nat) ∈ ([6] : List Nat)), List.forall_mem_cons.2 ⟨fun h => absurd h (by decide : ¬ (13 : Nat) ∈ ([7] : List Nat)), List.forall_mem_cons.2 ⟨fun h => absurd h (by decide : ¬ (13 : Nat) ∈ ([8] : List Nat)), List.forall_mem_cons.2 ⟨fun h => absurd h (by decide : ¬ (13 : Nat) ∈ ([9] : List Nat)), List.forall_mem_cons.2 ⟨fun h => absurd h (by decide : ¬ (13 : Nat) ∈ ([10] : List Nat)), List.forall_mem_cons.2 ⟨fun h => absurd h (by decide : ¬ (13 : Nat) ∈ ([11] : List Nat)), List.forall_mem_cons.2 ⟨fun h => absurd h (by decide : ¬ (13 : Nat) ∈ ([12] : List Nat)), List.forall_mem_cons.2 ⟨fun _ h1 h2 => (⟨g, a7, c7, a8, c8, e12v, hg, hb2, (hd.keepM (ho.mem (.inr rfl))).more Pl.less⟩), List.forall_mem_cons.2 ⟨fun h => absurd h (by decide : ¬ (13 : Nat) ∈ ([7, 12] : List Nat)), List.forall_mem_cons.2 ⟨fun h => absurd h (by decide : ¬ (13 : Nat) ∈ ([8, 12] : List Nat)), List.forall_mem_cons.2 ⟨fun h => absurd h (by decide : ¬ (13 : Nat) ∈ ([9, 12] : List Nat)), List.forall_mem_cons.2 ⟨fun h => absurd h (by decide : ¬ (13 : Nat) ∈ ([10, 12] : List Nat)), List.forall_mem_cons.2 ⟨fun h => absurd h (by decide : ¬ (13 : Nat) ∈ ([9] : List Nat)), fun _ h => by cases h⟩⟩⟩⟩⟩⟩⟩⟩⟩⟩⟩⟩⟩⟩⟩⟩⟩⟩⟩)
    exact trivial
  case tail =>
    intro v w' hx hall
    simp only [List.drop_succ_cons, List.drop_zero, List.take_succ_cons, List.take_zero, putF, Act.put, List.setIfInBounds_toArray, List.set_cons_zero, List.set_cons_succ, Nat.reduceAdd, Nat.zero_add]
    obtain ⟨g7, a7, c7, a8, c8, e12, hg7, hb7, hd7⟩ := (show (fun v w => ∃ g a7 c7 a8 c8, v 12 = .pointer (some ⟨g, 0, none⟩) ∧ w1.heap.size ≤ g ∧ Box w g [.slice a7 z.sectors.length c7, .slice a8 z.pending.length c8, .int .i64 z.left, .bool z.stopped] ∧ Disk S w (.agg #[.slice a7 z.sectors.length c7, .slice a8 z.pending.length c8, .int .i64 z.left, .bool z.stopped]) z) v w' from hall _ (List.Mem.tail _ (List.Mem.tail _ (List.Mem.tail _ (List.Mem.tail _ (List.Mem.tail _ (List.Mem.tail _ (List.Mem.tail _ (List.Mem.tail _ (List.Mem.tail _ (List.Mem.tail _ (List.Mem.tail _ (List.Mem.tail _ (List.Mem.tail _ (List.Mem.head _)))))))))))))) (List.forall_mem_cons.2 ⟨(by decide), List.forall_mem_cons.2 ⟨(by decide), fun _ h => by cases h⟩⟩) (fun _ h => by cases h))
    have e11 : v 11 = .int .i64 0 := hall _ (List.Mem.tail _ (List.Mem.tail _ (List.Mem.tail _ (List.Mem.tail _ (List.Mem.tail _ (List.Mem.tail _ (List.Mem.tail _ (List.Mem.tail _ (List.Mem.tail _ (List.Mem.tail _ (List.Mem.tail _ (List.Mem.head _)))))))))))) (List.forall_mem_cons.2 ⟨(by decide), fun _ h => by cases h⟩) (fun _ h => by cases h)
    simp only [e11, e12]
    have HB7 := Lib.hid hb7; clear hb7
    have HD7 := Lib.hid hd7; clear hd7
    have HX := Lib.hid hx; clear hx
    clear hall e11 e12
    go_wp2_with fail
    exact HQ.out _ _ _ _ _ _ _ _ _ _ _ _ g7 a7 c7 a8 c8 w' hg7 HB7.out HD7.out HX.out
end Go.Proofs.Ytpciankfpagnhaa
