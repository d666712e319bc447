/- Two regions of the law DiskTogether. -/
import Derived.Test.YtpciankfpagnhaaM6
import Derived.Deep.RegionHeld3
import Derived.Deep.DrawnRows
namespace Go.Proofs.Ytpciankfpagnhaa
open Go.RowKit

/-- The region with a number. -/
def regionOf (n : Nat) : Code → Option Code
  | .region id ops d => if id = n then some (.region id ops d) else none
  | .seq a b => match regionOf n a with
    | some c => some c
    | none => regionOf n b
  | .cond _ a b => match regionOf n a with
    | some c => some c
    | none => regionOf n b
  | .loop c => regionOf n c
  | .block _ c => regionOf n c
  | .scope c => regionOf n c
  | .rangeFunc _ _ a b => match regionOf n a with
    | some c => some c
    | none => regionOf n b
  | _ => none

/-- S, and all new blocks but one. -/
def Ot (S : Nat → Prop) (lo hi g k : Nat) : Prop := S k ∨ (k < hi ∧ lo ≤ k ∧ k ≠ g)
theorem Ot.lt {S : Nat → Prop} {lo hi g : Nat} (h : ∀ k, S k → k < hi) : ∀ k, Ot S lo hi g k → k < hi := fun k hk => hk.elim (h k) (·.1)
theorem Ot.more {S : Nat → Prop} {w : World} {hi g : Nat} : ∀ k, Ot S w.heap.size hi g k → S k ∨ w.heap.size ≤ k := fun _ h => h.imp id (·.2.1)
theorem Ot.less {S : Nat → Prop} {w : World} {lo hi g : Nat} : ∀ k, S k → Ot S lo hi g k ∨ w.heap.size ≤ k := fun _ h => .inl (.inl h)
/-- The box that was made ahead of the call takes the call's result. -/
theorem ot_box {S : Nat → Prop} {wq W w6 w10 : World} {g G : Nat} {y0 y1 y2 y3 : Value} {a7 : Option Addr} {c7 : Nat} {a8 : Option Addr} {c8 : Nat} {z : Dk} (hd : Disk (Ot S wq.heap.size W.heap.size g) w6 (.agg #[.slice a7 z.sectors.length c7, .slice a8 z.pending.length c8, .int .i64 z.left, .bool z.stopped]) z)
    (hb : Box W G [y0, y1, y2, y3]) (hx0 : Ext wq W) (hx : Ext W w6) (hG : wq.heap.size ≤ G) (hne : G ≠ g)
    (hW : (((w6.setCell ⟨G, 0, none⟩ (.slice a7 z.sectors.length c7)).setCell ⟨G, 1, none⟩ (.slice a8 z.pending.length c8)).setCell ⟨G, 2, none⟩ (.int .i64 z.left)).setCell ⟨G, 3, none⟩ (.bool z.stopped) = w10) :
    Box w10 G [.slice a7 z.sectors.length c7, .slice a8 z.pending.length c8, .int .i64 z.left, .bool z.stopped] ∧ Disk S w10 (.agg #[.slice a7 z.sectors.length c7, .slice a8 z.pending.length c8, .int .i64 z.left, .bool z.stopped]) z ∧ Ext wq w10 := by
  obtain ⟨hb10, ho⟩ := box_set4 (hb.keep hx) hW
  exact ⟨hb10, (hd.keepM (ho.mem (.inr ⟨hb.lt, hG, hne⟩))).more Ot.less, ho.ext (hx0.trans hx) hG⟩
theorem heap_prev (w : World) (o p : Obj) : ((w.alloc o).alloc p).heap[w.heap.size]? = some o := (Below.heap_alloc _ _ _ (by simp)).trans (heap_alloc_new _ _)
theorem heap_next (w : World) (o p : Obj) : ((w.alloc p).alloc o).heap[w.heap.size + 1]? = some o := by have := heap_alloc_new (w.alloc p) o; rwa [World.size_alloc] at this
attribute [local go_sem ↓] Go.wp_at_zero Go.wp_at_succ

noncomputable def reg8_11c : Code := ((Try.f8.body.bind (regionOf 11)).getD .skip)
set_option maxRecDepth 100000 in
set_option maxHeartbeats 8000000 in
theorem reg8_11 {Q : Exit → Act → World → Prop} {S : Nat → Prop} (t0 t2 t3 t4 t6 t7 t10 t11 t12 t13 t14 t15 t16 t17 t18 t19 t20 t21 t22 t23 t24 t25 t26 t27 t28 t29 t30 t31 t32 t33 t34 t35 t36 t37 t38 t39 t40 t41 t42 t43 t44 t45 t46 t47 t48 t49 t50 t51 t52 t53 t54 t55 t56 t57 t58 t59 t60 t61 t62 t63 t64 t65 t66 t67 t68 t69 t70 t71 t72 t73 t74 t75 t76 t77 t78 t79 t80 t81 t82 t83 t84 t85 t86 t87 t88 t89 t90 t91 t92 t93 t94 t95 t96 t97 t98 t99 t100 t101 t102 t103 t104 t105 t106 t107 t108 t109 t110 t111 t112 t113 t114 t115 t116 t117 t118 t119 t120 t121 t122 t123 t124 t125 t126 t127 t128 t129 t130 : Value) (wq : World) (g5 : Nat) (a5 : Option Addr) (c5 : Nat) (a6 : Option Addr) (c6 : Nat) (x z : Dk) (bb oo k n c3 : Nat) (ac : Ac) (atv : Int)
    (hB : Box wq g5 [.slice a5 x.sectors.length c5, .slice a6 x.pending.length c6, .int .i64 x.left, .bool x.stopped]) (hD : Disk S wq (.agg #[.slice a5 x.sectors.length c5, .slice a6 x.pending.length c6, .int .i64 x.left, .bool x.stopped]) x) (hS : ∀ k, S k → k < wq.heap.size)
    (hk : k < n) (y2 : wq.cell? ⟨bb, oo + k * 3 + 2, none⟩ = some (.int .u8 (ac.byte.toNat : Int)))
    (hz : writeD x (atv) [ac.byte] = (z, 0))
    (hQ : ∀ (u70 u71 u72 u73 u74 u75 u76 u77 u78 u69 u79 u80 : Value) (g7 : Nat) (a7 : Option Addr) (c7 : Nat) (a8 : Option Addr) (c8 : Nat) (wx : World), wq.heap.size ≤ g7 → Box wx g7 [.slice a7 z.sectors.length c7, .slice a8 z.pending.length c8, .int .i64 z.left, .bool z.stopped] → Disk S wx (.agg #[.slice a7 z.sectors.length c7, .slice a8 z.pending.length c8, .int .i64 z.left, .bool z.stopped]) z → Ext wq wx → Q .normal ⟨#[t0, .slice (some ⟨bb, oo, none⟩) n c3, t2, t3, t4, .pointer (some ⟨g5, 0, none⟩), t6, t7, .int .i64 (k : Int), .int .i64 atv, .pointer (some ⟨g7, 0, none⟩), .int .i64 0, t12, t13, t14, t15, t16, t17, t18, t19, t20, t21, t22, t23, t24, t25, t26, t27, t28, t29, t30, t31, t32, t33, t34, t35, t36, t37, t38, t39, t40, t41, t42, t43, t44, t45, t46, t47, t48, t49, t50, t51, t52, t53, t54, t55, t56, t57, t58, t59, t60, t61, t62, t63, t64, t65, t66, t67, t68, u69, u70, u71, u72, u73, u74, u75, u76, u77, u78, u79, u80, t81, t82, t83, t84, t85, t86, t87, t88, t89, t90, t91, t92, t93, t94, t95, t96, t97, t98, t99, t100, t101, t102, t103, t104, t105, t106, t107, t108, t109, t110, t111, t112, t113, t114, t115, t116, t117, t118, t119, t120, t121, t122, t123, t124, t125, t126, t127, t128, t129, t130], []⟩ wx) :
    Code.wp Try.prog reg8_11c Q ⟨#[t0, .slice (some ⟨bb, oo, none⟩) n c3, t2, t3, t4, .pointer (some ⟨g5, 0, none⟩), t6, t7, .int .i64 (k : Int), .int .i64 atv, t10, t11, t12, t13, t14, t15, t16, t17, t18, t19, t20, t21, t22, t23, t24, t25, t26, t27, t28, t29, t30, t31, t32, t33, t34, t35, t36, t37, t38, t39, t40, t41, t42, t43, t44, t45, t46, t47, t48, t49, t50, t51, t52, t53, t54, t55, t56, t57, t58, t59, t60, t61, t62, t63, t64, t65, t66, t67, t68, t69, t70, t71, t72, t73, t74, t75, t76, t77, t78, t79, t80, t81, t82, t83, t84, t85, t86, t87, t88, t89, t90, t91, t92, t93, t94, t95, t96, t97, t98, t99, t100, t101, t102, t103, t104, t105, t106, t107, t108, t109, t110, t111, t112, t113, t114, t115, t116, t117, t118, t119, t120, t121, t122, t123, t124, t125, t126, t127, t128, t129, t130], []⟩ wq := by
  conv => arg 2; whnf
  have K0 : Hid (∀ (W : World) (g : Nat), Ext wq W → wq.heap.size ≤ g → W.heap[g]? = some (.cells #[.int .u8 (ac.byte.toNat : Int)] 5 (0, 0)) → Calls Try.prog 26 #[.agg #[.slice a5 x.sectors.length c5, .slice a6 x.pending.length c6, .int .i64 x.left, .bool x.stopped], .int .i64 (atv), .slice (some ⟨g, 0, none⟩) 1 1] W (DiskErr (Ot S wq.heap.size W.heap.size g) W (z, 0))) := Lib.hid fun W g hx hge hg => by
    have := write_ok (S := Ot S wq.heap.size W.heap.size g) W _ x (atv) (.slice (some ⟨g, 0, none⟩) 1 1) [ac.byte] ((hD.more Ot.more).keepM (hx.mem _)) (Bs.whole (l := [ac.byte]) hg (fun h => by rcases h with h | h; exact absurd (hS g h) (by omega); exact h.2.2 rfl) rfl (Nat.le_refl _) (by decide)) (Ot.lt fun k hk => Nat.lt_of_lt_of_le (hS k hk) hx.size)
    rw [hz] at this; exact this
  have HQ := Lib.hid hQ; clear hQ
  have HB := Lib.hid hB; clear hB
  have HD := Lib.hid hD; clear hD
  have HS := Lib.hid hS; clear hS
  have HZ := Lib.hid hz; clear hz
  obtain ⟨d0, d1, d2, d3, -, -, -, -⟩ := HB.out.four
  have hi1 : (k : Int) < n := by omega
  have hi0 : (0 : Int) ≤ k := by omega
  have hby : ac.byte.toNat < 256 := ac.byte.toNat_lt
  clear hk
  go_region_held3 (fun w' : World => Ext wq w' ∧  w'.cell? ⟨g5, 0, none⟩ = some (.slice a5 x.sectors.length c5) ∧ w'.cell? ⟨g5, 1, none⟩ = some (.slice a6 x.pending.length c6) ∧ w'.cell? ⟨g5, 2, none⟩ = some (.int .i64 x.left) ∧ w'.cell? ⟨g5, 3, none⟩ = some (.bool x.stopped) ∧ w'.cell? ⟨bb, oo + k * 3 + 2, none⟩ = some (.int .u8 (ac.byte.toNat : Int)))
    ((refine ⟨?_,  Ext.cell ?_ d0, Ext.cell ?_ d1, Ext.cell ?_ d2, Ext.cell ?_ d3, Ext.cell ?_ y2⟩) <;> (repeat (first | exact Ext.refl _ | assumption | refine Ext.drew ?_ | refine Ext.alloc ?_ _ | refine Ext.setCell ?_ (by first | (simp; done) | omega | (simp; omega)) _)))
    (first | (go_at_call 26; (refine (K0.out _ _ (And.left ‹Ext wq _ ∧ _›) (by first | exact Nat.le_refl _ | exact Nat.le_succ _) (by first | exact heap_alloc_new _ _ | exact heap_prev _ _ _ | exact heap_next _ _ _)).mono ?_; rintro e w6 ⟨v6, rfl, hd6, hx6⟩; obtain ⟨a7, c7, a8, c8, rfl, _, _, _, _, _, _⟩ := hd6.open; have hxx : Ext wq w6 := Ext.trans (And.left ‹Ext wq _ ∧ _›) hx6; have hcc := fun b o h => Ext.cellEq hx6 (b := b) (o := o) h; have hff := fun b o h => Ext.frozenEq hx6 (b := b) (o := o) h; have hzz := hx6.size)))
  all_goals try clear hcc hff
  · exact HQ.out _ _ _ _ _ _ _ _ _ _ _ _ w6.heap.size a7 c7 a8 c8 _ hxx.size (Box.new w6 _ _) ((hd6.more Ot.less).keep ((Ext.refl _).alloc _)) (hxx.alloc _)
  · generalize hW : World.setCell _ _ _ = w10
    obtain ⟨k1, k2, k3⟩ := ot_box hd6 (Box.at (b := wq.heap.size + 1) (by simp)).drew (((Ext.refl _).alloc _).alloc _).drew hx6 (by omega) (by omega) hW
    exact HQ.out _ _ _ _ _ _ _ _ _ _ _ _ _ a7 c7 a8 c8 _ (by omega) k1 k2 k3
  · generalize hW : World.setCell _ _ _ = w10
    obtain ⟨k1, k2, k3⟩ := ot_box hd6 ((Box.new wq _ _).past _).drew (((Ext.refl _).alloc _).alloc _).drew hx6 (by omega) (by omega) hW
    exact HQ.out _ _ _ _ _ _ _ _ _ _ _ _ _ a7 c7 a8 c8 _ (by omega) k1 k2 k3

end Go.Proofs.Ytpciankfpagnhaa
