/- A region of Sync of the reference of layer 41. -/
import Derived.Test.YtpciankfpagnhaaD29a
import Derived.Test.YtpciankfpagnhaaD22
import Derived.Deep.RegionHeld3
import Derived.Deep.DrawnRows
namespace Go.Proofs.Ytpciankfpagnhaa
open Go.RowKit
/-- An empty row of the call's own, known by its block. -/
theorem osl_row0 {α : Type} {base : Nat} {e : TypeId} {size : Nat} {E : (Nat → Prop) → World → List Value → α → Prop} {S : Nat → Prop} {w : World} {g : Nat} (hg : w.heap[g]? = some (.cells #[] e (0, 0))) (hb : base ≤ g) (hS : ¬ S g) :
    OSl base e size E S w (.slice (some ⟨g, 0, none⟩) 0 0) [] :=
  ⟨[], ⟨by simp, .inr ⟨g, 0, #[], rfl, hb, hg, Nat.le_refl _, Nat.zero_le _, by simp, by simp⟩⟩, by simp [Value.ownBlock]; exact hS, by simp⟩

section
variable {P : Program} {w : World}
theorem step_store_box {ops : Array Oper} {o : Oper} {a : Act} {K : Act → World → Prop} {Q : Exit → Act → World → Prop} {F : Prop} (hgd : o.guard = none) (ty : TypeId) (x y : Operand) (ho : o.op = .store ty x y) (B : Nat) (cells old : List Value)
    (hx : a.eval x = .pointer (some ⟨B, 0, none⟩)) (hy : a.eval y = .agg cells.toArray) (hb : Box w B old) (hi : (P.info? ty).map (·.size) = some cells.length) (hl : old.length = cells.length) (h1 : cells.all (·.oneCell') = true)
    (h : ∀ w', Box w' B cells → Only B w w' → K (a.put o.dst undef) w') : if Region.wanted o (yielded ops a.tmps) = true then Oper.wp P o a w K Q else F := by
  have hw : Region.wanted o (yielded ops a.tmps) = true := by simp [Region.wanted, hgd]
  rw [if_pos hw]
  exact wp_store_box ty x y ho B cells old hx hy hb hi hl h1 h
end

/-- S, and one block more. -/
def Pl (S : Nat → Prop) (G : Nat) (k : Nat) : Prop := S k ∨ k = G
theorem row0_facts {S : Nat → Prop} {w1 W : World} {g G : Nat} {va : Value} {ss : List (List UInt8)} (hg : W.heap[g]? = some (.cells #[] 35 (0, 0))) (hx : Ext w1 W) (hgG : g ≠ G) (hG : G < W.heap.size) (hw : w1.heap.size ≤ g)
    (hS : ∀ k, S k → k < w1.heap.size) (h : Bss S w1 va ss) (hG2 : S G ∨ w1.heap.size ≤ G) :
    OSl w1.heap.size 35 1 eBs (Pl S G) W (.slice (some ⟨g, 0, none⟩) 0 0) [] ∧ Bss (Wo (Pl S G) (.slice (some ⟨g, 0, none⟩) 0 0)) W va ss ∧ ∀ k, Pl S G k → k < W.heap.size := by
  refine ⟨osl_row0 hg hw (fun h => ?_), ?_, fun k hk => ?_⟩
  · rcases h with h | h
    · have := hS _ h; omega
    · exact hgG h
  · refine (h.more etBs (S' := Wo (Pl S G) (.slice (some ⟨g, 0, none⟩) 0 0)) (fun k hk => ?_)).keepM etBs (hx.mem _)
    rcases hk with (hk | hk) | hk
    · exact .inl hk
    · subst hk; exact hG2
    · simp [Value.ownBlock] at hk; exact .inr (by omega)
  · rcases hk with hk | hk
    · exact Nat.lt_of_lt_of_le (hS _ hk) hx.size
    · subst hk; exact hG


theorem row0_facts0 {S : Nat → Prop} {w1 W : World} {g : Nat} {va : Value} {ss : List (List UInt8)} (hg : W.heap[g]? = some (.cells #[] 35 (0, 0))) (hx : Ext w1 W) (hw : w1.heap.size ≤ g)
    (hS : ∀ k, S k → k < w1.heap.size) (h : Bss S w1 va ss) :
    OSl w1.heap.size 35 1 eBs S W (.slice (some ⟨g, 0, none⟩) 0 0) [] ∧ Bss (Wo S (.slice (some ⟨g, 0, none⟩) 0 0)) W va ss ∧ ∀ k, S k → k < W.heap.size := by
  refine ⟨osl_row0 hg hw (fun h => ?_), ?_, fun k hk => Nat.lt_of_lt_of_le (hS _ hk) hx.size⟩
  · have := hS _ h; omega
  · refine (h.more etBs (S' := Wo S (.slice (some ⟨g, 0, none⟩) 0 0)) (fun k hk => ?_)).keepM etBs (hx.mem _)
    rcases hk with hk | hk
    · exact .inl hk
    · simp [Value.ownBlock] at hk; exact .inr (by omega)
attribute [local go_sem ↓] Go.wp_at_zero Go.wp_at_succ
noncomputable def reg31_7c : Code := ((Try.f31.body.bind (regionOf 7)).getD .skip)

set_option maxRecDepth 100000 in
set_option maxHeartbeats 4000000 in
theorem reg31_7 {Q : Exit → Act → World → Prop} {S : Nat → Prop} (t0 t2 t3 t4 t5 t6 t7 t8 t9 t10 t11 t12 t13 t14 t15 t16 t17 t18 t19 t20 t21 t22 t23 t24 t25 t26 t27 t28 t29 t30 t31 t32 t33 t34 t35 t36 t37 t38 t39 t40 t41 t42 t43 t44 t45 t46 t47 t48 t49 t50 t51 t52 t53 t54 t55 t56 t57 t58 t59 t60 t61 t62 t63 t64 t65 t66 t67 t68 t69 t70 t71 t72 t73 t74 t75 t76 t77 t78 t79 t80 t81 t82 t83 t84 t85 t86 t87 t88 t89 t90 t91 t92 t93 t94 : Value) (w1 : World) (g1 : Nat) (a : Option Addr) (c : Nat) (ss : List (List UInt8)) (vp vs : Value) (le : Int)
    (hB : Box w1 g1 [.slice a ss.length c, vp, .int .i64 le, vs]) (hss : Bss S w1 (.slice a ss.length c) ss) (hS : ∀ k, S k → k < w1.heap.size) (hsec : ss.length ≤ 4096)
    (hQ : ∀ (u32 u33 u34 u35 u36 u37 u38 : Value) (g6 : Nat) (a9 : Option Addr) (c9 : Nat) (wx : World), ss.length ≤ c9 → c9 ≤ 9223372036854775807 → w1.heap.size ≤ g6 → Box wx g6 [.slice a9 ss.length c9, .slice none 0 0, .int .i64 le, .bool false] → OSl w1.heap.size 35 1 eBs (Pl S g6) wx (.slice a9 ss.length c9) ss → Ext w1 wx → Q .normal ⟨#[t0, .pointer (some ⟨g1, 0, none⟩), t2, t3, t4, t5, .pointer (some ⟨g6, 0, none⟩), t7, t8, t9, t10, t11, t12, t13, t14, t15, t16, t17, t18, t19, t20, t21, t22, t23, t24, t25, t26, t27, t28, t29, t30, t31, u32, u33, u34, u35, u36, u37, u38, t39, t40, t41, t42, t43, t44, t45, t46, t47, t48, t49, t50, t51, t52, t53, t54, t55, t56, t57, t58, t59, t60, t61, t62, t63, t64, t65, t66, t67, t68, t69, t70, t71, t72, t73, t74, t75, t76, t77, t78, t79, t80, t81, t82, t83, t84, t85, t86, t87, t88, t89, t90, t91, t92, t93, t94], []⟩ wx) :
    Code.wp Try.prog reg31_7c Q ⟨#[t0, .pointer (some ⟨g1, 0, none⟩), t2, t3, t4, t5, t6, t7, t8, t9, t10, t11, t12, t13, t14, t15, t16, t17, t18, t19, t20, t21, t22, t23, t24, t25, t26, t27, t28, t29, t30, t31, t32, t33, t34, t35, t36, t37, t38, t39, t40, t41, t42, t43, t44, t45, t46, t47, t48, t49, t50, t51, t52, t53, t54, t55, t56, t57, t58, t59, t60, t61, t62, t63, t64, t65, t66, t67, t68, t69, t70, t71, t72, t73, t74, t75, t76, t77, t78, t79, t80, t81, t82, t83, t84, t85, t86, t87, t88, t89, t90, t91, t92, t93, t94], []⟩ w1 := by
  conv => arg 2; whnf
  have HQ := Lib.hid hQ; clear hQ
  have hs0 : g1 < w1.heap.size := hB.lt
  obtain ⟨c00, c01, c02, c03, -, -, -, -⟩ := hB.four
  have hG : ¬ S w1.heap.size := fun h => Nat.lt_irrefl _ (hS _ h)
  have FA := Lib.hid (row0_facts0 (W := (w1.alloc (.cells #[] 35)).drew) (g := w1.heap.size) (heap_alloc_new w1 _) ((Ext.refl w1).alloc _).drew (Nat.le_refl _) hS hss)
  have FB := Lib.hid (row0_facts (W := ((w1.alloc (.cells #[] 35)).alloc (.cells #[.slice none 0 0, .slice none 0 0, .int .i64 0, .bool false] 25)).drew) (g := w1.heap.size) (G := w1.heap.size + 1) (heap_prev w1 _ _) (((Ext.refl w1).alloc _).alloc _).drew (by omega) (by simp) (Nat.le_refl _) hS hss (.inr (by omega)))
  have FC := Lib.hid (row0_facts (W := ((w1.alloc (.cells #[.slice none 0 0, .slice none 0 0, .int .i64 0, .bool false] 25)).alloc (.cells #[] 35)).drew) (g := w1.heap.size + 1) (G := w1.heap.size) (heap_next w1 _ _) (((Ext.refl w1).alloc _).alloc _).drew (by omega) (by simp; omega) (by omega) hS hss (.inr (Nat.le_refl _)))
  have KB := Lib.hid (fun (W w9 : World) (hX : Ext w1 W) (g : Nat) (hge : w1.heap.size ≤ g) (hg : W.grownBy w9 (some g)) => (hB.keep hX).grown hg (fun h => by cases h; omega))
  have HSS := Lib.hid hss; clear hss
  have HB := Lib.hid hB; clear hB
  have HS := Lib.hid hS; clear hS
  have hne1 : ¬ g1 = w1.heap.size + 1 := by omega
  have hne2 : ¬ w1.heap.size + 1 = g1 := by omega
  have hne3 : ¬ g1 = w1.heap.size := by omega
  have hne4 : ¬ w1.heap.size = g1 := by omega
  go_region_held3 (fun w' : World => w'.cell? ⟨g1, 0, none⟩ = some (.slice a ss.length c) ∧ w'.cell? ⟨g1, 2, none⟩ = some (.int .i64 le)) ((refine ⟨Ext.cell ?_ c00, Ext.cell ?_ c02⟩) <;> (repeat (first | exact Ext.refl _ | assumption | refine Ext.drew ?_ | refine Ext.alloc ?_ _ | refine Ext.setCell ?_ (by first | (simp; done) | omega) _)))
    (first
     | (refine step_append_osl atBs etBs rfl _ _ rfl w1.heap.size _ _ [] ss rfl rfl FA.out.1 FA.out.2.1 FA.out.2.2 (by simp; omega) (by simp; omega) (by simp) ?_; intro v9 w9 hv9 hg8; rw [List.nil_append] at hv9; have hg9 : World.grownBy _ w9 (some w1.heap.size) := hg8; clear hg8; obtain ⟨a9, c9, rfl, hc9, hm9⟩ := (hv9.sl etBs).open; have hk9 := (KB.out _ w9 (((Ext.refl w1).alloc _).drew) _ (Nat.le_refl _) hg9); obtain ⟨g00, _, g02, _, _, _, _, _⟩ := hk9.four;  have HV9 := Lib.hid hv9; have hx9 : Ext w1 w9 := Ext.grown (((Ext.refl w1).alloc _).drew) hg9 (fun k hk => by cases hk; first | exact Nat.le_refl _ | exact Nat.le_succ _); clear hk9 hv9 hg9 FA FB FC)
     | (refine step_append_osl atBs etBs rfl _ _ rfl w1.heap.size _ _ [] ss rfl rfl FB.out.1 FB.out.2.1 FB.out.2.2 (by simp; omega) (by simp; omega) (by simp; omega) ?_; intro v9 w9 hv9 hg8; rw [List.nil_append] at hv9; have hg9 : World.grownBy _ w9 (some w1.heap.size) := hg8; clear hg8; obtain ⟨a9, c9, rfl, hc9, hm9⟩ := (hv9.sl etBs).open; have hk9 := (KB.out _ w9 ((((Ext.refl w1).alloc _).alloc _).drew) _ (Nat.le_refl _) hg9); obtain ⟨g00, _, g02, _, _, _, _, _⟩ := hk9.four; have zb := (Box.at (w := w1.alloc (.cells #[] 35)) (cs := [.slice none 0 0, .slice none 0 0, .int .i64 0, .bool false]) (t := 25) (b := w1.heap.size + 1) (by simp)).drew.grown hg9 (by simp); have ZB := Lib.hid zb; clear zb; obtain ⟨z0, z1, z2, z3, z4, z5, z6, z7⟩ := ZB.out.four; have HV9 := Lib.hid hv9; have hx9 : Ext w1 w9 := Ext.grown ((((Ext.refl w1).alloc _).alloc _).drew) hg9 (fun k hk => by cases hk; first | exact Nat.le_refl _ | exact Nat.le_succ _); clear hk9 hv9 hg9 FA FB FC)
     | (refine step_append_osl atBs etBs rfl _ _ rfl w1.heap.size _ _ [] ss rfl rfl FC.out.1 FC.out.2.1 FC.out.2.2 (by simp; omega) (by simp; omega) (by simp; omega) ?_; intro v9 w9 hv9 hg8; rw [List.nil_append] at hv9; have hg9 : World.grownBy _ w9 (some (w1.heap.size + 1)) := hg8; clear hg8; obtain ⟨a9, c9, rfl, hc9, hm9⟩ := (hv9.sl etBs).open; have hk9 := (KB.out _ w9 ((((Ext.refl w1).alloc _).alloc _).drew) _ (Nat.le_succ _) hg9); obtain ⟨g00, _, g02, _, _, _, _, _⟩ := hk9.four; have zb := ((Box.new w1 [.slice none 0 0, .slice none 0 0, .int .i64 0, .bool false] 25).past (.cells #[] 35)).drew.grown hg9 (by simp); have ZB := Lib.hid zb; clear zb; obtain ⟨z0, z1, z2, z3, z4, z5, z6, z7⟩ := ZB.out.four; have HV9 := Lib.hid hv9; have hx9 : Ext w1 w9 := Ext.grown ((((Ext.refl w1).alloc _).alloc _).drew) hg9 (fun k hk => by cases hk; first | exact Nat.le_refl _ | exact Nat.le_succ _); clear hk9 hv9 hg9 FA FB FC))
  · exact HQ.out _ _ _ _ _ _ _ w9.heap.size a9 c9 _ hc9 hm9 hx9.size (Box.new w9 _ _) ((HV9.out.more etBs (S' := Pl S w9.heap.size) (fun k hk => by rcases hk with hk | hk; exact .inl hk; exact .inr (by omega))).keep etBs ((Ext.refl _).alloc _)) (hx9.alloc _)
  · generalize hW : World.setCell _ _ _ = w10
    obtain ⟨hb10, ho⟩ := box_set4 ZB.out hW
    exact HQ.out _ _ _ _ _ _ _ _ a9 c9 _ hc9 hm9 (by omega) hb10 (HV9.out.keepM etBs (ho.mem (.inr rfl))) (ho.ext hx9 (by omega))
  · generalize hW : World.setCell _ _ _ = w10
    obtain ⟨hb10, ho⟩ := box_set4 ZB.out hW
    exact HQ.out _ _ _ _ _ _ _ _ a9 c9 _ hc9 hm9 (by omega) hb10 (HV9.out.keepM etBs (ho.mem (.inr rfl))) (ho.ext hx9 (by omega))
end Go.Proofs.Ytpciankfpagnhaa
