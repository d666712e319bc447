/- A region of Sync of the reference of layer 41. -/
import Derived.Test.YtpciankfpagnhaaD29a
import Derived.Test.YtpciankfpagnhaaD19
import Derived.Deep.RegionHeld3
import Derived.Deep.DrawnRows
import Derived.Test.YtpciankfpagnhaaM8
namespace Go.Proofs.Ytpciankfpagnhaa
open Go.RowKit
/-- An empty row of the call's own, known by its block. -/
theorem osl_row0 {α : Type} {base : Nat} {e : TypeId} {size : Nat} {E : (Nat → Prop) → World → List Value → α → Prop} {S : Nat → Prop} {w : World} {g : Nat} (hg : w.heap[g]? = some (.cells #[] e (0, 0))) (hb : base ≤ g) (hS : ¬ S g) :
    OSl base e size E S w (.slice (some ⟨g, 0, none⟩) 0 0) [] :=
  ⟨[], ⟨by simp, .inr ⟨g, 0, #[], rfl, hb, hg, Nat.le_refl _, Nat.zero_le _, by simp, by simp⟩⟩, by simp [Value.ownBlock]; exact hS, by simp⟩

section
variable {P : Program} {w : World}
theorem step_store_box {ops : Array Oper} {o : Oper} {a : Act} {K : Act → World → Prop} {Q : Exit → Act → World → Prop} {F : Prop} (hgd : o.guard = none) (ty : TypeId) (x y : Operand) (ho : o.op = .store ty x y) (B : Nat) (cells old : List Value)
    (hx : a.eval x = .pointer (some ⟨B, 0, none⟩)) (hy : a.eval y = .agg cells.toArray) (hb : Box w B old) (hi : (P.info? ty).map (·.size) = some cells.length) (hl : old.length = cells.length) (h1 : cells.all (·.oneCell') = true)
    (h : ∀ w', Box w' B cells → Only B w w' → K (a.put o.dst undef) w') : if Region.wanted o (yielded ops a.tmps) = true then Oper.wp P o a w K Q else F := by
  have hw : Region.wanted o (yielded ops a.tmps) = true := by simp [Region.wanted, hgd]
  rw [if_pos hw]
  exact wp_store_box ty x y ho B cells old hx hy hb hi hl h1 h
end

/-- S, and one block more. -/
def Pl (S : Nat → Prop) (G : Nat) (k : Nat) : Prop := S k ∨ k = G
theorem row0_facts {S : Nat → Prop} {w1 W : World} {g G : Nat} {va : Value} {ss : List (List UInt8)} (hg : W.heap[g]? = some (.cells #[] 35 (0, 0))) (hx : Ext w1 W) (hgG : g ≠ G) (hG : G < W.heap.size) (hw : w1.heap.size ≤ g)
    (hS : ∀ k, S k → k < w1.heap.size) (h : Bss S w1 va ss) (hG2 : S G ∨ w1.heap.size ≤ G) :
    OSl w1.heap.size 35 1 eBs (Pl S G) W (.slice (some ⟨g, 0, none⟩) 0 0) [] ∧ Bss (Wo (Pl S G) (.slice (some ⟨g, 0, none⟩) 0 0)) W va ss ∧ ∀ k, Pl S G k → k < W.heap.size := by
  refine ⟨osl_row0 hg hw (fun h => ?_), ?_, fun k hk => ?_⟩
  · rcases h with h | h
    · have := hS _ h; omega
    · exact hgG h
  · refine (h.more etBs (S' := Wo (Pl S G) (.slice (some ⟨g, 0, none⟩) 0 0)) (fun k hk => ?_)).keepM etBs (hx.mem _)
    rcases hk with (hk | hk) | hk
    · exact .inl hk
    · subst hk; exact hG2
    · simp [Value.ownBlock] at hk; exact .inr (by omega)
  · rcases hk with hk | hk
    · exact Nat.lt_of_lt_of_le (hS _ hk) hx.size
    · subst hk; exact hG


theorem row0_facts0 {S : Nat → Prop} {w1 W : World} {g : Nat} {va : Value} {ss : List (List UInt8)} (hg : W.heap[g]? = some (.cells #[] 35 (0, 0))) (hx : Ext w1 W) (hw : w1.heap.size ≤ g)
    (hS : ∀ k, S k → k < w1.heap.size) (h : Bss S w1 va ss) :
    OSl w1.heap.size 35 1 eBs S W (.slice (some ⟨g, 0, none⟩) 0 0) [] ∧ Bss (Wo S (.slice (some ⟨g, 0, none⟩) 0 0)) W va ss ∧ ∀ k, S k → k < W.heap.size := by
  refine ⟨osl_row0 hg hw (fun h => ?_), ?_, fun k hk => Nat.lt_of_lt_of_le (hS _ hk) hx.size⟩
  · have := hS _ h; omega
  · refine (h.more etBs (S' := Wo S (.slice (some ⟨g, 0, none⟩) 0 0)) (fun k hk => ?_)).keepM etBs (hx.mem _)
    rcases hk with hk | hk
    · exact .inl hk
    · simp [Value.ownBlock] at hk; exact .inr (by omega)
attribute [local go_sem ↓] Go.wp_at_zero Go.wp_at_succ
noncomputable def reg31_7c : Code := ((Try.f31.body.bind (regionOf 7)).getD .skip)

set_option maxRecDepth 100000 in
set_option maxHeartbeats 4000000 in
theorem reg31_7 {Q : Exit → Act → World → Prop} {S : Nat → Prop} (t0 t2 t3 t4 t5 t6 t7 t8 t9 t10 t11 t12 t13 t14 t15 t16 t17 t18 t19 t20 t21 t22 t23 t24 t25 t26 t27 t28 t29 t30 t31 t32 t33 t34 t35 t36 t37 t38 t39 t40 t41 t42 t43 t44 t45 t46 t47 t48 t49 t50 t51 t52 t53 t54 t55 t56 t57 t58 t59 t60 t61 t62 t63 t64 t65 t66 t67 t68 t69 t70 t71 t72 t73 t74 t75 t76 t77 t78 t79 t80 t81 t82 t83 t84 t85 t86 t87 t88 t89 t90 t91 t92 t93 t94 : Value) (w1 : World) (g1 : Nat) (a : Option Addr) (c : Nat) (ss : List (List UInt8)) (vp vs : Value) (le : Int)
    (hB : Box w1 g1 [.slice a ss.length c, vp, .int .i64 le, vs]) (hss : Bss S w1 (.slice a ss.length c) ss) (hS : ∀ k, S k → k < w1.heap.size) (hsec : ss.length ≤ 4096)
    (hQ : ∀ (u32 u33 u34 u35 u36 u37 u38 : Value) (g6 : Nat) (a9 : Option Addr) (c9 : Nat) (wx : World), ss.length ≤ c9 → c9 ≤ 9223372036854775807 → w1.heap.size ≤ g6 → Box wx g6 [.slice a9 ss.length c9, .slice none 0 0, .int .i64 le, .bool false] → OSl w1.heap.size 35 1 eBs (Pl S g6) wx (.slice a9 ss.length c9) ss → Ext w1 wx → Q .normal ⟨#[t0, .pointer (some ⟨g1, 0, none⟩), t2, t3, t4, t5, .pointer (some ⟨g6, 0, none⟩), t7, t8, t9, t10, t11, t12, t13, t14, t15, t16, t17, t18, t19, t20, t21, t22, t23, t24, t25, t26, t27, t28, t29, t30, t31, u32, u33, u34, u35, u36, u37, u38, t39, t40, t41, t42, t43, t44, t45, t46, t47, t48, t49, t50, t51, t52, t53, t54, t55, t56, t57, t58, t59, t60, t61, t62, t63, t64, t65, t66, t67, t68, t69, t70, t71, t72, t73, t74, t75, t76, t77, t78, t79, t80, t81, t82, t83, t84, t85, t86, t87, t88, t89, t90, t91, t92, t93, t94], []⟩ wx) :
    Code.wp Try.prog reg31_7c Q ⟨#[t0, .pointer (some ⟨g1, 0, none⟩), t2, t3, t4, t5, t6, t7, t8, t9, t10, t11, t12, t13, t14, t15, t16, t17, t18, t19, t20, t21, t22, t23, t24, t25, t26, t27, t28, t29, t30, t31, t32, t33, t34, t35, t36, t37, t38, t39, t40, t41, t42, t43, t44, t45, t46, t47, t48, t49, t50, t51, t52, t53, t54, t55, t56, t57, t58, t59, t60, t61, t62, t63, t64, t65, t66, t67, t68, t69, t70, t71, t72, t73, t74, t75, t76, t77, t78, t79, t80, t81, t82, t83, t84, t85, t86, t87, t88, t89, t90, t91, t92, t93, t94], []⟩ w1 := by
  conv => arg 2; whnf
  have HQ := Lib.hid hQ; clear hQ
  have hs0 : g1 < w1.heap.size := hB.lt
  obtain ⟨c00, c01, c02, c03, -, -, -, -⟩ := hB.four
  have hG : ¬ S w1.heap.size := fun h => Nat.lt_irrefl _ (hS _ h)
  have FA := Lib.hid (row0_facts0 (W := (w1.alloc (.cells #[] 35)).drew) (g := w1.heap.size) (heap_alloc_new w1 _) ((Ext.refl w1).alloc _).drew (Nat.le_refl _) hS hss)
  have FB := Lib.hid (row0_facts (W := ((w1.alloc (.cells #[] 35)).alloc (.cells #[.slice none 0 0, .slice none 0 0, .int .i64 0, .bool false] 25)).drew) (g := w1.heap.size) (G := w1.heap.size + 1) (heap_prev w1 _ _) (((Ext.refl w1).alloc _).alloc _).drew (by omega) (by simp) (Nat.le_refl _) hS hss (.inr (by omega)))
  have FC := Lib.hid (row0_facts (W := ((w1.alloc (.cells #[.slice none 0 0, .slice none 0 0, .int .i64 0, .bool false] 25)).alloc (.cells #[] 35)).drew) (g := w1.heap.size + 1) (G := w1.heap.size) (heap_next w1 _ _) (((Ext.refl w1).alloc _).alloc _).drew (by omega) (by simp; omega) (by omega) hS hss (.inr (Nat.le_refl _)))
  have KB := Lib.hid (fun (W w9 : World) (hX : Ext w1 W) (g : Nat) (hge : w1.heap.size ≤ g) (hg : W.grownBy w9 (some g)) => (hB.keep hX).grown hg (fun h => by cases h; omega))
  have HSS := Lib.hid hss; clear hss
  have HB := Lib.hid hB; clear hB
  have HS := Lib.hid hS; clear hS
  have hne1 : ¬ g1 = w1.heap.size + 1 := by omega
  have hne2 : ¬ w1.heap.size + 1 = g1 := by omega
  have hne3 : ¬ g1 = w1.heap.size := by omega
  have hne4 : ¬ w1.heap.size = g1 := by omega
  go_region_held3 (fun w' : World => w'.cell? ⟨g1, 0, none⟩ = some (.slice a ss.length c) ∧ w'.cell? ⟨g1, 2, none⟩ = some (.int .i64 le)) ((refine ⟨Ext.cell ?_ c00, Ext.cell ?_ c02⟩) <;> (repeat (first | exact Ext.refl _ | assumption | refine Ext.drew ?_ | refine Ext.alloc ?_ _ | refine Ext.setCell ?_ (by first | (simp; done) | omega) _)))
    (first
     | (refine step_append_osl atBs etBs rfl _ _ rfl w1.heap.size _ _ [] ss rfl rfl FA.out.1 FA.out.2.1 FA.out.2.2 (by simp; omega) (by simp; omega) (by simp) ?_; intro v9 w9 hv9 hg8; rw [List.nil_append] at hv9; have hg9 : World.grownBy _ w9 (some w1.heap.size) := hg8; clear hg8; obtain ⟨a9, c9, rfl, hc9, hm9⟩ := (hv9.sl etBs).open; have hk9 := (KB.out _ w9 (((Ext.refl w1).alloc _).drew) _ (Nat.le_refl _) hg9); obtain ⟨g00, _, g02, _, _, _, _, _⟩ := hk9.four;  have HV9 := Lib.hid hv9; have hx9 : Ext w1 w9 := Ext.grown (((Ext.refl w1).alloc _).drew) hg9 (fun k hk => by cases hk; first | exact Nat.le_refl _ | exact Nat.le_succ _); clear hk9 hv9 hg9 FA FB FC)
     | (refine step_append_osl atBs etBs rfl _ _ rfl w1.heap.size _ _ [] ss rfl rfl FB.out.1 FB.out.2.1 FB.out.2.2 (by simp; omega) (by simp; omega) (by simp; omega) ?_; intro v9 w9 hv9 hg8; rw [List.nil_append] at hv9; have hg9 : World.grownBy _ w9 (some w1.heap.size) := hg8; clear hg8; obtain ⟨a9, c9, rfl, hc9, hm9⟩ := (hv9.sl etBs).open; have hk9 := (KB.out _ w9 ((((Ext.refl w1).alloc _).alloc _).drew) _ (Nat.le_refl _) hg9); obtain ⟨g00, _, g02, _, _, _, _, _⟩ := hk9.four; have zb := (Box.at (w := w1.alloc (.cells #[] 35)) (cs := [.slice none 0 0, .slice none 0 0, .int .i64 0, .bool false]) (t := 25) (b := w1.heap.size + 1) (by simp)).drew.grown hg9 (by simp); have ZB := Lib.hid zb; clear zb; obtain ⟨z0, z1, z2, z3, z4, z5, z6, z7⟩ := ZB.out.four; have HV9 := Lib.hid hv9; have hx9 : Ext w1 w9 := Ext.grown ((((Ext.refl w1).alloc _).alloc _).drew) hg9 (fun k hk => by cases hk; first | exact Nat.le_refl _ | exact Nat.le_succ _); clear hk9 hv9 hg9 FA FB FC)
     | (refine step_append_osl atBs etBs rfl _ _ rfl w1.heap.size _ _ [] ss rfl rfl FC.out.1 FC.out.2.1 FC.out.2.2 (by simp; omega) (by simp; omega) (by simp; omega) ?_; intro v9 w9 hv9 hg8; rw [List.nil_append] at hv9; have hg9 : World.grownBy _ w9 (some (w1.heap.size + 1)) := hg8; clear hg8; obtain ⟨a9, c9, rfl, hc9, hm9⟩ := (hv9.sl etBs).open; have hk9 := (KB.out _ w9 ((((Ext.refl w1).alloc _).alloc _).drew) _ (Nat.le_succ _) hg9); obtain ⟨g00, _, g02, _, _, _, _, _⟩ := hk9.four; have zb := ((Box.new w1 [.slice none 0 0, .slice none 0 0, .int .i64 0, .bool false] 25).past (.cells #[] 35)).drew.grown hg9 (by simp); have ZB := Lib.hid zb; clear zb; obtain ⟨z0, z1, z2, z3, z4, z5, z6, z7⟩ := ZB.out.four; have HV9 := Lib.hid hv9; have hx9 : Ext w1 w9 := Ext.grown ((((Ext.refl w1).alloc _).alloc _).drew) hg9 (fun k hk => by cases hk; first | exact Nat.le_refl _ | exact Nat.le_succ _); clear hk9 hv9 hg9 FA FB FC))
  · exact HQ.out _ _ _ _ _ _ _ w9.heap.size a9 c9 _ hc9 hm9 hx9.size (Box.new w9 _ _) ((HV9.out.more etBs (S' := Pl S w9.heap.size) (fun k hk => by rcases hk with hk | hk; exact .inl hk; exact .inr (by omega))).keep etBs ((Ext.refl _).alloc _)) (hx9.alloc _)
  · generalize hW : World.setCell _ _ _ = w10
    obtain ⟨hb10, ho⟩ := box_set4 ZB.out hW
    exact HQ.out _ _ _ _ _ _ _ _ a9 c9 _ hc9 hm9 (by omega) hb10 (HV9.out.keepM etBs (ho.mem (.inr rfl))) (ho.ext hx9 (by omega))
  · generalize hW : World.setCell _ _ _ = w10
    obtain ⟨hb10, ho⟩ := box_set4 ZB.out hW
    exact HQ.out _ _ _ _ _ _ _ _ a9 c9 _ hc9 hm9 (by omega) hb10 (HV9.out.keepM etBs (ho.mem (.inr rfl))) (ho.ext hx9 (by omega))
end Go.Proofs.Ytpciankfpagnhaa

/- Another region of Sync of the reference of layer 41. -/
namespace Go.Proofs.Ytpciankfpagnhaa
open Go.RowKit
noncomputable def reg31_14c : Code := ((Try.f31.body.bind (regionOf 14)).getD .skip)
set_option maxRecDepth 100000 in
set_option maxHeartbeats 4000000 in
theorem reg31_14 {Q : Exit → Act → World → Prop} {S : Nat → Prop} (t0 t1 t2 t3 t4 t5 t7 t9 t10 t11 t12 t13 t14 t15 t16 t17 t18 t19 t20 t21 t22 t23 t24 t25 t26 t27 t28 t29 t30 t31 t32 t33 t34 t35 t36 t37 t38 t39 t40 t41 t42 t43 t44 t45 t46 t47 t48 t49 t50 t51 t52 t53 t54 t55 t56 t57 t58 t59 t60 t61 t62 t63 t64 t65 t66 t67 t68 t69 t70 t71 t72 t73 t74 t75 t76 t77 t78 t79 t80 t81 t82 t83 t84 t85 t86 t87 t88 t89 t90 t91 t92 t93 t94 : Value) (w1 : World) (base g g6 g8 at_ cg : Nat) (ss : List (List UInt8)) (b3 o3 nd c3 bT oT nT cT : Nat) (data sec : List UInt8)
    (hc6 : w1.cell? ⟨g6, 0, none⟩ = some (.slice (some ⟨g, 0, none⟩) ss.length cg)) (hc80 : w1.cell? ⟨g8, 0, none⟩ = some (.int .i64 (at_ : Int))) (hc81 : w1.cell? ⟨g8, 1, none⟩ = some (.slice (some ⟨b3, o3, none⟩) nd c3)) (hcT : w1.cell? ⟨g, at_, none⟩ = some (.slice (some ⟨bT, oT, none⟩) nT cT))
    (hO : OSl base 35 1 eBs S w1 (.slice (some ⟨g, 0, none⟩) ss.length cg) ss) (hD : Bs (Wo S (.slice (some ⟨g, 0, none⟩) ss.length cg)) w1 (.slice (some ⟨b3, o3, none⟩) nd c3) data) (hT : Bs (Wo S (.slice (some ⟨g, 0, none⟩) ss.length cg)) w1 (.slice (some ⟨bT, oT, none⟩) nT cT) sec) (hd1 : 64 ≤ data.length) (hd2 : data.length ≤ 128) (ht1 : 128 ≤ nT) (ht2 : nT ≤ 128) (hnc : nT ≤ cT) (hcm : cT ≤ 9223372036854775807) (hdc : 64 ≤ c3) (hcm3 : c3 ≤ 9223372036854775807) (hat : at_ < ss.length) (hS : ∀ k, S k → k < w1.heap.size)
    (hQ : ∀ (u65 u66 u67 u68 u69 u70 u71 u72 u73 u74 u75 u76 u77 u78 u79 u80 u81 u82 : Value) (w9 wx : World), Ext w1 w9 → Only g w9 wx → OSl base 35 1 eBs S wx (.slice (some ⟨g, 0, none⟩) ss.length cg) (ss.set at_ (data.take 64 ++ sec.drop 64)) → Q .normal ⟨#[t0, t1, t2, t3, t4, t5, .pointer (some ⟨g6, 0, none⟩), t7, .pointer (some ⟨g8, 0, none⟩), t9, t10, t11, t12, t13, t14, t15, t16, t17, t18, t19, t20, t21, t22, t23, t24, t25, t26, t27, t28, t29, t30, t31, t32, t33, t34, t35, t36, t37, t38, t39, t40, t41, t42, t43, t44, t45, t46, t47, t48, t49, t50, t51, t52, t53, t54, t55, t56, t57, t58, t59, t60, t61, t62, t63, t64, u65, u66, u67, u68, u69, u70, u71, u72, u73, u74, u75, u76, u77, u78, u79, u80, u81, u82, t83, t84, t85, t86, t87, t88, t89, t90, t91, t92, t93, t94], []⟩ wx) :
    Code.wp Try.prog reg31_14c Q ⟨#[t0, t1, t2, t3, t4, t5, .pointer (some ⟨g6, 0, none⟩), t7, .pointer (some ⟨g8, 0, none⟩), t9, t10, t11, t12, t13, t14, t15, t16, t17, t18, t19, t20, t21, t22, t23, t24, t25, t26, t27, t28, t29, t30, t31, t32, t33, t34, t35, t36, t37, t38, t39, t40, t41, t42, t43, t44, t45, t46, t47, t48, t49, t50, t51, t52, t53, t54, t55, t56, t57, t58, t59, t60, t61, t62, t63, t64, t65, t66, t67, t68, t69, t70, t71, t72, t73, t74, t75, t76, t77, t78, t79, t80, t81, t82, t83, t84, t85, t86, t87, t88, t89, t90, t91, t92, t93, t94], []⟩ w1 := by
  conv => arg 2; whnf
  have hgl := hO.block g rfl
  have hS2 : ∀ k, (Wo S (.slice (some ⟨g, 0, none⟩) ss.length cg)) k → k < w1.heap.size := fun k hk => by
    rcases hk with hk | hk
    · exact hS k hk
    · simp [Value.ownBlock] at hk; omega
  have hlen : sec.length = nT := by obtain ⟨_, _, h, _, _⟩ := hT.open; simp at h; omega
  have hcut := hT.cut 64 nT cT (by omega) (by omega) hnc (Nat.le_refl _)
  rw [if_neg (by omega), List.take_of_length_le (by simp; omega)] at hcut
  simp only [Option.map_some, Addr.add_lit, Nat.mul_one] at hcut
  have HC := Lib.hid hcut; clear hcut
  have HP := Lib.hid (hD.pre 64 c3 hd1 hdc (by unfold maxLen; omega))
  have HS2 := Lib.hid hS2; clear hS2
  have HQ := Lib.hid hQ; clear hQ
  have HO := Lib.hid hO; clear hO
  have HL := Lib.hid hlen; clear hlen
  have hi0 : (0 : Int) ≤ at_ := by omega
  have hi1 : (at_ : Int) < ss.length := by omega
  have i1 : (64 : Int) ≤ c3 := by omega
  have i2 : (64 : Int) ≤ nT := by omega
  have i3 : (nT : Int) ≤ cT := by omega
  have i4 : ¬ cT = 64 := by omega
  have AWI : Hid (AllWI [4, 8, 16] 0 [fun v _ => v = .pointer (some ⟨g6, 0, none⟩), fun v _ => v = .slice (some ⟨g, 0, none⟩) ss.length cg, fun v _ => v = .pointer (some ⟨g8, 0, none⟩), fun v _ => v = .int .i64 (at_ : Int), fun v w => ∃ g4, v = .slice (some ⟨g4, 0, none⟩) 0 0 ∧ w1.heap.size ≤ g4 ∧ OSl w1.heap.size 5 1 eByte (Wo S (.slice (some ⟨g, 0, none⟩) ss.length cg)) w v [], fun v _ => v = .pointer (some ⟨g8, 1, none⟩), fun v _ => v = .slice (some ⟨b3, o3, none⟩) nd c3, fun v _ => v = .slice (some ⟨b3, o3, none⟩) 64 c3, fun v w => OSl w1.heap.size 5 1 eByte (Wo S (.slice (some ⟨g, 0, none⟩) ss.length cg)) w v (data.take 64), fun v _ => v = .pointer (some ⟨g6, 0, none⟩), fun v _ => v = .slice (some ⟨g, 0, none⟩) ss.length cg, fun v _ => v = .pointer (some ⟨g8, 0, none⟩), fun v _ => v = .int .i64 (at_ : Int), fun v _ => v = .pointer (some ⟨g, at_, none⟩), fun v _ => v = .slice (some ⟨bT, oT, none⟩) nT cT, fun v _ => v = .slice (some ⟨bT, oT + 64, none⟩) (nT - 64) (cT - 64), fun v w => OSl w1.heap.size 5 1 eByte (Wo S (.slice (some ⟨g, 0, none⟩) ss.length cg)) w v (data.take 64 ++ sec.drop 64)]) := Lib.hid ⟨.inr (wi_eq _), ⟨.inr (wi_eq _), ⟨.inr (wi_eq _), ⟨.inr (wi_eq _), ⟨.inl (by decide), ⟨.inr (wi_eq _), ⟨.inr (wi_eq _), ⟨.inr (wi_eq _), ⟨.inl (by decide), ⟨.inr (wi_eq _), ⟨.inr (wi_eq _), ⟨.inr (wi_eq _), ⟨.inr (wi_eq _), ⟨.inr (wi_eq _), ⟨.inr (wi_eq _), ⟨.inr (wi_eq _), ⟨.inl (by decide), trivial⟩⟩⟩⟩⟩⟩⟩⟩⟩⟩⟩⟩⟩⟩⟩⟩⟩
  refine wp_region_rg 17 (fun j => if j = 4 then some 8 else if j = 8 then some 16 else none) (by kernel_rfl) (by kernel_rfl) (phi [fun v _ => v = .pointer (some ⟨g6, 0, none⟩),
      fun v _ => v = .slice (some ⟨g, 0, none⟩) ss.length cg,
      fun v _ => v = .pointer (some ⟨g8, 0, none⟩),
      fun v _ => v = .int .i64 (at_ : Int),
      fun v w => ∃ g4, v = .slice (some ⟨g4, 0, none⟩) 0 0 ∧ w1.heap.size ≤ g4 ∧ OSl w1.heap.size 5 1 eByte (Wo S (.slice (some ⟨g, 0, none⟩) ss.length cg)) w v [],
      fun v _ => v = .pointer (some ⟨g8, 1, none⟩),
      fun v _ => v = .slice (some ⟨b3, o3, none⟩) nd c3,
      fun v _ => v = .slice (some ⟨b3, o3, none⟩) 64 c3,
      fun v w => OSl w1.heap.size 5 1 eByte (Wo S (.slice (some ⟨g, 0, none⟩) ss.length cg)) w v (data.take 64),
      fun v _ => v = .pointer (some ⟨g6, 0, none⟩),
      fun v _ => v = .slice (some ⟨g, 0, none⟩) ss.length cg,
      fun v _ => v = .pointer (some ⟨g8, 0, none⟩),
      fun v _ => v = .int .i64 (at_ : Int),
      fun v _ => v = .pointer (some ⟨g, at_, none⟩),
      fun v _ => v = .slice (some ⟨bT, oT, none⟩) nT cT,
      fun v _ => v = .slice (some ⟨bT, oT + 64, none⟩) (nT - 64) (cT - 64),
      fun v w => OSl w1.heap.size 5 1 eByte (Wo S (.slice (some ⟨g, 0, none⟩) ss.length cg)) w v (data.take 64 ++ sec.drop 64)]) (phi_stable ?stable) ?steps ?tail
  case stable =>
    exact List.forall_mem_cons.2 ⟨stab_eq _, List.forall_mem_cons.2 ⟨stab_eq _, List.forall_mem_cons.2 ⟨stab_eq _, List.forall_mem_cons.2 ⟨stab_eq _, List.forall_mem_cons.2 ⟨fun _ _ _ hx ⟨g4, e, hg, h⟩ => ⟨g4, e, hg, h.keep etByte hx⟩, List.forall_mem_cons.2 ⟨stab_eq _, List.forall_mem_cons.2 ⟨stab_eq _, List.forall_mem_cons.2 ⟨stab_eq _, List.forall_mem_cons.2 ⟨fun _ _ _ hx h => h.keep etByte hx, List.forall_mem_cons.2 ⟨stab_eq _, List.forall_mem_cons.2 ⟨stab_eq _, List.forall_mem_cons.2 ⟨stab_eq _, List.forall_mem_cons.2 ⟨stab_eq _, List.forall_mem_cons.2 ⟨stab_eq _, List.forall_mem_cons.2 ⟨stab_eq _, List.forall_mem_cons.2 ⟨stab_eq _, List.forall_mem_cons.2 ⟨fun _ _ _ hx h => h.keep etByte hx, fun _ h => by cases h⟩⟩⟩⟩⟩⟩⟩⟩⟩⟩⟩⟩⟩⟩⟩⟩⟩
  case steps =>
    simp only [List.take_succ_cons, List.take_zero]
    -- 0: slot 65 := Op.fieldAddr 25 t6 0
    refine ⟨?_, ?_⟩
    · intro v w' hx hd
      simp only [List.take_succ_cons, List.take_zero, putF, Act.put, List.setIfInBounds_toArray, List.set_cons_zero, List.set_cons_succ, Nat.reduceAdd, Nat.zero_add]
      clear hd
      rw [if_pos (by rfl)]
      intro K hK
      have q6 := hx.cell hc6
      have q80 := hx.cell hc80
      have q81 := hx.cell hc81
      have qT := hx.cell hcT
      have HK := Lib.hid hK; clear hK
      go_simp
      exact HK.out _ _ (.inl (Ext.refl _)) rfl
    -- 1: slot 66 := Op.load 22 t65
    refine ⟨?_, ?_⟩
    · intro v w' hx hd
      have e0 : v 0 = .pointer (some ⟨g6, 0, none⟩) := hd 0 (by kernel_rfl)
      simp only [List.take_succ_cons, List.take_zero, putF, Act.put, List.setIfInBounds_toArray, List.set_cons_zero, List.set_cons_succ, Nat.reduceAdd, Nat.zero_add]
      simp only [e0]
      clear hd e0
      rw [if_pos (by rfl)]
      intro K hK
      have q6 := hx.cell hc6
      have q80 := hx.cell hc80
      have q81 := hx.cell hc81
      have qT := hx.cell hcT
      have HK := Lib.hid hK; clear hK
      go_simp
      exact HK.out _ _ (.inl (Ext.refl _)) rfl
    -- 2: slot 67 := Op.fieldAddr 76 t8 0
    refine ⟨?_, ?_⟩
    · intro v w' hx hd
      simp only [List.take_succ_cons, List.take_zero, putF, Act.put, List.setIfInBounds_toArray, List.set_cons_zero, List.set_cons_succ, Nat.reduceAdd, Nat.zero_add]
      clear hd
      rw [if_pos (by rfl)]
      intro K hK
      have q6 := hx.cell hc6
      have q80 := hx.cell hc80
      have q81 := hx.cell hc81
      have qT := hx.cell hcT
      have HK := Lib.hid hK; clear hK
      go_simp
      exact HK.out _ _ (.inl (Ext.refl _)) rfl
    -- 3: slot 68 := Op.load 3 t67
    refine ⟨?_, ?_⟩
    · intro v w' hx hd
      have e2 : v 2 = .pointer (some ⟨g8, 0, none⟩) := hd 2 (by kernel_rfl)
      simp only [List.take_succ_cons, List.take_zero, putF, Act.put, List.setIfInBounds_toArray, List.set_cons_zero, List.set_cons_succ, Nat.reduceAdd, Nat.zero_add]
      simp only [e2]
      clear hd e2
      rw [if_pos (by rfl)]
      intro K hK
      have q6 := hx.cell hc6
      have q80 := hx.cell hc80
      have q81 := hx.cell hc81
      have qT := hx.cell hcT
      have HK := Lib.hid hK; clear hK
      go_simp
      exact HK.out _ _ (.inl (Ext.refl _)) rfl
    -- 4: slot 69 := Op.buildSlice 35 0 #[]
    refine ⟨?_, ?_⟩
    · intro v w' hx hd
      simp only [List.take_succ_cons, List.take_zero, putF, Act.put, List.setIfInBounds_toArray, List.set_cons_zero, List.set_cons_succ, Nat.reduceAdd, Nat.zero_add]
      clear hd
      rw [if_pos (by rfl)]
      intro K hK
      have q6 := hx.cell hc6
      have q80 := hx.cell hc80
      have q81 := hx.cell hc81
      have qT := hx.cell hcT
      have HK := Lib.hid hK; clear hK
      go_simp
      exact HK.out _ _ (.inl ((Ext.refl _).alloc _)) ⟨w'.heap.size, rfl, hx.size, osl_row0 (heap_alloc_new w' _) hx.size (fun h => by have := HS2.out _ h; have := hx.size; omega)⟩
    -- 5: slot 70 := Op.fieldAddr 76 t8 1
    refine ⟨?_, ?_⟩
    · intro v w' hx hd
      simp only [List.take_succ_cons, List.take_zero, putF, Act.put, List.setIfInBounds_toArray, List.set_cons_zero, List.set_cons_succ, Nat.reduceAdd, Nat.zero_add]
      clear hd
      rw [if_pos (by rfl)]
      intro K hK
      have q6 := hx.cell hc6
      have q80 := hx.cell hc80
      have q81 := hx.cell hc81
      have qT := hx.cell hcT
      have HK := Lib.hid hK; clear hK
      go_simp
      exact HK.out _ _ (.inl (Ext.refl _)) rfl
    -- 6: slot 71 := Op.load 35 t70
    refine ⟨?_, ?_⟩
    · intro v w' hx hd
      have e5 : v 5 = .pointer (some ⟨g8, 1, none⟩) := hd 5 (by kernel_rfl)
      simp only [List.take_succ_cons, List.take_zero, putF, Act.put, List.setIfInBounds_toArray, List.set_cons_zero, List.set_cons_succ, Nat.reduceAdd, Nat.zero_add]
      simp only [e5]
      clear hd e5
      rw [if_pos (by rfl)]
      intro K hK
      have q6 := hx.cell hc6
      have q80 := hx.cell hc80
      have q81 := hx.cell hc81
      have qT := hx.cell hcT
      have HK := Lib.hid hK; clear hK
      go_simp
      exact HK.out _ _ (.inl (Ext.refl _)) rfl
    -- 7: slot 72 := Op.slice 35 t71 none (some (const (64:i64))) none
    refine ⟨?_, ?_⟩
    · intro v w' hx hd
      have e6 : v 6 = .slice (some ⟨b3, o3, none⟩) nd c3 := hd 6 (by kernel_rfl)
      simp only [List.take_succ_cons, List.take_zero, putF, Act.put, List.setIfInBounds_toArray, List.set_cons_zero, List.set_cons_succ, Nat.reduceAdd, Nat.zero_add]
      simp only [e6]
      clear hd e6
      rw [if_pos (by rfl)]
      intro K hK
      have q6 := hx.cell hc6
      have q80 := hx.cell hc80
      have q81 := hx.cell hc81
      have qT := hx.cell hcT
      have HK := Lib.hid hK; clear hK
      go_simp
      exact HK.out _ _ (.inl (Ext.refl _)) rfl
    -- 8: slot 73 := Op.call { builtin append, args := #[t69, t72], argTypes := #[35, 35] }
    refine ⟨?_, ?_⟩
    · intro v w' hx hd
      have e4 : (fun v w => ∃ g4, v = .slice (some ⟨g4, 0, none⟩) 0 0 ∧ w1.heap.size ≤ g4 ∧ OSl w1.heap.size 5 1 eByte (Wo S (.slice (some ⟨g, 0, none⟩) ss.length cg)) w v []) (v 4) w' := hd 4 (by kernel_rfl)
      have e7 : v 7 = .slice (some ⟨b3, o3, none⟩) 64 c3 := hd 7 (by kernel_rfl)
      simp only [List.take_succ_cons, List.take_zero, putF, Act.put, List.setIfInBounds_toArray, List.set_cons_zero, List.set_cons_succ, Nat.reduceAdd, Nat.zero_add]
      simp only [e7]
      clear hd e7
      rw [if_pos (by rfl)]
      intro K hK
      have q6 := hx.cell hc6
      have q80 := hx.cell hc80
      have q81 := hx.cell hc81
      have qT := hx.cell hcT
      obtain ⟨g4, e4, hg4, ho4⟩ := e4
      simp only [e4] at ho4 ⊢ hK
      refine wp_append_osl atB etByte (.tmp 69) (.tmp 72) rfl w1.heap.size (.slice (some ⟨g4, 0, none⟩) 0 0) _ [] (data.take 64) rfl rfl ho4 ((HP.out.more etByte (fun k hk => by rcases hk with hk | hk; exact .inl hk; exact .inr (by simp [Value.ownBlock] at hk; omega))).keepM etByte (hx.mem _)) (fun k hk => Nat.lt_of_lt_of_le (HS2.out k hk) hx.size) (by simp; omega) (by simp; omega) hx.size ?_
      intro v' w'' k1 k2
      exact hK _ _ (.inr ⟨hx.grown k2 (fun k hk => by simp [Value.ownBlock] at hk; omega), fun j y h1 h2 h3 h4 hp => phi_keep (cons := fun j => if j = 4 then some 8 else if j = 8 then some 16 else none) AWI.out (by kernel_rfl) j y h1 h2 h3 h4 hp⟩) k1
    -- 9: slot 74 := Op.fieldAddr 25 t6 0
    refine ⟨?_, ?_⟩
    · intro v w' hx hd
      simp only [List.take_succ_cons, List.take_zero, putF, Act.put, List.setIfInBounds_toArray, List.set_cons_zero, List.set_cons_succ, Nat.reduceAdd, Nat.zero_add]
      clear hd
      rw [if_pos (by rfl)]
      intro K hK
      have q6 := hx.cell hc6
      have q80 := hx.cell hc80
      have q81 := hx.cell hc81
      have qT := hx.cell hcT
      have HK := Lib.hid hK; clear hK
      go_simp
      exact HK.out _ _ (.inl (Ext.refl _)) rfl
    -- 10: slot 75 := Op.load 22 t74
    refine ⟨?_, ?_⟩
    · intro v w' hx hd
      have e9 : v 9 = .pointer (some ⟨g6, 0, none⟩) := hd 9 (by kernel_rfl)
      simp only [List.take_succ_cons, List.take_zero, putF, Act.put, List.setIfInBounds_toArray, List.set_cons_zero, List.set_cons_succ, Nat.reduceAdd, Nat.zero_add]
      simp only [e9]
      clear hd e9
      rw [if_pos (by rfl)]
      intro K hK
      have q6 := hx.cell hc6
      have q80 := hx.cell hc80
      have q81 := hx.cell hc81
      have qT := hx.cell hcT
      have HK := Lib.hid hK; clear hK
      go_simp
      exact HK.out _ _ (.inl (Ext.refl _)) rfl
    -- 11: slot 76 := Op.fieldAddr 76 t8 0
    refine ⟨?_, ?_⟩
    · intro v w' hx hd
      simp only [List.take_succ_cons, List.take_zero, putF, Act.put, List.setIfInBounds_toArray, List.set_cons_zero, List.set_cons_succ, Nat.reduceAdd, Nat.zero_add]
      clear hd
      rw [if_pos (by rfl)]
      intro K hK
      have q6 := hx.cell hc6
      have q80 := hx.cell hc80
      have q81 := hx.cell hc81
      have qT := hx.cell hcT
      have HK := Lib.hid hK; clear hK
      go_simp
      exact HK.out _ _ (.inl (Ext.refl _)) rfl
    -- 12: slot 77 := Op.load 3 t76
    refine ⟨?_, ?_⟩
    · intro v w' hx hd
      have e11 : v 11 = .pointer (some ⟨g8, 0, none⟩) := hd 11 (by kernel_rfl)
      simp only [List.take_succ_cons, List.take_zero, putF, Act.put, List.setIfInBounds_toArray, List.set_cons_zero, List.set_cons_succ, Nat.reduceAdd, Nat.zero_add]
      simp only [e11]
      clear hd e11
      rw [if_pos (by rfl)]
      intro K hK
      have q6 := hx.cell hc6
      have q80 := hx.cell hc80
      have q81 := hx.cell hc81
      have qT := hx.cell hcT
      have HK := Lib.hid hK; clear hK
      go_simp
      exact HK.out _ _ (.inl (Ext.refl _)) rfl
    -- 13: slot 78 := Op.indexAddr 22 t75 t77
    refine ⟨?_, ?_⟩
    · intro v w' hx hd
      have e10 : v 10 = .slice (some ⟨g, 0, none⟩) ss.length cg := hd 10 (by kernel_rfl)
      have e12 : v 12 = .int .i64 (at_ : Int) := hd 12 (by kernel_rfl)
      simp only [List.take_succ_cons, List.take_zero, putF, Act.put, List.setIfInBounds_toArray, List.set_cons_zero, List.set_cons_succ, Nat.reduceAdd, Nat.zero_add]
      simp only [e10]
      simp only [e12]
      clear hd e10 e12
      rw [if_pos (by rfl)]
      intro K hK
      have q6 := hx.cell hc6
      have q80 := hx.cell hc80
      have q81 := hx.cell hc81
      have qT := hx.cell hcT
      have HK := Lib.hid hK; clear hK
      go_simp
      exact HK.out _ _ (.inl (Ext.refl _)) rfl
    -- 14: slot 79 := Op.load 35 t78
    refine ⟨?_, ?_⟩
    · intro v w' hx hd
      have e13 : v 13 = .pointer (some ⟨g, at_, none⟩) := hd 13 (by kernel_rfl)
      simp only [List.take_succ_cons, List.take_zero, putF, Act.put, List.setIfInBounds_toArray, List.set_cons_zero, List.set_cons_succ, Nat.reduceAdd, Nat.zero_add]
      simp only [e13]
      clear hd e13
      rw [if_pos (by rfl)]
      intro K hK
      have q6 := hx.cell hc6
      have q80 := hx.cell hc80
      have q81 := hx.cell hc81
      have qT := hx.cell hcT
      have HK := Lib.hid hK; clear hK
      go_simp
      exact HK.out _ _ (.inl (Ext.refl _)) rfl
    -- 15: slot 80 := Op.slice 35 t79 (some (const (64:i64))) none none
    refine ⟨?_, ?_⟩
    · intro v w' hx hd
      have e14 : v 14 = .slice (some ⟨bT, oT, none⟩) nT cT := hd 14 (by kernel_rfl)
      simp only [List.take_succ_cons, List.take_zero, putF, Act.put, List.setIfInBounds_toArray, List.set_cons_zero, List.set_cons_succ, Nat.reduceAdd, Nat.zero_add]
      simp only [e14]
      clear hd e14
      rw [if_pos (by rfl)]
      intro K hK
      have q6 := hx.cell hc6
      have q80 := hx.cell hc80
      have q81 := hx.cell hc81
      have qT := hx.cell hcT
      have HK := Lib.hid hK; clear hK
      go_simp
      exact HK.out _ _ (.inl (Ext.refl _)) rfl
    -- 16: slot 81 := Op.call { builtin append, args := #[t73, t80], argTypes := #[35, 35] }
    refine ⟨?_, ?_⟩
    · intro v w' hx hd
      have e8 : (fun v w => OSl w1.heap.size 5 1 eByte (Wo S (.slice (some ⟨g, 0, none⟩) ss.length cg)) w v (data.take 64)) (v 8) w' := hd 8 (by kernel_rfl)
      have e15 : v 15 = .slice (some ⟨bT, oT + 64, none⟩) (nT - 64) (cT - 64) := hd 15 (by kernel_rfl)
      simp only [List.take_succ_cons, List.take_zero, putF, Act.put, List.setIfInBounds_toArray, List.set_cons_zero, List.set_cons_succ, Nat.reduceAdd, Nat.zero_add]
      simp only [e15]
      clear hd e15
      rw [if_pos (by rfl)]
      intro K hK
      have q6 := hx.cell hc6
      have q80 := hx.cell hc80
      have q81 := hx.cell hc81
      have qT := hx.cell hcT
      have hlt8 := e8.block
      refine wp_append_osl atB etByte (.tmp 73) (.tmp 80) rfl w1.heap.size _ _ (data.take 64) (sec.drop 64) rfl rfl e8 ((HC.out.more etByte (fun k hk => by rcases hk with hk | hk; exact .inl hk; exact .inr (hlt8 k hk).1)).keepM etByte (hx.mem _)) (fun k hk => Nat.lt_of_lt_of_le (HS2.out k hk) hx.size) (by have := HL.out; simp; omega) (by have := HL.out; simp; omega) hx.size ?_
      intro v' w'' k1 k2
      exact hK _ _ (.inr ⟨hx.grown k2 (fun k hk => (hlt8 k hk).1), fun j y h1 h2 h3 h4 hp => phi_keep (cons := fun j => if j = 4 then some 8 else if j = 8 then some 16 else none) AWI.out (by kernel_rfl) j y h1 h2 h3 h4 hp⟩) k1
    exact trivial
  case tail =>
    intro v w' hx hall
    simp only [List.drop_succ_cons, List.drop_zero, List.take_succ_cons, List.take_zero, putF, Act.put, List.setIfInBounds_toArray, List.set_cons_zero, List.set_cons_succ, Nat.reduceAdd, Nat.zero_add]
    have e16 : OSl w1.heap.size 5 1 eByte (Wo S (.slice (some ⟨g, 0, none⟩) ss.length cg)) w' (v 16) (data.take 64 ++ sec.drop 64) := hall 16 (by decide) (fun k hk => by simp at hk)
    have e1 : v 1 = .slice (some ⟨g, 0, none⟩) ss.length cg := hall 1 (by decide) (fun k hk => by simp at hk)
    have e3 : v 3 = .int .i64 (at_ : Int) := hall 3 (by decide) (fun k hk => by simp at hk)
    have hsl := e16.sl etByte
    obtain ⟨a16, c16, e16v, _, _⟩ := hsl.open
    rw [e16v] at hsl
    generalize (data.take 64 ++ sec.drop 64).length = m16 at *
    simp only [e1, e3, e16v]
    obtain ⟨g', c', u0, ev, hb1, hb2, hb3, hcell, hfr, hO2⟩ := (HO.out.keep etBs hx).store1 etBs hat (.slice a16 m16 c16) (data.take 64 ++ sec.drop 64) ⟨_, rfl, hsl⟩
    cases ev
    have HO2 := Lib.hid hO2; clear hO2 hsl e16 e16v e1 e3
    have HX := Lib.hid hx; clear hx
    clear hall
    have HB := Lib.hid hb2
    go_wp2_with fail
    exact HQ.out _ _ _ _ _ _ _ _ _ _ _ _ _ _ _ _ _ _ w' _ HX.out (only_setCell w' ⟨g, at_, none⟩ _) HO2.out
noncomputable def reg31_11c : Code := ((Try.f31.body.bind (regionOf 11)).getD .skip)
set_option maxRecDepth 100000 in
set_option maxHeartbeats 4000000 in
theorem reg31_11 {Q : Exit → Act → World → Prop} {S : Nat → Prop} (t0 t2 t3 t4 t5 t8 t9 t10 t11 t12 t13 t14 t15 t16 t17 t18 t19 t20 t21 t22 t23 t24 t25 t26 t27 t28 t29 t30 t31 t32 t33 t34 t35 t36 t37 t38 t39 t40 t41 t42 t43 t44 t45 t46 t47 t48 t49 t50 t51 t52 t53 t54 t55 t56 t57 t58 t59 t60 t61 t62 t63 t64 t65 t66 t67 t68 t69 t70 t71 t72 t73 t74 t75 t76 t77 t78 t79 t80 t81 t82 t83 t84 t85 t86 t87 t88 t89 t90 t91 t92 t93 t94 : Value) (w1 : World) (base g g1 g6 at_ cg : Nat) (ss : List (List UInt8)) (a3 : Option Addr) (nd c3 bp op np cp k : Nat) (data : List UInt8)
    (hc6 : w1.cell? ⟨g6, 0, none⟩ = some (.slice (some ⟨g, 0, none⟩) ss.length cg)) (hc1 : w1.cell? ⟨g1, 1, none⟩ = some (.slice (some ⟨bp, op, none⟩) np cp)) (hca : w1.cell? ⟨bp, op + k * 2, none⟩ = some (.int .i64 (at_ : Int))) (hcd : w1.cell? ⟨bp, op + k * 2 + 1, none⟩ = some (.slice a3 nd c3))
    (hO : OSl base 35 1 eBs S w1 (.slice (some ⟨g, 0, none⟩) ss.length cg) ss) (hD : Bs (Wo S (.slice (some ⟨g, 0, none⟩) ss.length cg)) w1 (.slice a3 nd c3) data) (hk : k < np) (hat : at_ < ss.length)
    (hQ : ∀ (u44 u45 u46 u47 u48 u49 u50 u51 u52 u53 u54 u55 u56 u57 u58 : Value) (w9 wx : World), Ext w1 w9 → Only g w9 wx → OSl base 35 1 eBs S wx (.slice (some ⟨g, 0, none⟩) ss.length cg) (ss.set at_ data) → Q .normal ⟨#[t0, .pointer (some ⟨g1, 0, none⟩), t2, t3, t4, t5, .pointer (some ⟨g6, 0, none⟩), .int .i64 (k : Int), t8, t9, t10, t11, t12, t13, t14, t15, t16, t17, t18, t19, t20, t21, t22, t23, t24, t25, t26, t27, t28, t29, t30, t31, t32, t33, t34, t35, t36, t37, t38, t39, t40, t41, t42, t43, u44, u45, u46, u47, u48, u49, u50, u51, u52, u53, u54, u55, u56, u57, u58, t59, t60, t61, t62, t63, t64, t65, t66, t67, t68, t69, t70, t71, t72, t73, t74, t75, t76, t77, t78, t79, t80, t81, t82, t83, t84, t85, t86, t87, t88, t89, t90, t91, t92, t93, t94], []⟩ wx) :
    Code.wp Try.prog reg31_11c Q ⟨#[t0, .pointer (some ⟨g1, 0, none⟩), t2, t3, t4, t5, .pointer (some ⟨g6, 0, none⟩), .int .i64 (k : Int), t8, t9, t10, t11, t12, t13, t14, t15, t16, t17, t18, t19, t20, t21, t22, t23, t24, t25, t26, t27, t28, t29, t30, t31, t32, t33, t34, t35, t36, t37, t38, t39, t40, t41, t42, t43, t44, t45, t46, t47, t48, t49, t50, t51, t52, t53, t54, t55, t56, t57, t58, t59, t60, t61, t62, t63, t64, t65, t66, t67, t68, t69, t70, t71, t72, t73, t74, t75, t76, t77, t78, t79, t80, t81, t82, t83, t84, t85, t86, t87, t88, t89, t90, t91, t92, t93, t94], []⟩ w1 := by
  conv => arg 2; whnf
  have HQ := Lib.hid hQ; clear hQ
  have HO := Lib.hid hO; clear hO
  have HD := Lib.hid hD; clear hD
  have hi0 : (0 : Int) ≤ at_ := by omega
  have hi1 : (at_ : Int) < ss.length := by omega
  have hk0 : (0 : Int) ≤ k := by omega
  have hk1 : (k : Int) < np := by omega
  refine wp_region_rg 14 (fun _ => none) (by kernel_rfl) (by kernel_rfl) (phi [fun v _ => v = .pointer (some ⟨g6, 0, none⟩),
      fun v _ => v = .slice (some ⟨g, 0, none⟩) ss.length cg,
      fun v _ => v = .pointer (some ⟨g1, 1, none⟩),
      fun v _ => v = .slice (some ⟨bp, op, none⟩) np cp,
      fun v _ => v = .int .i64 (k : Int),
      fun v _ => v = .pointer (some ⟨bp, op + k * 2, none⟩),
      fun v _ => v = .pointer (some ⟨bp, op + k * 2, none⟩),
      fun v _ => v = .int .i64 (at_ : Int),
      fun v _ => v = .pointer (some ⟨g1, 1, none⟩),
      fun v _ => v = .slice (some ⟨bp, op, none⟩) np cp,
      fun v _ => v = .int .i64 (k : Int),
      fun v _ => v = .pointer (some ⟨bp, op + k * 2, none⟩),
      fun v _ => v = .pointer (some ⟨bp, op + k * 2 + 1, none⟩),
      fun v _ => v = .slice a3 nd c3]) (phi_stable ?stable) ?steps ?tail
  case stable =>
    exact List.forall_mem_cons.2 ⟨stab_eq _, List.forall_mem_cons.2 ⟨stab_eq _, List.forall_mem_cons.2 ⟨stab_eq _, List.forall_mem_cons.2 ⟨stab_eq _, List.forall_mem_cons.2 ⟨stab_eq _, List.forall_mem_cons.2 ⟨stab_eq _, List.forall_mem_cons.2 ⟨stab_eq _, List.forall_mem_cons.2 ⟨stab_eq _, List.forall_mem_cons.2 ⟨stab_eq _, List.forall_mem_cons.2 ⟨stab_eq _, List.forall_mem_cons.2 ⟨stab_eq _, List.forall_mem_cons.2 ⟨stab_eq _, List.forall_mem_cons.2 ⟨stab_eq _, List.forall_mem_cons.2 ⟨stab_eq _, fun _ h => by cases h⟩⟩⟩⟩⟩⟩⟩⟩⟩⟩⟩⟩⟩⟩
  case steps =>
    simp only [List.take_succ_cons, List.take_zero]
    -- 0: slot 44 := Op.fieldAddr 25 t6 0
    refine ⟨?_, ?_⟩
    · intro v w' hx hd
      simp only [List.take_succ_cons, List.take_zero, putF, Act.put, List.setIfInBounds_toArray, List.set_cons_zero, List.set_cons_succ, Nat.reduceAdd, Nat.zero_add]
      clear hd
      rw [if_pos (by rfl)]
      intro K hK
      have q6 := hx.cell hc6
      have q1 := hx.cell hc1
      have qa := hx.cell hca
      have qd := hx.cell hcd
      have HK := Lib.hid hK; clear hK
      go_simp
      exact HK.out _ _ (.inl (Ext.refl _)) rfl
    -- 1: slot 45 := Op.load 22 t44
    refine ⟨?_, ?_⟩
    · intro v w' hx hd
      have e0 : v 0 = .pointer (some ⟨g6, 0, none⟩) := hd 0 (by kernel_rfl)
      simp only [List.take_succ_cons, List.take_zero, putF, Act.put, List.setIfInBounds_toArray, List.set_cons_zero, List.set_cons_succ, Nat.reduceAdd, Nat.zero_add]
      simp only [e0]
      clear hd e0
      rw [if_pos (by rfl)]
      intro K hK
      have q6 := hx.cell hc6
      have q1 := hx.cell hc1
      have qa := hx.cell hca
      have qd := hx.cell hcd
      have HK := Lib.hid hK; clear hK
      go_simp
      exact HK.out _ _ (.inl (Ext.refl _)) rfl
    -- 2: slot 46 := Op.fieldAddr 25 t1 1
    refine ⟨?_, ?_⟩
    · intro v w' hx hd
      simp only [List.take_succ_cons, List.take_zero, putF, Act.put, List.setIfInBounds_toArray, List.set_cons_zero, List.set_cons_succ, Nat.reduceAdd, Nat.zero_add]
      clear hd
      rw [if_pos (by rfl)]
      intro K hK
      have q6 := hx.cell hc6
      have q1 := hx.cell hc1
      have qa := hx.cell hca
      have qd := hx.cell hcd
      have HK := Lib.hid hK; clear hK
      go_simp
      exact HK.out _ _ (.inl (Ext.refl _)) rfl
    -- 3: slot 47 := Op.load 23 t46
    refine ⟨?_, ?_⟩
    · intro v w' hx hd
      have e2 : v 2 = .pointer (some ⟨g1, 1, none⟩) := hd 2 (by kernel_rfl)
      simp only [List.take_succ_cons, List.take_zero, putF, Act.put, List.setIfInBounds_toArray, List.set_cons_zero, List.set_cons_succ, Nat.reduceAdd, Nat.zero_add]
      simp only [e2]
      clear hd e2
      rw [if_pos (by rfl)]
      intro K hK
      have q6 := hx.cell hc6
      have q1 := hx.cell hc1
      have qa := hx.cell hca
      have qd := hx.cell hcd
      have HK := Lib.hid hK; clear hK
      go_simp
      exact HK.out _ _ (.inl (Ext.refl _)) rfl
    -- 4: slot 48 := Op.move t7
    refine ⟨?_, ?_⟩
    · intro v w' hx hd
      simp only [List.take_succ_cons, List.take_zero, putF, Act.put, List.setIfInBounds_toArray, List.set_cons_zero, List.set_cons_succ, Nat.reduceAdd, Nat.zero_add]
      clear hd
      rw [if_pos (by rfl)]
      intro K hK
      have q6 := hx.cell hc6
      have q1 := hx.cell hc1
      have qa := hx.cell hca
      have qd := hx.cell hcd
      have HK := Lib.hid hK; clear hK
      go_simp
      exact HK.out _ _ (.inl (Ext.refl _)) rfl
    -- 5: slot 49 := Op.indexAddr 23 t47 t48
    refine ⟨?_, ?_⟩
    · intro v w' hx hd
      have e3 : v 3 = .slice (some ⟨bp, op, none⟩) np cp := hd 3 (by kernel_rfl)
      have e4 : v 4 = .int .i64 (k : Int) := hd 4 (by kernel_rfl)
      simp only [List.take_succ_cons, List.take_zero, putF, Act.put, List.setIfInBounds_toArray, List.set_cons_zero, List.set_cons_succ, Nat.reduceAdd, Nat.zero_add]
      simp only [e3]
      simp only [e4]
      clear hd e3 e4
      rw [if_pos (by rfl)]
      intro K hK
      have q6 := hx.cell hc6
      have q1 := hx.cell hc1
      have qa := hx.cell hca
      have qd := hx.cell hcd
      have HK := Lib.hid hK; clear hK
      go_simp
      exact HK.out _ _ (.inl (Ext.refl _)) rfl
    -- 6: slot 50 := Op.fieldAddr 76 t49 0
    refine ⟨?_, ?_⟩
    · intro v w' hx hd
      have e5 : v 5 = .pointer (some ⟨bp, op + k * 2, none⟩) := hd 5 (by kernel_rfl)
      simp only [List.take_succ_cons, List.take_zero, putF, Act.put, List.setIfInBounds_toArray, List.set_cons_zero, List.set_cons_succ, Nat.reduceAdd, Nat.zero_add]
      simp only [e5]
      clear hd e5
      rw [if_pos (by rfl)]
      intro K hK
      have q6 := hx.cell hc6
      have q1 := hx.cell hc1
      have qa := hx.cell hca
      have qd := hx.cell hcd
      have HK := Lib.hid hK; clear hK
      go_simp
      exact HK.out _ _ (.inl (Ext.refl _)) rfl
    -- 7: slot 51 := Op.load 3 t50
    refine ⟨?_, ?_⟩
    · intro v w' hx hd
      have e6 : v 6 = .pointer (some ⟨bp, op + k * 2, none⟩) := hd 6 (by kernel_rfl)
      simp only [List.take_succ_cons, List.take_zero, putF, Act.put, List.setIfInBounds_toArray, List.set_cons_zero, List.set_cons_succ, Nat.reduceAdd, Nat.zero_add]
      simp only [e6]
      clear hd e6
      rw [if_pos (by rfl)]
      intro K hK
      have q6 := hx.cell hc6
      have q1 := hx.cell hc1
      have qa := hx.cell hca
      have qd := hx.cell hcd
      have HK := Lib.hid hK; clear hK
      go_simp
      exact HK.out _ _ (.inl (Ext.refl _)) rfl
    -- 8: slot 52 := Op.fieldAddr 25 t1 1
    refine ⟨?_, ?_⟩
    · intro v w' hx hd
      simp only [List.take_succ_cons, List.take_zero, putF, Act.put, List.setIfInBounds_toArray, List.set_cons_zero, List.set_cons_succ, Nat.reduceAdd, Nat.zero_add]
      clear hd
      rw [if_pos (by rfl)]
      intro K hK
      have q6 := hx.cell hc6
      have q1 := hx.cell hc1
      have qa := hx.cell hca
      have qd := hx.cell hcd
      have HK := Lib.hid hK; clear hK
      go_simp
      exact HK.out _ _ (.inl (Ext.refl _)) rfl
    -- 9: slot 53 := Op.load 23 t52
    refine ⟨?_, ?_⟩
    · intro v w' hx hd
      have e8 : v 8 = .pointer (some ⟨g1, 1, none⟩) := hd 8 (by kernel_rfl)
      simp only [List.take_succ_cons, List.take_zero, putF, Act.put, List.setIfInBounds_toArray, List.set_cons_zero, List.set_cons_succ, Nat.reduceAdd, Nat.zero_add]
      simp only [e8]
      clear hd e8
      rw [if_pos (by rfl)]
      intro K hK
      have q6 := hx.cell hc6
      have q1 := hx.cell hc1
      have qa := hx.cell hca
      have qd := hx.cell hcd
      have HK := Lib.hid hK; clear hK
      go_simp
      exact HK.out _ _ (.inl (Ext.refl _)) rfl
    -- 10: slot 54 := Op.move t7
    refine ⟨?_, ?_⟩
    · intro v w' hx hd
      simp only [List.take_succ_cons, List.take_zero, putF, Act.put, List.setIfInBounds_toArray, List.set_cons_zero, List.set_cons_succ, Nat.reduceAdd, Nat.zero_add]
      clear hd
      rw [if_pos (by rfl)]
      intro K hK
      have q6 := hx.cell hc6
      have q1 := hx.cell hc1
      have qa := hx.cell hca
      have qd := hx.cell hcd
      have HK := Lib.hid hK; clear hK
      go_simp
      exact HK.out _ _ (.inl (Ext.refl _)) rfl
    -- 11: slot 55 := Op.indexAddr 23 t53 t54
    refine ⟨?_, ?_⟩
    · intro v w' hx hd
      have e9 : v 9 = .slice (some ⟨bp, op, none⟩) np cp := hd 9 (by kernel_rfl)
      have e10 : v 10 = .int .i64 (k : Int) := hd 10 (by kernel_rfl)
      simp only [List.take_succ_cons, List.take_zero, putF, Act.put, List.setIfInBounds_toArray, List.set_cons_zero, List.set_cons_succ, Nat.reduceAdd, Nat.zero_add]
      simp only [e9]
      simp only [e10]
      clear hd e9 e10
      rw [if_pos (by rfl)]
      intro K hK
      have q6 := hx.cell hc6
      have q1 := hx.cell hc1
      have qa := hx.cell hca
      have qd := hx.cell hcd
      have HK := Lib.hid hK; clear hK
      go_simp
      exact HK.out _ _ (.inl (Ext.refl _)) rfl
    -- 12: slot 56 := Op.fieldAddr 76 t55 1
    refine ⟨?_, ?_⟩
    · intro v w' hx hd
      have e11 : v 11 = .pointer (some ⟨bp, op + k * 2, none⟩) := hd 11 (by kernel_rfl)
      simp only [List.take_succ_cons, List.take_zero, putF, Act.put, List.setIfInBounds_toArray, List.set_cons_zero, List.set_cons_succ, Nat.reduceAdd, Nat.zero_add]
      simp only [e11]
      clear hd e11
      rw [if_pos (by rfl)]
      intro K hK
      have q6 := hx.cell hc6
      have q1 := hx.cell hc1
      have qa := hx.cell hca
      have qd := hx.cell hcd
      have HK := Lib.hid hK; clear hK
      go_simp
      exact HK.out _ _ (.inl (Ext.refl _)) rfl
    -- 13: slot 57 := Op.load 35 t56
    refine ⟨?_, ?_⟩
    · intro v w' hx hd
      have e12 : v 12 = .pointer (some ⟨bp, op + k * 2 + 1, none⟩) := hd 12 (by kernel_rfl)
      simp only [List.take_succ_cons, List.take_zero, putF, Act.put, List.setIfInBounds_toArray, List.set_cons_zero, List.set_cons_succ, Nat.reduceAdd, Nat.zero_add]
      simp only [e12]
      clear hd e12
      rw [if_pos (by rfl)]
      intro K hK
      have q6 := hx.cell hc6
      have q1 := hx.cell hc1
      have qa := hx.cell hca
      have qd := hx.cell hcd
      have HK := Lib.hid hK; clear hK
      go_simp
      exact HK.out _ _ (.inl (Ext.refl _)) rfl
    exact trivial
  case tail =>
    intro v w' hx hall
    simp only [List.drop_succ_cons, List.drop_zero, List.take_succ_cons, List.take_zero, putF, Act.put, List.setIfInBounds_toArray, List.set_cons_zero, List.set_cons_succ, Nat.reduceAdd, Nat.zero_add]
    have e1 : v 1 = .slice (some ⟨g, 0, none⟩) ss.length cg := hall 1 (by decide) (fun k hk => by simp at hk)
    have e7 : v 7 = .int .i64 (at_ : Int) := hall 7 (by decide) (fun k hk => by simp at hk)
    have e13 : v 13 = .slice a3 nd c3 := hall 13 (by decide) (fun k hk => by simp at hk)
    simp only [e1, e7, e13]
    obtain ⟨g', c', u0, ev, hb1, hb2, hb3, hcell, hfr, hO2⟩ := (HO.out.keep etBs hx).store1 etBs hat (.slice a3 nd c3) data ⟨_, rfl, HD.out.keepM etByte (hx.mem _)⟩
    cases ev
    have HO2 := Lib.hid hO2; clear hO2 e1 e7 e13
    have HX := Lib.hid hx; clear hx
    clear hall
    have HB := Lib.hid hb2
    go_wp2_with fail
    exact HQ.out _ _ _ _ _ _ _ _ _ _ _ _ _ _ _ w' _ HX.out (only_setCell w' ⟨g, at_, none⟩ _) HO2.out
end Go.Proofs.Ytpciankfpagnhaa
