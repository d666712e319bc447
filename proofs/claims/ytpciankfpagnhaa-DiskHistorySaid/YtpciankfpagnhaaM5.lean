/- Append inside a region that draws its order. -/
import Derived.Test.YtpciankfpagnhaaM4
namespace Go.Proofs.Ytpciankfpagnhaa
open Go.RowKit

section
variable {P : Program} {α : Type} {E : (Nat → Prop) → World → List Value → α → Prop} {S : Nat → Prop} {w : World}
theorem step_append_osl {t e : TypeId} {size bytes : Nat} (hT : AT P t e size bytes) (hE : ET E) {ops : Array Oper} {o : Oper} {a : Act} {K : Act → World → Prop} {Q : Exit → Act → World → Prop} {F : Prop} (hgd : o.guard = none) (s x : Operand)
    (ho : o.op = .call { callee := .builtin .append, args := #[s, x], argTypes := #[t, t] }) (base : Nat) (v v2 : Value) (xs ys : List α) (hs : a.eval s = v) (hx : a.eval x = v2)
    (h1 : OSl base e size E S w v xs) (h2 : Sl size E (Wo S v) w v2 ys) (hS : ∀ k, S k → k < w.heap.size)
    (hbytes : (xs.length + ys.length) * bytes ≤ 140737488355328) (h63 : xs.length + ys.length ≤ 140737488355328) (hbase : base ≤ w.heap.size)
    (h : ∀ v' w', OSl base e size E S w' v' (xs ++ ys) → w.grownBy w' v.ownBlock → K (a.put o.dst v') w') :
    if Region.wanted o (yielded ops a.tmps) = true then Oper.wp P o a w K Q else F := by
  have hw : Region.wanted o (yielded ops a.tmps) = true := by simp [Region.wanted, hgd]
  rw [if_pos hw]
  exact wp_append_osl hT hE s x ho base v v2 xs ys hs hx h1 h2 hS hbytes h63 hbase h
/-- A slice of one value, written out: it is of one's own. -/
theorem OSl.lit1 {base : Nat} {e : TypeId} {v : Value} {x : α} (hE : ET E) (hb : base ≤ w.heap.size) (hS : ∀ k, S k → k < w.heap.size) (h : E (fun k => S k ∨ k = w.heap.size) w [v] x) :
    OSl base e 1 E S (w.alloc (.cells #[v] e)) (.slice (some ⟨w.heap.size, 0, none⟩) 1 1) [x] := by
  refine ⟨[v], ⟨rfl, .inr ⟨w.heap.size, 1, #[v], rfl, hb, heap_alloc_new w _, Nat.le_refl _, by decide, rfl, rfl⟩⟩, ?_, ?_⟩
  · intro g hg h
    simp [Value.ownBlock] at hg
    have := hS _ h; omega
  · intro i y hi
    match i with
    | 0 =>
      simp at hi; subst hi
      refine hE.kept _ _ _ _ _ (((Ext.refl w).alloc _).mem _) (hE.more _ _ _ _ _ ?_ h)
      intro k hk
      rcases hk with hk | hk
      · exact .inl (.inl hk)
      · simp [Value.ownBlock] at hk; exact .inl (.inr hk.symm)
    | (n + 1) => simp at hi
end
end Go.Proofs.Ytpciankfpagnhaa
