/- Stores into the call's own boxes. -/
import Derived.Test.YtpciankfpagnhaaM2
namespace Go.Proofs.Ytpciankfpagnhaa
open Go.RowKit

theorem only_setRow (w : World) (g : Nat) (X : Array Value) : Only g w (w.setRow g X) := ⟨rfl, rfl, rfl, by simp, fun k hk => setRow_other w g k _ hk⟩
theorem only_setCell (w : World) (a : Addr) (v : Value) : Only a.block w (w.setCell a v) := ⟨rfl, rfl, rfl, by simp [World.setCell], fun k hk => Below.heap_setCell _ _ _ _ hk⟩

theorem Only.trans {g : Nat} {a b c : World} (h : Only g a b) (k : Only g b c) : Only g a c := ⟨k.os.trans h.os, k.tape.trans h.tape, k.output.trans h.output, k.size.trans h.size, fun i hi => (k.block i hi).trans (h.block i hi)⟩
theorem Box.set {w : World} {B : Nat} {cs : List Value} (h : Box w B cs) (i : Nat) (u : Value) : Box (w.setCell ⟨B, i, none⟩ u) B (cs.set i u) := by
  obtain ⟨t, hg⟩ := h
  exact ⟨t, by simp [World.setCell, Array.getElem?_modify, hg]⟩
/-- Four stores, one name. -/
theorem box_set4 {w w3 : World} {B : Nat} {y0 y1 y2 y3 x0 x1 x2 x3 : Value} (h : Box w B [y0, y1, y2, y3])
    (hW : (((w.setCell ⟨B, 0, none⟩ x0).setCell ⟨B, 1, none⟩ x1).setCell ⟨B, 2, none⟩ x2).setCell ⟨B, 3, none⟩ x3 = w3) : Box w3 B [x0, x1, x2, x3] ∧ Only B w w3 := by
  subst hW
  exact ⟨(((h.set 0 x0).set 1 x1).set 2 x2).set 3 x3, (((only_setCell w ⟨B, 0, none⟩ x0).trans (only_setCell _ ⟨B, 1, none⟩ x1)).trans (only_setCell _ ⟨B, 2, none⟩ x2)).trans (only_setCell _ ⟨B, 3, none⟩ x3)⟩
theorem box_set3 {w w3 : World} {B : Nat} {y0 y1 y2 x0 x1 x2 : Value} (h : Box w B [y0, y1, y2])
    (hW : ((w.setCell ⟨B, 0, none⟩ x0).setCell ⟨B, 1, none⟩ x1).setCell ⟨B, 2, none⟩ x2 = w3) : Box w3 B [x0, x1, x2] ∧ Only B w w3 := by
  subst hW
  exact ⟨((h.set 0 x0).set 1 x1).set 2 x2, ((only_setCell w ⟨B, 0, none⟩ x0).trans (only_setCell _ ⟨B, 1, none⟩ x1)).trans (only_setCell _ ⟨B, 2, none⟩ x2)⟩
theorem box_set1 {w w3 : World} {B i : Nat} {x : Value} {cs : List Value} (h : Box w B cs) (hW : w.setCell ⟨B, i, none⟩ x = w3) : Box w3 B (cs.set i x) ∧ Only B w w3 := by
  subst hW
  exact ⟨h.set i x, only_setCell w ⟨B, i, none⟩ x⟩

/-- s[:m:m']. -/
theorem Sl.pre {α : Type} {size : Nat} {E : (Nat → Prop) → World → List Value → α → Prop} {S : Nat → Prop} {w : World} {a : Option Addr} {n c : Nat} {xs : List α} (h : Sl size E S w (.slice a n c) xs)
    (m m' : Nat) (h1 : m ≤ xs.length) (h2 : m ≤ m') (h3 : m' ≤ maxLen) : Sl size E S w (.slice a m m') (xs.take m) := by
  obtain ⟨a', c', cells, e, l1, l2, l3, l4, l5⟩ := h
  cases e
  have hl : (xs.take m).length = m := by simp; omega
  have hms : m * size ≤ xs.length * size := Nat.mul_le_mul_right _ h1
  refine ⟨a, m', cells.take (m * size), by rw [hl], by rw [hl]; exact h2, h3, by rw [hl, List.length_take, l3]; omega, ?_, ?_⟩
  · intro i x hi
    rw [List.getElem?_take] at hi
    split at hi
    · rename_i him
      have := l4 _ _ hi
      have e1 : List.take size (List.drop (i * size) (List.take (m * size) cells)) = List.take size (List.drop (i * size) cells) := by
        rw [List.drop_take, List.take_take]
        congr 1
        have : i * size + size ≤ m * size := by have := Nat.mul_le_mul_right size (show i + 1 ≤ m from him); rw [Nat.add_mul, Nat.one_mul] at this; exact this
        omega
      rw [e1]; exact this
    · cases hi
  · rcases l5 with rfl | ⟨b, o, rfl, hb, l5⟩
    · left; simp
    · exact .inr ⟨b, o, rfl, hb, fun j u hj => by
        rw [List.getElem?_take] at hj
        split at hj
        · exact l5 _ _ hj
        · cases hj⟩

section
variable {P : Program} {w : World}
/-- A whole value into a box. -/
theorem wp_store_box {o : Oper} {a : Act} {K : Act → World → Prop} {Q : Exit → Act → World → Prop} (ty : TypeId) (x y : Operand) (ho : o.op = .store ty x y) (B : Nat) (cells old : List Value) (hx : a.eval x = .pointer (some ⟨B, 0, none⟩))
    (hy : a.eval y = .agg cells.toArray) (hb : Box w B old) (hi : (P.info? ty).map (·.size) = some cells.length) (hl : old.length = cells.length) (h1 : cells.all (·.oneCell') = true)
    (h : ∀ w', Box w' B cells → Only B w w' → K (a.put o.dst undef) w') : o.wp P a w K Q := by
  obtain ⟨t, hg⟩ := hb
  refine wp_store_row ty x y ho B cells.toArray hx hy t old.toArray hg (by simpa using hi) (by simpa using hl) (by simpa using h1) (h _ ⟨t, ?_⟩ (only_setRow _ _ _))
  exact setRow_heap w B _ _ t _ hg
theorem wpList_store_box {ops : Array Oper} {rest : List Oper} {o : Oper} {a : Act} {Q : Exit → Act → World → Prop} (hgd : o.guard = none) (ty : TypeId) (x y : Operand) (ho : o.op = .store ty x y) (B : Nat) (cells old : List Value)
    (hx : a.eval x = .pointer (some ⟨B, 0, none⟩)) (hy : a.eval y = .agg cells.toArray) (hb : Box w B old) (hi : (P.info? ty).map (·.size) = some cells.length) (hl : old.length = cells.length) (h1 : cells.all (·.oneCell') = true)
    (h : ∀ w', Box w' B cells → Only B w w' → wpList P ops Q rest (a.put o.dst undef) w') : wpList P ops Q (o :: rest) a w :=
  wpList_plain hgd fun _ hK => wp_store_box ty x y ho B cells old hx hy hb hi hl h1 fun w' k1 k2 => hK _ _ (h w' k1 k2)
/-- One cell of a box. -/
theorem wp_store_cell {o : Oper} {a : Act} {K : Act → World → Prop} {Q : Exit → Act → World → Prop} (ty : TypeId) (x y : Operand) (ho : o.op = .store ty x y) (B i : Nat) (u : Value) (old : List Value) (hx : a.eval x = .pointer (some ⟨B, i, none⟩))
    (hy : a.eval y = u) (hb : Box w B old) (hi : (P.info? ty).map (·.size) = some 1) (hl : i < old.length) (h1 : u.oneCell' = true)
    (h : ∀ w', Box w' B (old.set i u) → Only B w w' → K (a.put o.dst undef) w') : o.wp P a w K Q := by
  have hb' := hb
  obtain ⟨t, hg⟩ := hb
  have hr : (storeVar ty ⟨B, i, none⟩ u).run P w = .ok () (w.setCell ⟨B, i, none⟩ u) := by
    obtain ⟨c0, f0⟩ := hb'.own i _ (List.getElem?_eq_getElem hl)
    cases hq : P.info? ty with
    | none => simp [hq] at hi
    | some inf =>
      have hs : inf.size = 1 := by simpa [hq] using hi
      cases u <;> first | (simp [Value.oneCell'] at h1; done) | (simp [storeVar, sizeOf, typeInfo, hq, hs, Value.cells, storeCells, go_sem, c0, f0]; done) | (simp [storeVar, sizeOf, typeInfo, hq, hs, Value.cells, storeCells, Go.store, Sem.run, go_sem, c0, f0]; done)
  unfold Oper.wp execOp
  simp only [ho, hx, hy, Instr.storeAt, Instr.sureAddr, Sem.run_bind, Sem.run_pure, Result.andThen_ok, hr]
  refine h _ ⟨t, ?_⟩ (only_setCell w ⟨B, i, none⟩ u)
  simp [World.setCell, Array.getElem?_modify, hg]
theorem wpList_store_cell {ops : Array Oper} {rest : List Oper} {o : Oper} {a : Act} {Q : Exit → Act → World → Prop} (hgd : o.guard = none) (ty : TypeId) (x y : Operand) (ho : o.op = .store ty x y) (B i : Nat) (u : Value) (old : List Value)
    (hx : a.eval x = .pointer (some ⟨B, i, none⟩)) (hy : a.eval y = u) (hb : Box w B old) (hi : (P.info? ty).map (·.size) = some 1) (hl : i < old.length) (h1 : u.oneCell' = true)
    (h : ∀ w', Box w' B (old.set i u) → Only B w w' → wpList P ops Q rest (a.put o.dst undef) w') : wpList P ops Q (o :: rest) a w :=
  wpList_plain hgd fun _ hK => wp_store_cell ty x y ho B i u old hx hy hb hi hl h1 fun w' k1 k2 => hK _ _ (h w' k1 k2)
end
end Go.Proofs.Ytpciankfpagnhaa
