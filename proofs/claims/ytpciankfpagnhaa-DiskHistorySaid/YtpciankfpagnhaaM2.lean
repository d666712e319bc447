/- A store into a slice of the call's own; a cut of a slice. -/
import Derived.Test.YtpciankfpagnhaaM1
namespace Go.Proofs.Ytpciankfpagnhaa
open Go.RowKit

theorem chunk1 (cells : List Value) (i : Nat) : chunk 1 cells i = (cells[i]?).toList := by
  unfold chunk
  rw [Nat.mul_one]
  cases h : cells[i]? with
  | none => rw [List.getElem?_eq_none_iff] at h; simp [List.drop_eq_nil_of_le h]
  | some u =>
    have hi : i < cells.length := by
      rcases Nat.lt_or_ge i cells.length with h' | h'
      · exact h'
      · rw [List.getElem?_eq_none h'] at h; cases h
    rw [List.getElem?_eq_getElem hi] at h; cases h
    rw [List.drop_eq_getElem_cons hi]; rfl

/-- A store into a slice of the call's own, of one cell an element. -/
theorem OSl.store1 {α : Type} {base : Nat} {e : TypeId} {E : (Nat → Prop) → World → List Value → α → Prop} (hE : ET E) {S : Nat → Prop} {w : World} {v : Value} {xs : List α} (h : OSl base e 1 E S w v xs)
    {i : Nat} (hi : i < xs.length) (u : Value) (y : α) (hu : E (Wo S v) w [u] y) :
    ∃ g c u0, v = .slice (some ⟨g, 0, none⟩) xs.length c ∧ base ≤ g ∧ g < w.heap.size ∧ ¬ S g ∧ w.cell? ⟨g, i, none⟩ = some u0 ∧ w.frozen? ⟨g, i, none⟩ = false ∧ OSl base e 1 E S (w.setCell ⟨g, i, none⟩ u) v (xs.set i y) := by
  have hsl := h.sl hE
  obtain ⟨cells, hown, hS, hel⟩ := h
  have hlen := hown.1
  have hlt := hown.lt
  have hcs := fun g hg => hown.cells (g := g) hg
  rcases hown.2 with ⟨rfl, hn⟩ | ⟨g, cap, cur, rfl, hg, hh, h1, h2, h3, h4⟩
  · have hx : xs = [] := List.eq_nil_of_length_eq_zero hn
    subst hx; simp at hi
  · have hic : i < cells.length := by rw [hlen]; omega
    have hcell : w.cell? ⟨g, i, none⟩ = some cells[i] := by
      have := hcs g rfl i _ (List.getElem?_eq_getElem hic)
      simpa [Addr.add_lit] using this
    have hfr : w.frozen? ⟨g, i, none⟩ = false := by simp [World.frozen?, hh]
    have hblk : (w.setCell ⟨g, i, none⟩ u).heap[g]? = some (.cells (cur.setIfInBounds i u) e (0, 0)) := by
      simp [World.setCell, Array.getElem?_modify, hh]
    refine ⟨g, cap, cells[i], rfl, hg, (hlt g rfl).2, hS g rfl, hcell, hfr, cells.set i u, ⟨by simp [hlen], .inr ⟨g, cap, _, by simp, hg, hblk, by simpa using h1, h2, by simpa using h3, ?_⟩⟩, hS, ?_⟩
    · simp only [List.length_set]
      rw [← h4, Array.toList_setIfInBounds, List.take_set]
    · intro j x hj
      have hm : Mem (Wo S (.slice (some ⟨g, 0, none⟩) xs.length cap)) w (w.setCell ⟨g, i, none⟩ u) := (Mem.refl _ w).setCell (.inr rfl) u
      rw [chunk1]
      by_cases hji : j = i
      · subst hji
        rw [List.getElem?_set_self hi] at hj
        cases hj
        rw [List.getElem?_set_self hic]
        exact hE.kept _ _ _ _ _ hm hu
      · rw [List.getElem?_set_ne (by omega)] at hj
        rw [List.getElem?_set_ne (by omega), ← chunk1]
        exact hE.kept _ _ _ _ _ hm (hel j x hj)

/-- A cut of a slice: s[lo:hi:m]. -/
theorem Sl.cut {α : Type} {size : Nat} {E : (Nat → Prop) → World → List Value → α → Prop} {S : Nat → Prop} {w : World} {a : Option Addr} {n c : Nat} {xs : List α} (h : Sl size E S w (.slice a n c) xs)
    (lo hi m : Nat) (h1 : lo ≤ hi) (h2 : hi ≤ xs.length) (h3 : hi ≤ m) (h4 : m ≤ c) :
    Sl size E S w (.slice (if m = lo then a else a.map (·.add (lo * size))) (hi - lo) (m - lo)) ((xs.drop lo).take (hi - lo)) := by
  obtain ⟨a', c', cells, e, l1, l2, l3, l4, l5⟩ := h
  cases e
  have hl : ((xs.drop lo).take (hi - lo)).length = hi - lo := by simp; omega
  refine ⟨_, m - lo, (cells.drop (lo * size)).take ((hi - lo) * size), by rw [hl], by rw [hl]; omega, by unfold maxLen at *; omega, ?_, ?_, ?_⟩
  · rw [hl, List.length_take, List.length_drop, l3]
    have : hi * size ≤ xs.length * size := Nat.mul_le_mul_right _ h2
    rw [Nat.sub_mul]; omega
  · intro i x hi'
    have hlt : i < hi - lo := by
      rcases Nat.lt_or_ge i (hi - lo) with h | h
      · exact h
      · rw [List.getElem?_eq_none (by omega)] at hi'; cases hi'
    rw [List.getElem?_take, if_pos hlt, List.getElem?_drop] at hi'
    have := l4 _ _ hi'
    have e1 : List.take size (List.drop (i * size) (List.take ((hi - lo) * size) (List.drop (lo * size) cells))) = List.take size (List.drop ((lo + i) * size) cells) := by
      rw [List.drop_take, List.take_take, List.drop_drop, Nat.add_mul]
      congr 1
      have : i * size + size ≤ (hi - lo) * size := by have := Nat.mul_le_mul_right size (show i + 1 ≤ hi - lo from hlt); rw [Nat.add_mul, Nat.one_mul] at this; exact this
      omega
    rw [e1]; exact this
  · by_cases hz : hi - lo = 0
    · left; rw [hz]; simp
    · right
      rcases l5 with rfl | ⟨b, o, rfl, hb, l5⟩
      · simp at h2; omega
      · have hm : ¬ m = lo := by omega
        rw [if_neg hm]
        refine ⟨b, o + lo * size, by simp [Addr.add_lit], hb, fun j u hj => ?_⟩
        rw [List.getElem?_take] at hj
        split at hj
        · rw [List.getElem?_drop] at hj
          have := l5 _ _ hj
          rwa [← Nat.add_assoc] at this
        · cases hj
end Go.Proofs.Ytpciankfpagnhaa
