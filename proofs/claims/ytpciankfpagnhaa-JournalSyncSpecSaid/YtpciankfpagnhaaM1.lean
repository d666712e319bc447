/- Append, in words of what slices read as. -/
import Derived.Test.YtpciankfpagnhaaRep
import Derived.Laws.CopyOwn
namespace Go.Proofs.Ytpciankfpagnhaa
open Go.RowKit

/-- The cells of element i. -/
abbrev chunk (size : Nat) (cells : List Value) (i : Nat) : List Value := (cells.drop (i * size)).take size
/-- S, and the block of a slice. -/
def Wo (S : Nat → Prop) (v : Value) (k : Nat) : Prop := S k ∨ v.ownBlock = some k
/-- A slice of the call's own, in a block from base on: it may be appended to. -/
def OSl {α : Type} (base : Nat) (e : TypeId) (size : Nat) (E : (Nat → Prop) → World → List Value → α → Prop) (S : Nat → Prop) (w : World) (v : Value) (xs : List α) : Prop :=
  ∃ cells, w.ownsRow base e size v xs.length cells ∧ (∀ g, v.ownBlock = some g → ¬ S g) ∧ ∀ i x, xs[i]? = some x → E (Wo S v) w (chunk size cells i) x

theorem OSl.nil {α : Type} (base : Nat) (e : TypeId) (size : Nat) (E : (Nat → Prop) → World → List Value → α → Prop) (S : Nat → Prop) (w : World) : OSl base e size E S w (.slice none 0 0) [] :=
  ⟨[], World.ownsRow_nil w base e size, by simp [Value.ownBlock], by simp⟩
/-- An empty row that was written out. -/
theorem OSl.lit0 {α : Type} (base : Nat) (e : TypeId) (size : Nat) (E : (Nat → Prop) → World → List Value → α → Prop) (S : Nat → Prop) (w : World) (hb : base ≤ w.heap.size) (hS : ¬ S w.heap.size) :
    OSl base e size E S (w.alloc (.cells #[] e)) (.slice (some ⟨w.heap.size, 0, none⟩) 0 0) [] :=
  ⟨[], ⟨by simp, .inr ⟨w.heap.size, 0, #[], rfl, hb, heap_alloc_new w _, Nat.le_refl _, Nat.zero_le _, by simp, by simp⟩⟩, by simp [Value.ownBlock]; exact hS, by simp⟩
theorem OSl.sl {α : Type} {base : Nat} {e : TypeId} {size : Nat} {E : (Nat → Prop) → World → List Value → α → Prop} (hE : ET E) {S : Nat → Prop} {w : World} {v : Value} {xs : List α} (h : OSl base e size E S w v xs) : Sl size E S w v xs := by
  obtain ⟨cells, hown, hS, hel⟩ := h
  have hlen := hown.1
  have hlt := hown.lt
  have hcs := fun g hg => hown.cells (g := g) hg
  rcases hown.2 with ⟨rfl, hn⟩ | ⟨g, cap, cur, rfl, hg, hh, h1, h2, h3, h4⟩
  · have hx : xs = [] := List.eq_nil_of_length_eq_zero hn
    subst hx
    exact Sl.nil _ _ _ _
  · refine ⟨some ⟨g, 0, none⟩, cap, cells, rfl, h1, h2, hlen, fun i x hi => hE.more _ _ _ _ _ (fun k hk => .inl (.inl hk)) (hel i x hi), .inr ⟨g, 0, rfl, ⟨(hlt g rfl).2, hS g rfl⟩, fun j u hj => ?_⟩⟩
    have := hcs g rfl j u hj
    simpa [Addr.add_lit] using this

theorem OSl.block {α : Type} {base : Nat} {e : TypeId} {size : Nat} {E : (Nat → Prop) → World → List Value → α → Prop} {S : Nat → Prop} {w : World} {v : Value} {xs : List α} (h : OSl base e size E S w v xs) :
    ∀ k, v.ownBlock = some k → base ≤ k ∧ k < w.heap.size := by
  obtain ⟨cells, hown, _⟩ := h
  exact hown.lt
/-- Kept while its own block is left alone. -/
theorem OSl.keepM {α : Type} {base : Nat} {e : TypeId} {size : Nat} {E : (Nat → Prop) → World → List Value → α → Prop} (hE : ET E) {S : Nat → Prop} {w w' : World} {v : Value} {xs : List α} (h : OSl base e size E S w v xs)
    (hx : Mem S w w') : OSl base e size E S w' v xs := by
  obtain ⟨cells, hown, hS, hel⟩ := h
  have hlt := hown.lt
  refine ⟨cells, ⟨hown.1, ?_⟩, hS, fun i x hi => hE.kept _ _ _ _ _ ⟨hx.size, fun k hk hs => hx.block k hk (fun h => hs (.inl h))⟩ (hel i x hi)⟩
  rcases hown.2 with h | ⟨g, cap, cur, rfl, hg, hh, h3⟩
  · exact .inl h
  · exact .inr ⟨g, cap, cur, rfl, hg, by rw [hx.block g (hlt g rfl).2 (hS g rfl)]; exact hh, h3⟩
theorem OSl.keep {α : Type} {base : Nat} {e : TypeId} {size : Nat} {E : (Nat → Prop) → World → List Value → α → Prop} (hE : ET E) {S : Nat → Prop} {w w' : World} {v : Value} {xs : List α} (h : OSl base e size E S w v xs)
    (hx : Ext w w') : OSl base e size E S w' v xs := h.keepM hE (hx.mem S)

theorem chunk_left {size : Nat} {l r : List Value} {n i : Nat} (hl : l.length = n * size) (hi : i < n) : chunk size (l ++ r) i = chunk size l i := by
  unfold chunk
  have h1 : i * size + size ≤ n * size := by
    have := Nat.mul_le_mul_right size (show i + 1 ≤ n from hi)
    rw [Nat.add_mul, Nat.one_mul] at this; exact this
  rw [List.drop_append_of_le_length (by omega), List.take_append_of_le_length (by simp; omega)]
theorem chunk_right {size : Nat} {l r : List Value} {n i : Nat} (hl : l.length = n * size) : chunk size (l ++ r) (n + i) = chunk size r i := by
  unfold chunk
  rw [List.drop_append]
  have h1 : (n + i) * size = n * size + i * size := Nat.add_mul _ _ _
  rw [h1, List.drop_eq_nil_of_le (by omega), List.nil_append]
  congr 2; omega
theorem mem_chunk {size : Nat} {cells : List Value} {n : Nat} (hl : cells.length = n * size) {u : Value} (hu : u ∈ cells) : ∃ i, i < n ∧ u ∈ chunk size cells i := by
  obtain ⟨j, hj, rfl⟩ := List.getElem_of_mem hu
  have hs : 0 < size := by
    rcases Nat.eq_zero_or_pos size with h | h
    · rw [h] at hl; simp at hl; rw [hl] at hj; simp at hj
    · exact h
  refine ⟨j / size, (Nat.div_lt_iff_lt_mul hs).2 (by omega), ?_⟩
  have h1 : j % size < size := Nat.mod_lt _ hs
  have h2 : j / size * size + j % size = j := by rw [Nat.mul_comm]; exact Nat.div_add_mod j size
  have hc : (chunk size cells (j / size))[j % size]? = some cells[j] := by
    unfold chunk
    rw [List.getElem?_take, if_pos h1, List.getElem?_drop, h2, List.getElem?_eq_getElem hj]
  exact List.mem_of_getElem? hc

section
variable {P : Program} {α : Type} {E : (Nat → Prop) → World → List Value → α → Prop} {S : Nat → Prop} (w : World)

/-- An append of nothing. -/
theorem run_append_nothing (t ty e : TypeId) (i : TypeInfo) (ht : P.underlying t = some (.slice e)) (hi : P.info? e = some i)
    (a a2 : Option Addr) (n c c2 : Nat) (hn : n ≤ c) :
    (Builtin.append_ #[t, t] ty #[.slice a n c, .slice a2 0 c2]).run P w = .ok (.slice a n c) w := by
  cases a <;> cases a2 <;> simp [Builtin.append_, run_underlying ht, sizeOf, typeInfo, hi, Builtin.lenOf, Builtin.firstCells, loadCells, loadCellsFrom, storeCells, hn]

theorem run_append_osl (hE : ET E) (base : Nat) (t ty e : TypeId) (i : TypeInfo) (z : Value) (size bytes : Nat)
    (ht : P.underlying t = some (.slice e)) (hi : P.info? e = some i) (hz : i.zero = some z) (hsize : i.size = size) (hby : i.bytes = bytes) (hzs : z.cells.size = size) (hsz : 0 < size)
    (v v2 : Value) (xs ys : List α) (h1 : OSl base e size E S w v xs) (h2 : Sl size E (Wo S v) w v2 ys) (hS : ∀ k, S k → k < w.heap.size)
    (h63 : xs.length + ys.length ≤ maxLen) (hbytes : (xs.length + ys.length) * bytes ≤ 140737488355328) (hbase : base ≤ w.heap.size) :
    ∃ v' w', (Builtin.append_ #[t, t] ty #[v, v2]).run P w = .ok v' w' ∧ OSl base e size E S w' v' (xs ++ ys) ∧ w.grownBy w' v.ownBlock := by
  subst hsize
  subst hby
  obtain ⟨a2, c2, news, rfl, k1, k2, k3, k4, k5⟩ := h2
  obtain ⟨cells, hown, hnS, hel⟩ := h1
  by_cases hys : ys = []
  · subst hys
    refine ⟨v, w, ?_, ⟨cells, by simpa using hown, hnS, fun j x hj => hel j x (by simpa using hj)⟩, ⟨rfl, rfl, rfl, Nat.le_refl _, fun _ _ _ => rfl⟩⟩
    rcases hown.2 with ⟨rfl, _⟩ | ⟨g, cap, cur, rfl, _, _, hnc, _⟩
    · exact run_append_nothing w t ty e i ht hi _ _ _ _ _ (Nat.le_refl _)
    · exact run_append_nothing w t ty e i ht hi _ _ _ _ _ hnc
  have hm : 0 < ys.length := List.length_pos_iff.2 hys
  obtain ⟨b, o, rfl, hb, hcell⟩ := k5.resolve_left hys
  have hnews : ∀ j u, news[j]? = some u → w.cell? ((⟨b, o, none⟩ : Addr).add j) = some u := fun j u hj => by rw [Addr.add_lit]; exact hcell j u hj
  have hsmall : xs.length + ys.length ≤ 9223372036854775807 := h63
  have hlen : (cells ++ news).length = (xs.length + ys.length) * i.size := by rw [List.length_append, hown.1, k3, Nat.add_mul]
  have hel' : ∀ j x, (xs ++ ys)[j]? = some x → E (Wo S v) w (chunk i.size (cells ++ news) j) x := by
    intro j x hj
    by_cases hlt : j < xs.length
    · rw [List.getElem?_append_left hlt] at hj
      rw [chunk_left hown.1 hlt]
      exact hel j x hj
    · rw [List.getElem?_append_right (by omega)] at hj
      have e1 : j = xs.length + (j - xs.length) := by omega
      rw [e1, chunk_right hown.1]
      exact k4 _ _ hj
  have one : ∀ u ∈ news, u.oneCell' = true := by
    intro u hu
    obtain ⟨j, hj, hu'⟩ := mem_chunk k3 hu
    exact hE.one _ _ _ _ (k4 j ys[j] (List.getElem?_eq_getElem hj)) u hu'
  -- a new row
  have grown : ∀ (old : Nat) (row : Option Nat), old < xs.length + ys.length →
      OSl base e i.size E S (w.drew.alloc (.cells (cells.toArray ++ news.toArray ++ Builtin.zeroCells z.cells (grownCap w (xs.length + ys.length) old e - (xs.length + ys.length))) e))
        (.slice (some ⟨w.heap.size, 0, none⟩) (xs.length + ys.length) (grownCap w (xs.length + ys.length) old e)) (xs ++ ys) ∧
      w.grownBy (w.drew.alloc (.cells (cells.toArray ++ news.toArray ++ Builtin.zeroCells z.cells (grownCap w (xs.length + ys.length) old e - (xs.length + ys.length))) e)) row := by
    intro old row ho
    have hge := grownCap_ge w (xs.length + ys.length) old e
    have hcm : grownCap w (xs.length + ys.length) old e ≤ maxLen := grownCap_le_maxLen w (xs.length + ys.length) old e h63
    refine ⟨⟨cells ++ news, ⟨by rw [hlen, List.length_append], .inr ⟨w.heap.size, _, _, by rw [List.length_append], hbase, heap_alloc_new w.drew _, by rw [List.length_append]; exact hge, hcm, ?_, ?_⟩⟩, (fun g hg hs => by simp [Value.ownBlock] at hg; subst hg; exact absurd (hS _ hs) (Nat.lt_irrefl _)), ?_⟩, ⟨rfl, rfl, rfl, by simp, fun k hk _ => Below.heap_alloc w.drew _ k hk⟩⟩
    · simp only [Array.size_append, List.size_toArray, size_zeroCells, hzs, hown.1, k3, ← Nat.add_mul]
      congr 1
      omega
    · simp only [Array.toList_append, List.append_assoc]
      rw [← List.append_assoc, List.length_append, ← hlen]
      exact List.take_left
    · intro j x hj
      refine hE.kept _ _ _ _ _ ((Ext.refl w).drew.alloc _ |>.mem _) (hE.more _ _ _ _ _ ?_ (hel' j x hj))
      intro k hk
      rcases hk with hk | hk
      · exact .inl (.inl hk)
      · simp [Value.ownBlock] at hk; exact .inr (by omega)
  have hown2 := hown.2
  rcases hown2 with ⟨rfl, hx0⟩ | ⟨g, cap, cur, rfl, hbg, hg, hnc, hcm, hcs, htake⟩
  · have hx : xs = [] := List.eq_nil_of_length_eq_zero hx0
    subst hx
    have hc : cells = [] := List.eq_nil_of_length_eq_zero (by simpa using hown.1)
    subst hc
    have hr := run_append_nil (P := P) w t ty e i z ht hi hz ⟨b, o, none⟩ ys.length c2 news k3 hnews (by omega) (by simp at hsmall; omega) (by simp only [List.length_nil, Nat.zero_add] at hbytes; omega)
    have hgr := grown 0 (Value.ownBlock (.slice none 0 0)) (by simp; omega)
    simp only [List.length_nil, Nat.zero_add, List.nil_append, Array.empty_append] at hgr ⊢
    exact ⟨_, _, hr, hgr.1, hgr.2⟩
  · by_cases hroom : xs.length + ys.length ≤ cap
    · have hfit : xs.length * i.size + news.length ≤ cur.size := by rw [k3, hcs, ← Nat.add_mul]; exact Nat.mul_le_mul_right _ hroom
      have hr := run_append_room (P := P) w t ty e i ht hi g xs.length cap cur hg ⟨b, o, none⟩ ys.length c2 news k3 hnews one hroom hfit
      refine ⟨_, _, hr, ⟨cells ++ news, ⟨by rw [hlen, List.length_append], .inr ⟨g, cap, _, by rw [List.length_append], hbg, setRow_heap w g cur _ e _ hg, by rw [List.length_append]; exact hroom, hcm, ?_, ?_⟩⟩, fun g' hg' => hnS g' (by simpa [Value.ownBlock] using hg'), ?_⟩, ⟨rfl, rfl, rfl, by simp, fun k _ hk => setRow_other w g k _ (fun e => hk (by simp [Value.ownBlock, e]))⟩⟩
      · simp only [List.size_toArray, List.length_append, List.length_take, List.length_drop, Array.length_toList]
        omega
      · rw [htake, List.length_append, ← hlen]
        exact List.take_left
      · intro j x hj
        refine hE.kept _ _ _ _ _ ⟨by simp, fun k _ hk => setRow_other w g k _ (fun e => hk (.inr (by simp [Value.ownBlock, e])))⟩ (hE.more _ _ _ _ _ ?_ (hel' j x hj))
        intro k hk
        rcases hk with hk | hk
        · exact .inl (.inl hk)
        · exact .inl (.inr (by simpa [Value.ownBlock] using hk))
    · have holds : ∀ j u, cells[j]? = some u → w.cell? ((⟨g, 0, none⟩ : Addr).add j) = some u := hown.cells (g := g) rfl
      have hr := run_append_grow (P := P) w t ty e i z ht hi hz ⟨g, 0, none⟩ xs.length cap cells hown.1 holds ⟨b, o, none⟩ ys.length c2 news k3 hnews (by omega) (by omega) (growslice_fits (by omega) hbytes)
      have hgr := grown cap (Value.ownBlock (.slice (some ⟨g, 0, none⟩) xs.length cap)) (by omega)
      exact ⟨_, _, hr, hgr.1, hgr.2⟩

/-- An append to a slice that is full: what was there stays as it was. -/
theorem run_append_clip (hE : ET E) (hS : ∀ k, S k → k < w.heap.size) (t ty e : TypeId) (i : TypeInfo) (z : Value) (size bytes : Nat)
    (ht : P.underlying t = some (.slice e)) (hi : P.info? e = some i) (hz : i.zero = some z) (hsize : i.size = size) (hby : i.bytes = bytes) (hzs : z.cells.size = size)
    (a : Option Addr) (n : Nat) (v2 : Value) (xs ys : List α) (h1 : Sl size E S w (.slice a n n) xs) (h2 : Sl size E S w v2 ys)
    (h63 : xs.length + ys.length ≤ maxLen) (hbytes : (xs.length + ys.length) * bytes ≤ 140737488355328) :
    ∃ v' w', (Builtin.append_ #[t, t] ty #[.slice a n n, v2]).run P w = .ok v' w' ∧ Sl size E S w' v' (xs ++ ys) ∧ Ext w w' := by
  subst hsize
  subst hby
  have h1' := h1
  obtain ⟨a2, c2, news, rfl, k1, k2, k3, k4, k5⟩ := h2
  obtain ⟨a1, c1, cells, ev, l1, l2, l3, l4, l5⟩ := h1
  cases ev
  by_cases hys : ys = []
  · subst hys
    refine ⟨_, w, run_append_nothing w t ty e i ht hi _ _ _ _ _ (Nat.le_refl _), by simpa using h1', Ext.refl _⟩
  have hm : 0 < ys.length := List.length_pos_iff.2 hys
  obtain ⟨b, o, rfl, hb, hcell⟩ := k5.resolve_left hys
  have hnews : ∀ j u, news[j]? = some u → w.cell? ((⟨b, o, none⟩ : Addr).add j) = some u := fun j u hj => by rw [Addr.add_lit]; exact hcell j u hj
  have hsmall : xs.length + ys.length ≤ 9223372036854775807 := h63
  have hlen : (cells ++ news).length = (xs.length + ys.length) * i.size := by rw [List.length_append, l3, k3, Nat.add_mul]
  have hel' : ∀ j x, (xs ++ ys)[j]? = some x → E S w (chunk i.size (cells ++ news) j) x := by
    intro j x hj
    by_cases hlt : j < xs.length
    · rw [List.getElem?_append_left hlt] at hj
      rw [chunk_left l3 hlt]
      exact l4 j x hj
    · rw [List.getElem?_append_right (by omega)] at hj
      have e1 : j = xs.length + (j - xs.length) := by omega
      rw [e1, chunk_right l3]
      exact k4 _ _ hj
  have grown : ∀ (old : Nat), old < xs.length + ys.length →
      Sl i.size E S (w.drew.alloc (.cells (cells.toArray ++ news.toArray ++ Builtin.zeroCells z.cells (grownCap w (xs.length + ys.length) old e - (xs.length + ys.length))) e))
        (.slice (some ⟨w.heap.size, 0, none⟩) (xs.length + ys.length) (grownCap w (xs.length + ys.length) old e)) (xs ++ ys) := by
    intro old ho
    have hge := grownCap_ge w (xs.length + ys.length) old e
    have hcm : grownCap w (xs.length + ys.length) old e ≤ maxLen := grownCap_le_maxLen w (xs.length + ys.length) old e h63
    refine ⟨_, _, cells ++ news, by rw [List.length_append], by rw [List.length_append]; exact hge, hcm, by rw [hlen, List.length_append], fun j x hj => hE.kept _ _ _ _ _ ((Ext.refl w).drew.alloc _ |>.mem _) (hel' j x hj), .inr ⟨_, _, rfl, ⟨by simp, fun hs => absurd (hS _ hs) (Nat.lt_irrefl _)⟩, fun j u hj => ?_⟩⟩
    rw [Nat.zero_add, World.cell?_alloc_at _ _ _ _ (by simp)]
    have hj' : j < (cells ++ news).length := by
      rcases Nat.lt_or_ge j (cells ++ news).length with h | h
      · exact h
      · rw [List.getElem?_eq_none h] at hj; cases hj
    rw [Array.getElem?_append_left (by simp at hj' ⊢; omega), ← Array.getElem?_toList]
    simpa using hj
  cases ha : a with
  | none =>
    subst ha
    have hx : xs = [] := by
      rcases l5 with h | ⟨_, _, h, _⟩
      · exact h
      · cases h
    subst hx
    have hc : cells = [] := List.eq_nil_of_length_eq_zero (by simpa using l3)
    subst hc
    have hr := run_append_nil (P := P) w t ty e i z ht hi hz ⟨b, o, none⟩ ys.length c2 news k3 hnews (by omega) (by simp at hsmall; omega) (by simp only [List.length_nil, Nat.zero_add] at hbytes; omega)
    have hgr := grown 0 (by simp; omega)
    simp only [List.length_nil, Nat.zero_add, List.nil_append, Array.empty_append] at hgr ⊢
    exact ⟨_, _, hr, hgr, (Ext.refl w).drew.alloc _⟩
  | some ad =>
    subst ha
    have holds : ∀ j u, cells[j]? = some u → w.cell? (ad.add j) = some u := by
      intro j u hj
      rcases l5 with h | ⟨b1, o1, h, _, h5⟩
      · subst h
        have hc : cells = [] := List.eq_nil_of_length_eq_zero (by simpa using l3)
        subst hc; simp at hj
      · cases h; rw [Addr.add_lit]; exact h5 j u hj
    have hr := run_append_grow (P := P) w t ty e i z ht hi hz ad xs.length xs.length cells l3 holds ⟨b, o, none⟩ ys.length c2 news k3 hnews (by omega) (by omega) (growslice_fits (by omega) hbytes)
    exact ⟨_, _, hr, grown xs.length (by omega), (Ext.refl w).drew.alloc _⟩
end

/-- A slice type and its element's row of the table. -/
def AT (P : Program) (t e : TypeId) (size bytes : Nat) : Prop :=
  P.underlying t = some (.slice e) ∧ 0 < size ∧ ∃ i z, P.info? e = some i ∧ i.zero = some z ∧ i.size = size ∧ i.bytes = bytes ∧ z.cells.size = size
section
variable {P : Program} {α : Type} {E : (Nat → Prop) → World → List Value → α → Prop} {S : Nat → Prop} {w : World}
theorem wp_append_osl {t e : TypeId} {size bytes : Nat} (hT : AT P t e size bytes) (hE : ET E) {o : Oper} {a : Act} {K : Act → World → Prop} {Q : Exit → Act → World → Prop} (s x : Operand)
    (ho : o.op = .call { callee := .builtin .append, args := #[s, x], argTypes := #[t, t] }) (base : Nat) (v v2 : Value) (xs ys : List α) (hs : a.eval s = v) (hx : a.eval x = v2)
    (h1 : OSl base e size E S w v xs) (h2 : Sl size E (Wo S v) w v2 ys) (hS : ∀ k, S k → k < w.heap.size)
    (hbytes : (xs.length + ys.length) * bytes ≤ 140737488355328) (h63 : xs.length + ys.length ≤ 140737488355328) (hbase : base ≤ w.heap.size)
    (h : ∀ v' w', OSl base e size E S w' v' (xs ++ ys) → w.grownBy w' v.ownBlock → K (a.put o.dst v') w') : o.wp P a w K Q := by
  obtain ⟨ht, hsz, i, z, hi, hz, q1, q2, q3⟩ := hT
  obtain ⟨v', w', hr, k1, k2⟩ := run_append_osl (P := P) w hE base t o.type e i z size bytes ht hi hz q1 q2 q3 hsz v v2 xs ys h1 h2 hS (by unfold maxLen; omega) hbytes hbase
  unfold Oper.wp execOp
  simp only [ho, resolve, invoke, builtin, Sem.run_bind, Sem.run_pure, Result.andThen_ok, List.map_toArray, List.map_cons, List.map_nil, hs, hx, hr]
  exact h v' w' k1 k2
theorem wpList_append_osl {t e : TypeId} {size bytes : Nat} (hT : AT P t e size bytes) (hE : ET E) {ops : Array Oper} {rest : List Oper} {o : Oper} {a : Act} {Q : Exit → Act → World → Prop} (hgd : o.guard = none) (s x : Operand)
    (ho : o.op = .call { callee := .builtin .append, args := #[s, x], argTypes := #[t, t] }) (base : Nat) (v v2 : Value) (xs ys : List α) (hs : a.eval s = v) (hx : a.eval x = v2)
    (h1 : OSl base e size E S w v xs) (h2 : Sl size E (Wo S v) w v2 ys) (hS : ∀ k, S k → k < w.heap.size)
    (hbytes : (xs.length + ys.length) * bytes ≤ 140737488355328) (h63 : xs.length + ys.length ≤ 140737488355328) (hbase : base ≤ w.heap.size)
    (h : ∀ v' w', OSl base e size E S w' v' (xs ++ ys) → w.grownBy w' v.ownBlock → wpList P ops Q rest (a.put o.dst v') w') : wpList P ops Q (o :: rest) a w :=
  wpList_plain hgd fun _ hK => wp_append_osl hT hE s x ho base v v2 xs ys hs hx h1 h2 hS hbytes h63 hbase fun v' w' k1 k2 => hK _ _ (h v' w' k1 k2)
theorem wp_append_clip {t e : TypeId} {size bytes : Nat} (hT : AT P t e size bytes) (hE : ET E) (hS : ∀ k, S k → k < w.heap.size) {o : Oper} {a : Act} {K : Act → World → Prop} {Q : Exit → Act → World → Prop} (s x : Operand)
    (ho : o.op = .call { callee := .builtin .append, args := #[s, x], argTypes := #[t, t] }) (ad : Option Addr) (n : Nat) (v2 : Value) (xs ys : List α) (hs : a.eval s = .slice ad n n) (hx : a.eval x = v2)
    (h1 : Sl size E S w (.slice ad n n) xs) (h2 : Sl size E S w v2 ys)
    (hbytes : (xs.length + ys.length) * bytes ≤ 140737488355328) (h63 : xs.length + ys.length ≤ 140737488355328)
    (h : ∀ v' w', Sl size E S w' v' (xs ++ ys) → Ext w w' → K (a.put o.dst v') w') : o.wp P a w K Q := by
  obtain ⟨ht, hsz, i, z, hi, hz, q1, q2, q3⟩ := hT
  obtain ⟨v', w', hr, k1, k2⟩ := run_append_clip (P := P) w hE hS t o.type e i z size bytes ht hi hz q1 q2 q3 ad n v2 xs ys h1 h2 (by unfold maxLen; omega) hbytes
  unfold Oper.wp execOp
  simp only [ho, resolve, invoke, builtin, Sem.run_bind, Sem.run_pure, Result.andThen_ok, List.map_toArray, List.map_cons, List.map_nil, hs, hx, hr]
  exact h v' w' k1 k2
theorem wpList_append_clip {t e : TypeId} {size bytes : Nat} (hT : AT P t e size bytes) (hE : ET E) (hS : ∀ k, S k → k < w.heap.size) {ops : Array Oper} {rest : List Oper} {o : Oper} {a : Act} {Q : Exit → Act → World → Prop} (hgd : o.guard = none) (s x : Operand)
    (ho : o.op = .call { callee := .builtin .append, args := #[s, x], argTypes := #[t, t] }) (ad : Option Addr) (n : Nat) (v2 : Value) (xs ys : List α) (hs : a.eval s = .slice ad n n) (hx : a.eval x = v2)
    (h1 : Sl size E S w (.slice ad n n) xs) (h2 : Sl size E S w v2 ys)
    (hbytes : (xs.length + ys.length) * bytes ≤ 140737488355328) (h63 : xs.length + ys.length ≤ 140737488355328)
    (h : ∀ v' w', Sl size E S w' v' (xs ++ ys) → Ext w w' → wpList P ops Q rest (a.put o.dst v') w') : wpList P ops Q (o :: rest) a w :=
  wpList_plain hgd fun _ hK => wp_append_clip hT hE hS s x ho ad n v2 xs ys hs hx h1 h2 hbytes h63 fun v' w' k1 k2 => hK _ _ (h v' w' k1 k2)
end
end Go.Proofs.Ytpciankfpagnhaa

/- A store into a slice of the call's own; a cut of a slice. -/
namespace Go.Proofs.Ytpciankfpagnhaa
open Go.RowKit

theorem chunk1 (cells : List Value) (i : Nat) : chunk 1 cells i = (cells[i]?).toList := by
  unfold chunk
  rw [Nat.mul_one]
  cases h : cells[i]? with
  | none => rw [List.getElem?_eq_none_iff] at h; simp [List.drop_eq_nil_of_le h]
  | some u =>
    have hi : i < cells.length := by
      rcases Nat.lt_or_ge i cells.length with h' | h'
      · exact h'
      · rw [List.getElem?_eq_none h'] at h; cases h
    rw [List.getElem?_eq_getElem hi] at h; cases h
    rw [List.drop_eq_getElem_cons hi]; rfl

/-- A store into a slice of the call's own, of one cell an element. -/
theorem OSl.store1 {α : Type} {base : Nat} {e : TypeId} {E : (Nat → Prop) → World → List Value → α → Prop} (hE : ET E) {S : Nat → Prop} {w : World} {v : Value} {xs : List α} (h : OSl base e 1 E S w v xs)
    {i : Nat} (hi : i < xs.length) (u : Value) (y : α) (hu : E (Wo S v) w [u] y) :
    ∃ g c u0, v = .slice (some ⟨g, 0, none⟩) xs.length c ∧ base ≤ g ∧ g < w.heap.size ∧ ¬ S g ∧ w.cell? ⟨g, i, none⟩ = some u0 ∧ w.frozen? ⟨g, i, none⟩ = false ∧ OSl base e 1 E S (w.setCell ⟨g, i, none⟩ u) v (xs.set i y) := by
  have hsl := h.sl hE
  obtain ⟨cells, hown, hS, hel⟩ := h
  have hlen := hown.1
  have hlt := hown.lt
  have hcs := fun g hg => hown.cells (g := g) hg
  rcases hown.2 with ⟨rfl, hn⟩ | ⟨g, cap, cur, rfl, hg, hh, h1, h2, h3, h4⟩
  · have hx : xs = [] := List.eq_nil_of_length_eq_zero hn
    subst hx; simp at hi
  · have hic : i < cells.length := by rw [hlen]; omega
    have hcell : w.cell? ⟨g, i, none⟩ = some cells[i] := by
      have := hcs g rfl i _ (List.getElem?_eq_getElem hic)
      simpa [Addr.add_lit] using this
    have hfr : w.frozen? ⟨g, i, none⟩ = false := by simp [World.frozen?, hh]
    have hblk : (w.setCell ⟨g, i, none⟩ u).heap[g]? = some (.cells (cur.setIfInBounds i u) e (0, 0)) := by
      simp [World.setCell, Array.getElem?_modify, hh]
    refine ⟨g, cap, cells[i], rfl, hg, (hlt g rfl).2, hS g rfl, hcell, hfr, cells.set i u, ⟨by simp [hlen], .inr ⟨g, cap, _, by simp, hg, hblk, by simpa using h1, h2, by simpa using h3, ?_⟩⟩, hS, ?_⟩
    · simp only [List.length_set]
      rw [← h4, Array.toList_setIfInBounds, List.take_set]
    · intro j x hj
      have hm : Mem (Wo S (.slice (some ⟨g, 0, none⟩) xs.length cap)) w (w.setCell ⟨g, i, none⟩ u) := (Mem.refl _ w).setCell (.inr rfl) u
      rw [chunk1]
      by_cases hji : j = i
      · subst hji
        rw [List.getElem?_set_self hi] at hj
        cases hj
        rw [List.getElem?_set_self hic]
        exact hE.kept _ _ _ _ _ hm hu
      · rw [List.getElem?_set_ne (by omega)] at hj
        rw [List.getElem?_set_ne (by omega), ← chunk1]
        exact hE.kept _ _ _ _ _ hm (hel j x hj)

/-- A cut of a slice: s[lo:hi:m]. -/
theorem Sl.cut {α : Type} {size : Nat} {E : (Nat → Prop) → World → List Value → α → Prop} {S : Nat → Prop} {w : World} {a : Option Addr} {n c : Nat} {xs : List α} (h : Sl size E S w (.slice a n c) xs)
    (lo hi m : Nat) (h1 : lo ≤ hi) (h2 : hi ≤ xs.length) (h3 : hi ≤ m) (h4 : m ≤ c) :
    Sl size E S w (.slice (if m = lo then a else a.map (·.add (lo * size))) (hi - lo) (m - lo)) ((xs.drop lo).take (hi - lo)) := by
  obtain ⟨a', c', cells, e, l1, l2, l3, l4, l5⟩ := h
  cases e
  have hl : ((xs.drop lo).take (hi - lo)).length = hi - lo := by simp; omega
  refine ⟨_, m - lo, (cells.drop (lo * size)).take ((hi - lo) * size), by rw [hl], by rw [hl]; omega, by unfold maxLen at *; omega, ?_, ?_, ?_⟩
  · rw [hl, List.length_take, List.length_drop, l3]
    have : hi * size ≤ xs.length * size := Nat.mul_le_mul_right _ h2
    rw [Nat.sub_mul]; omega
  · intro i x hi'
    have hlt : i < hi - lo := by
      rcases Nat.lt_or_ge i (hi - lo) with h | h
      · exact h
      · rw [List.getElem?_eq_none (by omega)] at hi'; cases hi'
    rw [List.getElem?_take, if_pos hlt, List.getElem?_drop] at hi'
    have := l4 _ _ hi'
    have e1 : List.take size (List.drop (i * size) (List.take ((hi - lo) * size) (List.drop (lo * size) cells))) = List.take size (List.drop ((lo + i) * size) cells) := by
      rw [List.drop_take, List.take_take, List.drop_drop, Nat.add_mul]
      congr 1
      have : i * size + size ≤ (hi - lo) * size := by have := Nat.mul_le_mul_right size (show i + 1 ≤ hi - lo from hlt); rw [Nat.add_mul, Nat.one_mul] at this; exact this
      omega
    rw [e1]; exact this
  · by_cases hz : hi - lo = 0
    · left; rw [hz]; simp
    · right
      rcases l5 with rfl | ⟨b, o, rfl, hb, l5⟩
      · simp at h2; omega
      · have hm : ¬ m = lo := by omega
        rw [if_neg hm]
        refine ⟨b, o + lo * size, by simp [Addr.add_lit], hb, fun j u hj => ?_⟩
        rw [List.getElem?_take] at hj
        split at hj
        · rw [List.getElem?_drop] at hj
          have := l5 _ _ hj
          rwa [← Nat.add_assoc] at this
        · cases hj
end Go.Proofs.Ytpciankfpagnhaa

/- Stores into the call's own boxes. -/
namespace Go.Proofs.Ytpciankfpagnhaa
open Go.RowKit

theorem only_setRow (w : World) (g : Nat) (X : Array Value) : Only g w (w.setRow g X) := ⟨rfl, rfl, rfl, by simp, fun k hk => setRow_other w g k _ hk⟩
theorem only_setCell (w : World) (a : Addr) (v : Value) : Only a.block w (w.setCell a v) := ⟨rfl, rfl, rfl, by simp [World.setCell], fun k hk => Below.heap_setCell _ _ _ _ hk⟩

theorem Only.trans {g : Nat} {a b c : World} (h : Only g a b) (k : Only g b c) : Only g a c := ⟨k.os.trans h.os, k.tape.trans h.tape, k.output.trans h.output, k.size.trans h.size, fun i hi => (k.block i hi).trans (h.block i hi)⟩
theorem Box.set {w : World} {B : Nat} {cs : List Value} (h : Box w B cs) (i : Nat) (u : Value) : Box (w.setCell ⟨B, i, none⟩ u) B (cs.set i u) := by
  obtain ⟨t, hg⟩ := h
  exact ⟨t, by simp [World.setCell, Array.getElem?_modify, hg]⟩
/-- Four stores, one name. -/
theorem box_set4 {w w3 : World} {B : Nat} {y0 y1 y2 y3 x0 x1 x2 x3 : Value} (h : Box w B [y0, y1, y2, y3])
    (hW : (((w.setCell ⟨B, 0, none⟩ x0).setCell ⟨B, 1, none⟩ x1).setCell ⟨B, 2, none⟩ x2).setCell ⟨B, 3, none⟩ x3 = w3) : Box w3 B [x0, x1, x2, x3] ∧ Only B w w3 := by
  subst hW
  exact ⟨(((h.set 0 x0).set 1 x1).set 2 x2).set 3 x3, (((only_setCell w ⟨B, 0, none⟩ x0).trans (only_setCell _ ⟨B, 1, none⟩ x1)).trans (only_setCell _ ⟨B, 2, none⟩ x2)).trans (only_setCell _ ⟨B, 3, none⟩ x3)⟩
theorem box_set3 {w w3 : World} {B : Nat} {y0 y1 y2 x0 x1 x2 : Value} (h : Box w B [y0, y1, y2])
    (hW : ((w.setCell ⟨B, 0, none⟩ x0).setCell ⟨B, 1, none⟩ x1).setCell ⟨B, 2, none⟩ x2 = w3) : Box w3 B [x0, x1, x2] ∧ Only B w w3 := by
  subst hW
  exact ⟨((h.set 0 x0).set 1 x1).set 2 x2, ((only_setCell w ⟨B, 0, none⟩ x0).trans (only_setCell _ ⟨B, 1, none⟩ x1)).trans (only_setCell _ ⟨B, 2, none⟩ x2)⟩
theorem box_set1 {w w3 : World} {B i : Nat} {x : Value} {cs : List Value} (h : Box w B cs) (hW : w.setCell ⟨B, i, none⟩ x = w3) : Box w3 B (cs.set i x) ∧ Only B w w3 := by
  subst hW
  exact ⟨h.set i x, only_setCell w ⟨B, i, none⟩ x⟩

/-- s[:m:m']. -/
theorem Sl.pre {α : Type} {size : Nat} {E : (Nat → Prop) → World → List Value → α → Prop} {S : Nat → Prop} {w : World} {a : Option Addr} {n c : Nat} {xs : List α} (h : Sl size E S w (.slice a n c) xs)
    (m m' : Nat) (h1 : m ≤ xs.length) (h2 : m ≤ m') (h3 : m' ≤ maxLen) : Sl size E S w (.slice a m m') (xs.take m) := by
  obtain ⟨a', c', cells, e, l1, l2, l3, l4, l5⟩ := h
  cases e
  have hl : (xs.take m).length = m := by simp; omega
  have hms : m * size ≤ xs.length * size := Nat.mul_le_mul_right _ h1
  refine ⟨a, m', cells.take (m * size), by rw [hl], by rw [hl]; exact h2, h3, by rw [hl, List.length_take, l3]; omega, ?_, ?_⟩
  · intro i x hi
    rw [List.getElem?_take] at hi
    split at hi
    · rename_i him
      have := l4 _ _ hi
      have e1 : List.take size (List.drop (i * size) (List.take (m * size) cells)) = List.take size (List.drop (i * size) cells) := by
        rw [List.drop_take, List.take_take]
        congr 1
        have : i * size + size ≤ m * size := by have := Nat.mul_le_mul_right size (show i + 1 ≤ m from him); rw [Nat.add_mul, Nat.one_mul] at this; exact this
        omega
      rw [e1]; exact this
    · cases hi
  · rcases l5 with rfl | ⟨b, o, rfl, hb, l5⟩
    · left; simp
    · exact .inr ⟨b, o, rfl, hb, fun j u hj => by
        rw [List.getElem?_take] at hj
        split at hj
        · exact l5 _ _ hj
        · cases hj⟩

section
variable {P : Program} {w : World}
/-- A whole value into a box. -/
theorem wp_store_box {o : Oper} {a : Act} {K : Act → World → Prop} {Q : Exit → Act → World → Prop} (ty : TypeId) (x y : Operand) (ho : o.op = .store ty x y) (B : Nat) (cells old : List Value) (hx : a.eval x = .pointer (some ⟨B, 0, none⟩))
    (hy : a.eval y = .agg cells.toArray) (hb : Box w B old) (hi : (P.info? ty).map (·.size) = some cells.length) (hl : old.length = cells.length) (h1 : cells.all (·.oneCell') = true)
    (h : ∀ w', Box w' B cells → Only B w w' → K (a.put o.dst undef) w') : o.wp P a w K Q := by
  obtain ⟨t, hg⟩ := hb
  refine wp_store_row ty x y ho B cells.toArray hx hy t old.toArray hg (by simpa using hi) (by simpa using hl) (by simpa using h1) (h _ ⟨t, ?_⟩ (only_setRow _ _ _))
  exact setRow_heap w B _ _ t _ hg
theorem wpList_store_box {ops : Array Oper} {rest : List Oper} {o : Oper} {a : Act} {Q : Exit → Act → World → Prop} (hgd : o.guard = none) (ty : TypeId) (x y : Operand) (ho : o.op = .store ty x y) (B : Nat) (cells old : List Value)
    (hx : a.eval x = .pointer (some ⟨B, 0, none⟩)) (hy : a.eval y = .agg cells.toArray) (hb : Box w B old) (hi : (P.info? ty).map (·.size) = some cells.length) (hl : old.length = cells.length) (h1 : cells.all (·.oneCell') = true)
    (h : ∀ w', Box w' B cells → Only B w w' → wpList P ops Q rest (a.put o.dst undef) w') : wpList P ops Q (o :: rest) a w :=
  wpList_plain hgd fun _ hK => wp_store_box ty x y ho B cells old hx hy hb hi hl h1 fun w' k1 k2 => hK _ _ (h w' k1 k2)
/-- One cell of a box. -/
theorem wp_store_cell {o : Oper} {a : Act} {K : Act → World → Prop} {Q : Exit → Act → World → Prop} (ty : TypeId) (x y : Operand) (ho : o.op = .store ty x y) (B i : Nat) (u : Value) (old : List Value) (hx : a.eval x = .pointer (some ⟨B, i, none⟩))
    (hy : a.eval y = u) (hb : Box w B old) (hi : (P.info? ty).map (·.size) = some 1) (hl : i < old.length) (h1 : u.oneCell' = true)
    (h : ∀ w', Box w' B (old.set i u) → Only B w w' → K (a.put o.dst undef) w') : o.wp P a w K Q := by
  have hb' := hb
  obtain ⟨t, hg⟩ := hb
  have hr : (storeVar ty ⟨B, i, none⟩ u).run P w = .ok () (w.setCell ⟨B, i, none⟩ u) := by
    obtain ⟨c0, f0⟩ := hb'.own i _ (List.getElem?_eq_getElem hl)
    cases hq : P.info? ty with
    | none => simp [hq] at hi
    | some inf =>
      have hs : inf.size = 1 := by simpa [hq] using hi
      cases u <;> first | (simp [Value.oneCell'] at h1; done) | (simp [storeVar, sizeOf, typeInfo, hq, hs, Value.cells, storeCells, go_sem, c0, f0]; done) | (simp [storeVar, sizeOf, typeInfo, hq, hs, Value.cells, storeCells, Go.store, Sem.run, go_sem, c0, f0]; done)
  unfold Oper.wp execOp
  simp only [ho, hx, hy, Instr.storeAt, Instr.sureAddr, Sem.run_bind, Sem.run_pure, Result.andThen_ok, hr]
  refine h _ ⟨t, ?_⟩ (only_setCell w ⟨B, i, none⟩ u)
  simp [World.setCell, Array.getElem?_modify, hg]
theorem wpList_store_cell {ops : Array Oper} {rest : List Oper} {o : Oper} {a : Act} {Q : Exit → Act → World → Prop} (hgd : o.guard = none) (ty : TypeId) (x y : Operand) (ho : o.op = .store ty x y) (B i : Nat) (u : Value) (old : List Value)
    (hx : a.eval x = .pointer (some ⟨B, i, none⟩)) (hy : a.eval y = u) (hb : Box w B old) (hi : (P.info? ty).map (·.size) = some 1) (hl : i < old.length) (h1 : u.oneCell' = true)
    (h : ∀ w', Box w' B (old.set i u) → Only B w w' → wpList P ops Q rest (a.put o.dst undef) w') : wpList P ops Q (o :: rest) a w :=
  wpList_plain hgd fun _ hK => wp_store_cell ty x y ho B i u old hx hy hb hi hl h1 fun w' k1 k2 => hK _ _ (h w' k1 k2)
end
end Go.Proofs.Ytpciankfpagnhaa

/- Copy into a slice of bytes of the call's own. -/
namespace Go.Proofs.Ytpciankfpagnhaa
open Go.RowKit

/-- What a copy leaves. -/
def over (xs ys : List UInt8) (m : Nat) : List UInt8 := ys.take m ++ xs.drop (Nat.min ys.length m)
theorem over_length (xs ys : List UInt8) (m : Nat) (h : m ≤ xs.length) : (over xs ys m).length = xs.length := by
  unfold over; rw [List.length_append, List.length_take, List.length_drop]
  have : Nat.min ys.length m = min ys.length m := rfl
  omega

section
variable {P : Program} {w : World} {S S2 : Nat → Prop}
theorem run_copy_osl {base : Nat} {dT sT ty : TypeId} (hu : P.underlying dT = some (.slice 5)) (hi : (P.info? 5).map (·.size) = some 1) {g n c m c' : Nat} {v2 : Value} {xs ys : List UInt8}
    (h1 : OSl base 5 1 eByte S w (.slice (some ⟨g, 0, none⟩) n c) xs) (h2 : Bs S2 w v2 ys) (hm : m ≤ xs.length) :
    ∃ k w', (Builtin.copy_ #[dT, sT] ty #[.slice (some ⟨g, 0, none⟩) m c', v2]).run P w = .ok (goInt k) w' ∧ OSl base 5 1 eByte S w' (.slice (some ⟨g, 0, none⟩) n c) (over xs ys m) ∧ Only g w w' := by
  obtain ⟨a2, c2, rfl, _, _⟩ := h2.open
  by_cases h0 : Nat.min ys.length m = 0
  · refine ⟨0, w, ?_, ?_, ⟨rfl, rfl, rfl, rfl, fun _ _ => rfl⟩⟩
    · exact run_copy_none (P := P) w dT sT ty 5 (some ⟨g, 0, none⟩) a2 m c' ys.length c2 hu hi h0
    · have : over xs ys m = xs := by
        unfold over
        rw [h0]
        have : ys.take m = [] := by
          have hmm : Nat.min ys.length m = min ys.length m := rfl
          rw [List.take_eq_nil_iff]; rcases Nat.eq_zero_or_pos m with h | h
          · exact .inl h
          · right; exact List.eq_nil_of_length_eq_zero (by omega)
        rw [this]; simp
      rw [this]; exact h1
  · have hmm : Nat.min ys.length m = min ys.length m := rfl
    obtain ⟨b, o, rfl, hb, hcell⟩ := h2.cells (by omega)
    obtain ⟨cells, hown, hnS, hel⟩ := h1
    have hlt := hown.lt
    have hlen := hown.1
    rcases hown.2 with ⟨e, _⟩ | ⟨g', cap, cur, e, hbg, hg, hnc, hcm, hcs, htake⟩
    · cases e
    · cases e
      have hk : (bv (ys.take m)).length = Nat.min ys.length m := by rw [bv_length, List.length_take, hmm]; omega
      have hsrc : ∀ j v, (bv (ys.take m))[j]? = some v → w.cell? ((⟨b, o, none⟩ : Addr).add j) = some v := by
        intro j v hj
        rw [Addr.add_lit]
        obtain ⟨x, hx, rfl⟩ := bv_get hj
        rw [List.getElem?_take] at hx
        split at hx
        · refine hcell j _ ?_
          unfold bv; rw [List.getElem?_map, hx]; rfl
        · cases hx
      have hfit : 0 + (bv (ys.take m)).length ≤ cur.size := by rw [hk, hcs]; omega
      have hr := run_copy_row (P := P) w dT sT ty 5 g 0 m c' ⟨b, o, none⟩ ys.length c2 cur 5 (bv (ys.take m)) hu hi hg hk hsrc hfit (bv_one _)
      have hcl : cells.length = xs.length := by rw [hlen]; omega
      have hcells : cells = bv xs := by
        apply List.ext_getElem?
        intro j
        unfold bv
        rw [List.getElem?_map]
        cases hx : xs[j]? with
        | none => rw [List.getElem?_eq_none_iff] at hx; rw [List.getElem?_eq_none (by omega)]; rfl
        | some x => exact take1 (hel j x hx)
      refine ⟨_, _, hr, ⟨bv (over xs ys m), ⟨by rw [bv_length, Nat.mul_one], .inr ⟨g, c, _, by rw [over_length _ _ _ hm], hbg, setRow_heap w g _ _ 5 _ hg, by rw [over_length _ _ _ hm]; exact hnc, hcm, ?_, ?_⟩⟩, hnS, ?_⟩, only_setRow _ _ _⟩
      · simp only [List.take_zero, List.nil_append, List.size_toArray, List.length_append, List.length_drop, Array.length_toList]; omega
      · rw [over_length _ _ _ hm]
        simp only [List.take_zero, List.nil_append]
        have hd : cells = cur.toList.take xs.length := by rw [← htake, Nat.mul_one]
        rw [List.take_append, List.take_of_length_le (by rw [hk]; omega), Nat.mul_one, Nat.zero_add]
        unfold over
        have e2 : bv (ys.take m ++ xs.drop (Nat.min ys.length m)) = bv (ys.take m) ++ (bv xs).drop (Nat.min ys.length m) := by unfold bv; rw [List.map_append, List.map_drop]
        rw [e2, ← hcells, hd, hk, List.drop_take]
      · intro i x hi'
        unfold eByte
        rw [show chunk 1 (bv (over xs ys m)) i = ((bv (over xs ys m))[i]?).toList from by
          unfold chunk; rw [Nat.mul_one]
          cases h : (bv (over xs ys m))[i]? with
          | none => rw [List.getElem?_eq_none_iff] at h; simp [List.drop_eq_nil_of_le h]
          | some u =>
            have hi : i < (bv (over xs ys m)).length := by
              rcases Nat.lt_or_ge i (bv (over xs ys m)).length with h' | h'
              · exact h'
              · rw [List.getElem?_eq_none h'] at h; cases h
            rw [List.getElem?_eq_getElem hi] at h; cases h
            rw [List.drop_eq_getElem_cons hi]; rfl]
        unfold bv
        rw [List.getElem?_map, hi']; rfl

theorem step_copy_osl {ops : Array Oper} {o : Oper} {a : Act} {K : Act → World → Prop} {Q : Exit → Act → World → Prop} {E : Prop} (hgd : o.guard = none) (d s : Operand) (dT sT : TypeId)
    (ho : o.op = .call { callee := .builtin .copy, args := #[d, s], argTypes := #[dT, sT] }) (hu : P.underlying dT = some (.slice 5)) (hi : (P.info? 5).map (·.size) = some 1) {base : Nat} (g n c m c' : Nat) (v2 : Value) (xs ys : List UInt8)
    (hd : a.eval d = .slice (some ⟨g, 0, none⟩) m c') (hs : a.eval s = v2) (h1 : OSl base 5 1 eByte S w (.slice (some ⟨g, 0, none⟩) n c) xs) (h2 : Bs S2 w v2 ys) (hm : m ≤ xs.length)
    (h : ∀ k w', OSl base 5 1 eByte S w' (.slice (some ⟨g, 0, none⟩) n c) (over xs ys m) → Only g w w' → K (a.put o.dst (goInt k)) w') :
    if Region.wanted o (yielded ops a.tmps) = true then Oper.wp P o a w K Q else E := by
  have hw : Region.wanted o (yielded ops a.tmps) = true := by simp [Region.wanted, hgd]
  rw [if_pos hw]
  obtain ⟨k, w', hr, k1, k2⟩ := run_copy_osl (P := P) (dT := dT) (sT := sT) (ty := o.type) (c' := c') hu hi h1 h2 hm
  unfold Oper.wp
  simp [execOp, ho, resolve, invoke, builtin, hd, hs, hr, Result.andThen]
  exact h k w' k1 k2
end
theorem OSl.more {α : Type} {base : Nat} {e : TypeId} {size : Nat} {E : (Nat → Prop) → World → List Value → α → Prop} (hE : ET E) {S S' : Nat → Prop} {w : World} {v : Value} {xs : List α} (h : OSl base e size E S w v xs)
    (hS : ∀ k, S' k → S k ∨ w.heap.size ≤ k) : OSl base e size E S' w v xs := by
  obtain ⟨cells, hown, hnS, hel⟩ := h
  have hlt := hown.lt
  refine ⟨cells, hown, fun g hg hs => ?_, fun i x hi => hE.more _ _ _ _ _ (fun k hk => ?_) (hel i x hi)⟩
  · rcases hS g hs with h | h
    · exact hnS g hg h
    · have := (hlt g hg).2; omega
  · rcases hk with hk | hk
    · exact (hS k hk).imp .inl id
    · exact .inl (.inr hk)
theorem OSl.elemB {base : Nat} {e : TypeId} {S : Nat → Prop} {w : World} {a : Option Addr} {n c : Nat} {xs : List (List UInt8)} (h : OSl base e 1 eBs S w (.slice a n c) xs) {k : Nat} (hk : k < xs.length) :
    ∃ g vd, a = some ⟨g, 0, none⟩ ∧ base ≤ g ∧ g < w.heap.size ∧ ¬ S g ∧ w.cell? ⟨g, k, none⟩ = some vd ∧ Bs (Wo S (.slice a n c)) w vd xs[k] := by
  obtain ⟨cells, hown, hnS, hel⟩ := h
  have hlt := hown.lt
  have hcs := fun g hg => hown.cells (g := g) hg
  rcases hown.2 with ⟨e, hn⟩ | ⟨g', cap, cur, e, hbg, hg, hnc, hcm, hcs', htake⟩
  · omega
  · cases e
    obtain ⟨vd, hd, hv⟩ := hel k _ (List.getElem?_eq_getElem hk)
    refine ⟨g', vd, rfl, hbg, (hlt g' rfl).2, hnS g' rfl, ?_, hv⟩
    have := hcs g' rfl k _ (take1 hd)
    simpa [Addr.add_lit] using this
end Go.Proofs.Ytpciankfpagnhaa

/- Append inside a region that draws its order. -/
namespace Go.Proofs.Ytpciankfpagnhaa
open Go.RowKit

section
variable {P : Program} {α : Type} {E : (Nat → Prop) → World → List Value → α → Prop} {S : Nat → Prop} {w : World}
theorem step_append_osl {t e : TypeId} {size bytes : Nat} (hT : AT P t e size bytes) (hE : ET E) {ops : Array Oper} {o : Oper} {a : Act} {K : Act → World → Prop} {Q : Exit → Act → World → Prop} {F : Prop} (hgd : o.guard = none) (s x : Operand)
    (ho : o.op = .call { callee := .builtin .append, args := #[s, x], argTypes := #[t, t] }) (base : Nat) (v v2 : Value) (xs ys : List α) (hs : a.eval s = v) (hx : a.eval x = v2)
    (h1 : OSl base e size E S w v xs) (h2 : Sl size E (Wo S v) w v2 ys) (hS : ∀ k, S k → k < w.heap.size)
    (hbytes : (xs.length + ys.length) * bytes ≤ 140737488355328) (h63 : xs.length + ys.length ≤ 140737488355328) (hbase : base ≤ w.heap.size)
    (h : ∀ v' w', OSl base e size E S w' v' (xs ++ ys) → w.grownBy w' v.ownBlock → K (a.put o.dst v') w') :
    if Region.wanted o (yielded ops a.tmps) = true then Oper.wp P o a w K Q else F := by
  have hw : Region.wanted o (yielded ops a.tmps) = true := by simp [Region.wanted, hgd]
  rw [if_pos hw]
  exact wp_append_osl hT hE s x ho base v v2 xs ys hs hx h1 h2 hS hbytes h63 hbase h
/-- A slice of one value, written out: it is of one's own. -/
theorem OSl.lit1 {base : Nat} {e : TypeId} {v : Value} {x : α} (hE : ET E) (hb : base ≤ w.heap.size) (hS : ∀ k, S k → k < w.heap.size) (h : E (fun k => S k ∨ k = w.heap.size) w [v] x) :
    OSl base e 1 E S (w.alloc (.cells #[v] e)) (.slice (some ⟨w.heap.size, 0, none⟩) 1 1) [x] := by
  refine ⟨[v], ⟨rfl, .inr ⟨w.heap.size, 1, #[v], rfl, hb, heap_alloc_new w _, Nat.le_refl _, by decide, rfl, rfl⟩⟩, ?_, ?_⟩
  · intro g hg h
    simp [Value.ownBlock] at hg
    have := hS _ h; omega
  · intro i y hi
    match i with
    | 0 =>
      simp at hi; subst hi
      refine hE.kept _ _ _ _ _ (((Ext.refl w).alloc _).mem _) (hE.more _ _ _ _ _ ?_ h)
      intro k hk
      rcases hk with hk | hk
      · exact .inl (.inl hk)
      · simp [Value.ownBlock] at hk; exact .inl (.inr hk.symm)
    | (n + 1) => simp at hi
end
end Go.Proofs.Ytpciankfpagnhaa
