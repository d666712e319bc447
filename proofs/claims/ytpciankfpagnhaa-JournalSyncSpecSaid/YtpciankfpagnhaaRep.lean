/- What a slice, a list of slices, a disk and a journal hold, said of the world; and that it is kept while a call only makes new memory. -/
import Derived.WalkKit
import Derived.WalkSpells
import Derived.WalkLawsBesides
import Derived.Lib.Hide
namespace Go.Proofs.Ytpciankfpagnhaa
open Go.RowKit

/-- Nothing that was there has changed; there may be more. -/
def Ext (w w' : World) : Prop := Below w.heap.size w w'
theorem Ext.below {w w' : World} (h : Ext w w') : Below w.heap.size w w' := h
theorem Ext.of {w w' : World} (h : Below w.heap.size w w') : Ext w w' := h
theorem Ext.refl (w : World) : Ext w w := Below.refl _ _
theorem Ext.size {w w' : World} (h : Ext w w') : w.heap.size ≤ w'.heap.size := Below.size h
theorem Ext.trans {a b c : World} (h : Ext a b) (k : Ext b c) : Ext a c := Below.trans h (Below.mono k h.size)
theorem Ext.drew {a b : World} (h : Ext a b) : Ext a b.drew := Below.drew h
theorem Ext.drew' (w : World) : Ext w w.drew := (Ext.refl w).drew
theorem Ext.alloc {a b : World} (h : Ext a b) (o : Obj) : Ext a (b.alloc o) := Below.alloc h h.size o
theorem Ext.setCell {a b : World} (h : Ext a b) {p : Addr} (hp : a.heap.size ≤ p.block) (u : Value) : Ext a (b.setCell p u) := Below.setCell h hp u
theorem Ext.grown {a b c : World} {row : Option Nat} (h : Ext a b) (hg : b.grownBy c row) (hr : ∀ k, row = some k → a.heap.size ≤ k) : Ext a c := Below.grown h hg h.size hr
theorem lt_of_cell {w : World} {b o : Nat} {v : Value} (h : w.cell? ⟨b, o, none⟩ = some v) : b < w.heap.size := by
  by_cases hb : b < w.heap.size
  · exact hb
  · simp [World.cell?, Array.getElem?_eq_none (Nat.le_of_not_lt hb)] at h
theorem Ext.cell {w w' : World} (h : Ext w w') {b o : Nat} {v : Value} (hc : w.cell? ⟨b, o, none⟩ = some v) : w'.cell? ⟨b, o, none⟩ = some v := by
  rw [Below.cell h (p := ⟨b, o, none⟩) (lt_of_cell hc)]; exact hc
theorem Ext.cellEq {w w' : World} (h : Ext w w') {b o : Nat} (hb : b < w.heap.size) : w'.cell? ⟨b, o, none⟩ = w.cell? ⟨b, o, none⟩ :=
  Below.cell h (p := ⟨b, o, none⟩) hb
theorem Ext.frozenEq {w w' : World} (h : Ext w w') {b o : Nat} (hb : b < w.heap.size) : w'.frozen? ⟨b, o, none⟩ = w.frozen? ⟨b, o, none⟩ :=
  Below.frozen h (p := ⟨b, o, none⟩) hb

theorem Ext.free {w w' : World} (h : Ext w w') {b o : Nat} {v : Value} (hc : w.cell? ⟨b, o, none⟩ = some v) (hf : w.frozen? ⟨b, o, none⟩ = false) : w'.frozen? ⟨b, o, none⟩ = false := by
  rw [h.frozenEq (lt_of_cell hc)]; exact hf
/-- A cell of the call's own: what it holds; it may be written. -/
def Own (w : World) (b o : Nat) (v : Value) : Prop := w.cell? ⟨b, o, none⟩ = some v ∧ w.frozen? ⟨b, o, none⟩ = false
theorem Own.keep {w w' : World} {b o : Nat} {v : Value} (h : Own w b o v) (hx : Ext w w') : Own w' b o v := ⟨hx.cell h.1, hx.free h.1 h.2⟩

/-- A block of the call's own: what its cells hold; they may be written. -/
def Box (w : World) (b : Nat) (cs : List Value) : Prop := ∃ t, w.heap[b]? = some (.cells cs.toArray t (0, 0))
theorem Box.lt {w : World} {b : Nat} {cs : List Value} (h : Box w b cs) : b < w.heap.size := by
  obtain ⟨t, h⟩ := h
  rcases Nat.lt_or_ge b w.heap.size with h' | h'
  · exact h'
  · rw [Array.getElem?_eq_none h'] at h; cases h
theorem Box.own {w : World} {b : Nat} {cs : List Value} (h : Box w b cs) (i : Nat) (x : Value) (hi : cs[i]? = some x) : Own w b i x := by
  obtain ⟨t, h⟩ := h
  exact ⟨by simp [World.cell?, h, hi], by simp [World.frozen?, h]⟩
theorem Box.keep {w w' : World} {b : Nat} {cs : List Value} (h : Box w b cs) (hx : Ext w w') : Box w' b cs := by
  have hl := h.lt
  obtain ⟨t, h⟩ := h
  exact ⟨t, by rw [Below.block hx b hl]; exact h⟩
theorem Box.new (w : World) (cs : List Value) (t : TypeId) : Box (w.alloc (.cells cs.toArray t)) w.heap.size cs := ⟨t, heap_alloc_new w _⟩
theorem Box.at {w : World} {b : Nat} {cs : List Value} {t : TypeId} (hb : b = w.heap.size) : Box (w.alloc (.cells cs.toArray t)) b cs := hb ▸ Box.new w cs t
theorem Box.past {w : World} {b : Nat} {cs : List Value} (h : Box w b cs) (o : Obj) : Box (w.alloc o) b cs := h.keep ((Ext.refl w).alloc o)
theorem Box.drew {w : World} {b : Nat} {cs : List Value} (h : Box w b cs) : Box w.drew b cs := h.keep (Ext.refl w).drew
theorem Box.one {w : World} {b : Nat} {x0 : Value} (h : Box w b [x0]) : w.cell? ⟨b, 0, none⟩ = some x0 ∧ w.frozen? ⟨b, 0, none⟩ = false := h.own 0 _ rfl
theorem Box.two {w : World} {b : Nat} {x0 x1 : Value} (h : Box w b [x0, x1]) :
    w.cell? ⟨b, 0, none⟩ = some x0 ∧ w.cell? ⟨b, 1, none⟩ = some x1 ∧ w.frozen? ⟨b, 0, none⟩ = false ∧ w.frozen? ⟨b, 1, none⟩ = false :=
  ⟨(h.own 0 _ rfl).1, (h.own 1 _ rfl).1, (h.own 0 _ rfl).2, (h.own 1 _ rfl).2⟩
theorem Box.three {w : World} {b : Nat} {x0 x1 x2 : Value} (h : Box w b [x0, x1, x2]) :
    w.cell? ⟨b, 0, none⟩ = some x0 ∧ w.cell? ⟨b, 1, none⟩ = some x1 ∧ w.cell? ⟨b, 2, none⟩ = some x2 ∧ w.frozen? ⟨b, 0, none⟩ = false ∧ w.frozen? ⟨b, 1, none⟩ = false ∧ w.frozen? ⟨b, 2, none⟩ = false :=
  ⟨(h.own 0 _ rfl).1, (h.own 1 _ rfl).1, (h.own 2 _ rfl).1, (h.own 0 _ rfl).2, (h.own 1 _ rfl).2, (h.own 2 _ rfl).2⟩
theorem Box.four {w : World} {b : Nat} {x0 x1 x2 x3 : Value} (h : Box w b [x0, x1, x2, x3]) :
    w.cell? ⟨b, 0, none⟩ = some x0 ∧ w.cell? ⟨b, 1, none⟩ = some x1 ∧ w.cell? ⟨b, 2, none⟩ = some x2 ∧ w.cell? ⟨b, 3, none⟩ = some x3 ∧
      w.frozen? ⟨b, 0, none⟩ = false ∧ w.frozen? ⟨b, 1, none⟩ = false ∧ w.frozen? ⟨b, 2, none⟩ = false ∧ w.frozen? ⟨b, 3, none⟩ = false :=
  ⟨(h.own 0 _ rfl).1, (h.own 1 _ rfl).1, (h.own 2 _ rfl).1, (h.own 3 _ rfl).1, (h.own 0 _ rfl).2, (h.own 1 _ rfl).2, (h.own 2 _ rfl).2, (h.own 3 _ rfl).2⟩

/-- What was there is there, but for the blocks of S. -/
structure Mem (S : Nat → Prop) (w w' : World) : Prop where
  size : w.heap.size ≤ w'.heap.size
  block : ∀ k, k < w.heap.size → ¬ S k → w'.heap[k]? = w.heap[k]?
theorem Ext.mem {w w' : World} (h : Ext w w') (S : Nat → Prop) : Mem S w w' := ⟨Below.size h, fun k hk _ => Below.block h k hk⟩
theorem Mem.refl (S : Nat → Prop) (w : World) : Mem S w w := ⟨Nat.le_refl _, fun _ _ _ => rfl⟩
theorem Mem.trans {S : Nat → Prop} {a b c : World} (h : Mem S a b) (k : Mem S b c) : Mem S a c := ⟨Nat.le_trans h.size k.size, fun i hi hs => (k.block i (Nat.lt_of_lt_of_le hi h.size) hs).trans (h.block i hi hs)⟩
theorem Mem.alloc {S : Nat → Prop} {a b : World} (h : Mem S a b) (o : Obj) : Mem S a (b.alloc o) := h.trans (((Ext.refl b).alloc o).mem S)
theorem Mem.drew {S : Nat → Prop} {a b : World} (h : Mem S a b) : Mem S a b.drew := h.trans ((Ext.drew' b).mem S)
theorem Mem.setCell {S : Nat → Prop} {a b : World} (h : Mem S a b) {p : Addr} (hp : S p.block) (u : Value) : Mem S a (b.setCell p u) :=
  h.trans ⟨by simp [World.setCell], fun k _ hk => Below.heap_setCell _ _ _ _ (fun e => hk (e ▸ hp))⟩
theorem Mem.cell {S : Nat → Prop} {w w' : World} (h : Mem S w w') {b o : Nat} {v : Value} (hb : ¬ S b) (hc : w.cell? ⟨b, o, none⟩ = some v) : w'.cell? ⟨b, o, none⟩ = some v := by
  rw [World.cell?_of_block (w := w) (a := ⟨b, o, none⟩) (h.block b (lt_of_cell hc) hb)]; exact hc

/-- Only block g has changed. -/
structure Only (g : Nat) (w w' : World) : Prop where
  os : w'.os = w.os
  tape : w'.tape = w.tape
  output : w'.output = w.output
  size : w'.heap.size = w.heap.size
  block : ∀ k, k ≠ g → w'.heap[k]? = w.heap[k]?
theorem Only.ext {g : Nat} {a w w' : World} (h : Ext a w) (ho : Only g w w') (hg : a.heap.size ≤ g) : Ext a w' :=
  Ext.of (Below.trans h ⟨ho.os, ho.tape, ho.output, Nat.le_of_eq ho.size.symm, fun k hk => ho.block k (by omega)⟩)
theorem Only.mem {g : Nat} {w w' : World} (ho : Only g w w') {S : Nat → Prop} (hg : S g) : Mem S w w' := ⟨Nat.le_of_eq ho.size.symm, fun k _ hk => ho.block k (fun e => hk (e ▸ hg))⟩
theorem Only.box {g b : Nat} {w w' : World} {cs : List Value} (ho : Only g w w') (h : Box w b cs) (hb : b ≠ g) : Box w' b cs := by
  obtain ⟨t, h⟩ := h
  exact ⟨t, by rw [ho.block b hb]; exact h⟩

/-- A slice whose elements take so many cells each and read as xs, by what E says of an element's cells; no block of S is read. -/
def Sl {α : Type} (size : Nat) (E : (Nat → Prop) → World → List Value → α → Prop) (S : Nat → Prop) (w : World) (v : Value) (xs : List α) : Prop :=
  ∃ (a : Option Addr) (c : Nat) (cells : List Value), v = .slice a xs.length c ∧ xs.length ≤ c ∧ c ≤ maxLen ∧ cells.length = xs.length * size ∧
    (∀ i x, xs[i]? = some x → E S w ((cells.drop (i * size)).take size) x) ∧
    (xs = [] ∨ ∃ b o, a = some ⟨b, o, none⟩ ∧ (b < w.heap.size ∧ ¬ S b) ∧ ∀ j u, cells[j]? = some u → w.cell? ⟨b, o + j, none⟩ = some u)

/-- What is asked of the reading of an element: it is kept while the world grows; it holds of fewer blocks too; its cells are of one value each. -/
structure ET {α : Type} (E : (Nat → Prop) → World → List Value → α → Prop) : Prop where
  kept : ∀ S w w' cs x, Mem S w w' → E S w cs x → E S w' cs x
  more : ∀ S S' w cs x, (∀ k, S' k → S k ∨ w.heap.size ≤ k) → E S w cs x → E S' w cs x
  one : ∀ S w cs x, E S w cs x → ∀ u ∈ cs, u.oneCell' = true

theorem Sl.keepM {α : Type} {size : Nat} {E : (Nat → Prop) → World → List Value → α → Prop} (hE : ET E) {S : Nat → Prop} {w w' : World} {v : Value} {xs : List α}
    (h : Sl size E S w v xs) (hx : Mem S w w') : Sl size E S w' v xs := by
  obtain ⟨a, c, cells, rfl, h1, h2, h3, h4, h5⟩ := h
  refine ⟨a, c, cells, rfl, h1, h2, h3, fun i x hi => hE.kept _ _ _ _ _ hx (h4 i x hi), ?_⟩
  rcases h5 with h5 | ⟨b, o, rfl, hb, h5⟩
  · exact .inl h5
  · exact .inr ⟨b, o, rfl, ⟨Nat.lt_of_lt_of_le hb.1 hx.size, hb.2⟩, fun j u hj => hx.cell hb.2 (h5 j u hj)⟩
theorem Sl.more {α : Type} {size : Nat} {E : (Nat → Prop) → World → List Value → α → Prop} (hE : ET E) {S S' : Nat → Prop} {w : World} {v : Value} {xs : List α}
    (h : Sl size E S w v xs) (hS : ∀ k, S' k → S k ∨ w.heap.size ≤ k) : Sl size E S' w v xs := by
  obtain ⟨a, c, cells, rfl, h1, h2, h3, h4, h5⟩ := h
  refine ⟨a, c, cells, rfl, h1, h2, h3, fun i x hi => hE.more _ _ _ _ _ hS (h4 i x hi), ?_⟩
  rcases h5 with h5 | ⟨b, o, rfl, hb, h5⟩
  · exact .inl h5
  · exact .inr ⟨b, o, rfl, ⟨hb.1, fun h => (hS b h).elim hb.2 (fun h => by have := hb.1; omega)⟩, h5⟩
theorem Sl.oneCell {α : Type} {size : Nat} {E : (Nat → Prop) → World → List Value → α → Prop} {S : Nat → Prop} {w : World} {v : Value} {xs : List α} (h : Sl size E S w v xs) : v.oneCell' = true := by
  obtain ⟨a, c, cells, rfl, _⟩ := h; rfl

/-- A byte's cell. -/
def eByte (_ : Nat → Prop) (_ : World) (cs : List Value) (x : UInt8) : Prop := cs = [.int .u8 (x.toNat : Int)]
theorem etByte : ET eByte := ⟨fun _ _ _ _ _ _ h => h, fun _ _ _ _ _ _ h => h, fun _ _ cs x h u hu => by unfold eByte at h; subst h; simp at hu; subst hu; rfl⟩
/-- A slice of bytes. -/
abbrev Bs (S : Nat → Prop) (w : World) (v : Value) (l : List UInt8) : Prop := Sl 1 eByte S w v l
theorem Bs.keep {S : Nat → Prop} {w w' : World} {v : Value} {l : List UInt8} (h : Bs S w v l) (hx : Ext w w') : Bs S w' v l := Sl.keepM etByte h (hx.mem S)
/-- An element that is a slice of bytes. -/
def eBs (S : Nat → Prop) (w : World) (cs : List Value) (l : List UInt8) : Prop := ∃ v, cs = [v] ∧ Bs S w v l
theorem etBs : ET eBs := ⟨fun _ _ _ _ _ hx ⟨v, h1, h2⟩ => ⟨v, h1, h2.keepM etByte hx⟩, fun _ _ _ _ _ hS ⟨v, h1, h2⟩ => ⟨v, h1, h2.more etByte hS⟩, fun _ _ cs x ⟨v, h, hv⟩ u hu => by subst h; simp at hu; subst hu; exact hv.oneCell⟩
/-- A slice of slices of bytes. -/
abbrev Bss (S : Nat → Prop) (w : World) (v : Value) (ll : List (List UInt8)) : Prop := Sl 1 eBs S w v ll
theorem Bss.keep {S : Nat → Prop} {w w' : World} {v : Value} {ll : List (List UInt8)} (h : Bss S w v ll) (hx : Ext w w') : Bss S w' v ll := Sl.keepM etBs h (hx.mem S)
/-- A write. -/
structure Wr where
  at_ : Int
  data : List UInt8
deriving DecidableEq
def eWr (S : Nat → Prop) (w : World) (cs : List Value) (x : Wr) : Prop := ∃ v, cs = [.int .i64 x.at_, v] ∧ Bs S w v x.data
theorem etWr : ET eWr := ⟨fun _ _ _ _ _ hx ⟨v, h1, h2⟩ => ⟨v, h1, h2.keepM etByte hx⟩, fun _ _ _ _ _ hS ⟨v, h1, h2⟩ => ⟨v, h1, h2.more etByte hS⟩, fun _ _ cs x ⟨v, h, hv⟩ u hu => by subst h; simp at hu; rcases hu with rfl | rfl; rfl; exact hv.oneCell⟩
abbrev Wrs (S : Nat → Prop) (w : World) (v : Value) (l : List Wr) : Prop := Sl 2 eWr S w v l
theorem Wrs.keep {S : Nat → Prop} {w w' : World} {v : Value} {ll : List Wr} (h : Wrs S w v ll) (hx : Ext w w') : Wrs S w' v ll := Sl.keepM etWr h (hx.mem S)

/-- A disk. -/
structure Dk where
  sectors : List (List UInt8)
  pending : List Wr
  left : Int
  stopped : Bool
deriving DecidableEq
def Disk (S : Nat → Prop) (w : World) (v : Value) (d : Dk) : Prop := ∃ vs vp, v = .agg #[vs, vp, .int .i64 d.left, .bool d.stopped] ∧ Bss S w vs d.sectors ∧ Wrs S w vp d.pending
theorem Disk.keepM {S : Nat → Prop} {w w' : World} {v : Value} {d : Dk} (h : Disk S w v d) (hx : Mem S w w') : Disk S w' v d := by
  obtain ⟨vs, vp, rfl, h1, h2⟩ := h
  exact ⟨vs, vp, rfl, h1.keepM etBs hx, h2.keepM etWr hx⟩
theorem Disk.keep {S : Nat → Prop} {w w' : World} {v : Value} {d : Dk} (h : Disk S w v d) (hx : Ext w w') : Disk S w' v d := h.keepM (hx.mem S)
theorem Disk.more {S S' : Nat → Prop} {w : World} {v : Value} {d : Dk} (h : Disk S w v d) (hS : ∀ k, S' k → S k ∨ w.heap.size ≤ k) : Disk S' w v d := by
  obtain ⟨vs, vp, rfl, h1, h2⟩ := h
  exact ⟨vs, vp, rfl, h1.more etBs hS, h2.more etWr hS⟩

/-- A journal. -/
structure Jn where
  records : List (List UInt8)
  many : Int
  synced : Int
deriving DecidableEq
def Journal (S : Nat → Prop) (w : World) (v : Value) (d : Jn) : Prop := ∃ vs, v = .agg #[vs, .int .i64 d.many, .int .i64 d.synced] ∧ Bss S w vs d.records
theorem Journal.keepM {S : Nat → Prop} {w w' : World} {v : Value} {d : Jn} (h : Journal S w v d) (hx : Mem S w w') : Journal S w' v d := by
  obtain ⟨vs, rfl, h1⟩ := h
  exact ⟨vs, rfl, h1.keepM etBs hx⟩
theorem Journal.keep {S : Nat → Prop} {w w' : World} {v : Value} {d : Jn} (h : Journal S w v d) (hx : Ext w w') : Journal S w' v d := h.keepM (hx.mem S)
theorem Journal.more {S S' : Nat → Prop} {w : World} {v : Value} {d : Jn} (h : Journal S w v d) (hS : ∀ k, S' k → S k ∨ w.heap.size ≤ k) : Journal S' w v d := by
  obtain ⟨vs, rfl, h1⟩ := h
  exact ⟨vs, rfl, h1.more etBs hS⟩

theorem Sl.nil {α : Type} (size : Nat) (E : (Nat → Prop) → World → List Value → α → Prop) (S : Nat → Prop) (w : World) : Sl size E S w (.slice none 0 0) [] :=
  ⟨none, 0, [], rfl, Nat.le_refl _, Nat.zero_le _, by simp, by simp, .inl rfl⟩
theorem Sl.empty {α : Type} (size : Nat) (E : (Nat → Prop) → World → List Value → α → Prop) (S : Nat → Prop) (w : World) (a : Option Addr) (c : Nat) (hc : c ≤ maxLen) : Sl size E S w (.slice a 0 c) [] :=
  ⟨a, c, [], rfl, Nat.zero_le _, hc, by simp, by simp, .inl rfl⟩

theorem take1 {cells : List Value} {k : Nat} {v : Value} (h : (cells.drop (k * 1)).take 1 = [v]) : cells[k]? = some v := by
  have := congrArg (fun l : List Value => l[0]?) h
  simpa [List.getElem?_take, List.getElem?_drop] using this
theorem take2 {cells : List Value} {k : Nat} {v u : Value} (h : (cells.drop (k * 2)).take 2 = [v, u]) : cells[k * 2]? = some v ∧ cells[k * 2 + 1]? = some u := by
  have h0 := congrArg (fun l : List Value => l[0]?) h
  have h1 := congrArg (fun l : List Value => l[1]?) h
  exact ⟨by simpa [List.getElem?_take, List.getElem?_drop] using h0, by simpa [List.getElem?_take, List.getElem?_drop] using h1⟩
theorem take3 {cells : List Value} {k : Nat} {v u t : Value} (h : (cells.drop (k * 3)).take 3 = [v, u, t]) : cells[k * 3]? = some v ∧ cells[k * 3 + 1]? = some u ∧ cells[k * 3 + 2]? = some t := by
  have h0 := congrArg (fun l : List Value => l[0]?) h
  have h1 := congrArg (fun l : List Value => l[1]?) h
  have h2 := congrArg (fun l : List Value => l[2]?) h
  exact ⟨by simpa [List.getElem?_take, List.getElem?_drop] using h0, by simpa [List.getElem?_take, List.getElem?_drop] using h1, by simpa [List.getElem?_take, List.getElem?_drop] using h2⟩

/-- The k-th write's two cells. -/
theorem Wrs.elem {S : Nat → Prop} {w : World} {a : Option Addr} {n c : Nat} {xs : List Wr} (h : Wrs S w (.slice a n c) xs) {k : Nat} (hk : k < xs.length) :
    ∃ b o vd, a = some ⟨b, o, none⟩ ∧ (b < w.heap.size ∧ ¬ S b) ∧ w.cell? ⟨b, o + k * 2, none⟩ = some (.int .i64 xs[k].at_) ∧ w.cell? ⟨b, o + k * 2 + 1, none⟩ = some vd ∧ Bs S w vd xs[k].data := by
  obtain ⟨a', c', cells, e, _, _, _, h4, h5⟩ := h
  cases e
  rcases h5 with rfl | ⟨b, o, rfl, hb, h5⟩
  · simp at hk
  · obtain ⟨vd, hd, hv⟩ := h4 k _ (List.getElem?_eq_getElem hk)
    obtain ⟨q0, q1⟩ := take2 hd
    exact ⟨b, o, vd, rfl, hb, h5 _ _ q0, by simpa [Nat.add_assoc] using h5 _ _ q1, hv⟩
/-- The k-th slice's cell. -/
theorem Bss.elem {S : Nat → Prop} {w : World} {a : Option Addr} {n c : Nat} {xs : List (List UInt8)} (h : Bss S w (.slice a n c) xs) {k : Nat} (hk : k < xs.length) :
    ∃ b o vd, a = some ⟨b, o, none⟩ ∧ (b < w.heap.size ∧ ¬ S b) ∧ w.cell? ⟨b, o + k, none⟩ = some vd ∧ Bs S w vd xs[k] := by
  obtain ⟨a', c', cells, e, _, _, _, h4, h5⟩ := h
  cases e
  rcases h5 with rfl | ⟨b, o, rfl, hb, h5⟩
  · simp at hk
  · obtain ⟨vd, hd, hv⟩ := h4 k _ (List.getElem?_eq_getElem hk)
    exact ⟨b, o, vd, rfl, hb, h5 _ _ (take1 hd), hv⟩
/-- The k-th byte's cell. -/
theorem Bs.elem {S : Nat → Prop} {w : World} {a : Option Addr} {n c : Nat} {xs : List UInt8} (h : Bs S w (.slice a n c) xs) {k : Nat} (hk : k < xs.length) :
    ∃ b o, a = some ⟨b, o, none⟩ ∧ (b < w.heap.size ∧ ¬ S b) ∧ w.cell? ⟨b, o + k, none⟩ = some (.int .u8 (xs[k].toNat : Int)) := by
  obtain ⟨a', c', cells, e, _, _, _, h4, h5⟩ := h
  cases e
  rcases h5 with rfl | ⟨b, o, rfl, hb, h5⟩
  · simp at hk
  · exact ⟨b, o, rfl, hb, h5 _ _ (take1 (h4 k _ (List.getElem?_eq_getElem hk)))⟩
/-- The cells of bytes. -/
def bv (l : List UInt8) : List Value := l.map fun c => .int .u8 (c.toNat : Int)
theorem bv_length (l : List UInt8) : (bv l).length = l.length := by simp [bv]
theorem bv_get {l : List UInt8} {j : Nat} {u : Value} (h : (bv l)[j]? = some u) : ∃ x, l[j]? = some x ∧ u = .int .u8 (x.toNat : Int) := by
  unfold bv at h
  rw [List.getElem?_map] at h
  cases hx : l[j]? with
  | none => rw [hx] at h; cases h
  | some x => rw [hx] at h; simp at h; exact ⟨x, rfl, h.symm⟩
theorem bv_one (l : List UInt8) : ∀ u ∈ bv l, u.oneCell' = true := by
  intro u hu
  unfold bv at hu
  obtain ⟨x, _, rfl⟩ := List.mem_map.1 hu
  rfl
/-- Where a slice of bytes lies. -/
theorem Bs.cells {S : Nat → Prop} {w : World} {a : Option Addr} {n c : Nat} {l : List UInt8} (h : Bs S w (.slice a n c) l) (hl : 0 < l.length) :
    ∃ b o, a = some ⟨b, o, none⟩ ∧ (b < w.heap.size ∧ ¬ S b) ∧ ∀ j u, (bv l)[j]? = some u → w.cell? ⟨b, o + j, none⟩ = some u := by
  obtain ⟨a', c', cells, e, h1, h2, h3, h4, h5⟩ := h
  cases e
  rcases h5 with rfl | ⟨b, o, rfl, hb, h5⟩
  · simp at hl
  · refine ⟨b, o, rfl, hb, fun j u hj => ?_⟩
    obtain ⟨x, hx, rfl⟩ := bv_get hj
    exact h5 j _ (take1 (h4 j x hx))
/-- A slice of bytes, by its cells. -/
theorem Bs.mk {S : Nat → Prop} {w : World} {b o c : Nat} {l : List UInt8} (hb : b < w.heap.size ∧ ¬ S b) (h1 : l.length ≤ c) (h2 : c ≤ maxLen) (h : ∀ j u, (bv l)[j]? = some u → w.cell? ⟨b, o + j, none⟩ = some u) :
    Bs S w (.slice (some ⟨b, o, none⟩) l.length c) l := by
  refine ⟨_, c, bv l, rfl, h1, h2, by simp [bv_length], fun i x hi => ?_, .inr ⟨b, o, rfl, hb, h⟩⟩
  unfold eByte bv
  rw [Nat.mul_one, ← List.map_drop, ← List.map_take]
  have : (l.drop i).take 1 = [x] := by
    have hi' : i < l.length := by
      rcases Nat.lt_or_ge i l.length with h | h
      · exact h
      · rw [List.getElem?_eq_none h] at hi; cases hi
    rw [List.getElem?_eq_getElem hi'] at hi; cases hi
    rw [List.drop_eq_getElem_cons hi']; rfl
  rw [this]; rfl
/-- A slice of bytes in a block that is known whole. -/
theorem Bs.whole {S : Nat → Prop} {w : World} {g n c : Nat} {t : TypeId} {l : List UInt8} (hg : w.heap[g]? = some (.cells (bv l).toArray t (0, 0))) (hS : ¬ S g) (hn : n = l.length) (h1 : l.length ≤ c) (h2 : c ≤ maxLen) :
    Bs S w (.slice (some ⟨g, 0, none⟩) n c) l := by
  subst hn
  refine Bs.mk ⟨?_, hS⟩ h1 h2 ?_
  · rcases Nat.lt_or_ge g w.heap.size with h | h
    · exact h
    · rw [Array.getElem?_eq_none h] at hg; cases hg
  · intro j u hj
    simp only [World.cell?, hg, Nat.zero_add]
    simpa using hj

/-- The value of a slice, opened; what it reads as is kept beside it. -/
theorem Sl.open {α : Type} {size : Nat} {E : (Nat → Prop) → World → List Value → α → Prop} {S : Nat → Prop} {w : World} {v : Value} {xs : List α} (h : Sl size E S w v xs) :
    ∃ a c, v = .slice a xs.length c ∧ xs.length ≤ c ∧ c ≤ 9223372036854775807 := by
  obtain ⟨a, c, cells, rfl, h1, h2, _⟩ := h
  exact ⟨a, c, rfl, h1, h2⟩

theorem Disk.open {S : Nat → Prop} {w : World} {v : Value} {d : Dk} (h : Disk S w v d) :
    ∃ a c a2 c2, v = .agg #[.slice a d.sectors.length c, .slice a2 d.pending.length c2, .int .i64 d.left, .bool d.stopped] ∧ d.sectors.length ≤ c ∧ c ≤ 9223372036854775807 ∧ d.pending.length ≤ c2 ∧ c2 ≤ 9223372036854775807 ∧
      Bss S w (.slice a d.sectors.length c) d.sectors ∧ Wrs S w (.slice a2 d.pending.length c2) d.pending := by
  obtain ⟨vs, vp, rfl, h1, h2⟩ := h
  obtain ⟨a, c, rfl, hc, hm⟩ := h1.open
  obtain ⟨a2, c2, rfl, hc2, hm2⟩ := h2.open
  exact ⟨a, c, a2, c2, rfl, hc, hm, hc2, hm2, h1, h2⟩
theorem Disk.mk' {S : Nat → Prop} {w : World} {a a2 : Option Addr} {n n2 c c2 : Nat} {l : Int} {st : Bool} {ss : List (List UInt8)} {ps : List Wr} (h1 : Bss S w (.slice a n c) ss) (h2 : Wrs S w (.slice a2 n2 c2) ps) :
    Disk S w (.agg #[.slice a n c, .slice a2 n2 c2, .int .i64 l, .bool st]) { sectors := ss, pending := ps, left := l, stopped := st } := ⟨_, _, rfl, h1, h2⟩

/-- Where a first element that meets p stands; -1: nowhere. -/
def idxOf {α : Type} (p : α → Bool) (xs : List α) : Int := match xs.findIdx? p with | some i => (i : Int) | none => -1
theorem idxOf_at {α : Type} (p : α → Bool) (xs : List α) (k : Nat) (hk : k < xs.length) (hp : ∀ j x, j < k → xs[j]? = some x → p x = false) (h : p xs[k] = true) : idxOf p xs = (k : Int) := by
  have : xs.findIdx? p = some k := by
    rw [List.findIdx?_eq_some_iff_getElem]
    exact ⟨hk, h, fun j hj => by simpa using hp j _ hj (List.getElem?_eq_getElem (by omega))⟩
  simp [idxOf, this]
theorem idxOf_none {α : Type} (p : α → Bool) (xs : List α) (hp : ∀ j x, j < xs.length → xs[j]? = some x → p x = false) : idxOf p xs = -1 := by
  have : xs.findIdx? p = none := by
    rw [List.findIdx?_eq_none_iff]
    intro x hx
    obtain ⟨j, hj, rfl⟩ := List.getElem_of_mem hx
    exact hp j _ hj (List.getElem?_eq_getElem hj)
  simp [idxOf, this]
theorem idxOf_any {α : Type} (p : α → Bool) (xs : List α) : decide (0 ≤ idxOf p xs) = xs.any p := by
  unfold idxOf
  cases h : xs.findIdx? p with
  | none =>
    rw [List.findIdx?_eq_none_iff] at h
    have : xs.any p = false := by rw [List.any_eq_false]; intro x hx; simp [h x hx]
    rw [this]; decide
  | some i =>
    rw [List.findIdx?_eq_some_iff_getElem] at h
    obtain ⟨hi, hp, _⟩ := h
    have : xs.any p = true := by rw [List.any_eq_true]; exact ⟨_, List.getElem_mem hi, hp⟩
    rw [this]; simp
end Go.Proofs.Ytpciankfpagnhaa
