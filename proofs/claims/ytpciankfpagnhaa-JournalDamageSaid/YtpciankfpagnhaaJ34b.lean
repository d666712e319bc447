/- A slice of ints of the call's own. -/
import Derived.Test.YtpciankfpagnhaaD4
namespace Go.Proofs.Ytpciankfpagnhaa
open Go.RowKit

/-- An int's cell. -/
def eInt (_ : Nat → Prop) (_ : World) (cs : List Value) (x : Int) : Prop := cs = [.int .i64 x]
theorem etInt : ET eInt := ⟨fun _ _ _ _ _ _ h => h, fun _ _ _ _ _ _ h => h, fun _ _ cs x h u hu => by unfold eInt at h; subst h; simp at hu; subst hu; rfl⟩
abbrev Is (S : Nat → Prop) (w : World) (v : Value) (l : List Int) : Prop := Sl 1 eInt S w v l
theorem atInt : AT Try.prog 67 3 1 8 := at_mk (z := .int .i64 0) (by kernel_rfl) (by kernel_rfl) rfl (by omega)
theorem Is.elem {S : Nat → Prop} {w : World} {a : Option Addr} {n c : Nat} {xs : List Int} (h : Is S w (.slice a n c) xs) {k : Nat} (hk : k < xs.length) :
    ∃ b o, a = some ⟨b, o, none⟩ ∧ (b < w.heap.size ∧ ¬ S b) ∧ w.cell? ⟨b, o + k, none⟩ = some (.int .i64 xs[k]) := by
  obtain ⟨a', c', cells, e, _, _, _, h4, h5⟩ := h
  cases e
  rcases h5 with rfl | ⟨b, o, rfl, hb, h5⟩
  · simp at hk
  · have hd : (cells.drop (k * 1)).take 1 = [.int .i64 xs[k]] := h4 k _ (List.getElem?_eq_getElem hk)
    exact ⟨b, o, rfl, hb, h5 _ _ (take1 hd)⟩
/-- An int, written out. -/
theorem int_lit {S : Nat → Prop} {w : World} {t : TypeId} (x : Int) (hS : ¬ S w.heap.size) : Is S (w.alloc (.cells #[.int .i64 x] t)) (.slice (some ⟨w.heap.size, 0, none⟩) 1 1) [x] := by
  refine ⟨_, 1, [.int .i64 x], rfl, Nat.le_refl _, by decide, rfl, fun i y hi => ?_, .inr ⟨w.heap.size, 0, rfl, ⟨by simp, hS⟩, fun j u hj => ?_⟩⟩
  · match i, hi with
    | 0, hi => simp at hi; subst hi; rfl
    | i + 1, hi => simp at hi
  · have e := heap_alloc_new w (.cells #[.int .i64 x] t)
    simp only [World.cell?, e, Nat.zero_add]
    simpa using hj
end Go.Proofs.Ytpciankfpagnhaa
