/- What reads no block of S1 and no block of S2 reads none of both. -/
import Derived.Test.YtpciankfpagnhaaRep
namespace Go.Proofs.Ytpciankfpagnhaa
open Go.RowKit

def Bo (S1 S2 : Nat → Prop) (k : Nat) : Prop := S1 k ∨ S2 k
theorem Sl.both {α : Type} {size : Nat} {E : (Nat → Prop) → World → List Value → α → Prop} (hB : ∀ S1 S2 w cs x, E S1 w cs x → E S2 w cs x → E (Bo S1 S2) w cs x) {S1 S2 : Nat → Prop} {w : World} {v : Value} {xs : List α}
    (h1 : Sl size E S1 w v xs) (h2 : Sl size E S2 w v xs) : Sl size E (Bo S1 S2) w v xs := by
  obtain ⟨a, c, cells, rfl, p1, p2, p3, p4, p5⟩ := h1
  obtain ⟨a', c', cells', e, q1, q2, q3, q4, q5⟩ := h2
  cases e
  have hc : cells = cells' := by
    rcases p5 with rfl | ⟨b, o, rfl, hb, p5⟩
    · have e1 : cells = [] := List.eq_nil_of_length_eq_zero (by simpa using p3)
      have e2 : cells' = [] := List.eq_nil_of_length_eq_zero (by simpa using q3)
      rw [e1, e2]
    · rcases q5 with rfl | ⟨b', o', e, hb', q5⟩
      · have e1 : cells = [] := List.eq_nil_of_length_eq_zero (by simpa using p3)
        have e2 : cells' = [] := List.eq_nil_of_length_eq_zero (by simpa using q3)
        rw [e1, e2]
      · cases e
        apply List.ext_getElem (by omega)
        intro j h1 h2
        have := p5 j _ (List.getElem?_eq_getElem h1)
        rw [q5 j _ (List.getElem?_eq_getElem h2)] at this
        exact (Option.some.inj this).symm
  subst hc
  refine ⟨a, c, cells, rfl, p1, p2, p3, fun i x hi => hB _ _ _ _ _ (p4 i x hi) (q4 i x hi), ?_⟩
  rcases p5 with h | ⟨b, o, rfl, hb, p5⟩
  · exact .inl h
  · rcases q5 with h | ⟨b', o', e, hb', -⟩
    · exact .inl h
    · cases e
      exact .inr ⟨b, o, rfl, ⟨hb.1, fun h => h.elim hb.2 hb'.2⟩, p5⟩
theorem Bs.both {S1 S2 : Nat → Prop} {w : World} {v : Value} {l : List UInt8} (h1 : Bs S1 w v l) (h2 : Bs S2 w v l) : Bs (Bo S1 S2) w v l := Sl.both (fun _ _ _ _ _ h _ => h) h1 h2
theorem Bss.both {S1 S2 : Nat → Prop} {w : World} {v : Value} {l : List (List UInt8)} (h1 : Bss S1 w v l) (h2 : Bss S2 w v l) : Bss (Bo S1 S2) w v l :=
  Sl.both (fun _ _ _ _ _ ⟨v, e, h⟩ ⟨v', e', h'⟩ => by subst e; cases e'; exact ⟨v, rfl, h.both h'⟩) h1 h2
theorem Wrs.both {S1 S2 : Nat → Prop} {w : World} {v : Value} {l : List Wr} (h1 : Wrs S1 w v l) (h2 : Wrs S2 w v l) : Wrs (Bo S1 S2) w v l :=
  Sl.both (fun _ _ _ _ _ ⟨v, e, h⟩ ⟨v', e', h'⟩ => by subst e; cases e'; exact ⟨v, rfl, h.both h'⟩) h1 h2
theorem Journal.both {S1 S2 : Nat → Prop} {w : World} {v : Value} {j : Jn} (h1 : Journal S1 w v j) (h2 : Journal S2 w v j) : Journal (Bo S1 S2) w v j := by
  obtain ⟨v1, rfl, a⟩ := h1
  obtain ⟨v2, e, b⟩ := h2
  cases e
  exact ⟨_, rfl, a.both b⟩
theorem Disk.both {S1 S2 : Nat → Prop} {w : World} {v : Value} {d : Dk} (h1 : Disk S1 w v d) (h2 : Disk S2 w v d) : Disk (Bo S1 S2) w v d := by
  obtain ⟨v1, v2, rfl, a, b⟩ := h1
  obtain ⟨v3, v4, e, c, d⟩ := h2
  cases e
  exact ⟨_, _, rfl, a.both c, b.both d⟩
end Go.Proofs.Ytpciankfpagnhaa
