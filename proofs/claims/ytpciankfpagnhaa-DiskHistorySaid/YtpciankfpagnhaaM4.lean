/- Copy into a slice of bytes of the call's own. -/
import Derived.Test.YtpciankfpagnhaaM3
import Derived.Laws.CopyOwn
namespace Go.Proofs.Ytpciankfpagnhaa
open Go.RowKit

/-- What a copy leaves. -/
def over (xs ys : List UInt8) (m : Nat) : List UInt8 := ys.take m ++ xs.drop (Nat.min ys.length m)
theorem over_length (xs ys : List UInt8) (m : Nat) (h : m ≤ xs.length) : (over xs ys m).length = xs.length := by
  unfold over; rw [List.length_append, List.length_take, List.length_drop]
  have : Nat.min ys.length m = min ys.length m := rfl
  omega

section
variable {P : Program} {w : World} {S S2 : Nat → Prop}
theorem run_copy_osl {base : Nat} {dT sT ty : TypeId} (hu : P.underlying dT = some (.slice 5)) (hi : (P.info? 5).map (·.size) = some 1) {g n c m c' : Nat} {v2 : Value} {xs ys : List UInt8}
    (h1 : OSl base 5 1 eByte S w (.slice (some ⟨g, 0, none⟩) n c) xs) (h2 : Bs S2 w v2 ys) (hm : m ≤ xs.length) :
    ∃ k w', (Builtin.copy_ #[dT, sT] ty #[.slice (some ⟨g, 0, none⟩) m c', v2]).run P w = .ok (goInt k) w' ∧ OSl base 5 1 eByte S w' (.slice (some ⟨g, 0, none⟩) n c) (over xs ys m) ∧ Only g w w' := by
  obtain ⟨a2, c2, rfl, _, _⟩ := h2.open
  by_cases h0 : Nat.min ys.length m = 0
  · refine ⟨0, w, ?_, ?_, ⟨rfl, rfl, rfl, rfl, fun _ _ => rfl⟩⟩
    · exact run_copy_none (P := P) w dT sT ty 5 (some ⟨g, 0, none⟩) a2 m c' ys.length c2 hu hi h0
    · have : over xs ys m = xs := by
        unfold over
        rw [h0]
        have : ys.take m = [] := by
          have hmm : Nat.min ys.length m = min ys.length m := rfl
          rw [List.take_eq_nil_iff]; rcases Nat.eq_zero_or_pos m with h | h
          · exact .inl h
          · right; exact List.eq_nil_of_length_eq_zero (by omega)
        rw [this]; simp
      rw [this]; exact h1
  · have hmm : Nat.min ys.length m = min ys.length m := rfl
    obtain ⟨b, o, rfl, hb, hcell⟩ := h2.cells (by omega)
    obtain ⟨cells, hown, hnS, hel⟩ := h1
    have hlt := hown.lt
    have hlen := hown.1
    rcases hown.2 with ⟨e, _⟩ | ⟨g', cap, cur, e, hbg, hg, hnc, hcm, hcs, htake⟩
    · cases e
    · cases e
      have hk : (bv (ys.take m)).length = Nat.min ys.length m := by rw [bv_length, List.length_take, hmm]; omega
      have hsrc : ∀ j v, (bv (ys.take m))[j]? = some v → w.cell? ((⟨b, o, none⟩ : Addr).add j) = some v := by
        intro j v hj
        rw [Addr.add_lit]
        obtain ⟨x, hx, rfl⟩ := bv_get hj
        rw [List.getElem?_take] at hx
        split at hx
        · refine hcell j _ ?_
          unfold bv; rw [List.getElem?_map, hx]; rfl
        · cases hx
      have hfit : 0 + (bv (ys.take m)).length ≤ cur.size := by rw [hk, hcs]; omega
      have hr := run_copy_row (P := P) w dT sT ty 5 g 0 m c' ⟨b, o, none⟩ ys.length c2 cur 5 (bv (ys.take m)) hu hi hg hk hsrc hfit (bv_one _)
      have hcl : cells.length = xs.length := by rw [hlen]; omega
      have hcells : cells = bv xs := by
        apply List.ext_getElem?
        intro j
        unfold bv
        rw [List.getElem?_map]
        cases hx : xs[j]? with
        | none => rw [List.getElem?_eq_none_iff] at hx; rw [List.getElem?_eq_none (by omega)]; rfl
        | some x => exact take1 (hel j x hx)
      refine ⟨_, _, hr, ⟨bv (over xs ys m), ⟨by rw [bv_length, Nat.mul_one], .inr ⟨g, c, _, by rw [over_length _ _ _ hm], hbg, setRow_heap w g _ _ 5 _ hg, by rw [over_length _ _ _ hm]; exact hnc, hcm, ?_, ?_⟩⟩, hnS, ?_⟩, only_setRow _ _ _⟩
      · simp only [List.take_zero, List.nil_append, List.size_toArray, List.length_append, List.length_drop, Array.length_toList]; omega
      · rw [over_length _ _ _ hm]
        simp only [List.take_zero, List.nil_append]
        have hd : cells = cur.toList.take xs.length := by rw [← htake, Nat.mul_one]
        rw [List.take_append, List.take_of_length_le (by rw [hk]; omega), Nat.mul_one, Nat.zero_add]
        unfold over
        have e2 : bv (ys.take m ++ xs.drop (Nat.min ys.length m)) = bv (ys.take m) ++ (bv xs).drop (Nat.min ys.length m) := by unfold bv; rw [List.map_append, List.map_drop]
        rw [e2, ← hcells, hd, hk, List.drop_take]
      · intro i x hi'
        unfold eByte
        rw [show chunk 1 (bv (over xs ys m)) i = ((bv (over xs ys m))[i]?).toList from by
          unfold chunk; rw [Nat.mul_one]
          cases h : (bv (over xs ys m))[i]? with
          | none => rw [List.getElem?_eq_none_iff] at h; simp [List.drop_eq_nil_of_le h]
          | some u =>
            have hi : i < (bv (over xs ys m)).length := by
              rcases Nat.lt_or_ge i (bv (over xs ys m)).length with h' | h'
              · exact h'
              · rw [List.getElem?_eq_none h'] at h; cases h
            rw [List.getElem?_eq_getElem hi] at h; cases h
            rw [List.drop_eq_getElem_cons hi]; rfl]
        unfold bv
        rw [List.getElem?_map, hi']; rfl

theorem step_copy_osl {ops : Array Oper} {o : Oper} {a : Act} {K : Act → World → Prop} {Q : Exit → Act → World → Prop} {E : Prop} (hgd : o.guard = none) (d s : Operand) (dT sT : TypeId)
    (ho : o.op = .call { callee := .builtin .copy, args := #[d, s], argTypes := #[dT, sT] }) (hu : P.underlying dT = some (.slice 5)) (hi : (P.info? 5).map (·.size) = some 1) {base : Nat} (g n c m c' : Nat) (v2 : Value) (xs ys : List UInt8)
    (hd : a.eval d = .slice (some ⟨g, 0, none⟩) m c') (hs : a.eval s = v2) (h1 : OSl base 5 1 eByte S w (.slice (some ⟨g, 0, none⟩) n c) xs) (h2 : Bs S2 w v2 ys) (hm : m ≤ xs.length)
    (h : ∀ k w', OSl base 5 1 eByte S w' (.slice (some ⟨g, 0, none⟩) n c) (over xs ys m) → Only g w w' → K (a.put o.dst (goInt k)) w') :
    if Region.wanted o (yielded ops a.tmps) = true then Oper.wp P o a w K Q else E := by
  have hw : Region.wanted o (yielded ops a.tmps) = true := by simp [Region.wanted, hgd]
  rw [if_pos hw]
  obtain ⟨k, w', hr, k1, k2⟩ := run_copy_osl (P := P) (dT := dT) (sT := sT) (ty := o.type) (c' := c') hu hi h1 h2 hm
  unfold Oper.wp
  simp [execOp, ho, resolve, invoke, builtin, hd, hs, hr, Result.andThen]
  exact h k w' k1 k2
end
theorem OSl.more {α : Type} {base : Nat} {e : TypeId} {size : Nat} {E : (Nat → Prop) → World → List Value → α → Prop} (hE : ET E) {S S' : Nat → Prop} {w : World} {v : Value} {xs : List α} (h : OSl base e size E S w v xs)
    (hS : ∀ k, S' k → S k ∨ w.heap.size ≤ k) : OSl base e size E S' w v xs := by
  obtain ⟨cells, hown, hnS, hel⟩ := h
  have hlt := hown.lt
  refine ⟨cells, hown, fun g hg hs => ?_, fun i x hi => hE.more _ _ _ _ _ (fun k hk => ?_) (hel i x hi)⟩
  · rcases hS g hs with h | h
    · exact hnS g hg h
    · have := (hlt g hg).2; omega
  · rcases hk with hk | hk
    · exact (hS k hk).imp .inl id
    · exact .inl (.inr hk)
theorem OSl.elemB {base : Nat} {e : TypeId} {S : Nat → Prop} {w : World} {a : Option Addr} {n c : Nat} {xs : List (List UInt8)} (h : OSl base e 1 eBs S w (.slice a n c) xs) {k : Nat} (hk : k < xs.length) :
    ∃ g vd, a = some ⟨g, 0, none⟩ ∧ base ≤ g ∧ g < w.heap.size ∧ ¬ S g ∧ w.cell? ⟨g, k, none⟩ = some vd ∧ Bs (Wo S (.slice a n c)) w vd xs[k] := by
  obtain ⟨cells, hown, hnS, hel⟩ := h
  have hlt := hown.lt
  have hcs := fun g hg => hown.cells (g := g) hg
  rcases hown.2 with ⟨e, hn⟩ | ⟨g', cap, cur, e, hbg, hg, hnc, hcm, hcs', htake⟩
  · omega
  · cases e
    obtain ⟨vd, hd, hv⟩ := hel k _ (List.getElem?_eq_getElem hk)
    refine ⟨g', vd, rfl, hbg, (hlt g' rfl).2, hnS g' rfl, ?_, hv⟩
    have := hcs g' rfl k _ (take1 hd)
    simpa [Addr.add_lit] using this
end Go.Proofs.Ytpciankfpagnhaa
