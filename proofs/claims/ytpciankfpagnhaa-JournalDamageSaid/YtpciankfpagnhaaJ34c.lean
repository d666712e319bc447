/- What the law JournalDamage computes: plain functions. -/
import Derived.Test.YtpciankfpagnhaaJ37
namespace Go.Proofs.Ytpciankfpagnhaa
open Go.RowKit

/-- Where each record ends. -/
def endsL (P : List (List UInt8)) : List Int := (List.range P.length).map fun j => (usedN (P.take (j + 1)) : Int)
theorem endsL_length (P : List (List UInt8)) : (endsL P).length = P.length := by simp [endsL]
theorem endsL_snoc (P : List (List UInt8)) (b : List UInt8) : endsL (P ++ [b]) = endsL P ++ [(usedN (P ++ [b]) : Int)] := by
  unfold endsL
  rw [List.length_append, List.length_singleton, List.range_succ, List.map_append, List.map_singleton]
  congr 1
  · refine List.map_congr_left fun j hj => ?_
    have := List.mem_range.1 hj
    rw [List.take_append_of_le_length (by omega)]
  · rw [List.take_of_length_le (by simp)]
theorem endsL_get (P : List (List UInt8)) (j : Nat) (h : j < (endsL P).length) : (endsL P)[j] = (usedN (P.take (j + 1)) : Int) := by simp [endsL]
theorem endsL_last (P : List (List UInt8)) (h : P.length - 1 < (endsL P).length) (h0 : 0 < P.length) : (endsL P)[P.length - 1] = (usedN P : Int) := by
  rw [endsL_get, show P.length - 1 + 1 = P.length by omega, List.take_length]
/-- A journal of a disk of forty sectors, nothing synced. -/
def jP (P : List (List UInt8)) : Jn := { records := P, many := 40, synced := 0 }
theorem jP_nice {P : List (List UInt8)} (h : usedN P ≤ 40) : Nice (jP P) := ⟨by show (1 : Int) ≤ 40; decide, by show (40 : Int) ≤ 4096; decide, Int.le_refl _, by show (0 : Int) ≤ P.length; omega, by show (usedN P : Int) ≤ 40; omega⟩
theorem jP_append {P : List (List UInt8)} (h : usedN P ≤ 40) (b : List UInt8) : appendJ (jP P) b = if usedN (P ++ [b]) ≤ 40 then (jP (P ++ [b]), 0) else (zeroJ, 2) := by
  rw [(jP_nice h).append, usedN_snoc]
  by_cases e : usedN P + secN b.length ≤ 40
  · rw [if_pos (by show (usedN P + secN b.length : Int) ≤ 40; omega), if_pos e]; rfl
  · rw [if_neg (by show ¬ (usedN P + secN b.length : Int) ≤ 40; omega), if_neg e]
theorem xor_ne {a b : UInt8} (h : b ≠ 0) : a ^^^ b ≠ a := by
  intro e
  apply h
  have := congrArg (fun x => a ^^^ x) e
  simpa [← UInt8.xor_assoc] using this
/-- What the law computes behind the first loop. -/
theorem dmg42 : ∃ D : Dk, newD 40 = (D, 0) ∧ openJ D = (jP [], 0) ∧ ∀ P : List (List UInt8), usedN P ≤ 40 → ∃ C : Dk, syncJ (jP P) D = ({ jP P with synced := P.length }, C, 0) ∧ C.sectors.length = 40 ∧
    ∀ k, k < usedN P → (C.sectors.getD k []).length = 128 ∧ ∀ (j : Nat) (x : UInt8), j < 128 → x ≠ 0 → ∃ (C1 C2 : Dk) (Z : Jn),
      writeD C (k : Int) ((C.sectors.getD k []).set j ((C.sectors.getD k []).getD j 0 ^^^ x)) = (C1, 0) ∧ syncD C1 = (C2, 0) ∧ openJ C2 = (Z, 0) ∧ Z.records = P.take (doneN k P) := by
  obtain ⟨r1, r2, r3, r4, r5, r6⟩ := new_ready (n := 40) (by decide) (by decide)
  have e1 := newD_eq (n := 40) (by decide) (by decide)
  have eL := r1.open
  generalize (newD (40 : Nat)).1 = D at *
  have hDl : D.sectors.length = 40 := by rw [r3]; simp
  refine ⟨D, e1, ?_, fun P hP => ?_⟩
  · rw [eL, r5, hDl]; rfl
  have fit : Fit (jP P) D := ⟨jP_nice hP, r1, by rw [hDl]; rfl, by rw [r5]; rfl, by rw [r6]; decide⟩
  have hgo := fit.go (by rw [r4]; simp)
  obtain ⟨-, -, a3, a4⟩ := fit.after rfl
  have e0 : (jP P).records.drop (jP P).synced.toNat = P := rfl
  rw [e0, r5, r6, usedN_nil, r4] at hgo
  rw [e0, r5, r6, usedN_nil] at a3 a4
  have hC : perfL D.sectors (writesOf 1 0 P) = perfL (List.replicate 40 (List.replicate 128 0)) (writesOf 1 0 P) := by rw [r3]
  generalize perfL D.sectors (writesOf 1 0 P) = ss at *
  rw [hDl] at a4
  refine ⟨_, hgo, a4, fun k hk => ?_⟩
  have hk40 : k < 40 := by omega
  rw [if_neg (by decide)]
  show (ss.getD k []).length = 128 ∧ _
  have hd := fun j hj y hy => damage42 hP hk (C := ss) hC j hj y hy
  have h128 : (ss.getD k []).length = 128 := by
    rw [List.getD_eq_getElem?_getD, List.getElem?_eq_getElem (by omega)]
    exact a3 _ (List.getElem_mem _)
  refine ⟨h128, fun j x hj hx => ?_⟩
  obtain ⟨-, -, hr⟩ := hd j hj ((ss.getD k []).getD j 0 ^^^ x) (xor_ne hx)
  have hsl : ((ss.getD k []).set j ((ss.getD k []).getD j 0 ^^^ x)).length = 128 := by rw [List.length_set]; exact h128
  show ∃ (C1 C2 : Dk) (Z : Jn), writeD ⟨ss, [], -1, false⟩ (k : Int) ((ss.getD k []).set j ((ss.getD k []).getD j 0 ^^^ x)) = (C1, 0) ∧ _
  generalize (ss.getD k []).set j ((ss.getD k []).getD j 0 ^^^ x) = s at *
  have rC : Ready ⟨ss, [], -1, false⟩ := ready_mk (by omega) (by omega) a3 (by decide) (by decide)
  have hss : ∀ t ∈ ss.set k s, t.length = 128 := fun t ht => by
    rcases List.mem_or_eq_of_mem_set ht with h | h
    · exact a3 t h
    · rw [h]; exact hsl
  have hw : writeD ⟨ss, [], -1, false⟩ (k : Int) s = (⟨ss, [⟨k, s⟩], -1, false⟩, 0) := by
    have h1 : runsD ⟨ss, [], -1, false⟩ = true := by unfold runsD; rw [rC.ok]; rfl
    have h2 : hasD ⟨ss, [], -1, false⟩ (k : Int) = true := by unfold hasD; simp; omega
    unfold writeD
    rw [h1, h2, if_pos (by rfl), if_neg (by omega), if_neg (by simp), padS_full hsl]
    rfl
  have hok : okD ⟨ss, [⟨k, s⟩], -1, false⟩ = true := by
    have h0 := (okD_iff _).1 rC.ok
    refine (okD_iff _).2 ⟨⟨h0.1.1, h0.1.2.1, by simp, by simp, by simp⟩, ?_, h0.2.2⟩
    simp [badW, hsl]; omega
  have hy : syncD ⟨ss, [⟨k, s⟩], -1, false⟩ = (⟨ss.set k s, [], -1, false⟩, 0) := by
    rw [syncD_go (by unfold runsD; rw [hok]; rfl) (by simp)]
    simp [perfL]
  have rZ : Ready ⟨ss.set k s, [], -1, false⟩ := ready_mk (by rw [List.length_set]; omega) (by rw [List.length_set]; omega) hss (by decide) (by decide)
  exact ⟨_, _, _, hw, hy, rZ.open, hr⟩
end Go.Proofs.Ytpciankfpagnhaa
