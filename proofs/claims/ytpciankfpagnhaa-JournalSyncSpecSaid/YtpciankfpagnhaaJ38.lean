/- Sync where the sectors of the records do not fit on the disk: plain lemmas. -/
import Derived.Test.YtpciankfpagnhaaJ21
namespace Go.Proofs.Ytpciankfpagnhaa
open Go.RowKit

theorem usedN_recs {ss : List (List UInt8)} (h128 : ∀ s ∈ ss, s.length = 128) : usedN (recs ss) ≤ ss.length := by
  obtain ⟨_, _, _, h, _⟩ := recsFrom_keep h128 ss.length 0 0 (by omega)
  have := h (.inr (Nat.zero_le _))
  unfold recs; omega
theorem okD_out {d : Dk} {l : List Wr} {x : Wr} (hx : x ∈ l) (hb : (d.sectors.length : Int) ≤ x.at_) : okD { d with pending := l } = false := by
  cases h : okD { d with pending := l }
  · rfl
  · have h1 := ((okD_iff _).1 h).2.1
    rw [List.any_eq_false] at h1
    have := h1 x hx
    simp [badW] at this
    omega
theorem writeD_out {d : Dk} {i : Int} {b : List UInt8} (h : (d.sectors.length : Int) ≤ i) : writeD d i b = (zeroD, 410) := by
  unfold writeD hasD
  rw [if_neg (by simp; omega)]
theorem writeD_zero (i : Int) (b : List UInt8) : writeD zeroD i b = (zeroD, 410) := by
  have h : runsD zeroD = false := by decide
  unfold writeD
  rw [h, if_neg (by simp)]
theorem syncD_zero : syncD zeroD = (zeroD, 410) := by
  have h : runsD zeroD = false := by decide
  unfold syncD
  rw [h, if_neg (by simp)]
theorem syncD_not {d : Dk} (h : okD d = false) : syncD d = (zeroD, 410) := by
  unfold syncD runsD
  rw [h, if_neg (by simp)]
/-- The disk while sectors are written one after the other, whether they fit or not: so many are pending, and what is still to be written; or one did not fit. -/
def RSt (d : Dk) (at0 : Nat) (rest : Nat → List Wr) (W0 : List Wr) (z : Int) (dd : Dk) : Prop :=
  (∃ p : List Wr, z = ((at0 + p.length : Nat) : Int) ∧ p ++ rest (at0 + p.length) = W0 ∧ dd = { d with pending := p } ∧ okD dd = true) ∨ (dd = zeroD ∧ okD { d with pending := W0 } = false)
theorem RSt.step {d : Dk} {g at0 : Nat} {rest rest' : Nat → List Wr} {W0 : List Wr} {z : Int} {dd : Dk} (h : RSt d at0 rest W0 z dd) (hs : d.stopped = false) (kd : UInt8) (p : List UInt8) (hp : p.length ≤ 112)
    (hr : ∀ k : Nat, rest k = ⟨(k : Int), sect g k kd p⟩ :: rest' (k + 1)) (h0 : at0 ≤ 4096) {K : Nat} (hK : IntKind.u64.wrap z = (K : Int)) : RSt d at0 rest' W0 (wrap64 (z + 1)) (writeD dd z (sect g K kd p)).1 := by
  rcases h with ⟨p1, rfl, hw, rfl, hok⟩ | ⟨rfl, hno⟩
  · have hb := (okD_iff _).1 hok
    have hb1 : (d.sectors.length : Int) ≤ 4096 := hb.1.2.1
    have hb2 : (p1.length : Int) ≤ 4096 := hb.1.2.2.1
    have hKK : K = at0 + p1.length := by
      have : IntKind.u64.wrap ((at0 + p1.length : Nat) : Int) = ((at0 + p1.length : Nat) : Int) := by
        simp [IntKind.wrap, IntKind.bits, IntKind.signed]; omega
      omega
    subst hKK
    have hz : wrap64 (((at0 + p1.length : Nat) : Int) + 1) = ((at0 + p1.length + 1 : Nat) : Int) := by unfold wrap64; omega
    rw [hr] at hw
    by_cases hat : at0 + p1.length < d.sectors.length
    · have hpl : p1.length < 4096 := by omega
      have e := writeD_sect (d := { d with pending := p1 }) hok hs (at0 + p1.length) g kd p hp hat hpl
      have o := okD_write (d := { d with pending := p1 }) hok (at0 + p1.length) g kd p hp hat hpl
      rw [e, hz]
      refine .inl ⟨p1 ++ [⟨((at0 + p1.length : Nat) : Int), sect g (at0 + p1.length) kd p⟩], ?_, ?_, rfl, o⟩
      · simp [Nat.add_assoc]
      · rw [← hw]; simp [Nat.add_assoc]
    · have e := writeD_out (d := { d with pending := p1 }) (i := ((at0 + p1.length : Nat) : Int)) (b := sect g (at0 + p1.length) kd p) (by show (d.sectors.length : Int) ≤ _; omega)
      rw [e]
      exact .inr ⟨rfl, okD_out (x := ⟨((at0 + p1.length : Nat) : Int), sect g (at0 + p1.length) kd p⟩) (by rw [← hw]; simp) (by show (d.sectors.length : Int) ≤ ((at0 + p1.length : Nat) : Int); omega)⟩
  · rw [writeD_zero]
    exact .inr ⟨rfl, hno⟩
theorem RSt.done {d : Dk} {at0 : Nat} {rest : Nat → List Wr} {W0 : List Wr} {z : Int} {dd : Dk} (h : RSt d at0 rest W0 z dd) (hr : ∀ k, rest k = []) : syncD dd = syncD { d with pending := W0 } := by
  rcases h with ⟨p, -, hw, rfl, -⟩ | ⟨rfl, hno⟩
  · rw [hr, List.append_nil] at hw
    rw [hw]
  · rw [syncD_zero, syncD_not hno]
theorem RSt.same {d : Dk} {at0 : Nat} {rest rest' : Nat → List Wr} {W0 : List Wr} {z : Int} {dd : Dk} (h : RSt d at0 rest W0 z dd) (hr : ∀ k, rest k = rest' k) : RSt d at0 rest' W0 z dd := by
  have : rest = rest' := funext hr
  rwa [← this]
theorem RSt.start {d : Dk} {at0 : Nat} {rest : Nat → List Wr} (hp : d.pending = []) (hok : okD d = true) : RSt d at0 rest (rest at0) (at0 : Int) d := by
  obtain ⟨s, p, l, st⟩ := d
  simp only at hp
  subst hp
  exact .inl ⟨[], rfl, rfl, rfl, hok⟩
/-- The piece of a record that is written in round k. -/
theorem recSects_at {g at1 n k : Nat} {b : List UInt8} {T : Nat → List Wr} (hk : k < n) :
    recSects g at1 (decide (k = 0)) (n - k) (b.drop (k * 112)) ++ T (at1 + (n - k)) =
      ⟨(at1 : Int), sect g at1 (kindOf (decide (k = 0)) (decide (k + 1 = n))) ((b.drop (k * 112)).take 112)⟩ :: (recSects g (at1 + 1) (decide (k + 1 = 0)) (n - (k + 1)) (b.drop ((k + 1) * 112)) ++ T (at1 + 1 + (n - (k + 1)))) := by
  obtain ⟨m, hm⟩ : ∃ m, n - k = m + 1 := ⟨n - k - 1, by omega⟩
  have e1 : n - (k + 1) = m := by omega
  have e2 : decide (k + 1 = n) = (m == 0) := by rw [Bool.eq_iff_iff]; simp; omega
  have e3 : decide (k + 1 = 0) = false := by simp
  rw [hm, recSects, e1, e2, e3, List.drop_drop, show (k + 1) * 112 = k * 112 + 112 by omega, show at1 + 1 + m = at1 + (m + 1) by omega]
  rfl
end Go.Proofs.Ytpciankfpagnhaa
