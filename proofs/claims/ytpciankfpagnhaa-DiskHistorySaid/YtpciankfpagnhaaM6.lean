/- Plain facts on reading, writing and syncing a disk. -/
import Derived.Test.YtpciankfpagnhaaD9
import Derived.Test.YtpciankfpagnhaaD15
namespace Go.Proofs.Ytpciankfpagnhaa
open Go.RowKit

theorem okD_mk {d : Dk} (h1 : 1 ≤ d.sectors.length) (h2 : d.sectors.length ≤ 4096) (h3 : d.pending.length ≤ 4096) (h4 : -1 ≤ d.left) (h5 : d.left ≤ 65536)
    (h6 : ∀ x ∈ d.pending, 0 ≤ x.at_ ∧ x.at_ < d.sectors.length ∧ x.data.length = 128) (h7 : ∀ l ∈ d.sectors, l.length = 128) : okD d = true := by
  rw [okD_iff]
  refine ⟨⟨by omega, by omega, by omega, by omega, by omega⟩, ?_, ?_⟩
  · rw [List.any_eq_false]; intro x hx; have := h6 x hx; simp [badW]; omega
  · rw [List.any_eq_false]; intro x hx; have := h7 x hx; simp [badS]; omega
theorem okD_bounds {d : Dk} (h : okD d = true) : 1 ≤ d.sectors.length ∧ d.sectors.length ≤ 4096 ∧ d.pending.length ≤ 4096 ∧ -1 ≤ d.left ∧ d.left ≤ 65536 := by
  have := (okD_iff d).1 h; omega
theorem runsD_iff (d : Dk) : runsD d = true ↔ okD d = true ∧ d.stopped = false := by unfold runsD; simp
theorem hasD_iff (d : Dk) (i : Int) : hasD d i = true ↔ 0 ≤ i ∧ i < d.sectors.length := by unfold hasD; simp

theorem write_facts {d x : Dk} {i : Int} {b : List UInt8} (h : writeD d i b = (x, 0)) :
    runsD d = true ∧ hasD d i = true ∧ b.length ≤ 128 ∧ d.pending.length < 4096 ∧ x = { d with pending := d.pending ++ [⟨i, padS b⟩] } ∧ runsD x = true := by
  unfold writeD at h
  by_cases hh : (runsD d && hasD d i) = true
  · rw [if_pos hh] at h
    simp only [Bool.and_eq_true] at hh
    by_cases hb : 128 < b.length
    · rw [if_pos hb] at h; simp at h
    · rw [if_neg hb] at h
      by_cases hp : d.pending.length = 4096
      · rw [if_pos hp] at h; simp at h
      · rw [if_neg hp] at h
        simp only [Prod.mk.injEq, and_true] at h
        have hr := (runsD_iff d).1 hh.1
        have hbd := okD_bounds hr.1
        have hi := (hasD_iff d i).1 hh.2
        refine ⟨hh.1, hh.2, by omega, by omega, h.symm, ?_⟩
        subst h
        rw [runsD_iff]
        refine ⟨okD_mk (by simp; omega) (by simp; omega) (by simp; omega) hbd.2.2.2.1 hbd.2.2.2.2 ?_ (fun l hl => ok_sec hr.1 l hl), hr.2⟩
        intro y hy
        simp at hy
        rcases hy with hy | rfl
        · exact ok_at hr.1 y hy
        · exact ⟨hi.1, hi.2, padS_length (by omega)⟩
  · rw [if_neg hh] at h; simp at h
theorem write_err {d : Dk} {i : Int} {b : List UInt8} (hr : runsD d = true) (hi : hasD d i = true) (hb : b.length ≤ 128) : (writeD d i b).2 = 0 ∨ (writeD d i b).2 = 2 := by
  unfold writeD
  rw [if_pos (by simp [hr, hi]), if_neg (by omega)]
  split
  · exact .inr rfl
  · exact .inl rfl
theorem read_yes {d : Dk} {i : Int} (hr : runsD d = true) (hi : hasD d i = true) : readD d i = (readL d i, 0) := by
  unfold readD; rw [if_pos (by simp [hr, hi])]
theorem read_ok_iff {d : Dk} {i : Int} {l : List UInt8} (h : readD d i = (l, 0)) : runsD d = true ∧ hasD d i = true ∧ l = readL d i := by
  unfold readD at h
  by_cases hh : (runsD d && hasD d i) = true
  · rw [if_pos hh] at h; simp at hh; simp at h; exact ⟨hh.1, hh.2, h.symm⟩
  · rw [if_neg hh] at h; simp at h
theorem readL_snoc (d : Dk) (i j : Int) (b : List UInt8) : readL { d with pending := d.pending ++ [⟨i, b⟩] } j = if i = j then b else readL d j := by
  unfold readL
  simp only [List.reverse_append, List.reverse_cons, List.reverse_nil, List.nil_append, List.singleton_append, List.find?_cons]
  by_cases h : i = j
  · simp [h]
  · rw [if_neg h, show (i == j) = false from by simpa using h]

/-- Reading is what the sectors will be. -/
theorem readL_perf (d : Dk) (k : Nat) (hk : k < d.sectors.length) (ha : ∀ x ∈ d.pending, 0 ≤ x.at_) : readL d k = (perfL d.sectors d.pending).getD k [] := by
  have key : ∀ (n : Nat) (l : List Wr), l.length = n → (∀ x ∈ l, 0 ≤ x.at_) → readL { d with pending := l } k = (perfL d.sectors l).getD k [] := by
    intro n
    induction n with
    | zero => intro l hl _; have : l = [] := List.eq_nil_of_length_eq_zero hl; subst this; simp [readL, perfL]
    | succ n ih =>
      intro l hl hx
      have hne : l ≠ [] := by intro e; subst e; simp at hl
      obtain ⟨l', x, rfl⟩ : ∃ l' x, l = l' ++ [x] := ⟨l.dropLast, l.getLast hne, (List.dropLast_concat_getLast hne).symm⟩
      have h1 := ih l' (by simp at hl; exact hl) (fun y hy => hx y (by simp [hy]))
      have h2 := hx x (by simp)
      obtain ⟨at_, data⟩ := x
      have := readL_snoc { d with pending := l' } at_ k data
      simp only at this h2
      rw [this, perfL_snoc]
      have hlen := perfL_length l' d.sectors
      by_cases e : at_ = k
      · rw [if_pos e, List.getD_eq_getElem?_getD]
        simp only
        rw [show at_.toNat = k from by omega, List.getElem?_set_self (by omega)]; rfl
      · rw [if_neg e, h1, List.getD_eq_getElem?_getD, List.getD_eq_getElem?_getD, List.getElem?_set_ne (by simp only; omega)]
  exact key _ d.pending rfl ha

theorem padS_take {b : List UInt8} : (padS b).take b.length = b := by unfold padS; simp

theorem perfL_ok {d : Dk} (h : okD d = true) : ∀ l ∈ perfL d.sectors d.pending, l.length = 128 :=
  perfL_all d.pending d.sectors (ok_sec h) (fun x hx => (ok_at h x hx).2.2)
/-- A sync that does not stop: what it answers. -/
theorem sync_facts {d z : Dk} (hr : runsD d = true) (h : syncD d = (z, 0)) :
    z.sectors = perfL d.sectors d.pending ∧ z.pending = [] ∧ runsD z = true := by
  unfold syncD at h
  rw [if_pos hr] at h
  by_cases hs : 0 ≤ d.left ∧ d.left < d.pending.length
  · rw [if_pos hs] at h; simp at h
  · rw [if_neg hs] at h
    simp only [Prod.mk.injEq, and_true] at h
    subst h
    have h0 := (runsD_iff d).1 hr
    have hb := okD_bounds h0.1
    refine ⟨rfl, rfl, ?_⟩
    rw [runsD_iff]
    refine ⟨okD_mk ?_ ?_ (by simp) ?_ ?_ (by simp) (perfL_ok h0.1), rfl⟩
    · simp only [perfL_length]; omega
    · simp only [perfL_length]; omega
    · simp only; split <;> omega
    · simp only; split <;> omega
theorem sync_err {d : Dk} (hr : runsD d = true) : (syncD d).2 = 0 ∨ (syncD d).2 = 410 ∧ (syncD d).1.stopped = true := by
  unfold syncD
  rw [if_pos hr]
  split
  · exact .inr ⟨rfl, rfl⟩
  · exact .inl rfl
end Go.Proofs.Ytpciankfpagnhaa
