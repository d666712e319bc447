/- A sector that was laid is good, and one whose byte is changed is not: plain functions. -/
import Derived.Test.YtpciankfpagnhaaJ13
import Derived.Test.YtpciankfpagnhaaD10
import Derived.Test.YtpciankfpagnhaaD7
namespace Go.Proofs.Ytpciankfpagnhaa

/-- The parts of a sector that was laid. -/
theorem sect_parts (g k : Nat) (kd : UInt8) (p : List UInt8) : sect g k kd p =
    be 4 g ++ (be 4 (crc (sBody k kd p)) ++ (be 2 k ++ (kd :: UInt8.ofNat p.length :: ((p ++ List.replicate (112 - p.length) 0) ++ be 4 g)))) := by
  unfold sect sBody; simp only [List.append_assoc, List.cons_append, List.nil_append]
theorem sect_gen {g k : Nat} {kd : UInt8} {p : List UInt8} (hg : g < 4294967296) : gen (sect g k kd p) = g := by
  unfold gen; rw [sect_parts, p_take4 (be_length 4 g), be_num]; exact Nat.mod_eq_of_lt hg
theorem sect_get10 {g k : Nat} {kd : UInt8} {p : List UInt8} : (sect g k kd p).getD 10 0 = kd := by
  rw [sect_parts, p_get10 (be_length 4 g) (be_length 4 _) (be_length 2 k)]
theorem sect_get11 {g k : Nat} {kd : UInt8} {p : List UInt8} (hp : p.length ≤ 112) : ((sect g k kd p).getD 11 0).toNat = p.length := by
  rw [sect_parts, p_get11 (be_length 4 g) (be_length 4 _) (be_length 2 k)]
  simp; omega
theorem sect_piece {g k : Nat} {kd : UInt8} {p : List UInt8} (hp : p.length ≤ 112) : pieceS (sect g k kd p) = p := by
  unfold pieceS; rw [sect_get11 hp, sect_parts, p_drop12 (be_length 4 g) (be_length 4 _) (be_length 2 k), List.append_assoc, List.take_left' rfl]
theorem sect_tail {g k : Nat} {kd : UInt8} {p : List UInt8} (hp : p.length ≤ 112) : (sect g k kd p).drop 124 = be 4 g := by
  rw [sect_parts, p_drop124 (be_length 4 g) (be_length 4 _) (be_length 2 k) (by simp; omega)]
theorem sect_good {g k : Nat} {kd : UInt8} {p : List UInt8} (hp : p.length ≤ 112) (hg0 : 0 < g) (hg : g < 4294967296) (hk : k < 65536) (h3 : kd.toNat ≤ 3)
    (h1 : kd.toNat < 2 → p.length = 112) (h2 : kd.toNat % 2 = 0 → 0 < p.length) : goodS (sect g k kd p) k = true := by
  have e1 : num ((sect g k kd p).take 4) = g := sect_gen hg
  have e3 : ((sect g k kd p).drop 12).take ((sect g k kd p).getD 11 0).toNat = p := sect_piece hp
  rw [← goodC_eq _ _ (sect_length g k kd p hp) hk, goodC_def, sect_get11 hp, sect_get10, e1]
  rw [sect_get11 hp] at e3
  rw [e3]
  simp only [Bool.and_eq_true, decide_eq_true_eq, Bool.not_eq_true', Bool.and_eq_false_iff, decide_eq_false_iff_not]
  refine ⟨⟨⟨⟨⟨hp, h3⟩, ?_⟩, ?_⟩, hg0⟩, trivial⟩
  · by_cases h : kd.toNat < 2
    · right; have := h1 h; omega
    · left; exact h
  · by_cases h : kd.toNat % 2 = 0
    · right; have := h2 h; omega
    · left; exact h
theorem kindOf_nat (f e : Bool) : (kindOf f e).toNat = (if f = true then 1 else 0) + (if e = true then 2 else 0) := by cases f <;> cases e <;> rfl
theorem sect_beg {g k : Nat} {f e : Bool} {p : List UInt8} : begS (sect g k (kindOf f e) p) = f := by
  unfold begS; rw [sect_get10, kindOf_nat]; cases f <;> cases e <;> rfl
theorem sect_end {g k : Nat} {f e : Bool} {p : List UInt8} : endS (sect g k (kindOf f e) p) = e := by
  unfold endS; rw [sect_get10, kindOf_nat]; cases f <;> cases e <;> rfl

/-- What a good sector is. -/
theorem good_facts {s : List UInt8} {k : Nat} (h : goodS s k = true) : num (s.take 4) = num ((s.drop 124).take (s.length - 124)) ∧ num ((s.drop 4).take 4) = crc ((s.drop 8).take 116) ∧
    (s.getD 11 0).toNat ≤ 112 ∧ (endS s = false → (s.getD 11 0).toNat = 112) ∧ (begS s = false → 0 < (s.getD 11 0).toNat) := by
  rw [goodS_def] at h
  simp only [Bool.and_eq_true, decide_eq_true_eq, Bool.not_eq_true', Bool.and_eq_false_iff, decide_eq_false_iff_not, Bool.not_eq_false'] at h
  obtain ⟨⟨⟨⟨⟨⟨⟨⟨h1, h2⟩, h3⟩, h4⟩, h5⟩, h6⟩, h7⟩, h8⟩, h9⟩ := h
  refine ⟨h2, h3, h6, fun h => ?_, fun h => ?_⟩
  · unfold endS at h; simp only [decide_eq_false_iff_not] at h; rcases h7 with h7 | h7 <;> omega
  · unfold begS at h; simp only [decide_eq_false_iff_not] at h; rcases h8 with h8 | h8 <;> omega

/- The checksum tells apart two lists that differ in one byte. -/
theorem crc1_inj {a b : Nat} (ha : a < 4294967296) (hb : b < 4294967296) (h : crc1 a = crc1 b) : a = b := by
  unfold crc1 at h
  have h31 : ∀ n, n < 4294967296 → (n / 2).testBit 31 = false := fun n hn => Nat.testBit_lt_two_pow (by omega)
  have t31 : (3988292384 : Nat).testBit 31 = true := by decide
  rcases Nat.mod_two_eq_zero_or_one a with e | e <;> rcases Nat.mod_two_eq_zero_or_one b with f | f <;> rw [e, f] at h
  · simp at h; omega
  · have := congrArg (Nat.testBit · 31) h
    simp only [Nat.testBit_xor, h31 a ha, h31 b hb, Nat.mul_one, t31] at this
    simp at this
  · have := congrArg (Nat.testBit · 31) h
    simp only [Nat.testBit_xor, h31 a ha, h31 b hb, Nat.mul_one, t31] at this
    simp at this
  · have := congrArg (· ^^^ 3988292384) h
    simp only [Nat.mul_one, Nat.xor_assoc, Nat.xor_self, Nat.xor_zero] at this
    omega
theorem crcN_inj : ∀ k {a b : Nat}, a < 4294967296 → b < 4294967296 → crcN k a = crcN k b → a = b
  | 0, _, _, _, _, h => h
  | k + 1, _, _, ha, hb, h => crcN_inj k ha hb (crc1_inj (crcN_lt k _ ha) (crcN_lt k _ hb) h)
theorem xor_lt32 {a : Nat} (ha : a < 4294967296) (c : UInt8) : a ^^^ c.toNat < 4294967296 := Nat.xor_lt_two_pow (n := 32) ha (by have := c.toNat_lt; omega)
def crcF (n : Nat) (l : List UInt8) : Nat := l.foldl (fun n c => crcN 8 (n ^^^ c.toNat)) n
theorem crcF_lt : ∀ (l : List UInt8) n, n < 4294967296 → crcF n l < 4294967296
  | [], _, h => h
  | c :: l, _, h => crcF_lt l _ (crcN_lt 8 _ (xor_lt32 h c))
theorem crcF_inj : ∀ (l : List UInt8) {a b : Nat}, a < 4294967296 → b < 4294967296 → crcF a l = crcF b l → a = b
  | [], _, _, _, _, h => h
  | c :: l, a, b, ha, hb, h => by
    have := crcF_inj l (crcN_lt 8 _ (xor_lt32 ha c)) (crcN_lt 8 _ (xor_lt32 hb c)) h
    have := crcN_inj 8 (xor_lt32 ha c) (xor_lt32 hb c) this
    have := congrArg (· ^^^ c.toNat) this
    simpa [Nat.xor_assoc] using this
theorem crc_differs {u v : List UInt8} {x y : UInt8} (h : crc (u ++ x :: v) = crc (u ++ y :: v)) : x = y := by
  have h2 : crcU (u ++ x :: v) = crcU (u ++ y :: v) := by
    have := congrArg (· ^^^ 4294967295) h
    unfold crc at this
    simpa [Nat.xor_assoc] using this
  have e : ∀ z : UInt8, crcU (u ++ z :: v) = crcF (crcN 8 (crcU u ^^^ z.toNat)) v := fun z => by unfold crcU crcF; rw [List.foldl_append, List.foldl_cons]
  rw [e, e] at h2
  have h3 := crcF_inj v (crcN_lt 8 _ (xor_lt32 (crcU_lt u) x)) (crcN_lt 8 _ (xor_lt32 (crcU_lt u) y)) h2
  have h4 := crcN_inj 8 (xor_lt32 (crcU_lt u) x) (xor_lt32 (crcU_lt u) y) h3
  have h5 := congrArg (crcU u ^^^ ·) h4
  simp only [← Nat.xor_assoc, Nat.xor_self, Nat.zero_xor] at h5
  exact UInt8.toNat_inj.1 h5
theorem crc_set {l : List UInt8} {j : Nat} {y : UInt8} (hj : j < l.length) (h : crc (l.set j y) = crc l) : y = l[j] := by
  have e := List.take_append_drop j l
  rw [List.drop_eq_getElem_cons hj] at e
  have hl : (l.take j).length = j := by rw [List.length_take]; omega
  have e2 : l.set j y = l.take j ++ y :: l.drop (j + 1) := by
    conv => lhs; rw [← e]
    rw [List.set_append_right _ _ (by omega), hl, Nat.sub_self]; rfl
  rw [e2] at h
  conv at h => rhs; rw [← e]
  exact crc_differs h
theorem set_self {l : List UInt8} {j : Nat} {y : UInt8} (hj : j < l.length) (h : l.set j y = l) : y = l[j] := by
  have := congrArg (fun m : List UInt8 => m[j]?) h
  simp [hj] at this
  exact this
/-- A good sector in which one byte is changed is good no more. -/
theorem good_set {s : List UInt8} {k j : Nat} {y : UInt8} (hs : s.length = 128) (hj : j < 128) (h : goodS s k = true) (hy : y ≠ s.getD j 0) : goodS (s.set j y) k = false := by
  cases h2 : goodS (s.set j y) k with
  | false => rfl
  | true =>
    exfalso
    apply hy
    rw [List.getD_eq_getElem?_getD, List.getElem?_eq_getElem (by omega)]
    simp only [Option.getD_some]
    obtain ⟨a1, a2, -⟩ := good_facts h
    obtain ⟨b1, b2, -⟩ := good_facts h2
    have hl : (s.set j y).length = 128 := by simp [hs]
    rw [hl] at b1
    rw [hs] at a1
    simp only [List.take_set, List.drop_set] at b1 b2
    have A4 : (s.take 4).length = 4 := by simp; omega
    have G4 : ((s.drop 124).take 4).length = 4 := by simp; omega
    have C4 : ((s.drop 4).take 4).length = 4 := by simp; omega
    have B116 : ((s.drop 8).take 116).length = 116 := by simp; omega
    by_cases j4 : j < 4
    · rw [if_pos (by omega)] at b1
      rw [← a1] at b1
      have := set_self (by omega) (num_inj (by simp) b1)
      rw [this]; simp
    have e4 : ∀ z : List UInt8, z.length = 4 → z.set j y = z := fun z hz => List.set_eq_of_length_le (by omega)
    rw [e4 _ A4] at b1
    by_cases j8 : j < 8
    · rw [if_neg (by omega), if_pos (by omega), ← a2] at b2
      rw [List.take_set] at b2
      have := set_self (by omega) (num_inj (by simp) b2)
      rw [this]; simp [show 4 + (j - 4) = j by omega]
    rw [if_neg (by omega), if_neg (by omega), List.take_set, List.take_set, List.set_eq_of_length_le (by omega), a2] at b2
    by_cases j124 : j < 124
    · have := crc_set (by omega) b2.symm
      rw [this]; simp [show 8 + (j - 8) = j by omega]
    rw [if_neg (by omega), List.take_set, a1] at b1
    have G4' : ((s.drop 124).take (128 - 124)).length = 4 := by simp; omega
    have := set_self (by omega) (num_inj (by simp) b1.symm)
    rw [this]; simp [show 124 + (j - 124) = j by omega]
end Go.Proofs.Ytpciankfpagnhaa

/- What is read where records were laid in part: plain functions. -/
namespace Go.Proofs.Ytpciankfpagnhaa

/-- The sectors of writes. -/
def wds (l : List Wr) : List (List UInt8) := l.map (·.data)
theorem wds_append (a b : List Wr) : wds (a ++ b) = wds a ++ wds b := by simp [wds]
theorem wds_length (l : List Wr) : (wds l).length = l.length := by simp [wds]
/-- So many sectors n serve for so many bytes, the first or not. -/
def Fits (f : Bool) (n L : Nat) : Prop := 1 ≤ n ∧ L ≤ 112 * n ∧ 112 * (n - 1) ≤ L ∧ (L = 112 * (n - 1) → f = true ∧ n = 1)
theorem fits_secN (L : Nat) : Fits true (secN L) L := by unfold Fits secN; exact ⟨by omega, by omega, by omega, fun h => ⟨rfl, by omega⟩⟩
theorem fits_eq {n L : Nat} (h : Fits true n L) : n = secN L := by
  obtain ⟨h1, h2, h3, h4⟩ := h
  unfold secN
  by_cases e : L = 112 * (n - 1)
  · have := (h4 e).2; omega
  · omega

/-- A record that was laid whole is read. -/
theorem recGo_ok {g : Nat} (hg0 : 0 < g) (hg : g < 4294967296) : ∀ (n at_ : Nat) (f : Bool) (b acc : List UInt8) (rest : List (List UInt8)), Fits f n b.length → at_ + n ≤ 65536 →
    recGo g at_ f acc (wds (recSects g at_ f n b) ++ rest) = some (acc ++ b, at_ + n)
  | 0, _, _, _, _, _, h, _ => by unfold Fits at h; omega
  | n + 1, at_, f, b, acc, rest, h, hk => by
    have hpl : (b.take 112).length ≤ 112 := by simp; omega
    rw [recSects]
    show recGo g at_ f acc (sect g at_ (kindOf f (n == 0)) (b.take 112) :: (wds (recSects g (at_ + 1) false n (b.drop 112)) ++ rest)) = _
    have h3 : (kindOf f (n == 0)).toNat ≤ 3 := by rw [kindOf_nat]; cases f <;> cases (n == 0) <;> simp
    have hgood : goodS (sect g at_ (kindOf f (n == 0)) (b.take 112)) at_ = true := by
      refine sect_good hpl hg0 hg (by omega) h3 (fun h1 => ?_) (fun h1 => ?_)
      · rw [kindOf_nat] at h1
        have hn : n ≠ 0 := by rintro rfl; cases f <;> simp at h1
        unfold Fits at h
        simp; omega
      · rw [kindOf_nat] at h1
        unfold Fits at h
        cases f
        · have : b.length ≠ 0 := by
            intro h0
            have := h.2.2.2 (by rw [h0] at h; omega)
            cases this.1
          simp; omega
        · exfalso; cases hq : (n == 0) <;> rw [hq] at h1 <;> simp at h1
    rw [recGo, hgood, sect_beg, sect_gen hg, sect_end, sect_piece hpl]
    simp only [beq_self_eq_true, Bool.and_self, decide_true, if_true]
    cases n with
    | zero =>
      unfold Fits at h
      rw [if_pos (by rfl), List.take_of_length_le (by omega)]
    | succ n =>
      rw [if_neg (by simp), recGo_ok hg0 hg (n + 1) (at_ + 1) false (b.drop 112) _ rest (by unfold Fits at h ⊢; rw [List.length_drop]; omega) (by omega), List.append_assoc, List.take_append_drop]
      simp; omega
/-- A record that was laid in part is not read. -/
theorem recGo_stop {g : Nat} (hg : g < 4294967296) : ∀ (n at_ m : Nat) (f : Bool) (b acc : List UInt8) (rest : List (List UInt8)), m < n →
    (rest = [] ∨ ∃ s t, rest = s :: t ∧ (goodS s (at_ + m) = false ∨ gen s ≠ g)) →
    recGo g at_ f acc ((wds (recSects g at_ f n b)).take m ++ rest) = none
  | 0, _, _, _, _, _, _, h, _ => by omega
  | n + 1, at_, 0, f, b, acc, rest, _, hr => by
    rw [List.take_zero, List.nil_append]
    rcases hr with rfl | ⟨s, t, rfl, hs | hs⟩
    · rfl
    · rw [recGo, show at_ = at_ + 0 from rfl, hs]; rfl
    · rw [recGo, decide_eq_false hs]; simp
  | n + 1, at_, m + 1, f, b, acc, rest, h, hr => by
    rw [recSects]
    show recGo g at_ f acc (sect g at_ (kindOf f (n == 0)) (b.take 112) :: ((wds (recSects g (at_ + 1) false n (b.drop 112))).take m ++ rest)) = _
    rw [recGo, sect_end, if_neg (show ¬ (n == 0) = true by simp; omega), recGo_stop hg n (at_ + 1) m false (b.drop 112) _ rest (by omega) (by rw [Nat.add_assoc, Nat.add_comm 1 m]; exact hr)]
    split <;> rfl
/-- How much is read of a record, and from how many sectors; only these matter. -/
theorem recGo_len {g : Nat} : ∀ {r : List (List UInt8)} {k : Nat} {f : Bool} {acc b : List UInt8} {k' : Nat}, (∀ s ∈ r, s.length = 128) → recGo g k f acc r = some (b, k') →
    ∃ p n, b = acc ++ p ∧ k' = k + n ∧ Fits f n p.length ∧ ∀ r', r'.take n = r.take n → recGo g k f acc r' = some (b, k')
  | [], _, _, _, _, _, _, h => by cases h
  | s :: rest, k, f, acc, b, k', hr, h => by
    have hs := hr s (by simp)
    unfold recGo at h
    split at h
    · rename_i hc
      have hc0 := hc
      simp only [Bool.and_eq_true, beq_iff_eq, decide_eq_true_eq] at hc
      obtain ⟨⟨c1, c2⟩, c3⟩ := hc
      obtain ⟨-, -, g1, g2, g3⟩ := good_facts c1
      have hpl : (pieceS s).length = (s.getD 11 0).toNat := by unfold pieceS; rw [List.length_take, List.length_drop]; omega
      split at h
      · rename_i he
        cases h
        refine ⟨pieceS s, 1, rfl, rfl, ?_, fun r' hr' => ?_⟩
        · unfold Fits
          refine ⟨by omega, by omega, by omega, fun h0 => ?_⟩
          cases f
          · have := g3 c2; omega
          · exact ⟨rfl, rfl⟩
        · cases r' with
          | nil => simp at hr'
          | cons x t =>
            simp at hr'
            subst hr'
            rw [recGo, if_pos hc0, if_pos he]
      · rename_i he
        obtain ⟨p, n, rfl, rfl, hf, hx⟩ := recGo_len (fun s hs => hr s (by simp [hs])) h
        refine ⟨pieceS s ++ p, n + 1, by simp, by omega, ?_, fun r' hr' => ?_⟩
        · have := g2 (by simpa using he)
          unfold Fits at hf ⊢
          rw [List.length_append]
          refine ⟨by omega, by omega, by omega, fun h0 => ?_⟩
          have := hf.2.2.2 (by omega)
          simp at this
        · cases r' with
          | nil => simp at hr'
          | cons x t =>
            simp at hr'
            obtain ⟨rfl, ht⟩ := hr'
            rw [recGo, if_pos hc0, if_neg he]
            exact hx t ht
    · cases h
theorem drop_head {l : List (List UInt8)} {at_ : Nat} {s : List UInt8} {t : List (List UInt8)} (h : l.drop at_ = s :: t) : l.getD at_ [] = s := by
  have := congrArg (fun m : List (List UInt8) => m[0]?) h
  simp only [List.getElem?_drop, Nat.add_zero, List.getElem?_cons_zero] at this
  rw [List.getD_eq_getElem?_getD, this]; rfl
/-- How many records lie whole in the first sectors. -/
def doneN : Nat → List (List UInt8) → Nat
  | _, [] => 0
  | m, b :: R => if secN b.length ≤ m then doneN (m - secN b.length) R + 1 else 0
theorem doneN_le : ∀ m R, doneN m R ≤ R.length
  | _, [] => Nat.le_refl _
  | m, b :: R => by rw [doneN]; split; have := doneN_le (m - secN b.length) R; simp; omega; simp
theorem doneN_all : ∀ R m, usedN R ≤ m → doneN m R = R.length
  | [], _, _ => rfl
  | b :: R, m, h => by rw [usedN_cons] at h; rw [doneN, if_pos (by omega), doneN_all R _ (by omega)]; rfl
/-- The records that are read where records were written in part. -/
theorem recsFrom_mix {g : Nat} (hg0 : 0 < g) (hg : g < 4294967296) : ∀ (R : List (List UInt8)) (at_ m last : Nat) (ss rest : List (List UInt8)), m ≤ usedN R → at_ + usedN R ≤ 65536 → last ≤ g →
    ss.drop at_ = (wds (writesOf g at_ R)).take m ++ rest → (rest = [] ∨ ∃ s t, rest = s :: t ∧ (goodS s (at_ + m) = false ∨ gen s < g)) →
    (0 < m ∨ last = g ∨ rest = [] ∨ ∃ s t, rest = s :: t ∧ goodS s (at_ + m) = false) → recsFrom ss at_ last = R.take (doneN m R)
  | R, at_, 0, last, ss, rest, _, _, _, hd, hr, hst => by
    rw [List.take_zero, List.nil_append] at hd
    have e0 : doneN 0 R = 0 := by
      cases R with
      | nil => rfl
      | cons b R => rw [doneN, if_neg (by have := secN_pos b.length; omega)]
    rw [e0, List.take_zero]
    rcases hr with rfl | ⟨s, t, rfl, hs⟩
    · exact recsFrom_none (by unfold recAt; rw [hd]; rfl)
    have hgd := drop_head hd
    cases hgs : goodS s at_ with
    | false => exact recsFrom_none (by unfold recAt; rw [hd, recGo, hgs]; rfl)
    | true =>
      rcases hst with h | h | h | ⟨s', t', h, h'⟩
      · omega
      · rcases hs with hs | hs
        · rw [Nat.add_zero, hgs] at hs; cases hs
        · exact recsFrom_less (by rw [hgd, h]; exact hs)
      · cases h
      · cases h; rw [Nat.add_zero, hgs] at h'; cases h'
  | [], _, m + 1, _, _, _, h, _, _, _, _, _ => by rw [usedN_nil] at h; omega
  | b :: R, at_, m + 1, last, ss, rest, hm, hk, hl, hd, hr, hst => by
    rw [usedN_cons] at hm hk
    have hp := secN_pos b.length
    rw [writesOf, wds_append, List.take_append, wds_length, recSects_length] at hd
    have hgen : gen (ss.getD at_ []) = g := by
      obtain ⟨n, hn⟩ : ∃ n, secN b.length = n + 1 := ⟨secN b.length - 1, by omega⟩
      rw [hn, recSects] at hd
      have := drop_head (s := sect g at_ (kindOf true (n == 0)) (b.take 112)) (by rw [hd]; rfl)
      rw [this]; exact sect_gen hg
    rw [doneN]
    by_cases hmb : secN b.length ≤ m + 1
    · rw [if_pos hmb, List.take_succ_cons]
      rw [List.take_of_length_le (by rw [wds_length, recSects_length]; exact hmb), List.append_assoc] at hd
      have hra : recAt ss at_ = some (b, at_ + secN b.length) := by
        unfold recAt
        rw [hgen, hd, recGo_ok hg0 hg _ _ _ _ _ _ (fits_secN _) (by omega)]; rfl
      rw [recsFrom_some hra (by rw [hgen]; exact hl), hgen]
      congr 1
      have hd2 : ss.drop (at_ + secN b.length) = (wds (writesOf g (at_ + secN b.length) R)).take (m + 1 - secN b.length) ++ rest := by
        rw [← List.drop_drop, hd, List.drop_left' (by rw [wds_length, recSects_length])]
      have ea : at_ + secN b.length + (m + 1 - secN b.length) = at_ + (m + 1) := by omega
      exact recsFrom_mix hg0 hg R (at_ + secN b.length) (m + 1 - secN b.length) g ss rest (by omega) (by omega) (Nat.le_refl _) hd2 (by rw [ea]; exact hr) (.inr (.inl rfl))
    · rw [if_neg hmb, List.take_zero]
      rw [show m + 1 - secN b.length = 0 by omega, List.take_zero, List.append_nil] at hd
      refine recsFrom_none ?_
      unfold recAt
      rw [hgen, hd]
      exact recGo_stop hg _ _ _ _ _ _ _ (by omega) (hr.imp id fun ⟨s, t, h1, h2⟩ => ⟨s, t, h1, h2.imp id (by omega)⟩)
/-- The records that are read first are read as long as their sectors stay. -/
theorem recsFrom_keep {ss : List (List UInt8)} (h128 : ∀ s ∈ ss, s.length = 128) : ∀ (n at_ last : Nat), ss.length - at_ ≤ n →
    ∃ last', (last' = last ∨ ∃ s ∈ ss, gen s = last') ∧ recsFrom ss (at_ + usedN (recsFrom ss at_ last)) last' = [] ∧
      ((recsFrom ss at_ last ≠ [] ∨ at_ ≤ ss.length) → at_ + usedN (recsFrom ss at_ last) ≤ ss.length) ∧
      ∀ ss' : List (List UInt8), ss'.take (at_ + usedN (recsFrom ss at_ last)) = ss.take (at_ + usedN (recsFrom ss at_ last)) →
        recsFrom ss' at_ last = recsFrom ss at_ last ++ recsFrom ss' (at_ + usedN (recsFrom ss at_ last)) last' := by
  intro n
  induction n with
  | zero =>
    intro at_ last hn
    have e : recsFrom ss at_ last = [] := recsFrom_none (by unfold recAt; rw [List.drop_eq_nil_of_le (by omega)]; rfl)
    rw [e]
    exact ⟨last, .inl rfl, e, by rintro (h | h); exact absurd rfl h; simpa [usedN] using h, fun ss' _ => by simp [usedN]⟩
  | succ n ih =>
    intro at_ last hn
    cases hra : recAt ss at_ with
    | none =>
      have e := recsFrom_none (last := last) hra
      rw [e]
      exact ⟨last, .inl rfl, e, by rintro (h | h); exact absurd rfl h; simpa [usedN] using h, fun ss' _ => by simp [usedN]⟩
    | some r =>
      obtain ⟨b, at'⟩ := r
      by_cases hl : gen (ss.getD at_ []) < last
      · have e := recsFrom_less (last := last) hl
        rw [e]
        exact ⟨last, .inl rfl, e, by rintro (h | h); exact absurd rfl h; simpa [usedN] using h, fun ss' _ => by simp [usedN]⟩
      · have hl' : last ≤ gen (ss.getD at_ []) := by omega
        have hlt := recAt_lt hra
        have e := recsFrom_some hra hl'
        obtain ⟨last', h1, h2, h3, h4⟩ := ih at' (gen (ss.getD at_ [])) (by omega)
        have hra0 := hra
        unfold recAt at hra
        obtain ⟨p, k, hbp, rfl, hf, hx⟩ := recGo_len (fun s hs => h128 s (List.mem_of_mem_drop hs)) hra
        obtain rfl : b = p := hbp
        have hk := fits_eq hf
        have hu : at_ + usedN (b :: recsFrom ss (at_ + k) (gen (ss.getD at_ []))) = at_ + k + usedN (recsFrom ss (at_ + k) (gen (ss.getD at_ []))) := by rw [usedN_cons, ← hk]; omega
        rw [e, hu]
        refine ⟨last', .inr ?_, h2, fun _ => h3 (.inr (by omega)), fun ss' hs' => ?_⟩
        · rcases h1 with rfl | h1
          · refine ⟨ss.getD at_ [], ?_, rfl⟩
            rw [List.getD_eq_getElem?_getD, List.getElem?_eq_getElem hlt.2.2]; exact List.getElem_mem _
          · exact h1
        · have hsk : ∀ j, j ≤ at_ + k + usedN (recsFrom ss (at_ + k) (gen (ss.getD at_ []))) → ss'.take j = ss.take j := fun j hj => by
            have := congrArg (List.take j) hs'
            rwa [List.take_take, List.take_take, Nat.min_eq_left hj] at this
          have hk1 := hf.1
          have hgd : ss'.getD at_ [] = ss.getD at_ [] := by
            have := congrArg (fun l : List (List UInt8) => l[at_]?) (hsk (at_ + 1) (by omega))
            simp only [List.getElem?_take, Nat.lt_succ_self, if_true] at this
            rw [List.getD_eq_getElem?_getD, List.getD_eq_getElem?_getD, this]
          have hra' : recAt ss' at_ = some (b, at_ + k) := by
            unfold recAt
            rw [hgd]
            refine hx _ ?_
            have := congrArg (List.drop at_) (hsk (at_ + k) (by omega))
            rwa [List.drop_take, List.drop_take, Nat.add_sub_cancel_left] at this
          rw [recsFrom_some hra' (by rw [hgd]; exact hl'), hgd, h4 ss' (hsk _ (Nat.le_refl _))]
          rfl
end Go.Proofs.Ytpciankfpagnhaa

/- What is read behind a sync, whole or torn: plain functions. -/
namespace Go.Proofs.Ytpciankfpagnhaa

/-- Writes to sectors that follow one another. -/
def Run : Nat → List Wr → Prop
  | _, [] => True
  | a, x :: t => x.at_ = (a : Int) ∧ Run (a + 1) t
theorem Run.append : ∀ {l : List Wr} {a : Nat} {m : List Wr}, Run a l → Run (a + l.length) m → Run a (l ++ m)
  | [], _, _, _, h => h
  | x :: t, a, m, h, h2 => ⟨h.1, h.2.append (by rw [List.length_cons] at h2; rwa [show a + 1 + t.length = a + (t.length + 1) by omega])⟩
theorem Run.take : ∀ {l : List Wr} {a : Nat} (m : Nat), Run a l → Run a (l.take m)
  | [], _, _, _ => by rw [List.take_nil]; trivial
  | x :: t, a, 0, _ => trivial
  | x :: t, a, m + 1, h => ⟨h.1, h.2.take m⟩
theorem run_sects (g : Nat) : ∀ n a f b, Run a (recSects g a f n b)
  | 0, _, _, _ => trivial
  | n + 1, a, _, b => ⟨rfl, run_sects g n (a + 1) false (b.drop 112)⟩
theorem run_writes (g : Nat) : ∀ R a, Run a (writesOf g a R)
  | [], _ => trivial
  | b :: R, a => (run_sects g _ a true b).append (by rw [recSects_length]; exact run_writes g R _)
theorem perf_run : ∀ (l : List Wr) (a : Nat) (ss : List (List UInt8)), Run a l → a + l.length ≤ ss.length → perfL ss l = ss.take a ++ (wds l ++ ss.drop (a + l.length))
  | [], a, ss, _, _ => by simp [perfL, wds]
  | x :: t, a, ss, h, hl => by
    rw [List.length_cons] at hl
    show perfL (ss.set x.at_.toNat x.data) t = _
    have hx : x.at_.toNat = a := by rw [h.1]; rfl
    rw [hx, perf_run t (a + 1) _ h.2 (by simp; omega), List.length_cons, List.drop_set_of_lt (by omega)]
    have e : (ss.set a x.data).take (a + 1) = ss.take a ++ [x.data] := by
      rw [List.take_set, List.take_succ_eq_append_getElem (by omega), List.set_append_right _ _ (by simp; omega)]
      simp [show a - min a ss.length = 0 by omega]
    rw [e, show a + 1 + t.length = a + (t.length + 1) by omega]
    simp [wds]
theorem sects_mem (g : Nat) : ∀ n a f b, ∀ x ∈ recSects g a f n b, ∃ k kd p, x.data = sect g k kd p ∧ p.length ≤ 112
  | 0, _, _, _, _, h => by cases h
  | n + 1, a, f, b, x, h => by
    rw [recSects] at h
    rcases List.mem_cons.1 h with rfl | h
    · exact ⟨_, _, _, rfl, by simp; omega⟩
    · exact sects_mem g n _ _ _ x h
theorem writes_mem (g : Nat) : ∀ R a, ∀ x ∈ writesOf g a R, ∃ k kd p, x.data = sect g k kd p ∧ p.length ≤ 112
  | [], _, _, h => by cases h
  | b :: R, a, x, h => by
    rw [writesOf] at h
    rcases List.mem_append.1 h with h | h
    · exact sects_mem g _ _ _ _ x h
    · exact writes_mem g R _ x h

/-- The generation that is repeated at a sector's end. -/
def tailG (s : List UInt8) : Nat := num ((s.drop 124).take (s.length - 124))
theorem genMax_lt {ss : List (List UInt8)} : ∀ s ∈ ss, gen s < genMax ss ∧ tailG s < genMax ss := by
  induction ss using snoc_ind with
  | h0 => intro s h; cases h
  | h1 l x ih =>
    intro s h
    rw [genMax_snoc]
    rcases List.mem_append.1 h with h | h
    · have := ih s h; omega
    · rw [List.mem_singleton] at h; subst h; unfold tailG; omega
theorem genMax_bound {ss : List (List UInt8)} {g : Nat} (h : ∀ s ∈ ss, gen s ≤ g ∧ tailG s ≤ g) : genMax ss ≤ g + 1 := by
  induction ss using snoc_ind with
  | h0 => unfold genMax; simp
  | h1 l x ih =>
    have h1 := ih fun s hs => h s (by simp [hs])
    have h2 := h x (by simp)
    rw [genMax_snoc]
    unfold tailG at h2
    omega
theorem sect_tailG {g k : Nat} {kd : UInt8} {p : List UInt8} (hp : p.length ≤ 112) (hg : g < 4294967296) : tailG (sect g k kd p) = g := by
  unfold tailG
  rw [sect_tail hp, sect_length g k kd p hp, List.take_of_length_le (by rw [be_length]; decide), be_num]
  exact Nat.mod_eq_of_lt hg

/-- What is read when so many of the sectors are written, whatever follows them that is not of theirs. -/
theorem recs_part {ss ss' rest : List (List UInt8)} {R : List (List UInt8)} {m : Nat} (h128 : ∀ s ∈ ss, s.length = 128) (hl : ss.length ≤ 4096) (hg : genMax ss < 4294967296)
    (hfit : usedN (recs ss) + usedN R ≤ ss.length) (hm : m ≤ usedN R) (h1 : ss'.take (usedN (recs ss)) = ss.take (usedN (recs ss)))
    (h2 : ss'.drop (usedN (recs ss)) = (wds (writesOf (genMax ss) (usedN (recs ss)) R)).take m ++ rest)
    (h3 : rest = [] ∨ ∃ s t, rest = s :: t ∧ (goodS s (usedN (recs ss) + m) = false ∨ gen s < genMax ss))
    (h4 : 0 < m ∨ rest = [] ∨ ∃ s t, rest = s :: t ∧ goodS s (usedN (recs ss) + m) = false) :
    recs ss' = recs ss ++ R.take (doneN m R) := by
  obtain ⟨last, k1, k2, k3, k4⟩ := recsFrom_keep h128 ss.length 0 0 (by omega)
  simp only [Nat.zero_add] at k2 k3 k4
  have e := k4 ss' h1
  have hlast : last ≤ genMax ss := by
    rcases k1 with rfl | ⟨s, hs, rfl⟩
    · exact Nat.zero_le _
    · exact Nat.le_of_lt (genMax_lt s hs).1
  have := recsFrom_mix (Nat.lt_of_lt_of_le (by decide) (genMax_pos ss)) hg R (usedN (recs ss)) m last ss' rest hm (by omega) hlast h2 h3 (by rcases h4 with h | h | h; exact .inl h; exact .inr (.inr (.inl h)); exact .inr (.inr (.inr h)))
  show recsFrom ss' 0 0 = _
  rw [e]
  exact congrArg _ this
theorem recs_used {ss : List (List UInt8)} (h128 : ∀ s ∈ ss, s.length = 128) : usedN (recs ss) ≤ ss.length := by
  obtain ⟨last, k1, k2, k3, k4⟩ := recsFrom_keep h128 ss.length 0 0 (by omega)
  have := k3 (.inr (by omega))
  rw [Nat.zero_add] at this
  exact this
/-- All sectors are written: all records are read. -/
theorem recs_full {ss : List (List UInt8)} {R : List (List UInt8)} (h128 : ∀ s ∈ ss, s.length = 128) (hl : ss.length ≤ 4096) (hg : genMax ss < 4294967296)
    (hfit : usedN (recs ss) + usedN R ≤ ss.length) :
    recs (perfL ss (writesOf (genMax ss) (usedN (recs ss)) R)) = recs ss ++ R ∧ genMax (perfL ss (writesOf (genMax ss) (usedN (recs ss)) R)) ≤ genMax ss + 1 := by
  have hwl := writesOf_length (genMax ss) R (usedN (recs ss))
  have hp := perf_run (writesOf (genMax ss) (usedN (recs ss)) R) (usedN (recs ss)) ss (run_writes _ _ _) (by omega)
  rw [hwl] at hp
  constructor
  · by_cases h0 : usedN R = 0
    · have : R = [] := by
        have := usedN_len R
        exact List.eq_nil_of_length_eq_zero (by omega)
      subst this
      simp [writesOf, perfL]
    have htl : (ss.take (usedN (recs ss))).length = usedN (recs ss) := by simp; omega
    have := recs_part (ss' := perfL ss (writesOf (genMax ss) (usedN (recs ss)) R)) (rest := ss.drop (usedN (recs ss) + usedN R)) (m := usedN R) h128 hl hg hfit (Nat.le_refl _)
      (by rw [hp, List.take_left' htl]) (by rw [hp, List.drop_left' htl, List.take_of_length_le (by rw [wds_length, hwl]; exact Nat.le_refl _)]) ?_ (.inl (by omega))
    · rw [this, doneN_all R _ (Nat.le_refl _), List.take_length]
    · cases hd : ss.drop (usedN (recs ss) + usedN R) with
      | nil => exact .inl rfl
      | cons s t => exact .inr ⟨s, t, rfl, .inr (genMax_lt s (List.mem_of_mem_drop (by rw [hd]; simp))).1⟩
  · refine genMax_bound fun s hs => ?_
    rw [hp] at hs
    rcases List.mem_append.1 hs with hs | hs
    · have := genMax_lt s (List.mem_of_mem_take hs); omega
    rcases List.mem_append.1 hs with hs | hs
    · obtain ⟨x, hx, rfl⟩ := List.mem_map.1 hs
      obtain ⟨k, kd, p, e, hpl⟩ := writes_mem _ _ _ x hx
      rw [e, sect_gen hg, sect_tailG hpl hg]; omega
    · have := genMax_lt s (List.mem_of_mem_drop hs); omega
/-- Sector m of those to be written is torn: the records that lie whole before it are read. -/
theorem recs_torn {ss : List (List UInt8)} {R : List (List UInt8)} {m : Nat} (h128 : ∀ s ∈ ss, s.length = 128) (hl : ss.length ≤ 4096) (hg : genMax ss < 4294967296)
    (hfit : usedN (recs ss) + usedN R ≤ ss.length) (hm : m < usedN R) {x : Wr} (hx : (writesOf (genMax ss) (usedN (recs ss)) R)[m]? = some x) {ss' : List (List UInt8)}
    (hss : ss' = (perfL ss ((writesOf (genMax ss) (usedN (recs ss)) R).take m)).set x.at_.toNat (x.data.take 64 ++ ((perfL ss ((writesOf (genMax ss) (usedN (recs ss)) R).take m)).getD x.at_.toNat []).drop 64)) :
    recs ss' = recs ss ++ R.take (doneN m R) ∧ genMax ss' ≤ genMax ss + 1 ∧ (∀ s ∈ ss', s.length = 128) := by
  have hwl := writesOf_length (genMax ss) R (usedN (recs ss))
  have hrun := run_writes (genMax ss) R (usedN (recs ss))
  have hmem := writes_mem (genMax ss) R (usedN (recs ss))
  generalize hW : writesOf (genMax ss) (usedN (recs ss)) R = W at *
  have hml : (W.take m).length = m := by simp; omega
  have hat : ∀ {l : List Wr} {a j : Nat} {y : Wr}, Run a l → l[j]? = some y → y.at_ = ((a + j : Nat) : Int) := by
    intro l
    induction l with
    | nil => intro a j y _ h; simp at h
    | cons z t ih =>
      intro a j y h1 h2
      cases j with
      | zero => simp at h2; subst h2; exact h1.1
      | succ j => simp at h2; rw [ih h1.2 h2]; omega
  have hxa := hat hrun hx
  have hxn : x.at_.toNat = usedN (recs ss) + m := by rw [hxa]; rfl
  have hp := perf_run (W.take m) (usedN (recs ss)) ss (hrun.take m) (by rw [hml]; omega)
  rw [hml] at hp
  have htl : (ss.take (usedN (recs ss))).length = usedN (recs ss) := by simp; omega
  have hwm : (wds (W.take m)).length = m := by rw [wds_length, hml]
  have hlt : usedN (recs ss) + m < ss.length := by omega
  have hdr := List.drop_eq_getElem_cons hlt
  have hold : ss[usedN (recs ss) + m] ∈ ss := List.getElem_mem hlt
  generalize ss[usedN (recs ss) + m] = old at *
  have hgd : (perfL ss (W.take m)).getD (usedN (recs ss) + m) [] = old := by
    refine drop_head (t := ss.drop (usedN (recs ss) + m + 1)) ?_
    rw [hp, ← List.drop_drop, List.drop_left' htl, List.drop_left' hwm, hdr]
  rw [hxn, hgd] at hss
  obtain ⟨k, kd, p, hxd, hpl⟩ := hmem x (List.mem_of_getElem? hx)
  have holdl := h128 old hold
  have hol := genMax_lt old hold
  generalize htn : x.data.take 64 ++ old.drop 64 = torn at *
  have hxl : x.data.length = 128 := by rw [hxd]; exact sect_length _ _ _ _ hpl
  have htg : gen torn = genMax ss := by
    rw [← htn]; unfold gen; rw [List.take_append_of_le_length (by simp; omega), List.take_take]
    show gen x.data = _
    rw [hxd, sect_gen hg]
  have htnl : torn.length = 128 := by rw [← htn]; simp; omega
  have htt : tailG torn = tailG old := by
    have hd : torn.drop 124 = old.drop 124 := by
      have h64 : (x.data.take 64).length = 64 := by simp; omega
      rw [← htn, List.drop_append, List.drop_eq_nil_of_le (by omega), h64, List.nil_append, List.drop_drop]
    unfold tailG
    rw [hd, htnl, holdl]
  have hbad : ∀ k, goodS torn k = false := fun k => by
    cases h : goodS torn k with
    | false => rfl
    | true =>
      have h1 : gen torn = tailG torn := (good_facts h).1
      rw [htg, htt] at h1
      omega
  have e : ss' = ss.take (usedN (recs ss)) ++ (wds (W.take m) ++ (torn :: ss.drop (usedN (recs ss) + m + 1))) := by
    rw [hss, hp, List.set_append_right _ _ (by omega), htl, Nat.add_sub_cancel_left, List.set_append_right _ _ (by omega), hwm, Nat.sub_self, hdr]; rfl
  refine ⟨?_, ?_, ?_⟩
  · refine recs_part (rest := torn :: ss.drop (usedN (recs ss) + m + 1)) h128 hl hg hfit (by omega) (by rw [e, List.take_left' htl]) (by rw [e, List.drop_left' htl, hW]; unfold wds; rw [List.map_take]) ?_ ?_
    · exact .inr ⟨torn, _, rfl, .inl (hbad _)⟩
    · exact .inr (.inr ⟨torn, _, rfl, hbad _⟩)
  · refine genMax_bound fun s hs => ?_
    rw [e] at hs
    rcases List.mem_append.1 hs with hs | hs
    · have := genMax_lt s (List.mem_of_mem_take hs); omega
    rcases List.mem_append.1 hs with hs | hs
    · obtain ⟨y, hy, rfl⟩ := List.mem_map.1 hs
      obtain ⟨k, kd, p, e, hpl⟩ := hmem y (List.mem_of_mem_take hy)
      rw [e, sect_gen hg, sect_tailG hpl hg]; omega
    rcases List.mem_cons.1 hs with rfl | hs
    · omega
    · have := genMax_lt s (List.mem_of_mem_drop hs); omega
  · intro s hs
    rw [e] at hs
    rcases List.mem_append.1 hs with hs | hs
    · exact h128 s (List.mem_of_mem_take hs)
    rcases List.mem_append.1 hs with hs | hs
    · obtain ⟨y, hy, rfl⟩ := List.mem_map.1 hs
      obtain ⟨k, kd, p, e, hpl⟩ := hmem y (List.mem_of_mem_take hy)
      rw [e]; exact sect_length _ _ _ _ hpl
    rcases List.mem_cons.1 hs with rfl | hs
    · exact htnl
    · exact h128 s (List.mem_of_mem_drop hs)
end Go.Proofs.Ytpciankfpagnhaa

/- A journal and a disk that fit: what Sync makes of them: plain functions. -/
namespace Go.Proofs.Ytpciankfpagnhaa
open Go.RowKit

/-- A journal whose records fit, without wrapping. -/
structure Nice (j : Jn) : Prop where
  many1 : 1 ≤ j.many
  many2 : j.many ≤ 4096
  syn1 : 0 ≤ j.synced
  syn2 : j.synced ≤ j.records.length
  used : (usedN j.records : Int) ≤ j.many
theorem Nice.w {j : Jn} (h : Nice j) : usedW j.records = usedN j.records := usedW_eq _ (by have := h.used; have := h.many2; omega)
theorem Nice.ok {j : Jn} (h : Nice j) : okJ j = true := by
  unfold okJ; rw [h.w]
  have := h.many1; have := h.many2; have := h.syn1; have := h.syn2; have := h.used
  simp; omega
theorem Nice.left {j : Jn} (h : Nice j) : leftJ j = j.many - usedN j.records := by
  unfold leftJ; rw [h.w]
  have := h.many1; have := h.many2; have := h.used
  unfold wrap64; omega
theorem Nice.append {j : Jn} (h : Nice j) (b : List UInt8) : appendJ j b = if (usedN j.records + secN b.length : Int) ≤ j.many then ({ j with records := j.records ++ [b] }, 0) else (zeroJ, 2) := by
  unfold appendJ; rw [h.ok, h.left, if_neg (by decide)]
  by_cases e : (usedN j.records + secN b.length : Int) ≤ j.many
  · rw [if_neg (by omega), if_pos e]
  · rw [if_pos (by omega), if_neg e]
theorem usedN_snoc (l : List (List UInt8)) (b : List UInt8) : usedN (l ++ [b]) = usedN l + secN b.length := by rw [usedN_append, usedN_cons, usedN_nil, Nat.add_zero]
theorem Nice.more {j : Jn} (h : Nice j) {b : List UInt8} (hb : (usedN j.records + secN b.length : Int) ≤ j.many) : Nice { j with records := j.records ++ [b] } :=
  ⟨h.many1, h.many2, h.syn1, by have := h.syn2; simp; omega, by simp only [usedN_snoc]; omega⟩

/-- Append, where what is refused is left out. -/
def add1 (j : Jn) (b : List UInt8) : Jn := if (appendJ j b).2 = 0 then (appendJ j b).1 else j
def addJ (j : Jn) (l : List (List UInt8)) : Jn := l.foldl add1 j
theorem addJ_snoc (j : Jn) (l : List (List UInt8)) (b : List UInt8) : addJ j (l ++ [b]) = add1 (addJ j l) b := by unfold addJ; rw [List.foldl_append]; rfl
theorem add1_nice {j : Jn} (h : Nice j) (b : List UInt8) : Nice (add1 j b) ∧ (add1 j b).many = j.many ∧ (add1 j b).synced = j.synced ∧ ∃ x, (add1 j b).records = j.records ++ x := by
  unfold add1; rw [h.append]
  by_cases e : (usedN j.records + secN b.length : Int) ≤ j.many
  · rw [if_pos e]; exact ⟨h.more e, rfl, rfl, [b], rfl⟩
  · rw [if_neg e]; exact ⟨h, rfl, rfl, [], (List.append_nil _).symm⟩
theorem addJ_nice (l : List (List UInt8)) : ∀ {j : Jn}, Nice j → Nice (addJ j l) ∧ (addJ j l).many = j.many ∧ (addJ j l).synced = j.synced ∧ ∃ x, (addJ j l).records = j.records ++ x := by
  induction l with
  | nil => intro j h; exact ⟨h, rfl, rfl, [], (List.append_nil _).symm⟩
  | cons b l ih =>
    intro j h
    obtain ⟨h1, h2, h3, x, hx⟩ := add1_nice h b
    obtain ⟨k1, k2, k3, y, hy⟩ := ih h1
    exact ⟨k1, k2.trans h2, k3.trans h3, x ++ y, by show (addJ (add1 j b) l).records = _; rw [hy, hx, List.append_assoc]⟩
theorem add1_eq {j : Jn} (h : Nice j) (b : List UInt8) : add1 j b = if (usedN j.records + secN b.length : Int) ≤ j.many then { j with records := j.records ++ [b] } else j := by
  unfold add1; rw [h.append]
  by_cases e : (usedN j.records + secN b.length : Int) ≤ j.many
  · simp only [if_pos e, if_true]
  · simp only [if_neg e]; rfl
/-- How many are synced does not matter for what is appended. -/
theorem add1_syn {j : Jn} (h : Nice j) (s : Int) (h' : Nice { j with synced := s }) (b : List UInt8) : add1 { j with synced := s } b = { add1 j b with synced := s } := by
  rw [add1_eq h, add1_eq h']
  by_cases e : (usedN j.records + secN b.length : Int) ≤ j.many
  · rw [if_pos (show (usedN ({ j with synced := s } : Jn).records + secN b.length : Int) ≤ ({ j with synced := s } : Jn).many from e), if_pos e]
  · rw [if_neg (show ¬ (usedN ({ j with synced := s } : Jn).records + secN b.length : Int) ≤ ({ j with synced := s } : Jn).many from e), if_neg e]
theorem addJ_syn (l : List (List UInt8)) (s : Int) : ∀ {j : Jn}, Nice j → Nice { j with synced := s } → addJ { j with synced := s } l = { addJ j l with synced := s } := by
  induction l with
  | nil => intro j _ _; rfl
  | cons b l ih =>
    intro j h h'
    show addJ (add1 { j with synced := s } b) l = { addJ (add1 j b) l with synced := s }
    rw [add1_syn h s h']
    refine ih (add1_nice h b).1 ?_
    have := (add1_nice h' b).1
    rwa [add1_syn h s h'] at this

/-- A disk on which a journal may be opened. -/
structure Ready (d : Dk) : Prop where
  ok : okD d = true
  run : d.stopped = false
  pend : d.pending = []
theorem Ready.h128 {d : Dk} (h : Ready d) : ∀ s ∈ d.sectors, s.length = 128 := fun s hs => by
  obtain ⟨-, -, h3⟩ := (okD_iff d).1 h.ok
  rw [List.any_eq_false] at h3
  have := h3 s hs
  unfold badS at this
  simp at this; omega
theorem Ready.len {d : Dk} (h : Ready d) : 1 ≤ d.sectors.length ∧ d.sectors.length ≤ 4096 := by have := ((okD_iff d).1 h.ok).1; omega
theorem Ready.open {d : Dk} (h : Ready d) : openJ d = ({ records := recs d.sectors, many := d.sectors.length, synced := (recs d.sectors).length }, 0) := by
  unfold openJ; rw [h.ok, h.run, h.pend, if_neg (by decide), if_neg (by decide), if_neg (by simp)]
theorem ready_mk {ss : List (List UInt8)} (h1 : 1 ≤ ss.length) (h2 : ss.length ≤ 4096) (h3 : ∀ s ∈ ss, s.length = 128) {l : Int} (h4 : -1 ≤ l) (h5 : l ≤ 65536) : Ready ⟨ss, [], l, false⟩ := by
  refine ⟨(okD_iff _).2 ⟨⟨?_, ?_, by simp, h4, h5⟩, by simp, ?_⟩, rfl, rfl⟩
  · show (1 : Int) ≤ ss.length; omega
  · show (ss.length : Int) ≤ 4096; omega
  · rw [List.any_eq_false]; intro s hs; have := h3 s hs; unfold badS; simp; omega
theorem Ready.opened {d : Dk} (h : Ready d) : Nice { records := recs d.sectors, many := d.sectors.length, synced := (recs d.sectors).length } := by
  have := h.len
  have := recs_used h.h128
  exact ⟨by simp; omega, by simp; omega, by simp, by simp, by simp; omega⟩
/-- A journal that was opened on a disk, with records appended. -/
structure Fit (j : Jn) (d : Dk) : Prop where
  nice : Nice j
  ready : Ready d
  many : j.many = d.sectors.length
  same : recs d.sectors = j.records.take j.synced.toNat
  gen : genMax d.sectors < 4294967296
theorem Fit.split {j : Jn} {d : Dk} (h : Fit j d) : recs d.sectors ++ j.records.drop j.synced.toNat = j.records := by rw [h.same, List.take_append_drop]
theorem Fit.used {j : Jn} {d : Dk} (h : Fit j d) : usedN (recs d.sectors) + usedN (j.records.drop j.synced.toNat) ≤ d.sectors.length := by
  rw [← usedN_append, h.split]; have := h.nice.used; have := h.many; omega
theorem Fit.writes {j : Jn} {d : Dk} (h : Fit j d) : okD { d with pending := writesOf (genMax d.sectors) (usedN (recs d.sectors)) (j.records.drop j.synced.toNat) } = true := by
  have hu := h.used
  have hl := h.ready.len
  have hok := (okD_iff d).1 h.ready.ok
  rw [okD_iff]
  refine ⟨⟨hok.1.1, hok.1.2.1, ?_, hok.1.2.2.2⟩, ?_, hok.2.2⟩
  · simp only [writesOf_length]; omega
  · rw [List.any_eq_false]
    intro x hx
    obtain ⟨k, kd, p, e, hp⟩ := writes_mem _ _ _ x hx
    have hat : ∀ {l : List Wr} {a : Nat}, Run a l → ∀ y ∈ l, (a : Int) ≤ y.at_ ∧ y.at_ < (a + l.length : Nat) := by
      intro l
      induction l with
      | nil => intro a _ y h; cases h
      | cons z t ih =>
        intro a h1 y h2
        rcases List.mem_cons.1 h2 with rfl | h2
        · have := h1.1; simp; omega
        · have := ih h1.2 y h2; simp at this ⊢; omega
    have h2 := hat (run_writes (genMax d.sectors) (j.records.drop j.synced.toNat) (usedN (recs d.sectors))) x hx
    rw [writesOf_length] at h2
    have h3 := sect_length (genMax d.sectors) k kd p hp
    unfold badW
    rw [e, h3]
    simp; omega
theorem Fit.sync {j : Jn} {d : Dk} (h : Fit j d) : syncJ j d =
    if j.synced = j.records.length then (j, d, 0) else
      let r := syncD { d with pending := writesOf (genMax d.sectors) (usedN (recs d.sectors)) (j.records.drop j.synced.toNat) }
      if r.2 ≠ 0 then (zeroJ, r.1, r.2) else ({ j with synced := j.records.length }, r.1, 0) := by
  have hg := h.gen
  unfold syncJ
  rw [h.nice.ok, h.ready.ok, h.ready.run, if_neg (by decide), if_neg (by decide), if_neg (by decide), if_neg (by rw [h.many, h.ready.pend]; simp), if_neg (by rw [h.same]; simp; omega), h.same]
theorem Fit.go {j : Jn} {d : Dk} (h : Fit j d) (hn : ¬ (0 ≤ d.left ∧ d.left < usedN (j.records.drop j.synced.toNat))) : syncJ j d =
    ({ j with synced := j.records.length }, { sectors := perfL d.sectors (writesOf (genMax d.sectors) (usedN (recs d.sectors)) (j.records.drop j.synced.toNat)), pending := [], left := if 0 ≤ d.left then d.left - usedN (j.records.drop j.synced.toNat) else d.left, stopped := false }, 0) := by
  rw [h.sync]
  by_cases e : j.synced = j.records.length
  · rw [if_pos e]
    have e0 : j.records.drop j.synced.toNat = [] := List.drop_eq_nil_of_le (by omega)
    have e1 : ({ j with synced := (j.records.length : Int) } : Jn) = j := by rw [← e]
    rw [e0, e1]
    have hr := h.ready.run
    have hp := h.ready.pend
    obtain ⟨ss, pe, le, st⟩ := d
    simp only at hr hp
    subst hr; subst hp
    simp [writesOf, perfL, usedN]
  · rw [if_neg e, syncD_go (by unfold runsD; rw [h.writes, h.ready.run]; rfl) (by simp only [writesOf_length]; exact hn)]
    simp only [writesOf_length]
    rw [if_neg (by simp)]
theorem syncD_stop {d : Dk} (hr : runsD d = true) {m : Nat} (hm : d.left = m) {x : Wr} (hx : d.pending[m]? = some x) :
    syncD d = (⟨(perfL d.sectors (d.pending.take m)).set x.at_.toNat (x.data.take 64 ++ ((perfL d.sectors (d.pending.take m)).getD x.at_.toNat []).drop 64), [], 0, true⟩, 410) := by
  have hl : m < d.pending.length := by
    rcases Nat.lt_or_ge m d.pending.length with h | h
    · exact h
    · rw [List.getElem?_eq_none h] at hx; cases hx
  unfold syncD
  rw [if_pos hr, if_pos (by omega), hm]
  simp only [Int.toNat_natCast, List.getD_eq_getElem?_getD, hx, Option.getD_some]
theorem Fit.stop {j : Jn} {d : Dk} (h : Fit j d) {m : Nat} (hm : d.left = m) (hlt : m < usedN (j.records.drop j.synced.toNat)) :
    ∃ ss, syncJ j d = (zeroJ, ⟨ss, [], 0, true⟩, 410) ∧ recs ss = recs d.sectors ++ (j.records.drop j.synced.toNat).take (doneN m (j.records.drop j.synced.toNat)) ∧ genMax ss ≤ genMax d.sectors + 1 ∧ (∀ s ∈ ss, s.length = 128) ∧ ss.length = d.sectors.length := by
  have hw := writesOf_length (genMax d.sectors) (j.records.drop j.synced.toNat) (usedN (recs d.sectors))
  obtain ⟨x, hx⟩ : ∃ x, (writesOf (genMax d.sectors) (usedN (recs d.sectors)) (j.records.drop j.synced.toNat))[m]? = some x := ⟨_, List.getElem?_eq_getElem (by omega)⟩
  have hlen := h.ready.len
  obtain ⟨t1, t2, t3⟩ := recs_torn h.ready.h128 hlen.2 h.gen h.used hlt hx rfl
  refine ⟨_, ?_, t1, t2, t3, by rw [List.length_set, perfL_length]⟩
  rw [h.sync, if_neg (by intro e; rw [List.drop_eq_nil_of_le (by omega)] at hlt; simp [usedN] at hlt)]
  have hr : runsD { d with pending := writesOf (genMax d.sectors) (usedN (recs d.sectors)) (j.records.drop j.synced.toNat) } = true := by
    unfold runsD; rw [h.writes, h.ready.run]; rfl
  rw [syncD_stop hr (m := m) hm hx]
  simp
/-- What lies on the disk behind a sync that went through. -/
theorem Fit.after {j : Jn} {d : Dk} (h : Fit j d) {ss : List (List UInt8)} (hs : ss = perfL d.sectors (writesOf (genMax d.sectors) (usedN (recs d.sectors)) (j.records.drop j.synced.toNat))) :
    recs ss = j.records ∧ genMax ss ≤ genMax d.sectors + 1 ∧ (∀ s ∈ ss, s.length = 128) ∧ ss.length = d.sectors.length := by
  subst hs
  obtain ⟨t1, t2⟩ := recs_full h.ready.h128 h.ready.len.2 h.gen h.used
  refine ⟨by rw [t1, h.split], t2, perfL_all _ _ h.ready.h128 (fun x hx => ?_), by rw [perfL_length]⟩
  obtain ⟨k, kd, p, e, hp⟩ := writes_mem _ _ _ x hx
  rw [e]; exact sect_length _ _ _ _ hp
/-- A new disk. -/
theorem new_ready {n : Nat} (h1 : 1 ≤ n) (h2 : n ≤ 4096) : Ready (newD n).1 ∧ (newD n).2 = 0 ∧ (newD n).1.sectors = List.replicate n (List.replicate 128 0) ∧ (newD n).1.left = -1 ∧ recs (newD n).1.sectors = [] ∧ genMax (newD n).1.sectors = 1 := by
  have e : newD n = ({ sectors := List.replicate n (List.replicate 128 0), pending := [], left := -1, stopped := false }, 0) := by unfold newD; rw [if_neg (by omega)]; simp
  have hg0 : gen (List.replicate 128 0) = 0 := by decide
  have ht0 : num (((List.replicate 128 (0 : UInt8)).drop 124).take ((List.replicate 128 (0 : UInt8)).length - 124)) = 0 := by decide +kernel
  rw [e]
  refine ⟨ready_mk (by simp; omega) (by simp; omega) (fun s hs => by rw [List.eq_of_mem_replicate hs]; simp) (by decide) (by decide), rfl, rfl, rfl, ?_, ?_⟩
  · obtain ⟨k, rfl⟩ : ∃ k, n = k + 1 := ⟨n - 1, by omega⟩
    refine recsFrom_none ?_
    unfold recAt
    rw [List.drop_zero, List.replicate_succ, recGo]
    have : goodS (List.replicate 128 0) 0 = false := by
      cases h : goodS (List.replicate 128 0) 0 with
      | false => rfl
      | true =>
        rw [goodS_def] at h
        simp only [Bool.and_eq_true, Bool.not_eq_true'] at h
        obtain ⟨⟨⟨⟨⟨⟨⟨⟨h1, -⟩, -⟩, -⟩, -⟩, -⟩, -⟩, -⟩, -⟩ := h
        have h0 : num ((List.replicate 128 (0 : UInt8)).take 4) = 0 := hg0
        rw [h0] at h1; simp at h1
    rw [this]; rfl
  · show genMax (List.replicate n (List.replicate 128 0)) = 1
    clear e h1 h2
    induction n with
    | zero => rfl
    | succ n ih => rw [List.replicate_succ', genMax_snoc, ih, hg0, ht0]; rfl
end Go.Proofs.Ytpciankfpagnhaa

/- The examples of chapter 42, on the plain functions. -/
namespace Go.Proofs.Ytpciankfpagnhaa
open Go.RowKit

theorem newD_eq {n : Nat} (h1 : 1 ≤ n) (h2 : n ≤ 4096) : newD (n : Int) = ((newD n).1, 0) := Prod.ext rfl (new_ready h1 h2).2.1
theorem ex42 : ∃ (D C : Dk) (L X Y Z : Jn), newD 1 = (D, 0) ∧ openJ D = (L, 0) ∧ appendJ L (List.replicate 113 0) = (zeroJ, 2) ∧ appendJ L [97, 98] = (X, 0) ∧ syncJ X D = (Y, C, 0) ∧
    openJ C = (Z, 0) ∧ syncJ X C = (zeroJ, zeroD, 420) ∧ L.records = [] ∧ roomJ L = 112 ∧ Y.synced = 1 ∧ Z.records = [[97, 98]] ∧ X.records = [[97, 98]] ∧ leftJ L = 1 := by
  obtain ⟨r1, r2, r3, r4, r5, r6⟩ := new_ready (n := 1) (by decide) (by decide)
  have e1 := newD_eq (n := 1) (by decide) (by decide)
  generalize (newD (1 : Nat)).1 = D at *
  have hl : D.sectors.length = 1 := by rw [r3]; rfl
  have eL := r1.open
  rw [r5, hl] at eL
  have hnL : Nice { records := [], many := ((1 : Nat) : Int), synced := (([] : List (List UInt8)).length : Int) } := ⟨by decide, by decide, by decide, by decide, by simp [usedN]⟩
  have hnX : Nice { records := [[97, 98]], many := ((1 : Nat) : Int), synced := (([] : List (List UInt8)).length : Int) } := ⟨by decide, by decide, by decide, by decide, by decide⟩
  have hf : Fit { records := [[97, 98]], many := ((1 : Nat) : Int), synced := (([] : List (List UInt8)).length : Int) } D := ⟨hnX, r1, by rw [hl], by rw [r5]; rfl, by rw [r6]; decide⟩
  have hgo := hf.go (by rw [r4]; simp)
  have haf := hf.after rfl
  generalize perfL D.sectors _ = ss at hgo haf
  obtain ⟨a1, a2, a3, a4⟩ := haf
  rw [r4, if_neg (by decide)] at hgo
  have hC : Ready ⟨ss, [], -1, false⟩ := ready_mk (by omega) (by omega) a3 (by decide) (by decide)
  have eC := hC.open
  refine ⟨D, ⟨ss, [], -1, false⟩, _, _, _, _, e1, eL, ?_, ?_, hgo, eC, ?_, rfl, ?_, rfl, a1, rfl, ?_⟩
  · rw [hnL.append, if_neg (by rw [List.length_replicate]; decide)]
  · rw [hnL.append, if_pos (by decide)]; rfl
  · unfold syncJ
    rw [hnX.ok, hC.ok, if_neg (by decide), if_neg (by decide), if_neg (by simp), if_neg (by simp; omega), if_pos (.inl (by rw [a1]; simp))]
  · unfold roomJ; rw [hnL.ok, hnL.left, if_pos rfl]; unfold wrap64; decide
  · rw [hnL.left]; decide
end Go.Proofs.Ytpciankfpagnhaa
