/- What the functions of package journal and of its reference do: sectors, used, Check, Room. -/
import Derived.Test.YtpciankfpagnhaaD1
import Derived.Deep.QuietTactic
import Derived.BigQuiet
import Derived.Deep.DeepCutAuto
import Derived.IntWalk
import Derived.Test.YtpciankfpagnhaaD13
namespace Go.Proofs.Ytpciankfpagnhaa
open Go.RowKit

/-- How many sectors a record of n bytes occupies. -/
def secN (n : Nat) : Nat := max 1 ((n + 111) / 112)
theorem secN_pos (n : Nat) : 1 ≤ secN n := Nat.le_max_left _ _
theorem secN_le (n : Nat) (h : n ≤ 140737488355328) : secN n ≤ 140737488355328 := by unfold secN; omega
/-- No record is too long. -/
def ReachB (l : List (List UInt8)) : Prop := ∀ b ∈ l, b.length ≤ 140737488355328
/-- How many sectors records occupy, as a machine's number. -/
def usedW (l : List (List UInt8)) : Int := l.foldl (fun n b => wrap64 (n + (secN b.length : Int))) 0
theorem usedW_snoc (l : List (List UInt8)) (b : List UInt8) : usedW (l ++ [b]) = wrap64 (usedW l + (secN b.length : Int)) := by unfold usedW; rw [List.foldl_append]; rfl

set_option maxRecDepth 100000 in
set_option maxHeartbeats 400000 in
theorem sectors_ok {S : Nat → Prop} (w : World) (v : Value) (b : List UInt8) (h : Bs S w v b) (hb : b.length ≤ 140737488355328) :
    Calls Try.prog 66 #[v] w fun e w' => e = .returned (.int .i64 (secN b.length : Int)) ∧ w = w' := by
  obtain ⟨a, c, rfl, hc, hm⟩ := h.open
  clear h
  go_enter Try.func66, Try.ntmps66
  go_wp2
  all_goals
    go_ret
    exact ⟨ret_i (by unfold secN; omega), rfl⟩

set_option maxRecDepth 100000 in
set_option maxHeartbeats 400000 in
theorem refSectors_ok (w : World) (n : Nat) (hb : n ≤ 140737488355328) :
    Calls Try.prog 69 #[.int .i64 (n : Int)] w fun e w' => e = .returned (.int .i64 (secN n : Int)) ∧ w = w' := by
  go_enter Try.func69, Try.ntmps69
  go_wp2
  all_goals
    go_ret
    exact ⟨ret_i (by unfold secN; omega), rfl⟩

set_option maxRecDepth 100000 in
set_option maxHeartbeats 400000 in
theorem used_ok {S : Nat → Prop} (w : World) (v : Value) (l : List (List UInt8)) (h : Bss S w v l) (hl : ReachB l) :
    Calls Try.prog 67 #[v] w fun e w' => e = .returned (.int .i64 (usedW l)) ∧ w = w' := by
  obtain ⟨a, c, rfl, hc, hm⟩ := h.open
  have H := Lib.hid h; clear h
  have HL := Lib.hid hl; clear hl
  go_enter Try.func67, Try.ntmps67
  go_wp2
  go_loop [2, 7] (fun n i => ∃ k : Nat, k ≤ l.length ∧ i = .int .i64 k ∧ n = .int .i64 (usedW (l.take k))) (fun _ i => l.length - (intOf i).toNat)
  case atStart => exact ⟨0, Nat.zero_le _, rfl, rfl⟩
  case round =>
    obtain ⟨k, hk, rfl, rfl⟩ := hrel
    by_cases hlt : k < l.length
    · obtain ⟨b, o, vd, rfl, hb, h0, hv⟩ := H.out.elem hlt
      have hbl := HL.out l[k] (List.getElem_mem hlt)
      have hts := usedW_snoc (l.take k) l[k]
      rw [← List.take_succ_eq_append_getElem hlt] at hts
      have HT := Lib.hid hts; clear hts
      generalize l[k] = x at *
      obtain ⟨a3, c3, rfl, hc3, hm3⟩ := hv.open
      have HV := Lib.hid hv; clear hv
      have hi1 : (k : Int) < l.length := by omega
      have hi0 : (0 : Int) ≤ k := by omega
      go_wp2_with fail
      refine (sectors_ok _ _ x HV.out hbl).mono ?_
      rintro e w' ⟨rfl, rfl⟩
      generalize usedW (l.take k) = u at *
      go_wp2_with fail
      go_round
      case rel => exact ⟨k + 1, by omega, by go_num, by rw [HT.out]⟩
      case measure => simp [intOf]; omega
    · obtain rfl : l.length = k := by omega
      go_wp2_with fail
      go_ret
      exact ⟨rfl, rfl⟩

set_option maxRecDepth 100000 in
set_option maxHeartbeats 400000 in
theorem refUsed_ok {S : Nat → Prop} (w : World) (v : Value) (l : List (List UInt8)) (h : Bss S w v l) (hl : ReachB l) :
    Calls Try.prog 70 #[v] w fun e w' => e = .returned (.int .i64 (usedW l)) ∧ w = w' := by
  obtain ⟨a, c, rfl, hc, hm⟩ := h.open
  have H := Lib.hid h; clear h
  have HL := Lib.hid hl; clear hl
  go_enter Try.func70, Try.ntmps70
  go_wp2
  go_loop [3, 4] (fun n i => ∃ k : Nat, k ≤ l.length ∧ i = .int .i64 k ∧ n = .int .i64 (usedW (l.take k))) (fun _ i => l.length - (intOf i).toNat)
  case atStart => exact ⟨0, Nat.zero_le _, rfl, rfl⟩
  case round =>
    obtain ⟨k, hk, rfl, rfl⟩ := hrel
    by_cases hlt : k < l.length
    · obtain ⟨b, o, vd, rfl, hb, h0, hv⟩ := H.out.elem hlt
      have hbl := HL.out l[k] (List.getElem_mem hlt)
      have hts := usedW_snoc (l.take k) l[k]
      rw [← List.take_succ_eq_append_getElem hlt] at hts
      have HT := Lib.hid hts; clear hts
      generalize l[k] = x at *
      obtain ⟨a3, c3, rfl, hc3, hm3⟩ := hv.open
      have HV := Lib.hid hv; clear hv
      have hi1 : (k : Int) < l.length := by omega
      have hi0 : (0 : Int) ≤ k := by omega
      go_wp2_with fail
      refine (refSectors_ok _ x.length hbl).mono ?_
      rintro e w' ⟨rfl, rfl⟩
      generalize usedW (l.take k) = u at *
      go_wp2_with fail
      go_round
      case rel => exact ⟨k + 1, by omega, by go_num, by rw [HT.out]⟩
      case measure => simp [intOf]; omega
    · obtain rfl : l.length = k := by omega
      go_wp2_with fail
      go_ret
      exact ⟨rfl, rfl⟩

/-- Is a journal valid? -/
def okJ (j : Jn) : Bool := decide (1 ≤ j.many) && decide (j.many ≤ 4096) && decide (0 ≤ j.synced) && decide (j.synced ≤ j.records.length) && decide (usedW j.records ≤ j.many)
def chkJ (j : Jn) : Int := if okJ j = true then 0 else 1
theorem Journal.open {S : Nat → Prop} {w : World} {v : Value} {d : Jn} (h : Journal S w v d) :
    ∃ a c, v = .agg #[.slice a d.records.length c, .int .i64 d.many, .int .i64 d.synced] ∧ d.records.length ≤ c ∧ c ≤ 9223372036854775807 ∧ Bss S w (.slice a d.records.length c) d.records := by
  obtain ⟨vs, rfl, h1⟩ := h
  obtain ⟨a, c, rfl, hc, hm⟩ := h1.open
  exact ⟨a, c, rfl, hc, hm, h1⟩
theorem Journal.mk' {S : Nat → Prop} {w : World} {a : Option Addr} {n c : Nat} {m s : Int} {rs : List (List UInt8)} (h1 : Bss S w (.slice a n c) rs) :
    Journal S w (.agg #[.slice a n c, .int .i64 m, .int .i64 s]) { records := rs, many := m, synced := s } := ⟨_, rfl, h1⟩

set_option maxRecDepth 100000 in
set_option maxHeartbeats 2000000 in
theorem checkJ_ok {S : Nat → Prop} (w : World) (v : Value) (j : Jn) (h : Journal S w v j) (hl : ReachB j.records) :
    Calls Try.prog 43 #[v] w fun e w' => e = .returned (.int .i64 (chkJ j)) ∧ Ext w w' := by
  obtain ⟨a, c, rfl, hc, hm, h1⟩ := h.open
  clear h
  have H1 := Lib.hid h1; clear h1
  have HL := Lib.hid hl; clear hl
  have K0 := Lib.hid (fun n => Calls.mono (used_ok ((w.alloc (.cells #[.slice a j.records.length c, .int .i64 j.many, .int .i64 j.synced] 55)).drewN n) (.slice a j.records.length c) j.records (H1.out.keep (((Ext.refl w).alloc _).trans (Ext.drewN _ n))) HL.out) (fun _ _ h => (⟨h.1, h.2.symm⟩ : _ ∧ _)))
  go_enter Try.func43, Try.ntmps43
  go_upto_region 1 with fail
  have B0 := Box.new w [.slice a j.records.length c, .int .i64 j.many, .int .i64 j.synced] 55
  have hE := (Ext.refl w).alloc (.cells #[.slice a j.records.length c, .int .i64 j.many, .int .i64 j.synced] 55)
  generalize hW : w.alloc (.cells #[.slice a j.records.length c, .int .i64 j.many, .int .i64 j.synced] 55) = w1 at *
  clear hW
  generalize w.heap.size = g at *
  obtain ⟨c0, c1, c2, -, -, -⟩ := B0.three
  have hok : okJ j = true ↔ (1 ≤ j.many ∧ j.many ≤ 4096 ∧ 0 ≤ j.synced ∧ j.synced ≤ j.records.length ∧ usedW j.records ≤ j.many) := by unfold okJ; simp [and_assoc]
  have HOK := Lib.hid hok; clear hok
  generalize usedW j.records = u at *
  by_cases q1 : j.many < 1
  · have d1 : decide (j.many < 1) = true := by simpa using q1
    go_quiet (fail)
    go_wp2_with fail
    go_ret
    refine ⟨ret_i ?_, hE.trans (Ext.drewN _ _)⟩
    unfold chkJ; rw [if_neg]; rw [HOK.out]; omega
  have d1 : decide (j.many < 1) = false := by simpa using q1
  by_cases q2 : 4096 < j.many
  · have d2 : decide (4096 < j.many) = true := by simpa using q2
    go_quiet (fail)
    go_wp2_with fail
    go_ret
    refine ⟨ret_i ?_, hE.trans (Ext.drewN _ _)⟩
    unfold chkJ; rw [if_neg]; rw [HOK.out]; omega
  have d2 : decide (4096 < j.many) = false := by simpa using q2
  by_cases q3 : j.synced < 0
  · have d3 : decide (j.synced < 0) = true := by simpa using q3
    go_quiet (fail)
    go_wp2_with fail
    go_ret
    refine ⟨ret_i ?_, hE.trans (Ext.drewN _ _)⟩
    unfold chkJ; rw [if_neg]; rw [HOK.out]; omega
  have d3 : decide (j.synced < 0) = false := by simpa using q3
  by_cases q4 : (j.records.length : Int) < j.synced
  · have d4 : decide ((j.records.length : Int) < j.synced) = true := by simpa using q4
    go_quiet (fail)
    go_wp2_with fail
    go_ret
    refine ⟨ret_i ?_, hE.trans (Ext.drewN _ _)⟩
    unfold chkJ; rw [if_neg]; rw [HOK.out]; omega
  have d4 : decide ((j.records.length : Int) < j.synced) = false := by simpa using q4
  go_quiet ((go_at_call 67; exact Calls.quiet_of_same (K0.out _)))
  by_cases q5 : j.many < u
  · go_wp2_with fail
    go_ret
    refine ⟨ret_i ?_, hE.trans (Ext.drewN _ _)⟩
    unfold chkJ; rw [if_neg]; rw [HOK.out]; omega
  · go_wp2_with fail
    go_ret
    refine ⟨ret_i ?_, hE.trans (Ext.drewN _ _)⟩
    unfold chkJ; rw [if_pos]; rw [HOK.out]; omega

set_option maxRecDepth 100000 in
set_option maxHeartbeats 2000000 in
theorem refCheckJ_ok {S : Nat → Prop} (w : World) (v : Value) (j : Jn) (h : Journal S w v j) (hl : ReachB j.records) :
    Calls Try.prog 44 #[v] w fun e w' => e = .returned (.int .i64 (chkJ j)) ∧ Ext w w' := by
  obtain ⟨a, c, rfl, hc, hm, h1⟩ := h.open
  clear h
  have H1 := Lib.hid h1; clear h1
  have HL := Lib.hid hl; clear hl
  have K0 := Lib.hid (fun n => Calls.mono (refUsed_ok ((w.alloc (.cells #[.slice a j.records.length c, .int .i64 j.many, .int .i64 j.synced] 55)).drewN n) (.slice a j.records.length c) j.records (H1.out.keep (((Ext.refl w).alloc _).trans (Ext.drewN _ n))) HL.out) (fun _ _ h => (⟨h.1, h.2.symm⟩ : _ ∧ _)))
  go_enter Try.func44, Try.ntmps44
  go_upto_region 1 with fail
  have B0 := Box.new w [.slice a j.records.length c, .int .i64 j.many, .int .i64 j.synced] 55
  have hE := (Ext.refl w).alloc (.cells #[.slice a j.records.length c, .int .i64 j.many, .int .i64 j.synced] 55)
  generalize hW : w.alloc (.cells #[.slice a j.records.length c, .int .i64 j.many, .int .i64 j.synced] 55) = w1 at *
  clear hW
  generalize w.heap.size = g at *
  obtain ⟨c0, c1, c2, -, -, -⟩ := B0.three
  have hok : okJ j = true ↔ (1 ≤ j.many ∧ j.many ≤ 4096 ∧ 0 ≤ j.synced ∧ j.synced ≤ j.records.length ∧ usedW j.records ≤ j.many) := by unfold okJ; simp [and_assoc]
  have HOK := Lib.hid hok; clear hok
  generalize usedW j.records = u at *
  by_cases q1 : j.many < 1
  · have d1 : decide (j.many < 1) = true := by simpa using q1
    go_quiet (fail)
    go_wp2_with fail
    go_ret
    refine ⟨ret_i ?_, hE.trans (Ext.drewN _ _)⟩
    unfold chkJ; rw [if_neg]; rw [HOK.out]; omega
  have d1 : decide (j.many < 1) = false := by simpa using q1
  by_cases q2 : 4096 < j.many
  · have d2 : decide (4096 < j.many) = true := by simpa using q2
    go_quiet (fail)
    go_wp2_with fail
    go_ret
    refine ⟨ret_i ?_, hE.trans (Ext.drewN _ _)⟩
    unfold chkJ; rw [if_neg]; rw [HOK.out]; omega
  have d2 : decide (4096 < j.many) = false := by simpa using q2
  by_cases q3 : j.synced < 0
  · have d3 : decide (j.synced < 0) = true := by simpa using q3
    go_quiet (fail)
    go_wp2_with fail
    go_ret
    refine ⟨ret_i ?_, hE.trans (Ext.drewN _ _)⟩
    unfold chkJ; rw [if_neg]; rw [HOK.out]; omega
  have d3 : decide (j.synced < 0) = false := by simpa using q3
  by_cases q4 : (j.records.length : Int) < j.synced
  · have d4 : decide ((j.records.length : Int) < j.synced) = true := by simpa using q4
    go_quiet (fail)
    go_wp2_with fail
    go_ret
    refine ⟨ret_i ?_, hE.trans (Ext.drewN _ _)⟩
    unfold chkJ; rw [if_neg]; rw [HOK.out]; omega
  have d4 : decide ((j.records.length : Int) < j.synced) = false := by simpa using q4
  go_quiet ((go_at_call 70; exact Calls.quiet_of_same (K0.out _)))
  by_cases q5 : j.many < u
  · go_wp2_with fail
    go_ret
    refine ⟨ret_i ?_, hE.trans (Ext.drewN _ _)⟩
    unfold chkJ; rw [if_neg]; rw [HOK.out]; omega
  · go_wp2_with fail
    go_ret
    refine ⟨ret_i ?_, hE.trans (Ext.drewN _ _)⟩
    unfold chkJ; rw [if_pos]; rw [HOK.out]; omega

end Go.Proofs.Ytpciankfpagnhaa

/- Numbers in bytes, the checksum, a sector's form: plain functions on lists of bytes. -/
namespace Go.Proofs.Ytpciankfpagnhaa

theorem snoc_ind {α : Type} {p : List α → Prop} (h0 : p []) (h1 : ∀ l c, p l → p (l ++ [c])) (l : List α) : p l := by
  have : ∀ l : List α, p l.reverse := fun l => by
    induction l with
    | nil => exact h0
    | cons c l ih => rw [List.reverse_cons]; exact h1 _ _ ih
  have h := this l.reverse
  rwa [List.reverse_reverse] at h
/-- The number that bytes represent. -/
def num (l : List UInt8) : Nat := l.foldl (fun n c => 256 * n + c.toNat) 0
theorem num_snoc (l : List UInt8) (c : UInt8) : num (l ++ [c]) = 256 * num l + c.toNat := by unfold num; rw [List.foldl_append]; rfl
theorem num_lt (l : List UInt8) : num l < 256 ^ l.length := by
  induction l using snoc_ind with
  | h0 => decide
  | h1 l c ih =>
    rw [num_snoc, List.length_append, List.length_singleton, Nat.pow_succ]
    have := c.toNat_lt
    omega
/-- So many bytes of a number. -/
def be : Nat → Nat → List UInt8
  | 0, _ => []
  | k + 1, n => be k (n / 256) ++ [UInt8.ofNat (n % 256)]
theorem be_length : ∀ k n, (be k n).length = k
  | 0, _ => rfl
  | k + 1, n => by rw [be, List.length_append, be_length k]; rfl
theorem be_num : ∀ k n, num (be k n) = n % 256 ^ k
  | 0, n => by simp [be, num, Nat.mod_one]
  | k + 1, n => by
    rw [be, num_snoc, be_num k, Nat.pow_succ, Nat.mul_comm (256 ^ k) 256, Nat.mod_mul]
    have : (UInt8.ofNat (n % 256)).toNat = n % 256 := by simp
    rw [this]; omega
theorem be_of_num (l : List UInt8) : be l.length (num l) = l := by
  induction l using snoc_ind with
  | h0 => rfl
  | h1 l c ih =>
    rw [num_snoc, List.length_append, List.length_singleton, be]
    have := c.toNat_lt
    rw [show (256 * num l + c.toNat) / 256 = num l by omega, show (256 * num l + c.toNat) % 256 = c.toNat by omega, ih]
    simp
theorem num_inj {a b : List UInt8} (hl : a.length = b.length) (h : num a = num b) : a = b := by
  rw [← be_of_num a, ← be_of_num b, hl, h]

/-- One bit of the checksum. -/
def crc1 (n : Nat) : Nat := (n / 2) ^^^ (3988292384 * (n % 2))
def crcN : Nat → Nat → Nat
  | 0, n => n
  | k + 1, n => crc1 (crcN k n)
def crcU (l : List UInt8) : Nat := l.foldl (fun n c => crcN 8 (n ^^^ c.toNat)) 4294967295
/-- The checksum. -/
def crc (l : List UInt8) : Nat := crcU l ^^^ 4294967295
theorem crcU_snoc (l : List UInt8) (c : UInt8) : crcU (l ++ [c]) = crcN 8 (crcU l ^^^ c.toNat) := by unfold crcU; rw [List.foldl_append]; rfl
theorem crc1_lt (n : Nat) (h : n < 4294967296) : crc1 n < 4294967296 := by
  unfold crc1
  have h2 : (3988292384 * (n % 2)) < 2 ^ 32 := by omega
  exact Nat.xor_lt_two_pow (n := 32) (by omega) h2
theorem crcN_lt (k n : Nat) (h : n < 4294967296) : crcN k n < 4294967296 := by
  induction k with
  | zero => exact h
  | succ k ih => exact crc1_lt _ ih
theorem crcU_lt (l : List UInt8) : crcU l < 4294967296 := by
  induction l using snoc_ind with
  | h0 => decide
  | h1 l c ih =>
    rw [crcU_snoc]
    refine crcN_lt _ _ ?_
    have := c.toNat_lt
    exact Nat.xor_lt_two_pow (n := 32) ih (by omega)
theorem crc_lt (l : List UInt8) : crc l < 4294967296 := Nat.xor_lt_two_pow (n := 32) (crcU_lt l) (by decide)

/-- A sector, from a generation, its number, its kind and a piece of a record. -/
def sBody (k : Nat) (kind : UInt8) (p : List UInt8) : List UInt8 := be 2 k ++ [kind, UInt8.ofNat p.length] ++ p ++ List.replicate (112 - p.length) 0
def sect (g k : Nat) (kind : UInt8) (p : List UInt8) : List UInt8 := be 4 g ++ be 4 (crc (sBody k kind p)) ++ sBody k kind p ++ be 4 g
end Go.Proofs.Ytpciankfpagnhaa
