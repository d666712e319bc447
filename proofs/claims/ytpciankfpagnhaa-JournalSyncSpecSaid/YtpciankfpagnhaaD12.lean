/- What Few of the reference of layer 41 does. -/
import Derived.Test.YtpciankfpagnhaaD1
namespace Go.Proofs.Ytpciankfpagnhaa
open Go.RowKit

def sumL (l : List Nat) : Nat := (l.map (· + 1)).sum
theorem sumL_nil : sumL [] = 0 := rfl
theorem sumL_snoc (l : List Nat) (n : Nat) : sumL (l ++ [n]) = sumL l + (n + 1) := by unfold sumL; simp
theorem sumL_take (l : List Nat) (k : Nat) (h : k < l.length) : sumL (l.take (k + 1)) = sumL (l.take k) + (l[k] + 1) := by
  rw [List.take_succ_eq_append_getElem h, sumL_snoc]
theorem sumL_le (l : List Nat) (k : Nat) : sumL (l.take k) ≤ sumL l := by
  have : sumL l = sumL (l.take k) + sumL (l.drop k) := by
    unfold sumL; rw [← List.sum_append, ← List.map_append, List.take_append_drop]
  omega
/-- How much a disk holds, as Few counts it. -/
def bulkD (d : Dk) : Nat := sumL (d.sectors.map List.length) + sumL (d.pending.map fun x => x.data.length)
def fewD (d : Dk) : Bool := decide (bulkD d ≤ 9000)
def ReachD (d : Dk) : Prop := (∀ l ∈ d.sectors, l.length ≤ 140737488355328) ∧ ∀ x ∈ d.pending, x.data.length ≤ 140737488355328
theorem fewD_big {d : Dk} {n : Nat} (h : n ≤ bulkD d) (h2 : 9000 < n) : fewD d = false := by unfold fewD; simp; omega

set_option maxHeartbeats 1000000 in
set_option maxRecDepth 100000 in
theorem few_ok {S : Nat → Prop} (w : World) (v : Value) (d : Dk) (h : Disk S w v d) (hr : ReachD d) :
    Calls Try.prog 18 #[v] w fun e w' => e = .returned (.bool (fewD d)) ∧ Ext w w' := by
  obtain ⟨a, c, a2, c2, rfl, hc, hm, hc2, hm2, h1, h2⟩ := h.open
  clear h
  have H1 := Lib.hid h1; clear h1
  have H2 := Lib.hid h2; clear h2
  have HR := Lib.hid hr; clear hr
  go_enter Try.func18, Try.ntmps18
  go_wp2_with fail
  go_loop [3, 4] (fun t i => ∃ k : Nat, k ≤ d.sectors.length ∧ i = .int .i64 k ∧ t = .int .i64 (sumL ((d.sectors.map List.length).take k) : Nat) ∧ Hid (sumL ((d.sectors.map List.length).take k) ≤ 150000000000000)) (fun _ i => d.sectors.length - (intOf i).toNat)
  case atStart => exact ⟨0, Nat.zero_le _, rfl, rfl, (by show (0 : Nat) ≤ _; omega)⟩
  case round =>
    obtain ⟨k, hk, rfl, rfl, hb⟩ := hrel
    have hle := sumL_le (d.sectors.map List.length) k
    have hb' := hb.out
    by_cases hcc : k < d.sectors.length ∧ sumL ((d.sectors.map List.length).take k) ≤ 9000
    · obtain ⟨hlt, hq⟩ := hcc
      have hts := sumL_take (d.sectors.map List.length) k (by simpa using hlt)
      rw [List.getElem_map] at hts
      have hx := HR.out.1 d.sectors[k] (List.getElem_mem hlt)
      · obtain ⟨b, o, vd, rfl, hb0, x0, hv⟩ := H1.out.elem hlt
        obtain ⟨a3, c3, rfl, hc3, hm3⟩ := hv.open
        clear hv
        generalize d.sectors[k] = x at *
        have HT := Lib.hid hts; clear hts
        generalize sumL ((d.sectors.map List.length).take k) = n at *
        clear hle
        go_wp2_with fail
        go_round
        case rel => exact ⟨k + 1, by omega, by go_num, by rw [HT.out]; go_num, by rw [HT.out]; show _ ≤ _; omega⟩
        case measure => simp [intOf]; omega
    · have hP : sumL ((d.sectors.map List.length).take k) = sumL (d.sectors.map List.length) ∨ (9000 < sumL ((d.sectors.map List.length).take k) ∧ sumL ((d.sectors.map List.length).take k) ≤ sumL (d.sectors.map List.length)) := by
        by_cases hlt : k < d.sectors.length
        · right; constructor
          · have : ¬ sumL ((d.sectors.map List.length).take k) ≤ 9000 := fun h => hcc ⟨hlt, h⟩
            omega
          · exact hle
        · left; rw [List.take_of_length_le (by simp; omega)]
      have HP := Lib.hid hP; clear hP
      have HC := Lib.hid hcc; clear hcc
      generalize hn0 : sumL ((d.sectors.map List.length).take k) = n0 at *
      clear hn0 hle hb
      by_cases hlt : k < d.sectors.length
      all_goals
        (try have hbig : 9000 < n0 := by have := HC.out; omega)
        go_wp2_with fail
        go_loop [3, 5] (fun t i => ∃ (j n : Nat), j ≤ d.pending.length ∧ i = .int .i64 j ∧ t = .int .i64 n ∧ n ≤ 300000000000000 ∧ Hid (n = n0 + sumL ((d.pending.map fun x => x.data.length).take j))) (fun _ i => d.pending.length - (intOf i).toNat)
        case atStart => exact ⟨0, n0, Nat.zero_le _, rfl, rfl, by omega, rfl⟩
        case round =>
          obtain ⟨j, n, hj, rfl, rfl, hn, hs⟩ := hrel
          by_cases hcc : j < d.pending.length ∧ n ≤ 9000
          · obtain ⟨hlt2, hq⟩ := hcc
            have hts := sumL_take (d.pending.map fun x => x.data.length) j (by simpa using hlt2)
            rw [List.getElem_map] at hts
            have hx := HR.out.2 d.pending[j] (List.getElem_mem hlt2)
            obtain ⟨b, o, vd, rfl, hb0, x0, x1, hv⟩ := H2.out.elem hlt2
            obtain ⟨a3, c3, rfl, hc3, hm3⟩ := hv.open
            clear hv
            generalize d.pending[j] = x at *
            have HT := Lib.hid hts; clear hts
            go_wp2_with fail
            go_round
            case rel => exact ⟨j + 1, n + 1 + x.data.length, by omega, by go_num, by go_num, by omega, by have := hs.out; have := HT.out; show _ = _; omega⟩
            case measure => simp [intOf]; omega
          · have hfin : decide ((n : Int) ≤ 9000) = fewD d := by
              rw [show decide ((n : Int) ≤ 9000) = decide (n ≤ 9000) from decide_eq_decide.2 (by omega)]
              have h1 := HP.out
              have h2 := hs.out
              have h3 := sumL_le (d.pending.map fun x => x.data.length) j
              unfold fewD bulkD
              by_cases hq : n ≤ 9000
              · have hjl : j = d.pending.length := by
                  have : ¬ j < d.pending.length := fun h => hcc ⟨h, hq⟩
                  omega
                rw [List.take_of_length_le (by simp; omega)] at h2
                simp [hq]; omega
              · simp [hq]; omega
            have HF := Lib.hid hfin; clear hfin
            have HC2 := Lib.hid hcc; clear hcc
            by_cases hlt2 : j < d.pending.length
            all_goals
              (try have hbig2 : 9000 < n := by have := HC2.out; omega)
              go_wp2_with fail
              all_goals
                go_ret
                exact ⟨ret_b (by rw [← HF.out]), (Ext.refl _).alloc _⟩
end Go.Proofs.Ytpciankfpagnhaa
