/- What the functions of the reference of layer 41 do: Check, Stop. -/
import Derived.Test.YtpciankfpagnhaaD2
namespace Go.Proofs.Ytpciankfpagnhaa
open Go.RowKit

theorem FalseTo.any {α : Type} {p : α → Bool} {xs : List α} (h : FalseTo p xs xs.length) : xs.any p = false := by
  rw [List.any_eq_false]
  intro x hx
  obtain ⟨j, hj, rfl⟩ := List.getElem_of_mem hx
  simp [h j _ hj (List.getElem?_eq_getElem hj)]
theorem any_at {α : Type} {p : α → Bool} {xs : List α} {k : Nat} (hk : k < xs.length) (h : p xs[k] = true) : xs.any p = true := by
  rw [List.any_eq_true]; exact ⟨_, List.getElem_mem hk, h⟩

theorem okD_iff (d : Dk) : okD d = true ↔ (1 ≤ (d.sectors.length : Int) ∧ (d.sectors.length : Int) ≤ 4096 ∧ (d.pending.length : Int) ≤ 4096 ∧ -1 ≤ d.left ∧ d.left ≤ 65536) ∧ d.pending.any (badW d.sectors.length) = false ∧ d.sectors.any badS = false := by
  unfold okD
  cases d.pending.any (badW d.sectors.length) <;> cases d.sectors.any badS <;> simp <;> omega
theorem okD_head {d : Dk} (h : ¬ (1 ≤ (d.sectors.length : Int) ∧ (d.sectors.length : Int) ≤ 4096 ∧ (d.pending.length : Int) ≤ 4096 ∧ -1 ≤ d.left ∧ d.left ≤ 65536)) : okD d = false := by
  cases hk : okD d
  · rfl
  · exact absurd ((okD_iff d).1 hk).1 h
theorem okD_any {d : Dk} (h : d.pending.any (badW d.sectors.length) = true) : okD d = false := by
  cases hk : okD d
  · rfl
  · have := ((okD_iff d).1 hk).2.1; rw [h] at this; cases this
theorem okD_anyS {d : Dk} (h : d.sectors.any badS = true) : okD d = false := by
  cases hk : okD d
  · rfl
  · have := ((okD_iff d).1 hk).2.2; rw [h] at this; cases this
theorem badW_iff (n : Int) (x : Wr) : badW n x = true ↔ x.at_ < 0 ∨ n ≤ x.at_ ∨ ((x.data.length : Int) != 128) = true := by
  unfold badW; simp [or_assoc]

set_option maxHeartbeats 1000000 in
theorem refCheck_ok {S : Nat → Prop} (w : World) (v : Value) (d : Dk) (h : Disk S w v d) :
    Calls Try.prog 23 #[v] w fun e w' => e = .returned (.int .i64 (chk d)) ∧ Ext w w' := by
  obtain ⟨a, c, a2, c2, rfl, hc, hm, hc2, hm2, h1, h2⟩ := h.open
  clear h
  have H1 := Lib.hid h1; clear h1
  have H2 := Lib.hid h2; clear h2
  by_cases hh : 1 ≤ (d.sectors.length : Int) ∧ (d.sectors.length : Int) ≤ 4096 ∧ (d.pending.length : Int) ≤ 4096 ∧ -1 ≤ d.left ∧ d.left ≤ 65536
  case neg =>
    go_enter Try.func23, Try.ntmps23
    go_wp2_with fail
    all_goals first | (exfalso; apply hh; refine ⟨?_, ?_, ?_, ?_, ?_⟩ <;> omega) | (go_ret; exact ⟨ret_i (chk_no (okD_head hh)).symm, (Ext.refl _).alloc _⟩)
  have G := Lib.hid hh
  obtain ⟨g1, g2, g3, g4, g5⟩ := hh
  go_enter Try.func23, Try.ntmps23
  go_wp2_with fail
  go_loop [4] (fun i => ∃ k : Nat, k ≤ d.sectors.length ∧ i = .int .i64 k ∧ FalseTo badS d.sectors k) (fun i => d.sectors.length - (intOf i).toNat)
  case atStart => exact ⟨0, Nat.zero_le _, rfl, FalseTo.zero _ _⟩
  case round =>
    obtain ⟨k, hk, rfl, hp⟩ := hrel
    by_cases hlt : k < d.sectors.length
    · obtain ⟨b, o, vd, rfl, hb, x0, hv⟩ := H1.out.elem hlt
      obtain ⟨a3, c3, rfl, hc3, hm3⟩ := hv.open
      clear hv
      have Hz := Lib.hid (FalseTo.succ hp hlt)
      have Hi := Lib.hid (any_at (p := badS) hlt)
      clear hp
      generalize d.sectors[k] = x at *
      have e1 : ((x.length : Int) != 128) = badS x := rfl
      cases hbx : badS x
      · rw [hbx] at e1
        go_wp2_with fail
        go_round
        case rel => exact ⟨k + 1, by omega, by go_num, Hz.out hbx⟩
        case measure => simp [intOf]; omega
      · rw [hbx] at e1
        go_wp2_with fail
        go_ret
        exact ⟨ret_i (chk_no (okD_anyS (Hi.out hbx))).symm, (Ext.refl _).alloc _⟩
    · obtain rfl : k = d.sectors.length := by omega
      have HS := Lib.hid hp.any; clear hp
      go_wp2_with fail
      go_loopw [5] (fun i wr => ∃ k : Nat, k ≤ d.pending.length ∧ i = .int .i64 k ∧ FalseTo (badW d.sectors.length) d.pending k ∧ Box wr w.heap.size [.slice a d.sectors.length c, .slice a2 d.pending.length c2, .int .i64 d.left, .bool d.stopped] ∧ Ext w wr) (fun i _ => d.pending.length - (intOf i).toNat)
      case atStart => exact ⟨0, Nat.zero_le _, rfl, FalseTo.zero _ _, Box.new w _ 25, (Ext.refl _).alloc _⟩
      case round =>
        obtain ⟨k, hk, rfl, hp, hbox, hE⟩ := hrel
        obtain ⟨c00, c01, -, -, f00, f01, -, -⟩ := hbox.four
        have Hb := Lib.hid hbox; clear hbox
        have hsz := lt_of_cell c00
        by_cases hlt : k < d.pending.length
        · obtain ⟨b, o, vd, rfl, hb, x0, x1, hv⟩ := (Wrs.keep H2.out hE).elem hlt
          obtain ⟨a3, c3, rfl, hc3, hm3⟩ := hv.open
          clear hv
          have Hz := Lib.hid (FalseTo.succ hp hlt)
          have Hi := Lib.hid (any_at (p := badW d.sectors.length) hlt)
          clear hp
          generalize d.pending[k] = x at *
          have HE := Lib.hid (hE.alloc (.cells #[.int .i64 x.at_, .slice a3 x.data.length c3] 76)); clear hE
          cases hbx : badW d.sectors.length x
          · have hq : ¬ (x.at_ < 0 ∨ (d.sectors.length : Int) ≤ x.at_ ∨ ((x.data.length : Int) != 128) = true) := by rw [← badW_iff, hbx]; simp
            have q1 : ¬ x.at_ < 0 := fun h => hq (.inl h)
            have q2 : ¬ (d.sectors.length : Int) ≤ x.at_ := fun h => hq (.inr (.inl h))
            have q3 : ((x.data.length : Int) != 128) = false := by cases h : ((x.data.length : Int) != 128); rfl; exact absurd (.inr (.inr h)) hq
            clear hq
            go_wp2_with fail
            go_roundw
            case rel => exact ⟨k + 1, by omega, by go_num, Hz.out hbx, Hb.out.past _, HE.out⟩
            case measure => simp [intOf]; omega
          · have hq := (badW_iff _ _).1 hbx
            by_cases q1 : x.at_ < 0
            · clear hq
              go_wp2_with fail
              go_ret
              exact ⟨ret_i (chk_no (okD_any (Hi.out hbx))).symm, HE.out⟩
            · by_cases q2 : (d.sectors.length : Int) ≤ x.at_
              · clear hq
                go_wp2_with fail
                go_ret
                exact ⟨ret_i (chk_no (okD_any (Hi.out hbx))).symm, HE.out⟩
              · have q3 := (hq.resolve_left q1).resolve_left q2
                clear hq
                go_wp2_with fail
                go_ret
                exact ⟨ret_i (chk_no (okD_any (Hi.out hbx))).symm, HE.out⟩
        · obtain rfl : k = d.pending.length := by omega
          go_wp2_with fail
          go_ret
          exact ⟨ret_i (chk_yes ((okD_iff d).2 ⟨G.out, hp.any, HS.out⟩)).symm, hE⟩
end Go.Proofs.Ytpciankfpagnhaa
