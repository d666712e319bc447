/- What Same of the reference of layer 41 does. -/
import Derived.Test.YtpciankfpagnhaaD1
import Derived.Deep.QuietTactic
import Derived.BigQuiet
namespace Go.Proofs.Ytpciankfpagnhaa
open Go.RowKit

theorem push_fold (l : List UInt8) : ∀ s : ByteArray, (l.map fun c => (c.toNat : Int)).foldl (fun r n => r.push (UInt8.ofNat n.toNat)) s = ⟨s.data ++ l.toArray⟩ := by
  induction l with
  | nil => intro s; simp
  | cons c l ih =>
    intro s
    simp only [List.map_cons, List.foldl_cons]
    rw [ih]
    simp [ByteArray.push]
/-- string(b). -/
theorem conv_str {S : Nat → Prop} {w : World} {a : Option Addr} {n c : Nat} {l : List UInt8} (h : Bs S w (.slice a n c) l) : (convert 35 9 (.slice a n c)).run Try.prog w = .ok (.string ⟨l.toArray⟩) w := by
  rw [run_convert_bytes_string w 35 9 5 a n c (by kernel_rfl) (by kernel_rfl) (by kernel_rfl)]
  obtain ⟨a', c', e, _, _⟩ := h.open
  cases e
  by_cases hl : 0 < l.length
  · obtain ⟨b, o, rfl, hb, hc⟩ := h.cells hl
    have hld : (loadCells ⟨b, o, none⟩ l.length).run Try.prog w = .ok ((l.map fun c => (c.toNat : Int)).map (Value.int .u8)).toArray w := by
      have := run_loadCells_list (P := Try.prog) w ⟨b, o, none⟩ (bv l) (fun j u hj => by rw [Addr.add_lit]; exact hc j u hj)
      rw [bv_length] at this
      rw [this]; unfold bv; simp
    rw [run_bytesToString w ⟨b, o, none⟩ l.length c _ hld, push_fold]
    simp [ByteArray.empty, ByteArray.emptyWithCapacity]
    rfl
  · have : l = [] := List.eq_nil_of_length_eq_zero (by omega)
    subst this
    cases a <;> simp [Conv.bytesToString, loadCells, loadCellsFrom]
    all_goals rfl
theorem Ext.drewN (w : World) (n : Nat) : Ext w (w.drewN n) := ⟨rfl, rfl, rfl, Nat.le_refl _, fun _ _ => rfl⟩
theorem drewN_add (w : World) (m n : Nat) : (w.drewN m).drewN n = w.drewN (m + n) := by simp [World.drewN, Nat.add_assoc]
theorem conv_strN {S : Nat → Prop} {w : World} {a : Option Addr} {n c : Nat} {l : List UInt8} (h : Bs S w (.slice a n c) l) (k : Nat) : (convert 35 9 (.slice a n c)).run Try.prog (w.drewN k) = .ok (.string ⟨l.toArray⟩) (w.drewN k) :=
  conv_str (h.keep (Ext.drewN w k))

/-- Do two lists agree up to k? -/
def AgreeTo {α : Type} (xs ys : List α) (k : Nat) : Prop := xs.take k = ys.take k
theorem AgreeTo.zero {α : Type} (xs ys : List α) : AgreeTo xs ys 0 := rfl
theorem AgreeTo.succ {α : Type} {xs ys : List α} {k : Nat} (h : AgreeTo xs ys k) (h1 : k < xs.length) (h2 : k < ys.length) (e : xs[k] = ys[k]) : AgreeTo xs ys (k + 1) := by
  unfold AgreeTo at *
  rw [List.take_succ_eq_append_getElem h1, List.take_succ_eq_append_getElem h2, h, e]
theorem AgreeTo.eq {α : Type} {xs ys : List α} (h : AgreeTo xs ys xs.length) (hl : xs.length = ys.length) : xs = ys := by
  unfold AgreeTo at h
  rwa [List.take_length, hl, List.take_length] at h

set_option maxHeartbeats 1000000 in
theorem same_ok {S S2 : Nat → Prop} (w : World) (v v2 : Value) (d d2 : Dk) (h : Disk S w v d) (h' : Disk S2 w v2 d2) :
    Calls Try.prog 21 #[v, v2] w fun e w' => e = .returned (.bool (decide (d = d2))) ∧ Ext w w' := by
  obtain ⟨a, c, b, f, rfl, hc, hm, hf, hn, h1, h2⟩ := h.open
  obtain ⟨a2, c2, b2, f2, rfl, hc2, hm2, hf2, hn2, h12, h22⟩ := h'.open
  clear h h'
  have H1 := Lib.hid h1; clear h1
  have H2 := Lib.hid h2; clear h2
  have H12 := Lib.hid h12; clear h12
  have H22 := Lib.hid h22; clear h22
  by_cases hh : d.sectors.length = d2.sectors.length ∧ d.pending.length = d2.pending.length ∧ d.left = d2.left ∧ d.stopped = d2.stopped
  case neg =>
    have hne : decide (d = d2) = false := by simp; intro e; subst e; exact hh ⟨rfl, rfl, rfl, rfl⟩
    have HNE := Lib.hid hne; clear hne
    have HH := Lib.hid hh; clear hh
    go_enter Try.func21, Try.ntmps21
    go_wp2_with fail
    all_goals first | (go_ret; exact ⟨ret_b HNE.out.symm, ((Ext.refl _).alloc _).alloc _⟩) | (exfalso; apply HH.out; refine ⟨by omega, by omega, by assumption, ?_⟩; have := ‹(!d.stopped == d2.stopped) = false›; revert this; cases d.stopped <;> cases d2.stopped <;> simp)
  obtain ⟨e1, e2, e3, e4⟩ := hh
  have q1 : ((d.sectors.length : Int) != d2.sectors.length) = false := by simp [e1]
  have q2 : ((d.pending.length : Int) != d2.pending.length) = false := by simp [e2]
  have q3 : (d.left != d2.left) = false := by simp [e3]
  have q4 : (d.stopped == d2.stopped) = true := by simp [e4]
  have E1 := Lib.hid e1; clear e1
  have E2 := Lib.hid e2; clear e2
  have E3 := Lib.hid e3; clear e3
  have E4 := Lib.hid e4; clear e4
  go_enter Try.func21, Try.ntmps21
  go_wp2_with fail
  have B0 := (Box.new w [.slice a d.sectors.length c, .slice b d.pending.length f, .int .i64 d.left, .bool d.stopped] 25).past (.cells #[.slice a2 d2.sectors.length c2, .slice b2 d2.pending.length f2, .int .i64 d2.left, .bool d2.stopped] 25)
  have B1 : Box _ (w.heap.size + 1) _ := Box.at (w := w.alloc (.cells #[.slice a d.sectors.length c, .slice b d.pending.length f, .int .i64 d.left, .bool d.stopped] 25)) (cs := [.slice a2 d2.sectors.length c2, .slice b2 d2.pending.length f2, .int .i64 d2.left, .bool d2.stopped]) (t := 25) (by simp)
  have hE := ((Ext.refl w).alloc (.cells #[.slice a d.sectors.length c, .slice b d.pending.length f, .int .i64 d.left, .bool d.stopped] 25)).alloc (.cells #[.slice a2 d2.sectors.length c2, .slice b2 d2.pending.length f2, .int .i64 d2.left, .bool d2.stopped] 25)
  generalize hW : (w.alloc (.cells #[.slice a d.sectors.length c, .slice b d.pending.length f, .int .i64 d.left, .bool d.stopped] 25)).alloc (.cells #[.slice a2 d2.sectors.length c2, .slice b2 d2.pending.length f2, .int .i64 d2.left, .bool d2.stopped] 25) = W at *
  clear hW
  obtain ⟨c00, c01, c02, c03, -, -, -, -⟩ := B0.four
  obtain ⟨c10, c11, c12, c13, -, -, -, -⟩ := B1.four
  clear B0 B1
  go_loopw [5] (fun i wr => ∃ k m : Nat, k ≤ d.sectors.length ∧ i = .int .i64 k ∧ wr = W.drewN m ∧ AgreeTo d.sectors d2.sectors k) (fun i _ => d.sectors.length - (intOf i).toNat)
  case atStart => exact ⟨0, 0, Nat.zero_le _, rfl, rfl, AgreeTo.zero _ _⟩
  case round =>
    obtain ⟨k, m, hk, rfl, rfl, hag⟩ := hrel
    by_cases hlt : k < d.sectors.length
    · have hlt2 : k < d2.sectors.length := by have := E1.out; omega
      obtain ⟨bb, oo, vd, rfl, hbb, x0, hv⟩ := H1.out.elem hlt
      obtain ⟨bb2, oo2, vd2, rfl, hbb2, x2, hv2⟩ := H12.out.elem hlt2
      obtain ⟨a3, c3, rfl, hc3, hm3⟩ := hv.open
      obtain ⟨a4, c4, rfl, hc4, hm4⟩ := hv2.open
      have k1 := fun W (hx : Ext w W) nq => conv_strN (hv.keep hx) nq
      have k2 := fun W (hx : Ext w W) nq => conv_strN (hv2.keep hx) nq
      have HA := Lib.hid (AgreeTo.succ hag hlt hlt2); clear hag
      have HN : Hid (d.sectors[k] ≠ d2.sectors[k] → decide (d = d2) = false) := fun h => by simp; intro e; subst e; exact h rfl
      clear hv hv2
      generalize d.sectors[k] = x at *
      generalize d2.sectors[k] = y at *
      have hi1 : (k : Int) < d.sectors.length := by omega
      have hi2 : (k : Int) < d2.sectors.length := by omega
      have hi0 : (0 : Int) ≤ k := by omega
      have kk1 := k1 W hE
      have kk2 := k2 W hE
      have y0 := hE.cell x0
      have y2 := hE.cell x2
      clear k1 k2 x0 x2
      go_wp2_with fail
      go_quiet (fail)
      go_wp2_with fail
      · rename_i hxy
        go_ret
        exact ⟨ret_b (HN.out (by simpa using hxy)).symm, by rw [drewN_add]; exact hE.trans (Ext.drewN _ _)⟩
      · rename_i hxy
        go_roundw
        case rel => exact ⟨k + 1, _, by omega, by go_num, rfl, HA.out (by simpa using hxy)⟩
        case measure => simp [intOf]; omega
    · obtain rfl : k = d.sectors.length := by omega
      have HS := Lib.hid (hag.eq E1.out); clear hag
      go_wp2_with fail
      go_loopw [6] (fun i wr => ∃ k m : Nat, k ≤ d.pending.length ∧ i = .int .i64 k ∧ wr = W.drewN m ∧ AgreeTo d.pending d2.pending k) (fun i _ => d.pending.length - (intOf i).toNat)
      case atStart => exact ⟨0, _, Nat.zero_le _, rfl, rfl, AgreeTo.zero _ _⟩
      case round =>
        obtain ⟨k, m, hk, rfl, rfl, hag⟩ := hrel
        by_cases hlt : k < d.pending.length
        · have hlt2 : k < d2.pending.length := by have := E2.out; omega
          obtain ⟨bb, oo, vd, rfl, hbb, x0, x1, hv⟩ := H2.out.elem hlt
          obtain ⟨bb2, oo2, vd2, rfl, hbb2, x2, x3, hv2⟩ := H22.out.elem hlt2
          obtain ⟨a3, c3, rfl, hc3, hm3⟩ := hv.open
          obtain ⟨a4, c4, rfl, hc4, hm4⟩ := hv2.open
          have kk1 := fun nq => conv_strN (hv.keep hE) nq
          have kk2 := fun nq => conv_strN (hv2.keep hE) nq
          have HA := Lib.hid (AgreeTo.succ hag hlt hlt2); clear hag
          have HN : Hid (d.pending[k] ≠ d2.pending[k] → decide (d = d2) = false) := fun h => by simp; intro e; subst e; exact h rfl
          clear hv hv2
          generalize d.pending[k] = x at *
          generalize d2.pending[k] = y at *
          obtain ⟨xa, xd⟩ := x
          obtain ⟨ya, yd⟩ := y
          simp only at *
          have hi1 : (k : Int) < d.pending.length := by omega
          have hi2 : (k : Int) < d2.pending.length := by omega
          have hi0 : (0 : Int) ≤ k := by omega
          have y0 := hE.cell x0
          have y1 := hE.cell x1
          have y2 := hE.cell x2
          have y3 := hE.cell x3
          clear x0 x1 x2 x3
          by_cases hat : xa = ya
          · have hat' : (xa != ya) = false := by simp [hat]
            have HAT := Lib.hid hat; clear hat
            go_wp2_with fail
            go_quiet (fail)
            go_wp2_with fail
            · rename_i hxy
              go_ret
              exact ⟨ret_b (HN.out (by intro e; cases e; simp at hxy)).symm, by rw [drewN_add]; exact hE.trans (Ext.drewN _ _)⟩
            · rename_i hxy
              go_roundw
              case rel => exact ⟨k + 1, _, by omega, by go_num, rfl, HA.out (by rw [HAT.out, show xd = yd from by simpa using hxy])⟩
              case measure => simp [intOf]; omega
          · have hat' : (xa != ya) = true := by simp [hat]
            have HAT := Lib.hid hat; clear hat
            go_wp2_with fail
            go_quiet (fail)
            go_wp2_with fail
            go_ret
            exact ⟨ret_b (HN.out (by intro e; cases e; exact HAT.out rfl)).symm, by rw [drewN_add]; exact hE.trans (Ext.drewN _ _)⟩
        · obtain rfl : k = d.pending.length := by omega
          have HP := Lib.hid (hag.eq E2.out); clear hag
          go_wp2_with fail
          go_ret
          refine ⟨ret_b ?_, hE.trans (Ext.drewN _ _)⟩
          have : d = d2 := by
            obtain ⟨s1, p1, l1, t1⟩ := d
            obtain ⟨s2, p2, l2, t2⟩ := d2
            have q1 := HS.out; have q2 := HP.out; have q3 := E3.out; have q4 := E4.out
            simp only at q1 q2 q3 q4
            rw [q1, q2, q3, q4]
          simp [this]
end Go.Proofs.Ytpciankfpagnhaa
