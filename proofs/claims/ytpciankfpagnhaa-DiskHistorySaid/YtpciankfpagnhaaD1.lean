/- What the functions of package disk do: Check and what it calls. -/
import Derived.Test.YtpciankfpagnhaaProg
import Derived.Test.YtpciankfpagnhaaRep
namespace Go.Proofs.Ytpciankfpagnhaa
open Go.RowKit

def FalseTo {α : Type} (p : α → Bool) (xs : List α) (k : Nat) : Prop := ∀ j x, j < k → xs[j]? = some x → p x = false
theorem FalseTo.zero {α : Type} (p : α → Bool) (xs : List α) : FalseTo p xs 0 := fun _ _ h => by omega
theorem FalseTo.succ {α : Type} {p : α → Bool} {xs : List α} {k : Nat} (h : FalseTo p xs k) (hk : k < xs.length) (hp : p xs[k] = false) : FalseTo p xs (k + 1) := by
  intro j x hj hx
  by_cases e : j = k
  · subst e; rw [List.getElem?_eq_getElem hk] at hx; cases hx; exact hp
  · exact h j x (by omega) hx

set_option maxHeartbeats 400000 in
theorem indexFunc_wr (capt : Value) (p : Wr → Bool) (v : Value) (xs : List Wr) {S : Nat → Prop} (w : World) (h : Wrs S w v xs)
    (hf : ∀ w' x vd, Ext w w' → Bs S w' vd x.data → Calls Try.prog 52 #[.agg #[.int .i64 x.at_, vd], capt] w' fun e w'' => e = .returned (.bool (p x)) ∧ Ext w' w'') :
    Calls Try.prog 78 #[v, .func (.func 52) #[] #[capt]] w fun e w' => e = .returned (.int .i64 (idxOf p xs)) ∧ Ext w w' := by
  obtain ⟨a, c, rfl, hc, hm⟩ := h.open
  have Hf := Lib.hid hf; clear hf
  have Hs := Lib.hid h; clear h
  go_enter Try.func78, Try.ntmps78
  go_wp2
  go_loopw [8] (fun i wr => ∃ k : Nat, k ≤ xs.length ∧ i = .int .i64 k ∧ Ext w wr ∧ FalseTo p xs k) (fun i _ => xs.length - (intOf i).toNat)
  case atStart => exact ⟨0, Nat.zero_le _, rfl, Ext.refl _, FalseTo.zero _ _⟩
  case round =>
    obtain ⟨k, hk, rfl, hx, hp⟩ := hrel
    by_cases hlt : k < xs.length
    · obtain ⟨b, o, vd, rfl, hb, h0, h1, hv⟩ := (Wrs.keep Hs.out hx).elem hlt
      clear Hs
      have Hz := Lib.hid (FalseTo.succ hp hlt)
      have Hi := Lib.hid (idxOf_at p xs k hlt hp)
      clear hp
      generalize xs[k] = x at *
      go_wp2_with fail
      refine (Hf.out wr x vd hx hv).mono ?_
      rintro e w1 ⟨rfl, hx1⟩
      go_wp2_with fail
      · rename_i hpx
        go_ret
        exact ⟨by rw [Hi.out hpx]; rfl, hx.trans hx1⟩
      · rename_i hpx
        go_roundw
        case rel => exact ⟨k + 1, by omega, by go_num, hx.trans hx1, Hz.out hpx⟩
        case measure => simp [intOf]; omega
    · obtain rfl : k = xs.length := by omega
      go_wp2
      go_ret
      exact ⟨by rw [idxOf_none p xs hp]; rfl, hx⟩
set_option maxHeartbeats 400000 in
theorem indexFunc_bs (p : List UInt8 → Bool) (v : Value) (xs : List (List UInt8)) {S : Nat → Prop} (w : World) (h : Bss S w v xs)
    (hf : ∀ w' x vd, Ext w w' → Bs S w' vd x → Calls Try.prog 56 #[vd] w' fun e w'' => e = .returned (.bool (p x)) ∧ Ext w' w'') :
    Calls Try.prog 79 #[v, .func (.func 56) #[] #[]] w fun e w' => e = .returned (.int .i64 (idxOf p xs)) ∧ Ext w w' := by
  obtain ⟨a, c, rfl, hc, hm⟩ := h.open
  have Hf := Lib.hid hf; clear hf
  have Hs := Lib.hid h; clear h
  go_enter Try.func79, Try.ntmps79
  go_wp2
  go_loopw [8] (fun i wr => ∃ k : Nat, k ≤ xs.length ∧ i = .int .i64 k ∧ Ext w wr ∧ FalseTo p xs k) (fun i _ => xs.length - (intOf i).toNat)
  case atStart => exact ⟨0, Nat.zero_le _, rfl, Ext.refl _, FalseTo.zero _ _⟩
  case round =>
    obtain ⟨k, hk, rfl, hx, hp⟩ := hrel
    by_cases hlt : k < xs.length
    · obtain ⟨b, o, vd, rfl, hb, h0, hv⟩ := (Bss.keep Hs.out hx).elem hlt
      clear Hs
      have Hz := Lib.hid (FalseTo.succ hp hlt)
      have Hi := Lib.hid (idxOf_at p xs k hlt hp)
      clear hp
      generalize xs[k] = x at *
      go_wp2_with fail
      refine (Hf.out wr x vd hx hv).mono ?_
      rintro e w1 ⟨rfl, hx1⟩
      go_wp2_with fail
      · rename_i hpx
        go_ret
        exact ⟨by rw [Hi.out hpx]; rfl, hx.trans hx1⟩
      · rename_i hpx
        go_roundw
        case rel => exact ⟨k + 1, by omega, by go_num, hx.trans hx1, Hz.out hpx⟩
        case measure => simp [intOf]; omega
    · obtain rfl : k = xs.length := by omega
      go_wp2
      go_ret
      exact ⟨by rw [idxOf_none p xs hp]; rfl, hx⟩

theorem ret_b {a b : Bool} (h : a = b) : Ending.returned (.bool a) = .returned (.bool b) := by rw [h]
theorem ret_i {k : IntKind} {a b : Int} (h : a = b) : Ending.returned (.int k a) = .returned (.int k b) := by rw [h]

set_option maxHeartbeats 400000 in
theorem isSector_ok {S : Nat → Prop} (w : World) (v : Value) (l : List UInt8) (h : Bs S w v l) :
    Calls Try.prog 53 #[v] w fun e w' => e = .returned (.bool ((l.length : Int) == 128)) ∧ w = w' := by
  obtain ⟨a, c, rfl, hc, hm⟩ := h.open
  clear h
  go_enter Try.func53, Try.ntmps53
  go_wp2
  go_ret
  exact ⟨rfl, rfl⟩

/-- A write that does not fit a disk of n sectors. -/
def badW (n : Int) (x : Wr) : Bool := decide (x.at_ < 0) || decide (n ≤ x.at_) || !((x.data.length : Int) == 128)
def badS (l : List UInt8) : Bool := !((l.length : Int) == 128)

set_option maxHeartbeats 400000 in
theorem check1_ok {S : Nat → Prop} (w : World) (x : Wr) (vd : Value) (bn : Nat) (n : Int) (h : Bs S w vd x.data) (hb : bn < w.heap.size) (hn : w.cell? ⟨bn, 0, none⟩ = some (.int .i64 n)) :
    Calls Try.prog 52 #[.agg #[.int .i64 x.at_, vd], .pointer (some ⟨bn, 0, none⟩)] w fun e w' => e = .returned (.bool (badW n x)) ∧ Ext w w' := by
  have H := Lib.hid h; clear h
  go_enter Try.func52, Try.ntmps52
  go_wp2_with (first | (go_at_call 53; refine (isSector_ok _ _ _ (H.out.keep ((Ext.refl _).alloc _))).mono ?_; rintro e w' ⟨rfl, rfl⟩))
  all_goals
    go_ret
    exact ⟨ret_b (by unfold badW; simp [*]), (Ext.refl _).alloc _⟩

set_option maxHeartbeats 400000 in
theorem check2_ok {S : Nat → Prop} (w : World) (vd : Value) (l : List UInt8) (h : Bs S w vd l) :
    Calls Try.prog 56 #[vd] w fun e w' => e = .returned (.bool (badS l)) ∧ Ext w w' := by
  have H := Lib.hid h; clear h
  go_enter Try.func56, Try.ntmps56
  go_wp2_with (first | (go_at_call 53; refine (isSector_ok _ _ _ H.out).mono ?_; rintro e w' ⟨rfl, rfl⟩))
  go_ret
  exact ⟨rfl, Ext.refl _⟩

set_option maxHeartbeats 400000 in
theorem containsW_ok {S : Nat → Prop} (w : World) (v : Value) (xs : List Wr) (bn : Nat) (n : Int) (h : Wrs S w v xs) (hb : bn < w.heap.size) (hn : w.cell? ⟨bn, 0, none⟩ = some (.int .i64 n)) :
    Calls Try.prog 54 #[v, .func (.func 52) #[] #[.pointer (some ⟨bn, 0, none⟩)]] w fun e w' => e = .returned (.bool (xs.any (badW n))) ∧ Ext w w' := by
  have H := Lib.hid h; clear h
  have Hn := Lib.hid hn; clear hn
  go_enter Try.func54, Try.ntmps54
  go_wp2_with fail
  refine (indexFunc_wr (.pointer (some ⟨bn, 0, none⟩)) (badW n) v xs w H.out (fun w' x vd hx hv => check1_ok w' x vd bn n hv (Nat.lt_of_lt_of_le hb hx.size) (hx.cell Hn.out))).mono ?_
  rintro e w' ⟨rfl, hx⟩
  have Hi := Lib.hid (idxOf_any (badW n) xs)
  generalize idxOf (badW n) xs = i at *
  go_wp2_with fail
  go_ret
  exact ⟨ret_b Hi.out, hx⟩

set_option maxHeartbeats 400000 in
theorem containsS_ok {S : Nat → Prop} (w : World) (v : Value) (xs : List (List UInt8)) (h : Bss S w v xs) :
    Calls Try.prog 55 #[v, .func (.func 56) #[] #[]] w fun e w' => e = .returned (.bool (xs.any badS)) ∧ Ext w w' := by
  have H := Lib.hid h; clear h
  go_enter Try.func55, Try.ntmps55
  go_wp2_with fail
  refine (indexFunc_bs badS v xs w H.out (fun w' x vd hx hv => check2_ok w' vd x hv)).mono ?_
  rintro e w' ⟨rfl, hx⟩
  have Hi := Lib.hid (idxOf_any badS xs)
  generalize idxOf badS xs = i at *
  go_wp2_with fail
  go_ret
  exact ⟨ret_b Hi.out, hx⟩

end Go.Proofs.Ytpciankfpagnhaa
