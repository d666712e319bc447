/- What slices.Clone, slices.Clip do at the program's types. -/
import Derived.Test.YtpciankfpagnhaaD3
import Derived.Test.YtpciankfpagnhaaM1
namespace Go.Proofs.Ytpciankfpagnhaa
open Go.RowKit

theorem at_mk {P : Program} {t e : TypeId} {size bytes : Nat} {z : Value} (h1 : P.underlying t = some (.slice e)) (h2 : (P.info? e).map (fun i => (i.zero, i.size, i.bytes)) = some (some z, size, bytes)) (h3 : z.cells.size = size) (h4 : 0 < size) : AT P t e size bytes := by
  cases hi : P.info? e with
  | none => rw [hi] at h2; simp at h2
  | some i =>
    rw [hi] at h2
    simp at h2
    exact ⟨h1, h4, i, z, hi, h2.1, h2.2.1, h2.2.2, h3⟩
theorem atB : AT Try.prog 35 5 1 1 := at_mk (z := .int .u8 0) (by kernel_rfl) (by kernel_rfl) rfl (by decide)
theorem atBs : AT Try.prog 22 35 1 24 := at_mk (z := .slice none 0 0) (by kernel_rfl) (by kernel_rfl) rfl (by decide)
theorem atWr : AT Try.prog 23 76 2 32 := at_mk (z := .agg #[.int .i64 0, .slice none 0 0]) (by kernel_rfl) (by kernel_rfl) rfl (by decide)

/-- A full slice of the same elements. -/
theorem Sl.clip {α : Type} {size : Nat} {E : (Nat → Prop) → World → List Value → α → Prop} {S : Nat → Prop} {w : World} {a : Option Addr} {n c : Nat} {xs : List α} (h : Sl size E S w (.slice a n c) xs) :
    Sl size E S w (.slice a xs.length xs.length) xs := by
  obtain ⟨a', c', cells, e, h1, h2, h3⟩ := h
  cases e
  exact ⟨a, xs.length, cells, rfl, Nat.le_refl _, by unfold maxLen at *; omega, h3⟩

def SlRet {α : Type} (size : Nat) (E : (Nat → Prop) → World → List Value → α → Prop) (S : Nat → Prop) (w : World) (xs : List α) (e : Ending) (w' : World) : Prop := ∃ v, e = .returned v ∧ Sl size E S w' v xs ∧ Ext w w'
def OSlRet {α : Type} (e : TypeId) (size : Nat) (E : (Nat → Prop) → World → List Value → α → Prop) (S : Nat → Prop) (w : World) (xs : List α) (en : Ending) (w' : World) : Prop := ∃ v, en = .returned v ∧ OSl w.heap.size e size E S w' v xs ∧ Ext w w'
def ClipRet {α : Type} (size : Nat) (E : (Nat → Prop) → World → List Value → α → Prop) (S : Nat → Prop) (w : World) (xs : List α) (e : Ending) (w' : World) : Prop := ∃ a, e = .returned (.slice a xs.length xs.length) ∧ Sl size E S w' (.slice a xs.length xs.length) xs ∧ Ext w w'

set_option maxHeartbeats 400000 in
theorem clipW_ok {S : Nat → Prop} (w : World) (v : Value) (xs : List Wr) (h : Wrs S w v xs) : Calls Try.prog 59 #[v] w (ClipRet 2 eWr S w xs) := by
  obtain ⟨a, c, rfl, hc, hm⟩ := h.open
  have H := Lib.hid h.clip; clear h
  go_enter Try.func59, Try.ntmps59
  go_wp2
  all_goals
    go_ret
    exact ⟨a, by simp, H.out, Ext.refl _⟩
set_option maxHeartbeats 400000 in
theorem clipS_ok {S : Nat → Prop} (w : World) (v : Value) (xs : List (List UInt8)) (h : Bss S w v xs) : Calls Try.prog 68 #[v] w (ClipRet 1 eBs S w xs) := by
  obtain ⟨a, c, rfl, hc, hm⟩ := h.open
  have H := Lib.hid h.clip; clear h
  go_enter Try.func68, Try.ntmps68
  go_wp2
  all_goals
    go_ret
    exact ⟨a, by simp, H.out, Ext.refl _⟩
set_option maxHeartbeats 400000 in
theorem cloneW_ok {S : Nat → Prop} (w : World) (v : Value) (xs : List Wr) (h : Wrs S w v xs) (hl : xs.length ≤ 1000000) (hS : ∀ k, S k → k < w.heap.size) : Calls Try.prog 60 #[v] w (OSlRet 76 2 eWr S w xs) := by
  obtain ⟨a, c, rfl, hc, hm⟩ := h.open
  have H := Lib.hid h; clear h
  cases a with
  | none =>
    have hx : xs = [] := by
      obtain ⟨a', c', cells, e, _, _, _, _, h5⟩ := H.out
      cases e
      rcases h5 with h | ⟨_, _, h, _⟩
      · exact h
      · cases h
    subst hx
    have hq : ∀ w : World, (binOp .eql 23 (.slice none 0 c) (.slice none 0 0)).run Try.prog w = .ok (.bool true) w := fun w => Lib.run_eql_slice_nil w 23 76 none 0 c 0 0 (by kernel_rfl)
    simp only [List.length_nil]
    go_enter Try.func60, Try.ntmps60
    go_wp2
    go_ret
    exact ⟨_, rfl, OSl.nil _ _ _ _ _ _, Ext.refl _⟩
  | some ad =>
    have hq : ∀ w : World, (binOp .eql 23 (.slice (some ad) xs.length c) (.slice none 0 0)).run Try.prog w = .ok (.bool false) w := fun w => Lib.run_eql_slice_nil w 23 76 (some ad) xs.length c 0 0 (by kernel_rfl)
    go_enter Try.func60, Try.ntmps60
    have hS' : ∀ k, S k → k < (w.alloc (.cells #[] 76)).heap.size := fun k hk => by simp; exact Nat.lt_succ_of_lt (hS k hk)
    have hN : ¬ S w.heap.size := fun h => absurd (hS _ h) (Nat.lt_irrefl _)
    have HS' := Lib.hid hS'; clear hS'
    go_wp2_with (at_builtin; refine wpList_append_osl atWr etWr rfl _ _ rfl w.heap.size _ _ [] xs rfl rfl (OSl.lit0 _ _ _ _ S w (Nat.le_refl _) hN) ((H.out.more etWr (S' := Wo S (.slice (some ⟨w.heap.size, 0, none⟩) 0 0)) (fun k hk => hk.imp id (fun h => by simp [Value.ownBlock] at h; omega))).keepM etWr (((Ext.refl w).alloc _).mem _)) HS'.out ?_ ?_ ?_ ?_)
    case refine_1 => simp; omega
    case refine_2 => simp; omega
    case refine_3 => simp
    intro v' w' h1 h2
    go_wp2
    go_ret
    exact ⟨_, rfl, h1, ((Ext.refl w).alloc _).grown h2 (fun k hk => by simp [Value.ownBlock] at hk; omega)⟩
set_option maxHeartbeats 400000 in
theorem cloneS_ok {S : Nat → Prop} (w : World) (v : Value) (xs : List (List UInt8)) (h : Bss S w v xs) (hl : xs.length ≤ 1000000) (hS : ∀ k, S k → k < w.heap.size) : Calls Try.prog 81 #[v] w (OSlRet 35 1 eBs S w xs) := by
  obtain ⟨a, c, rfl, hc, hm⟩ := h.open
  have H := Lib.hid h; clear h
  cases a with
  | none =>
    have hx : xs = [] := by
      obtain ⟨a', c', cells, e, _, _, _, _, h5⟩ := H.out
      cases e
      rcases h5 with h | ⟨_, _, h, _⟩
      · exact h
      · cases h
    subst hx
    have hq : ∀ w : World, (binOp .eql 22 (.slice none 0 c) (.slice none 0 0)).run Try.prog w = .ok (.bool true) w := fun w => Lib.run_eql_slice_nil w 22 35 none 0 c 0 0 (by kernel_rfl)
    simp only [List.length_nil]
    go_enter Try.func81, Try.ntmps81
    go_wp2
    go_ret
    exact ⟨_, rfl, OSl.nil _ _ _ _ _ _, Ext.refl _⟩
  | some ad =>
    have hq : ∀ w : World, (binOp .eql 22 (.slice (some ad) xs.length c) (.slice none 0 0)).run Try.prog w = .ok (.bool false) w := fun w => Lib.run_eql_slice_nil w 22 35 (some ad) xs.length c 0 0 (by kernel_rfl)
    go_enter Try.func81, Try.ntmps81
    have hS' : ∀ k, S k → k < (w.alloc (.cells #[] 35)).heap.size := fun k hk => by simp; exact Nat.lt_succ_of_lt (hS k hk)
    have hN : ¬ S w.heap.size := fun h => absurd (hS _ h) (Nat.lt_irrefl _)
    have HS' := Lib.hid hS'; clear hS'
    go_wp2_with (at_builtin; refine wpList_append_osl atBs etBs rfl _ _ rfl w.heap.size _ _ [] xs rfl rfl (OSl.lit0 _ _ _ _ S w (Nat.le_refl _) hN) ((H.out.more etBs (S' := Wo S (.slice (some ⟨w.heap.size, 0, none⟩) 0 0)) (fun k hk => hk.imp id (fun h => by simp [Value.ownBlock] at h; omega))).keepM etBs (((Ext.refl w).alloc _).mem _)) HS'.out ?_ ?_ ?_ ?_)
    case refine_1 => simp; omega
    case refine_2 => simp; omega
    case refine_3 => simp
    intro v' w' h1 h2
    go_wp2
    go_ret
    exact ⟨_, rfl, h1, ((Ext.refl w).alloc _).grown h2 (fun k hk => by simp [Value.ownBlock] at hk; omega)⟩
set_option maxHeartbeats 400000 in
theorem cloneB_ok {S : Nat → Prop} (w : World) (v : Value) (xs : List UInt8) (h : Bs S w v xs) (hl : xs.length ≤ 1000000) (hS : ∀ k, S k → k < w.heap.size) : Calls Try.prog 63 #[v] w (OSlRet 5 1 eByte S w xs) := by
  obtain ⟨a, c, rfl, hc, hm⟩ := h.open
  have H := Lib.hid h; clear h
  cases a with
  | none =>
    have hx : xs = [] := by
      obtain ⟨a', c', cells, e, _, _, _, _, h5⟩ := H.out
      cases e
      rcases h5 with h | ⟨_, _, h, _⟩
      · exact h
      · cases h
    subst hx
    have hq : ∀ w : World, (binOp .eql 35 (.slice none 0 c) (.slice none 0 0)).run Try.prog w = .ok (.bool true) w := fun w => Lib.run_eql_slice_nil w 35 5 none 0 c 0 0 (by kernel_rfl)
    simp only [List.length_nil]
    go_enter Try.func63, Try.ntmps63
    go_wp2
    go_ret
    exact ⟨_, rfl, OSl.nil _ _ _ _ _ _, Ext.refl _⟩
  | some ad =>
    have hq : ∀ w : World, (binOp .eql 35 (.slice (some ad) xs.length c) (.slice none 0 0)).run Try.prog w = .ok (.bool false) w := fun w => Lib.run_eql_slice_nil w 35 5 (some ad) xs.length c 0 0 (by kernel_rfl)
    go_enter Try.func63, Try.ntmps63
    have hS' : ∀ k, S k → k < (w.alloc (.cells #[] 5)).heap.size := fun k hk => by simp; exact Nat.lt_succ_of_lt (hS k hk)
    have hN : ¬ S w.heap.size := fun h => absurd (hS _ h) (Nat.lt_irrefl _)
    have HS' := Lib.hid hS'; clear hS'
    go_wp2_with (at_builtin; refine wpList_append_osl atB etByte rfl _ _ rfl w.heap.size _ _ [] xs rfl rfl (OSl.lit0 _ _ _ _ S w (Nat.le_refl _) hN) ((H.out.more etByte (S' := Wo S (.slice (some ⟨w.heap.size, 0, none⟩) 0 0)) (fun k hk => hk.imp id (fun h => by simp [Value.ownBlock] at h; omega))).keepM etByte (((Ext.refl w).alloc _).mem _)) HS'.out ?_ ?_ ?_ ?_)
    case refine_1 => simp; omega
    case refine_2 => simp; omega
    case refine_3 => simp
    intro v' w' h1 h2
    go_wp2
    go_ret
    exact ⟨_, rfl, h1, ((Ext.refl w).alloc _).grown h2 (fun k hk => by simp [Value.ownBlock] at hk; omega)⟩
end Go.Proofs.Ytpciankfpagnhaa
