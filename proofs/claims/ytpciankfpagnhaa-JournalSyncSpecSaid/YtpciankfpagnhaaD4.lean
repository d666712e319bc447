/- What slices.Clone, slices.Clip do at the program's types. -/
import Derived.Test.YtpciankfpagnhaaD1
import Derived.Test.YtpciankfpagnhaaM1
import Derived.Laws.CopyOwn
namespace Go.Proofs.Ytpciankfpagnhaa
open Go.RowKit

theorem at_mk {P : Program} {t e : TypeId} {size bytes : Nat} {z : Value} (h1 : P.underlying t = some (.slice e)) (h2 : (P.info? e).map (fun i => (i.zero, i.size, i.bytes)) = some (some z, size, bytes)) (h3 : z.cells.size = size) (h4 : 0 < size) : AT P t e size bytes := by
  cases hi : P.info? e with
  | none => rw [hi] at h2; simp at h2
  | some i =>
    rw [hi] at h2
    simp at h2
    exact ⟨h1, h4, i, z, hi, h2.1, h2.2.1, h2.2.2, h3⟩
theorem atB : AT Try.prog 35 5 1 1 := at_mk (z := .int .u8 0) (by kernel_rfl) (by kernel_rfl) rfl (by decide)
theorem atBs : AT Try.prog 22 35 1 24 := at_mk (z := .slice none 0 0) (by kernel_rfl) (by kernel_rfl) rfl (by decide)
theorem atWr : AT Try.prog 23 76 2 32 := at_mk (z := .agg #[.int .i64 0, .slice none 0 0]) (by kernel_rfl) (by kernel_rfl) rfl (by decide)

/-- A full slice of the same elements. -/
theorem Sl.clip {α : Type} {size : Nat} {E : (Nat → Prop) → World → List Value → α → Prop} {S : Nat → Prop} {w : World} {a : Option Addr} {n c : Nat} {xs : List α} (h : Sl size E S w (.slice a n c) xs) :
    Sl size E S w (.slice a xs.length xs.length) xs := by
  obtain ⟨a', c', cells, e, h1, h2, h3⟩ := h
  cases e
  exact ⟨a, xs.length, cells, rfl, Nat.le_refl _, by unfold maxLen at *; omega, h3⟩

def SlRet {α : Type} (size : Nat) (E : (Nat → Prop) → World → List Value → α → Prop) (S : Nat → Prop) (w : World) (xs : List α) (e : Ending) (w' : World) : Prop := ∃ v, e = .returned v ∧ Sl size E S w' v xs ∧ Ext w w'
def OSlRet {α : Type} (e : TypeId) (size : Nat) (E : (Nat → Prop) → World → List Value → α → Prop) (S : Nat → Prop) (w : World) (xs : List α) (en : Ending) (w' : World) : Prop := ∃ v, en = .returned v ∧ OSl w.heap.size e size E S w' v xs ∧ Ext w w'
def ClipRet {α : Type} (size : Nat) (E : (Nat → Prop) → World → List Value → α → Prop) (S : Nat → Prop) (w : World) (xs : List α) (e : Ending) (w' : World) : Prop := ∃ a, e = .returned (.slice a xs.length xs.length) ∧ Sl size E S w' (.slice a xs.length xs.length) xs ∧ Ext w w'

set_option maxHeartbeats 400000 in
theorem clipW_ok {S : Nat → Prop} (w : World) (v : Value) (xs : List Wr) (h : Wrs S w v xs) : Calls Try.prog 59 #[v] w (ClipRet 2 eWr S w xs) := by
  obtain ⟨a, c, rfl, hc, hm⟩ := h.open
  have H := Lib.hid h.clip; clear h
  go_enter Try.func59, Try.ntmps59
  go_wp2
  all_goals
    go_ret
    exact ⟨a, by simp, H.out, Ext.refl _⟩
set_option maxHeartbeats 400000 in
theorem clipS_ok {S : Nat → Prop} (w : World) (v : Value) (xs : List (List UInt8)) (h : Bss S w v xs) : Calls Try.prog 68 #[v] w (ClipRet 1 eBs S w xs) := by
  obtain ⟨a, c, rfl, hc, hm⟩ := h.open
  have H := Lib.hid h.clip; clear h
  go_enter Try.func68, Try.ntmps68
  go_wp2
  all_goals
    go_ret
    exact ⟨a, by simp, H.out, Ext.refl _⟩
set_option maxHeartbeats 400000 in
theorem cloneW_ok {S : Nat → Prop} (w : World) (v : Value) (xs : List Wr) (h : Wrs S w v xs) (hl : xs.length ≤ 1000000) (hS : ∀ k, S k → k < w.heap.size) : Calls Try.prog 60 #[v] w (OSlRet 76 2 eWr S w xs) := by
  obtain ⟨a, c, rfl, hc, hm⟩ := h.open
  have H := Lib.hid h; clear h
  cases a with
  | none =>
    have hx : xs = [] := by
      obtain ⟨a', c', cells, e, _, _, _, _, h5⟩ := H.out
      cases e
      rcases h5 with h | ⟨_, _, h, _⟩
      · exact h
      · cases h
    subst hx
    have hq : ∀ w : World, (binOp .eql 23 (.slice none 0 c) (.slice none 0 0)).run Try.prog w = .ok (.bool true) w := fun w => Lib.run_eql_slice_nil w 23 76 none 0 c 0 0 (by kernel_rfl)
    simp only [List.length_nil]
    go_enter Try.func60, Try.ntmps60
    go_wp2
    go_ret
    exact ⟨_, rfl, OSl.nil _ _ _ _ _ _, Ext.refl _⟩
  | some ad =>
    have hq : ∀ w : World, (binOp .eql 23 (.slice (some ad) xs.length c) (.slice none 0 0)).run Try.prog w = .ok (.bool false) w := fun w => Lib.run_eql_slice_nil w 23 76 (some ad) xs.length c 0 0 (by kernel_rfl)
    go_enter Try.func60, Try.ntmps60
    have hS' : ∀ k, S k → k < (w.alloc (.cells #[] 76)).heap.size := fun k hk => by simp; exact Nat.lt_succ_of_lt (hS k hk)
    have hN : ¬ S w.heap.size := fun h => absurd (hS _ h) (Nat.lt_irrefl _)
    have HS' := Lib.hid hS'; clear hS'
    go_wp2_with (at_builtin; refine wpList_append_osl atWr etWr rfl _ _ rfl w.heap.size _ _ [] xs rfl rfl (OSl.lit0 _ _ _ _ S w (Nat.le_refl _) hN) ((H.out.more etWr (S' := Wo S (.slice (some ⟨w.heap.size, 0, none⟩) 0 0)) (fun k hk => hk.imp id (fun h => by simp [Value.ownBlock] at h; omega))).keepM etWr (((Ext.refl w).alloc _).mem _)) HS'.out ?_ ?_ ?_ ?_)
    case refine_1 => simp; omega
    case refine_2 => simp; omega
    case refine_3 => simp
    intro v' w' h1 h2
    go_wp2
    go_ret
    exact ⟨_, rfl, h1, ((Ext.refl w).alloc _).grown h2 (fun k hk => by simp [Value.ownBlock] at hk; omega)⟩
set_option maxHeartbeats 400000 in
theorem cloneS_ok {S : Nat → Prop} (w : World) (v : Value) (xs : List (List UInt8)) (h : Bss S w v xs) (hl : xs.length ≤ 1000000) (hS : ∀ k, S k → k < w.heap.size) : Calls Try.prog 81 #[v] w (OSlRet 35 1 eBs S w xs) := by
  obtain ⟨a, c, rfl, hc, hm⟩ := h.open
  have H := Lib.hid h; clear h
  cases a with
  | none =>
    have hx : xs = [] := by
      obtain ⟨a', c', cells, e, _, _, _, _, h5⟩ := H.out
      cases e
      rcases h5 with h | ⟨_, _, h, _⟩
      · exact h
      · cases h
    subst hx
    have hq : ∀ w : World, (binOp .eql 22 (.slice none 0 c) (.slice none 0 0)).run Try.prog w = .ok (.bool true) w := fun w => Lib.run_eql_slice_nil w 22 35 none 0 c 0 0 (by kernel_rfl)
    simp only [List.length_nil]
    go_enter Try.func81, Try.ntmps81
    go_wp2
    go_ret
    exact ⟨_, rfl, OSl.nil _ _ _ _ _ _, Ext.refl _⟩
  | some ad =>
    have hq : ∀ w : World, (binOp .eql 22 (.slice (some ad) xs.length c) (.slice none 0 0)).run Try.prog w = .ok (.bool false) w := fun w => Lib.run_eql_slice_nil w 22 35 (some ad) xs.length c 0 0 (by kernel_rfl)
    go_enter Try.func81, Try.ntmps81
    have hS' : ∀ k, S k → k < (w.alloc (.cells #[] 35)).heap.size := fun k hk => by simp; exact Nat.lt_succ_of_lt (hS k hk)
    have hN : ¬ S w.heap.size := fun h => absurd (hS _ h) (Nat.lt_irrefl _)
    have HS' := Lib.hid hS'; clear hS'
    go_wp2_with (at_builtin; refine wpList_append_osl atBs etBs rfl _ _ rfl w.heap.size _ _ [] xs rfl rfl (OSl.lit0 _ _ _ _ S w (Nat.le_refl _) hN) ((H.out.more etBs (S' := Wo S (.slice (some ⟨w.heap.size, 0, none⟩) 0 0)) (fun k hk => hk.imp id (fun h => by simp [Value.ownBlock] at h; omega))).keepM etBs (((Ext.refl w).alloc _).mem _)) HS'.out ?_ ?_ ?_ ?_)
    case refine_1 => simp; omega
    case refine_2 => simp; omega
    case refine_3 => simp
    intro v' w' h1 h2
    go_wp2
    go_ret
    exact ⟨_, rfl, h1, ((Ext.refl w).alloc _).grown h2 (fun k hk => by simp [Value.ownBlock] at hk; omega)⟩
set_option maxHeartbeats 400000 in
theorem cloneB_ok {S : Nat → Prop} (w : World) (v : Value) (xs : List UInt8) (h : Bs S w v xs) (hl : xs.length ≤ 1000000) (hS : ∀ k, S k → k < w.heap.size) : Calls Try.prog 63 #[v] w (OSlRet 5 1 eByte S w xs) := by
  obtain ⟨a, c, rfl, hc, hm⟩ := h.open
  have H := Lib.hid h; clear h
  cases a with
  | none =>
    have hx : xs = [] := by
      obtain ⟨a', c', cells, e, _, _, _, _, h5⟩ := H.out
      cases e
      rcases h5 with h | ⟨_, _, h, _⟩
      · exact h
      · cases h
    subst hx
    have hq : ∀ w : World, (binOp .eql 35 (.slice none 0 c) (.slice none 0 0)).run Try.prog w = .ok (.bool true) w := fun w => Lib.run_eql_slice_nil w 35 5 none 0 c 0 0 (by kernel_rfl)
    simp only [List.length_nil]
    go_enter Try.func63, Try.ntmps63
    go_wp2
    go_ret
    exact ⟨_, rfl, OSl.nil _ _ _ _ _ _, Ext.refl _⟩
  | some ad =>
    have hq : ∀ w : World, (binOp .eql 35 (.slice (some ad) xs.length c) (.slice none 0 0)).run Try.prog w = .ok (.bool false) w := fun w => Lib.run_eql_slice_nil w 35 5 (some ad) xs.length c 0 0 (by kernel_rfl)
    go_enter Try.func63, Try.ntmps63
    have hS' : ∀ k, S k → k < (w.alloc (.cells #[] 5)).heap.size := fun k hk => by simp; exact Nat.lt_succ_of_lt (hS k hk)
    have hN : ¬ S w.heap.size := fun h => absurd (hS _ h) (Nat.lt_irrefl _)
    have HS' := Lib.hid hS'; clear hS'
    go_wp2_with (at_builtin; refine wpList_append_osl atB etByte rfl _ _ rfl w.heap.size _ _ [] xs rfl rfl (OSl.lit0 _ _ _ _ S w (Nat.le_refl _) hN) ((H.out.more etByte (S' := Wo S (.slice (some ⟨w.heap.size, 0, none⟩) 0 0)) (fun k hk => hk.imp id (fun h => by simp [Value.ownBlock] at h; omega))).keepM etByte (((Ext.refl w).alloc _).mem _)) HS'.out ?_ ?_ ?_ ?_)
    case refine_1 => simp; omega
    case refine_2 => simp; omega
    case refine_3 => simp
    intro v' w' h1 h2
    go_wp2
    go_ret
    exact ⟨_, rfl, h1, ((Ext.refl w).alloc _).grown h2 (fun k hk => by simp [Value.ownBlock] at hk; omega)⟩
end Go.Proofs.Ytpciankfpagnhaa

/- What disk.Write does. -/
namespace Go.Proofs.Ytpciankfpagnhaa
open Go.RowKit

def zerosV (n : Nat) : Array Value := (List.replicate n (.int .u8 0)).toArray
theorem make128 (w : World) : (Instr.makeSlice 35 (.int .i64 128) (.int .i64 128)).run Try.prog w = .ok (.slice (some ⟨w.heap.size, 0, none⟩) 128 128) (w.alloc (.cells (zerosV 128) 5)) := by kernel_rfl

/-- The bytes of a sector that some bytes lead to. -/
def padS (b : List UInt8) : List UInt8 := b ++ List.replicate (128 - b.length) 0
/-- What Write answers. -/
def writeD (d : Dk) (i : Int) (b : List UInt8) : Dk × Int :=
  if (runsD d && hasD d i) = true then (if 128 < b.length then (zeroD, 1) else if d.pending.length = 4096 then (zeroD, 2) else ({ d with pending := d.pending ++ [⟨i, padS b⟩] }, 0)) else (zeroD, 410)

theorem padS_length {b : List UInt8} (h : b.length ≤ 128) : (padS b).length = 128 := by unfold padS; rw [List.length_append, List.length_replicate]; omega
theorem Sl.lt {α : Type} {size : Nat} {E : (Nat → Prop) → World → List Value → α → Prop} {S : Nat → Prop} {w : World} {b o n c : Nat} {xs : List α} (h : Sl size E S w (.slice (some ⟨b, o, none⟩) n c) xs) (hl : 0 < xs.length) : b < w.heap.size := by
  obtain ⟨_, _, _, e, _, _, _, _, h5⟩ := h
  cases e
  rcases h5 with h | ⟨b0, o0, e, hb0, _⟩
  · subst h; simp at hl
  · cases e; exact hb0.1
/-- One write, written out. -/
theorem wr_lit {S : Nat → Prop} {w : World} {vd : Value} {i : Int} {l : List UInt8} {t : TypeId} (hS : ∀ k, S k → k < w.heap.size) (h : Bs S w vd l) :
    Wrs S (w.alloc (.cells #[.int .i64 i, vd] t)) (.slice (some ⟨w.heap.size, 0, none⟩) 1 1) [⟨i, l⟩] := by
  refine ⟨_, 1, [.int .i64 i, vd], rfl, Nat.le_refl _, by decide, rfl, ?_, .inr ⟨w.heap.size, 0, rfl, ⟨by simp, fun h => absurd (hS _ h) (Nat.lt_irrefl _)⟩, ?_⟩⟩
  · intro j x hj
    match j with
    | 0 => simp at hj; subst hj; exact ⟨vd, rfl, h.keep ((Ext.refl w).alloc _)⟩
    | (n + 1) => simp at hj
  · intro j u hj
    rw [Nat.zero_add, World.cell?_alloc_at _ _ _ _ rfl]
    simpa using hj
theorem pad_splice (b : List UInt8) : splice (List.replicate 128 (.int .u8 0)) 0 (bv b) = bv (padS b) := by
  unfold splice padS bv
  simp only [List.take_zero, List.nil_append, Nat.zero_add, List.length_map, List.map_append, List.map_replicate]
  rw [List.drop_replicate]
  rfl

/-- S, and blocks lo, .., hi - 1. -/
def Bx (S : Nat → Prop) (lo hi : Nat) (k : Nat) : Prop := S k ∨ (lo ≤ k ∧ k < hi)
theorem Bx.more {S : Nat → Prop} {w : World} {hi : Nat} : ∀ k, Bx S w.heap.size hi k → S k ∨ w.heap.size ≤ k := fun _ h => h.imp id (·.1)
theorem Bx.less {S : Nat → Prop} {w : World} {lo hi : Nat} : ∀ k, S k → Bx S lo hi k ∨ w.heap.size ≤ k := fun _ h => .inl (.inl h)
theorem Bx.lt {S : Nat → Prop} {lo hi n m : Nat} (hS : ∀ k, S k → k < n) (h1 : n ≤ m) (h2 : hi ≤ m) : ∀ k, Bx S lo hi k → k < m := fun k h => by
  rcases h with h | h
  · exact Nat.lt_of_lt_of_le (hS k h) h1
  · omega

set_option maxHeartbeats 2000000 in
theorem write_ok {S : Nat → Prop} (w : World) (v : Value) (d : Dk) (i : Int) (vb : Value) (b : List UInt8) (h : Disk S w v d) (hb : Bs S w vb b) (hS : ∀ k, S k → k < w.heap.size) :
    Calls Try.prog 26 #[v, .int .i64 i, vb] w (DiskErr S w (writeD d i b)) := by
  obtain ⟨a, c, a2, c2, rfl, hc, hm, hc2, hm2, h1, h2⟩ := h.open
  obtain ⟨a3, c3, rfl, hc3, hm3⟩ := hb.open
  have H := Lib.hid h; clear h
  have H1 := Lib.hid h1; clear h1
  have H2 := Lib.hid h2; clear h2
  have HB := Lib.hid hb; clear hb
  have HS := Lib.hid hS; clear hS
  go_enter Try.func26, Try.ntmps26
  go_wp2_with fail
  refine (runs_ok _ _ d (H.out.keep (((Ext.refl _).alloc _).alloc _))).mono ?_
  rintro e w1 ⟨rfl, hx⟩
  have hE := (((Ext.refl w).alloc _).alloc _).trans hx
  have hs : w.heap.size + 1 < w1.heap.size := by have := hx.size; simp only [World.size_alloc] at this; omega
  have B0 := ((Box.new w _ _).past _).keep hx
  have B1 := (Box.at (b := w.heap.size + 1) (by simp)).keep hx
  clear hx
  have HB0 := Lib.hid B0
  have HB1 := Lib.hid B1
  obtain ⟨c00, c01, c02, c03, f00, f01, f02, f03⟩ := B0.four
  obtain ⟨c10, c11, c12, c13, f10, f11, f12, f13⟩ := B1.four
  clear B0 B1
  cases hr : runsD d
  · go_wp2_with fail
    refine bodyPost_ret (v := .tuple #[.agg #[.slice none 0 0, .slice none 0 0, .int .i64 0, .bool false], .int .i64 410]) (by simp [results, Try.results26, go_sem, *]) rfl (DiskErr.mk (by simp [writeD, hr]) (zeroD_disk _ _) ?_)
    repeat (first | exact hE | refine Ext.setCell ?_ (by simp) _)
  go_wp2_with fail
  refine (has_ok _ _ d i (H.out.keep hE)).mono ?_
  rintro e w2 ⟨rfl, hx⟩
  clear c00 c01 c02 c03 f00 f01 f02 f03 c10 c11 c12 c13 f10 f11 f12 f13
  have hE2 := hE.trans hx; clear hE
  have hs2 : w.heap.size + 1 < w2.heap.size := Nat.lt_of_lt_of_le hs hx.size
  have hs3 : w.heap.size < w2.heap.size := by omega
  clear hs
  obtain ⟨c00, c01, c02, c03, f00, f01, f02, f03⟩ := (HB0.out.keep hx).four
  obtain ⟨c10, c11, c12, c13, f10, f11, f12, f13⟩ := (HB1.out.keep hx).four
  have KB0 := Lib.hid (HB0.out.keep hx); clear HB0
  have KB1 := Lib.hid (HB1.out.keep hx); clear HB1
  clear hx
  cases hh : hasD d i
  · go_wp2_with fail
    refine bodyPost_ret (v := .tuple #[.agg #[.slice none 0 0, .slice none 0 0, .int .i64 0, .bool false], .int .i64 410]) (by simp [results, Try.results26, go_sem, *]) rfl (DiskErr.mk (by simp [writeD, hh]) (zeroD_disk _ _) ?_)
    repeat (first | exact hE2 | refine Ext.setCell ?_ (by simp) _)
  by_cases hl : 128 < b.length
  · have hl' : (128 : Int) < (b.length : Int) := by omega
    go_wp2_with fail
    refine bodyPost_ret (v := .tuple #[.agg #[.slice none 0 0, .slice none 0 0, .int .i64 0, .bool false], .int .i64 1]) (by simp [results, Try.results26, go_sem, *]) rfl (DiskErr.mk (by simp [writeD, hr, hh, hl]) (zeroD_disk _ _) ?_)
    repeat (first | exact hE2 | refine Ext.setCell ?_ (by simp) _)
  have hl' : (b.length : Int) ≤ 128 := by omega
  have hl0 : b.length ≤ 128 := by omega
  by_cases hp : d.pending.length = 4096
  · have Hp := Lib.hid hp
    have hp' : ((d.pending.length : Int) == 4096) = true := by simp [hp]
    clear hp
    go_wp2_with fail
    refine bodyPost_ret (v := .tuple #[.agg #[.slice none 0 0, .slice none 0 0, .int .i64 0, .bool false], .int .i64 2]) (by simp [results, Try.results26, go_sem, *]) rfl (DiskErr.mk (by simp [writeD, hr, hh, hl, Hp.out]) (zeroD_disk _ _) ?_)
    repeat (first | exact hE2 | refine Ext.setCell ?_ (by simp) _)
  have hp' : ((d.pending.length : Int) == 4096) = false := by simp; omega
  have Hp := Lib.hid hp; clear hp
  have hmk := make128
  go_wp2_with (refine wpList_copy_splice rfl (.tmp 32) (.tmp 33) 35 35 rfl 5 Try.underlying35 (by kernel_rfl) _ _ _ _ _ _ rfl rfl w2.heap.size 0 (List.replicate 128 (.int .u8 0)) 5 ?hg (bv b) ?hn ?hpos ?hfit (bv_one b) w2.heap.size w2 ?hb (Nat.le_refl _) ?_)
  case hg => exact heap_alloc_new w2 _
  case hn => rw [bv_length]; exact (Nat.min_eq_left (by omega)).symm
  case hpos =>
    intro h0
    rw [bv_length] at h0
    obtain ⟨b0, o0, rfl, _, hcc⟩ := (HB.out.keep (hE2.alloc (.cells (zerosV 128) 5))).cells h0
    first | exact ⟨rfl, _, rfl, fun j u hj => by rw [Addr.add_lit]; exact hcc j u hj⟩ | exact ⟨_, rfl, fun j u hj => by rw [Addr.add_lit]; exact hcc j u hj⟩
  case hfit => rw [bv_length]; simp; omega
  case hb => exact (Ext.refl w2).alloc _
  intro w3 hg3 hb3
  have hx3 : Ext w2 w3 := hb3
  have hbs : Bs (Bx S w.heap.size (w.heap.size + 2)) w3 (.slice (some ⟨w2.heap.size, 0, none⟩) 128 128) (padS b) := Bs.whole (by rw [← pad_splice]; exact hg3.out) (fun h => absurd (Bx.lt HS.out hE2.size (by omega : w.heap.size + 2 ≤ w2.heap.size) _ h) (Nat.lt_irrefl _)) (padS_length hl0).symm (by rw [padS_length hl0]; exact Nat.le_refl _) (by decide)
  clear hg3 hb3 hmk
  clear c00 c01 c02 c03 f00 f01 f02 f03 c10 c11 c12 c13 f10 f11 f12 f13
  generalize hgb : w2.heap.size = gb at *
  have Hgb := Lib.hid hgb; clear hgb
  have hbw : gb < w3.heap.size := hbs.lt (by rw [padS_length hl0]; decide)
  have HBS := Lib.hid hbs; clear hbs
  have hE3 := hE2.trans hx3; clear hE2
  have L0 := Lib.hid (KB0.out.keep hx3); clear KB0
  have L1 := Lib.hid (KB1.out.keep hx3); clear KB1
  clear hx3
  have hs1 : w.heap.size + 1 < w3.heap.size := by omega
  have hs0 : w.heap.size < w3.heap.size := by omega
  obtain ⟨c00, c01, c02, c03, f00, f01, f02, f03⟩ := L0.out.four
  clear w1
  go_wp2_with fail
  refine (cloneW_ok (S := Bx S w.heap.size (w.heap.size + 2)) _ _ d.pending ((H2.out.more etWr Bx.more).keepM etWr (hE3.mem _)) (by have := (okD_iff d).1 (by unfold runsD at hr; simp at hr; exact hr.1); omega) (Bx.lt HS.out hE3.size (by omega))).mono ?_
  rintro e w4 ⟨v4, rfl, hv4o, hx4⟩
  have hv4 := hv4o.sl etWr; clear hv4o
  obtain ⟨a4, c4, rfl, hc4, hm4⟩ := hv4.open
  go_wp2_with fail
  refine (clipW_ok (S := Bx S w.heap.size (w.heap.size + 2)) _ _ d.pending hv4).mono ?_
  rintro e w5 ⟨a5, rfl, hv5, hx5⟩
  clear hv4
  have hE5 := (hE3.trans hx4).trans hx5; clear hE3
  have hS5 : ∀ k, Bx S w.heap.size (w.heap.size + 2) k → k < w5.heap.size := Bx.lt HS.out hE5.size (by have := hx4.size; have := hx5.size; omega)
  have HS5 := Lib.hid hS5; clear hS5
  have HBS5 := Lib.hid ((HBS.out.keep hx4).keep hx5); clear HBS
  have M0 := Lib.hid ((L0.out.keep hx4).keep hx5); clear L0
  have M1 := Lib.hid ((L1.out.keep hx4).keep hx5); clear L1
  have hs1 : w.heap.size + 1 < w5.heap.size := by have := hx4.size; have := hx5.size; omega
  have hs0 : w.heap.size < w5.heap.size := by omega
  clear hx4 hx5
  obtain ⟨c00, c01, c02, c03, f00, f01, f02, f03⟩ := M0.out.four
  obtain ⟨c10, c11, c12, c13, f10, f11, f12, f13⟩ := M1.out.four
  have HV5 := Lib.hid hv5; clear hv5
  clear c00 c01 c02 c03 f00 f01 f02 f03 c10 c11 c12 c13 f10 f11 f12 f13
  obtain ⟨c00, c01, c02, c03, f00, f01, f02, f03⟩ := M0.out.four
  have hpl : d.pending.length ≤ 4096 := by have := (okD_iff d).1 (by unfold runsD at hr; simp at hr; exact hr.1); omega
  go_wp2_with (at_builtin; refine wpList_append_clip (S := Bx S w.heap.size (w.heap.size + 2)) atWr etWr (fun k hk => by simp; exact Nat.lt_succ_of_lt (HS5.out k hk)) rfl _ _ rfl _ _ _ d.pending [⟨i, padS b⟩] rfl rfl (HV5.out.keepM etWr (((Ext.refl _).alloc _).mem _)) (wr_lit HS5.out HBS5.out) ?_ ?_ ?_)
  case refine_1 => simp; omega
  case refine_2 => simp; omega
  intro v6 w6 hv6 hx6
  have hE6 := (hE5.alloc _).trans hx6
  have N0 := Lib.hid ((M0.out.past _).keep hx6); clear M0
  have N1 := Lib.hid ((M1.out.past _).keep hx6); clear M1
  have hs1 : w.heap.size + 1 < w6.heap.size := by have := hx6.size; simp at this; omega
  have hs0 : w.heap.size < w6.heap.size := by omega
  clear hx6 HV5 HBS5 hE5
  obtain ⟨a6, c6, rfl, hc6, hm6⟩ := hv6.open
  have HV6 := Lib.hid hv6; clear hv6
  clear c00 c01 c02 c03 f00 f01 f02 f03
  obtain ⟨c00, c01, c02, c03, f00, f01, f02, f03⟩ := N0.out.four
  obtain ⟨c10, c11, c12, c13, f10, f11, f12, f13⟩ := N1.out.four
  go_wp2_with fail
  refine bodyPost_ret (v := .tuple #[.agg #[.slice a d.sectors.length c, .slice a6 (d.pending ++ [({ at_ := i, data := padS b } : Wr)]).length c6, .int .i64 d.left, .bool d.stopped], .int .i64 0]) (by simp [results, Try.results26, go_sem, *]) rfl (DiskErr.mk (d := { d with pending := d.pending ++ [⟨i, padS b⟩] }) (by simp [writeD, hr, hh, hl, Hp.out]) (Disk.mk' (H1.out.keep ?_) ((HV6.out.keepM etWr ?_).more etWr Bx.less)) ?_)
  rotate_left
  · repeat (first | exact Mem.refl _ _ | refine Mem.setCell ?_ (.inr (by simp)) _)
  all_goals repeat (first | exact hE6 | refine Ext.setCell ?_ (by simp) _)
end Go.Proofs.Ytpciankfpagnhaa

/- What disk.perform does. -/
namespace Go.Proofs.Ytpciankfpagnhaa
open Go.RowKit

/-- The sectors after some writes. -/
def perfL (ss : List (List UInt8)) (l : List Wr) : List (List UInt8) := l.foldl (fun s x => s.set x.at_.toNat x.data) ss
theorem perfL_length (l : List Wr) : ∀ ss, (perfL ss l).length = ss.length := by
  induction l with
  | nil => intro ss; rfl
  | cons x l ih => intro ss; show (perfL (ss.set x.at_.toNat x.data) l).length = _; rw [ih]; simp
theorem perfL_snoc (ss : List (List UInt8)) (l : List Wr) (x : Wr) : perfL ss (l ++ [x]) = (perfL ss l).set x.at_.toNat x.data := by
  unfold perfL; rw [List.foldl_append]; rfl
theorem take_snoc' {α : Type} (l : List α) (k : Nat) (h : k < l.length) : l.take (k + 1) = l.take k ++ [l[k]] := by
  rw [List.take_succ_eq_append_getElem h]

set_option maxHeartbeats 1000000 in
theorem perform_ok {S : Nat → Prop} (w : World) (v v2 : Value) (ss : List (List UInt8)) (l : List Wr) (h : Bss S w v ss) (h2 : Wrs S w v2 l) (hS : ∀ k, S k → k < w.heap.size)
    (hl : ss.length ≤ 1000000) (hat : ∀ x ∈ l, 0 ≤ x.at_ ∧ x.at_ < ss.length) :
    Calls Try.prog 62 #[v, v2] w (OSlRet 35 1 eBs S w (perfL ss l)) := by
  obtain ⟨a, c, rfl, hc, hm⟩ := h.open
  obtain ⟨a2, c2, rfl, hc2, hm2⟩ := h2.open
  have H := Lib.hid h; clear h
  have H2 := Lib.hid h2; clear h2
  have HS := Lib.hid hS; clear hS
  have HA := Lib.hid hat; clear hat
  go_enter Try.func62, Try.ntmps62
  go_wp2_with fail
  refine (cloneS_ok _ _ ss H.out hl HS.out).mono ?_
  rintro e w1 ⟨v1, rfl, ho1, hx1⟩
  go_wp2_with fail
  go_loopw [12] (fun i wr => ∃ k : Nat, k ≤ l.length ∧ i = .int .i64 k ∧ Ext w wr ∧ OSl w.heap.size 35 1 eBs S wr v1 (perfL ss (l.take k))) (fun i _ => l.length - (intOf i).toNat)
  case atStart => exact ⟨0, Nat.zero_le _, rfl, hx1, ho1⟩
  case round =>
    obtain ⟨k, hk, rfl, hx, ho⟩ := hrel
    by_cases hlt : k < l.length
    · obtain ⟨b, o, vd, rfl, hb, x0, x1, hv⟩ := (Wrs.keep H2.out hx).elem hlt
      obtain ⟨a3, c3, rfl, hc3, hm3⟩ := hv.open
      have hts := perfL_snoc ss (l.take k) l[k]
      rw [← take_snoc' l k hlt] at hts
      have hat := HA.out l[k] (List.getElem_mem hlt)
      have hpl := perfL_length (l.take k) ss
      have hv0 : Bs S w (.slice a3 l[k].data.length c3) l[k].data := by
        obtain ⟨b', o', vd', e', _, x0', x1', hv'⟩ := H2.out.elem hlt
        cases e'
        have := hx.cell x1'
        rw [x1] at this; cases this
        exact hv'
      have hw : Bs (Wo S v1) wr (.slice a3 l[k].data.length c3) l[k].data := (hv0.more etByte (fun q hq => hq.imp id (fun e => (ho.block q e).1))).keepM etByte (hx.mem _)
      clear hv hv0
      generalize l[k] = x at *
      obtain ⟨at_, data⟩ := x
      simp only at *
      obtain ⟨n, rfl⟩ := Int.eq_ofNat_of_zero_le hat.1
      have hn : n < (perfL ss (l.take k)).length := by rw [hpl]; omega
      have ho' := ho.keep etBs ((Ext.refl wr).alloc (.cells #[.int .i64 (n : Int), .slice a3 data.length c3] 76))
      obtain ⟨g, cg, u0, rfl, hg1, hg2, hg3, hgc, hgf, ho2⟩ := ho'.store1 etBs hn (.slice a3 data.length c3) data ⟨_, rfl, hw.keep ((Ext.refl wr).alloc _)⟩
      have HO := Lib.hid ho2; clear ho2 ho ho' hw
      have HT := Lib.hid hts; clear hts
      have hx' := (hx.alloc (.cells #[.int .i64 (n : Int), .slice a3 data.length c3] 76)).setCell (p := ⟨g, n, none⟩) hg1 (.slice a3 data.length c3)
      have HX := Lib.hid hx'; clear hx'
      have HP := Lib.hid hpl; clear hpl
      have hnl : (n : Int) < (ss.length : Int) := hat.2
      have hpl' : ((perfL ss (l.take k)).length : Int) = ss.length := by rw [HP.out]
      have hgz : g < wr.heap.size + 1 := by simpa using hg2
      clear hat hn hg2
      go_wp2_with fail
      go_roundw
      case rel => exact ⟨k + 1, by omega, by go_num, HX.out, by rw [HT.out, Int.toNat_natCast]; exact HO.out⟩
      case measure => simp [intOf]; omega
    · obtain rfl : k = l.length := by omega
      rw [List.take_length] at ho
      have HO := Lib.hid ho; clear ho
      go_wp2_with fail
      go_ret
      exact ⟨_, rfl, HO.out, hx⟩
end Go.Proofs.Ytpciankfpagnhaa
