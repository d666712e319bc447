/- What the functions of package disk do: Check and what it calls. -/
import Derived.Test.YtpciankfpagnhaaProg
import Derived.Test.YtpciankfpagnhaaRep
namespace Go.Proofs.Ytpciankfpagnhaa
open Go.RowKit

def FalseTo {α : Type} (p : α → Bool) (xs : List α) (k : Nat) : Prop := ∀ j x, j < k → xs[j]? = some x → p x = false
theorem FalseTo.zero {α : Type} (p : α → Bool) (xs : List α) : FalseTo p xs 0 := fun _ _ h => by omega
theorem FalseTo.succ {α : Type} {p : α → Bool} {xs : List α} {k : Nat} (h : FalseTo p xs k) (hk : k < xs.length) (hp : p xs[k] = false) : FalseTo p xs (k + 1) := by
  intro j x hj hx
  by_cases e : j = k
  · subst e; rw [List.getElem?_eq_getElem hk] at hx; cases hx; exact hp
  · exact h j x (by omega) hx

set_option maxHeartbeats 400000 in
theorem indexFunc_wr (capt : Value) (p : Wr → Bool) (v : Value) (xs : List Wr) {S : Nat → Prop} (w : World) (h : Wrs S w v xs)
    (hf : ∀ w' x vd, Ext w w' → Bs S w' vd x.data → Calls Try.prog 52 #[.agg #[.int .i64 x.at_, vd], capt] w' fun e w'' => e = .returned (.bool (p x)) ∧ Ext w' w'') :
    Calls Try.prog 78 #[v, .func (.func 52) #[] #[capt]] w fun e w' => e = .returned (.int .i64 (idxOf p xs)) ∧ Ext w w' := by
  obtain ⟨a, c, rfl, hc, hm⟩ := h.open
  have Hf := Lib.hid hf; clear hf
  have Hs := Lib.hid h; clear h
  go_enter Try.func78, Try.ntmps78
  go_wp2
  go_loopw [8] (fun i wr => ∃ k : Nat, k ≤ xs.length ∧ i = .int .i64 k ∧ Ext w wr ∧ FalseTo p xs k) (fun i _ => xs.length - (intOf i).toNat)
  case atStart => exact ⟨0, Nat.zero_le _, rfl, Ext.refl _, FalseTo.zero _ _⟩
  case round =>
    obtain ⟨k, hk, rfl, hx, hp⟩ := hrel
    by_cases hlt : k < xs.length
    · obtain ⟨b, o, vd, rfl, hb, h0, h1, hv⟩ := (Wrs.keep Hs.out hx).elem hlt
      clear Hs
      have Hz := Lib.hid (FalseTo.succ hp hlt)
      have Hi := Lib.hid (idxOf_at p xs k hlt hp)
      clear hp
      generalize xs[k] = x at *
      go_wp2_with fail
      refine (Hf.out wr x vd hx hv).mono ?_
      rintro e w1 ⟨rfl, hx1⟩
      go_wp2_with fail
      · rename_i hpx
        go_ret
        exact ⟨by rw [Hi.out hpx]; rfl, hx.trans hx1⟩
      · rename_i hpx
        go_roundw
        case rel => exact ⟨k + 1, by omega, by go_num, hx.trans hx1, Hz.out hpx⟩
        case measure => simp [intOf]; omega
    · obtain rfl : k = xs.length := by omega
      go_wp2
      go_ret
      exact ⟨by rw [idxOf_none p xs hp]; rfl, hx⟩
set_option maxHeartbeats 400000 in
theorem indexFunc_bs (p : List UInt8 → Bool) (v : Value) (xs : List (List UInt8)) {S : Nat → Prop} (w : World) (h : Bss S w v xs)
    (hf : ∀ w' x vd, Ext w w' → Bs S w' vd x → Calls Try.prog 56 #[vd] w' fun e w'' => e = .returned (.bool (p x)) ∧ Ext w' w'') :
    Calls Try.prog 79 #[v, .func (.func 56) #[] #[]] w fun e w' => e = .returned (.int .i64 (idxOf p xs)) ∧ Ext w w' := by
  obtain ⟨a, c, rfl, hc, hm⟩ := h.open
  have Hf := Lib.hid hf; clear hf
  have Hs := Lib.hid h; clear h
  go_enter Try.func79, Try.ntmps79
  go_wp2
  go_loopw [8] (fun i wr => ∃ k : Nat, k ≤ xs.length ∧ i = .int .i64 k ∧ Ext w wr ∧ FalseTo p xs k) (fun i _ => xs.length - (intOf i).toNat)
  case atStart => exact ⟨0, Nat.zero_le _, rfl, Ext.refl _, FalseTo.zero _ _⟩
  case round =>
    obtain ⟨k, hk, rfl, hx, hp⟩ := hrel
    by_cases hlt : k < xs.length
    · obtain ⟨b, o, vd, rfl, hb, h0, hv⟩ := (Bss.keep Hs.out hx).elem hlt
      clear Hs
      have Hz := Lib.hid (FalseTo.succ hp hlt)
      have Hi := Lib.hid (idxOf_at p xs k hlt hp)
      clear hp
      generalize xs[k] = x at *
      go_wp2_with fail
      refine (Hf.out wr x vd hx hv).mono ?_
      rintro e w1 ⟨rfl, hx1⟩
      go_wp2_with fail
      · rename_i hpx
        go_ret
        exact ⟨by rw [Hi.out hpx]; rfl, hx.trans hx1⟩
      · rename_i hpx
        go_roundw
        case rel => exact ⟨k + 1, by omega, by go_num, hx.trans hx1, Hz.out hpx⟩
        case measure => simp [intOf]; omega
    · obtain rfl : k = xs.length := by omega
      go_wp2
      go_ret
      exact ⟨by rw [idxOf_none p xs hp]; rfl, hx⟩

theorem ret_b {a b : Bool} (h : a = b) : Ending.returned (.bool a) = .returned (.bool b) := by rw [h]
theorem ret_i {k : IntKind} {a b : Int} (h : a = b) : Ending.returned (.int k a) = .returned (.int k b) := by rw [h]

set_option maxHeartbeats 400000 in
theorem isSector_ok {S : Nat → Prop} (w : World) (v : Value) (l : List UInt8) (h : Bs S w v l) :
    Calls Try.prog 53 #[v] w fun e w' => e = .returned (.bool ((l.length : Int) == 128)) ∧ w = w' := by
  obtain ⟨a, c, rfl, hc, hm⟩ := h.open
  clear h
  go_enter Try.func53, Try.ntmps53
  go_wp2
  go_ret
  exact ⟨rfl, rfl⟩

/-- A write that does not fit a disk of n sectors. -/
def badW (n : Int) (x : Wr) : Bool := decide (x.at_ < 0) || decide (n ≤ x.at_) || !((x.data.length : Int) == 128)
def badS (l : List UInt8) : Bool := !((l.length : Int) == 128)

set_option maxHeartbeats 400000 in
theorem check1_ok {S : Nat → Prop} (w : World) (x : Wr) (vd : Value) (bn : Nat) (n : Int) (h : Bs S w vd x.data) (hb : bn < w.heap.size) (hn : w.cell? ⟨bn, 0, none⟩ = some (.int .i64 n)) :
    Calls Try.prog 52 #[.agg #[.int .i64 x.at_, vd], .pointer (some ⟨bn, 0, none⟩)] w fun e w' => e = .returned (.bool (badW n x)) ∧ Ext w w' := by
  have H := Lib.hid h; clear h
  go_enter Try.func52, Try.ntmps52
  go_wp2_with (first | (go_at_call 53; refine (isSector_ok _ _ _ (H.out.keep ((Ext.refl _).alloc _))).mono ?_; rintro e w' ⟨rfl, rfl⟩))
  all_goals
    go_ret
    exact ⟨ret_b (by unfold badW; simp [*]), (Ext.refl _).alloc _⟩

set_option maxHeartbeats 400000 in
theorem check2_ok {S : Nat → Prop} (w : World) (vd : Value) (l : List UInt8) (h : Bs S w vd l) :
    Calls Try.prog 56 #[vd] w fun e w' => e = .returned (.bool (badS l)) ∧ Ext w w' := by
  have H := Lib.hid h; clear h
  go_enter Try.func56, Try.ntmps56
  go_wp2_with (first | (go_at_call 53; refine (isSector_ok _ _ _ H.out).mono ?_; rintro e w' ⟨rfl, rfl⟩))
  go_ret
  exact ⟨rfl, Ext.refl _⟩

set_option maxHeartbeats 400000 in
theorem containsW_ok {S : Nat → Prop} (w : World) (v : Value) (xs : List Wr) (bn : Nat) (n : Int) (h : Wrs S w v xs) (hb : bn < w.heap.size) (hn : w.cell? ⟨bn, 0, none⟩ = some (.int .i64 n)) :
    Calls Try.prog 54 #[v, .func (.func 52) #[] #[.pointer (some ⟨bn, 0, none⟩)]] w fun e w' => e = .returned (.bool (xs.any (badW n))) ∧ Ext w w' := by
  have H := Lib.hid h; clear h
  have Hn := Lib.hid hn; clear hn
  go_enter Try.func54, Try.ntmps54
  go_wp2_with fail
  refine (indexFunc_wr (.pointer (some ⟨bn, 0, none⟩)) (badW n) v xs w H.out (fun w' x vd hx hv => check1_ok w' x vd bn n hv (Nat.lt_of_lt_of_le hb hx.size) (hx.cell Hn.out))).mono ?_
  rintro e w' ⟨rfl, hx⟩
  have Hi := Lib.hid (idxOf_any (badW n) xs)
  generalize idxOf (badW n) xs = i at *
  go_wp2_with fail
  go_ret
  exact ⟨ret_b Hi.out, hx⟩

set_option maxHeartbeats 400000 in
theorem containsS_ok {S : Nat → Prop} (w : World) (v : Value) (xs : List (List UInt8)) (h : Bss S w v xs) :
    Calls Try.prog 55 #[v, .func (.func 56) #[] #[]] w fun e w' => e = .returned (.bool (xs.any badS)) ∧ Ext w w' := by
  have H := Lib.hid h; clear h
  go_enter Try.func55, Try.ntmps55
  go_wp2_with fail
  refine (indexFunc_bs badS v xs w H.out (fun w' x vd hx hv => check2_ok w' vd x hv)).mono ?_
  rintro e w' ⟨rfl, hx⟩
  have Hi := Lib.hid (idxOf_any badS xs)
  generalize idxOf badS xs = i at *
  go_wp2_with fail
  go_ret
  exact ⟨ret_b Hi.out, hx⟩

end Go.Proofs.Ytpciankfpagnhaa

/- What the functions of package disk do: Check, runs, has, Restart, Stop. -/
namespace Go.Proofs.Ytpciankfpagnhaa
open Go.RowKit

/-- Is a disk valid? -/
def okD (d : Dk) : Bool :=
  !(decide ((d.sectors.length : Int) < 1) || decide (4096 < (d.sectors.length : Int)) || decide (4096 < (d.pending.length : Int)) || decide (d.left < -1) || decide (65536 < d.left) || d.pending.any (badW d.sectors.length) || d.sectors.any badS)
def chk (d : Dk) : Int := if okD d then 0 else 410
theorem chk_no {d : Dk} (h : okD d = false) : chk d = 410 := by simp [chk, h]
theorem chk_yes {d : Dk} (h : okD d = true) : chk d = 0 := by simp [chk, h]

set_option maxHeartbeats 1000000 in
theorem check_ok {S : Nat → Prop} (w : World) (v : Value) (d : Dk) (h : Disk S w v d) :
    Calls Try.prog 22 #[v] w fun e w' => e = .returned (.int .i64 (chk d)) ∧ Ext w w' := by
  obtain ⟨vs, vp, rfl, h1, h2⟩ := h
  obtain ⟨a, c, rfl, hc, hm⟩ := h1.open
  obtain ⟨a2, c2, rfl, hc2, hm2⟩ := h2.open
  have H1 := Lib.hid h1; clear h1
  have H2 := Lib.hid h2; clear h2
  go_enter Try.func22, Try.ntmps22
  go_wp2_with fail
  case' _ => skip
  rotate_left
  iterate 5
    · go_ret
      exact ⟨ret_i (chk_no (by unfold okD; simp [*])).symm, ((Ext.refl _).alloc _).alloc _⟩
  refine (containsW_ok _ _ d.pending _ d.sectors.length (H2.out.keep (((Ext.refl _).alloc _).alloc _)) (by simp) (by go_simp)).mono ?_
  rintro e w1 ⟨rfl, hx⟩
  have hE := (((Ext.refl w).alloc _).alloc _).trans hx
  have hc' : w1.cell? ⟨w.heap.size, 0, none⟩ = some (.slice a d.sectors.length c) := hx.cell (by go_simp)
  clear hx
  have hbad : d.pending.any (badW d.sectors.length) = true ∨ d.pending.any (badW d.sectors.length) = false := by cases d.pending.any (badW d.sectors.length) <;> simp
  rcases hbad with hbad | hbad
  · go_wp2_with fail
    go_ret
    exact ⟨ret_i (chk_no (by unfold okD; simp [hbad])).symm, hE⟩
  · go_wp2_with fail
    refine (containsS_ok _ _ d.sectors (H1.out.keep (hE))).mono ?_
    rintro e w2 ⟨rfl, hx2⟩
    have hbs : d.sectors.any badS = true ∨ d.sectors.any badS = false := by cases d.sectors.any badS <;> simp
    rcases hbs with hbs | hbs
    · go_wp2_with fail
      go_ret
      exact ⟨ret_i (chk_no (by unfold okD; simp [hbs])).symm, hE.trans hx2⟩
    · go_wp2_with fail
      go_ret
      refine ⟨ret_i (chk_yes ?_).symm, hE.trans hx2⟩
      unfold okD; rw [hbad, hbs]; simp; omega

/-- Is a disk valid, and has it not stopped? -/
def runsD (d : Dk) : Bool := okD d && !d.stopped
theorem chk_beq (d : Dk) : (chk d == 0) = okD d := by unfold chk; cases okD d <;> rfl

set_option maxHeartbeats 400000 in
theorem runs_ok {S : Nat → Prop} (w : World) (v : Value) (d : Dk) (h : Disk S w v d) :
    Calls Try.prog 57 #[v] w fun e w' => e = .returned (.bool (runsD d)) ∧ Ext w w' := by
  have h0 := h
  obtain ⟨vs, vp, rfl, h1, h2⟩ := h
  clear h1 h2
  have H := Lib.hid h0; clear h0
  go_enter Try.func57, Try.ntmps57
  go_wp2_with fail
  refine (check_ok _ _ d (H.out.keep ((Ext.refl _).alloc _))).mono ?_
  rintro e w1 ⟨rfl, hx⟩
  have hE := ((Ext.refl w).alloc _).trans hx
  have hc' : w1.cell? ⟨w.heap.size, 0 + 3, none⟩ = some (.bool d.stopped) := hx.cell (by go_simp)
  clear hx H
  have e0 := chk_beq d
  cases hok : okD d
  · rw [hok] at e0
    go_wp2_with fail
    go_ret
    exact ⟨ret_b (by simp [runsD, hok]), hE⟩
  · rw [hok] at e0
    go_wp2_with fail
    go_ret
    exact ⟨ret_b (by simp [runsD, hok]), hE⟩

def hasD (d : Dk) (i : Int) : Bool := decide (0 ≤ i) && decide (i < d.sectors.length)

set_option maxHeartbeats 400000 in
theorem has_ok {S : Nat → Prop} (w : World) (v : Value) (d : Dk) (i : Int) (h : Disk S w v d) :
    Calls Try.prog 58 #[v, .int .i64 i] w fun e w' => e = .returned (.bool (hasD d i)) ∧ Ext w w' := by
  obtain ⟨vs, vp, rfl, h1, h2⟩ := h
  obtain ⟨a, c, rfl, hc, hm⟩ := h1.open
  clear h1 h2
  go_enter Try.func58, Try.ntmps58
  go_wp2
  all_goals
    go_ret
    exact ⟨ret_b (by unfold hasD; first | (simp [*]; done) | (simp [*]; omega)), (Ext.refl _).alloc _⟩

def restartD (d : Dk) : Dk := { sectors := d.sectors, pending := [], left := -1, stopped := false }

set_option maxHeartbeats 400000 in
theorem restart_ok {S : Nat → Prop} (w : World) (v : Value) (d : Dk) (h : Disk S w v d) :
    Calls Try.prog 24 #[v] w fun e w' => ∃ x, e = .returned x ∧ Disk S w' x (restartD d) ∧ Ext w w' := by
  obtain ⟨a, c, a2, c2, rfl, hc, hm, hc2, hm2, h1, h2⟩ := h.open
  clear h h2
  have H := Lib.hid h1; clear h1
  go_enter Try.func24, Try.ntmps24
  go_wp2
  refine bodyPost_ret (v := .agg #[.slice a d.sectors.length c, .slice none 0 0, .int .i64 (-1), .bool false]) (by simp [results, Try.results24, go_sem]) rfl ⟨_, rfl, ?_, ((Ext.refl _).alloc _).alloc _⟩
  exact Disk.mk' (H.out.keep (((Ext.refl _).alloc _).alloc _)) (Sl.nil _ _ _ _)

set_option maxHeartbeats 400000 in
theorem refRestart_ok {S : Nat → Prop} (w : World) (v : Value) (d : Dk) (h : Disk S w v d) :
    Calls Try.prog 25 #[v] w fun e w' => ∃ x, e = .returned x ∧ Disk S w' x (restartD d) ∧ Ext w w' := by
  obtain ⟨a, c, a2, c2, rfl, hc, hm, hc2, hm2, h1, h2⟩ := h.open
  clear h h2
  have H := Lib.hid h1; clear h1
  go_enter Try.func25, Try.ntmps25
  go_wp2
  refine bodyPost_ret (v := .agg #[.slice a d.sectors.length c, .slice none 0 0, .int .i64 (-1), .bool false]) (by simp [results, Try.results25, go_sem]) rfl ⟨_, rfl, ?_, ((Ext.refl _).alloc _).alloc _⟩
  exact Disk.mk' (H.out.keep (((Ext.refl _).alloc _).alloc _)) (Sl.nil _ _ _ _)

def zeroD : Dk := { sectors := [], pending := [], left := 0, stopped := false }
theorem zeroD_disk (S : Nat → Prop) (w : World) : Disk S w (.agg #[.slice none 0 0, .slice none 0 0, .int .i64 0, .bool false]) zeroD := ⟨_, _, rfl, Sl.nil _ _ _ _, Sl.nil _ _ _ _⟩
/-- What Stop answers. -/
def stopD (d : Dk) (left : Int) : Dk × Int :=
  if runsD d then (if left < 0 ∨ 65536 < left then (zeroD, 1) else ({ d with left := left }, 0)) else (zeroD, 410)
/-- A disk and a number. -/
def DiskErr (S : Nat → Prop) (w : World) (x : Dk × Int) (e : Ending) (w' : World) : Prop := ∃ v, e = .returned (.tuple #[v, .int .i64 x.2]) ∧ Disk S w' v x.1 ∧ Ext w w'
theorem DiskErr.mk {S : Nat → Prop} {w w' : World} {x : Dk × Int} {v : Value} {n : Int} {d : Dk} (h : x = (d, n)) (hd : Disk S w' v d) (hx : Ext w w') : DiskErr S w x (.returned (.tuple #[v, .int .i64 n])) w' := by
  subst h; exact ⟨v, rfl, hd, hx⟩

set_option maxHeartbeats 1000000 in
theorem stop_ok {S : Nat → Prop} (w : World) (v : Value) (d : Dk) (left : Int) (h : Disk S w v d) :
    Calls Try.prog 32 #[v, .int .i64 left] w (DiskErr S w (stopD d left)) := by
  obtain ⟨a, c, a2, c2, rfl, hc, hm, hc2, hm2, h1, h2⟩ := h.open
  have H := Lib.hid h; clear h
  have H1 := Lib.hid h1; clear h1
  have H2 := Lib.hid h2; clear h2
  go_enter Try.func32, Try.ntmps32
  go_wp2_with fail
  refine (runs_ok _ _ d (H.out.keep (((Ext.refl _).alloc _).alloc _))).mono ?_
  rintro e w1 ⟨rfl, hx⟩
  have hE := (((Ext.refl w).alloc _).alloc _).trans hx
  have hs := hx.size
  simp only [World.size_alloc] at hs
  obtain ⟨c00, c01, c02, c03, f00, f01, f02, f03⟩ := (((Box.new w _ _).past _).keep hx).four
  obtain ⟨c10, c11, c12, c13, f10, f11, f12, f13⟩ := ((Box.at (b := w.heap.size + 1) (by simp)).keep hx).four
  clear hx
  have hlt : w.heap.size < w1.heap.size := by omega
  cases hr : runsD d
  · go_wp2_with fail
    refine bodyPost_ret (v := .tuple #[.agg #[.slice none 0 0, .slice none 0 0, .int .i64 0, .bool false], .int .i64 410]) (by simp [results, Try.results32, go_sem, *]) rfl (DiskErr.mk (by simp [stopD, hr]) (zeroD_disk _ _) ?_)
    repeat (first | exact hE | refine Ext.setCell ?_ (by simp) _)
  · by_cases h0 : left < 0
    · go_wp2_with fail
      refine bodyPost_ret (v := .tuple #[.agg #[.slice none 0 0, .slice none 0 0, .int .i64 0, .bool false], .int .i64 1]) (by simp [results, Try.results32, go_sem, *]) rfl (DiskErr.mk (by simp [stopD, hr, h0]) (zeroD_disk _ _) ?_)
      repeat (first | exact hE | refine Ext.setCell ?_ (by simp) _)
    · by_cases h1 : 65536 < left
      · go_wp2_with fail
        refine bodyPost_ret (v := .tuple #[.agg #[.slice none 0 0, .slice none 0 0, .int .i64 0, .bool false], .int .i64 1]) (by simp [results, Try.results32, go_sem, *]) rfl (DiskErr.mk (by simp [stopD, hr, h1]) (zeroD_disk _ _) ?_)
        repeat (first | exact hE | refine Ext.setCell ?_ (by simp) _)
      · go_wp2_with fail
        refine bodyPost_ret (v := .tuple #[.agg #[.slice a d.sectors.length c, .slice a2 d.pending.length c2, .int .i64 left, .bool d.stopped], .int .i64 0]) (by simp [results, Try.results32, go_sem, *]) rfl (DiskErr.mk (by simp [stopD, hr, h0, h1]) (Disk.mk' (H1.out.keep ?_) (H2.out.keep ?_)) ?_)
        all_goals repeat (first | exact hE | refine Ext.setCell ?_ (by simp) _)
end Go.Proofs.Ytpciankfpagnhaa

/- What the functions of the reference of layer 41 do: Check, Stop. -/
namespace Go.Proofs.Ytpciankfpagnhaa
open Go.RowKit

theorem FalseTo.any {α : Type} {p : α → Bool} {xs : List α} (h : FalseTo p xs xs.length) : xs.any p = false := by
  rw [List.any_eq_false]
  intro x hx
  obtain ⟨j, hj, rfl⟩ := List.getElem_of_mem hx
  simp [h j _ hj (List.getElem?_eq_getElem hj)]
theorem any_at {α : Type} {p : α → Bool} {xs : List α} {k : Nat} (hk : k < xs.length) (h : p xs[k] = true) : xs.any p = true := by
  rw [List.any_eq_true]; exact ⟨_, List.getElem_mem hk, h⟩

theorem okD_iff (d : Dk) : okD d = true ↔ (1 ≤ (d.sectors.length : Int) ∧ (d.sectors.length : Int) ≤ 4096 ∧ (d.pending.length : Int) ≤ 4096 ∧ -1 ≤ d.left ∧ d.left ≤ 65536) ∧ d.pending.any (badW d.sectors.length) = false ∧ d.sectors.any badS = false := by
  unfold okD
  cases d.pending.any (badW d.sectors.length) <;> cases d.sectors.any badS <;> simp <;> omega
theorem okD_head {d : Dk} (h : ¬ (1 ≤ (d.sectors.length : Int) ∧ (d.sectors.length : Int) ≤ 4096 ∧ (d.pending.length : Int) ≤ 4096 ∧ -1 ≤ d.left ∧ d.left ≤ 65536)) : okD d = false := by
  cases hk : okD d
  · rfl
  · exact absurd ((okD_iff d).1 hk).1 h
theorem okD_any {d : Dk} (h : d.pending.any (badW d.sectors.length) = true) : okD d = false := by
  cases hk : okD d
  · rfl
  · have := ((okD_iff d).1 hk).2.1; rw [h] at this; cases this
theorem okD_anyS {d : Dk} (h : d.sectors.any badS = true) : okD d = false := by
  cases hk : okD d
  · rfl
  · have := ((okD_iff d).1 hk).2.2; rw [h] at this; cases this
theorem badW_iff (n : Int) (x : Wr) : badW n x = true ↔ x.at_ < 0 ∨ n ≤ x.at_ ∨ ((x.data.length : Int) != 128) = true := by
  unfold badW; simp [or_assoc]

set_option maxHeartbeats 1000000 in
theorem refCheck_ok {S : Nat → Prop} (w : World) (v : Value) (d : Dk) (h : Disk S w v d) :
    Calls Try.prog 23 #[v] w fun e w' => e = .returned (.int .i64 (chk d)) ∧ Ext w w' := by
  obtain ⟨a, c, a2, c2, rfl, hc, hm, hc2, hm2, h1, h2⟩ := h.open
  clear h
  have H1 := Lib.hid h1; clear h1
  have H2 := Lib.hid h2; clear h2
  by_cases hh : 1 ≤ (d.sectors.length : Int) ∧ (d.sectors.length : Int) ≤ 4096 ∧ (d.pending.length : Int) ≤ 4096 ∧ -1 ≤ d.left ∧ d.left ≤ 65536
  case neg =>
    go_enter Try.func23, Try.ntmps23
    go_wp2_with fail
    all_goals first | (exfalso; apply hh; refine ⟨?_, ?_, ?_, ?_, ?_⟩ <;> omega) | (go_ret; exact ⟨ret_i (chk_no (okD_head hh)).symm, (Ext.refl _).alloc _⟩)
  have G := Lib.hid hh
  obtain ⟨g1, g2, g3, g4, g5⟩ := hh
  go_enter Try.func23, Try.ntmps23
  go_wp2_with fail
  go_loop [4] (fun i => ∃ k : Nat, k ≤ d.sectors.length ∧ i = .int .i64 k ∧ FalseTo badS d.sectors k) (fun i => d.sectors.length - (intOf i).toNat)
  case atStart => exact ⟨0, Nat.zero_le _, rfl, FalseTo.zero _ _⟩
  case round =>
    obtain ⟨k, hk, rfl, hp⟩ := hrel
    by_cases hlt : k < d.sectors.length
    · obtain ⟨b, o, vd, rfl, hb, x0, hv⟩ := H1.out.elem hlt
      obtain ⟨a3, c3, rfl, hc3, hm3⟩ := hv.open
      clear hv
      have Hz := Lib.hid (FalseTo.succ hp hlt)
      have Hi := Lib.hid (any_at (p := badS) hlt)
      clear hp
      generalize d.sectors[k] = x at *
      have e1 : ((x.length : Int) != 128) = badS x := rfl
      cases hbx : badS x
      · rw [hbx] at e1
        go_wp2_with fail
        go_round
        case rel => exact ⟨k + 1, by omega, by go_num, Hz.out hbx⟩
        case measure => simp [intOf]; omega
      · rw [hbx] at e1
        go_wp2_with fail
        go_ret
        exact ⟨ret_i (chk_no (okD_anyS (Hi.out hbx))).symm, (Ext.refl _).alloc _⟩
    · obtain rfl : k = d.sectors.length := by omega
      have HS := Lib.hid hp.any; clear hp
      go_wp2_with fail
      go_loopw [5] (fun i wr => ∃ k : Nat, k ≤ d.pending.length ∧ i = .int .i64 k ∧ FalseTo (badW d.sectors.length) d.pending k ∧ Box wr w.heap.size [.slice a d.sectors.length c, .slice a2 d.pending.length c2, .int .i64 d.left, .bool d.stopped] ∧ Ext w wr) (fun i _ => d.pending.length - (intOf i).toNat)
      case atStart => exact ⟨0, Nat.zero_le _, rfl, FalseTo.zero _ _, Box.new w _ 25, (Ext.refl _).alloc _⟩
      case round =>
        obtain ⟨k, hk, rfl, hp, hbox, hE⟩ := hrel
        obtain ⟨c00, c01, -, -, f00, f01, -, -⟩ := hbox.four
        have Hb := Lib.hid hbox; clear hbox
        have hsz := lt_of_cell c00
        by_cases hlt : k < d.pending.length
        · obtain ⟨b, o, vd, rfl, hb, x0, x1, hv⟩ := (Wrs.keep H2.out hE).elem hlt
          obtain ⟨a3, c3, rfl, hc3, hm3⟩ := hv.open
          clear hv
          have Hz := Lib.hid (FalseTo.succ hp hlt)
          have Hi := Lib.hid (any_at (p := badW d.sectors.length) hlt)
          clear hp
          generalize d.pending[k] = x at *
          have HE := Lib.hid (hE.alloc (.cells #[.int .i64 x.at_, .slice a3 x.data.length c3] 76)); clear hE
          cases hbx : badW d.sectors.length x
          · have hq : ¬ (x.at_ < 0 ∨ (d.sectors.length : Int) ≤ x.at_ ∨ ((x.data.length : Int) != 128) = true) := by rw [← badW_iff, hbx]; simp
            have q1 : ¬ x.at_ < 0 := fun h => hq (.inl h)
            have q2 : ¬ (d.sectors.length : Int) ≤ x.at_ := fun h => hq (.inr (.inl h))
            have q3 : ((x.data.length : Int) != 128) = false := by cases h : ((x.data.length : Int) != 128); rfl; exact absurd (.inr (.inr h)) hq
            clear hq
            go_wp2_with fail
            go_roundw
            case rel => exact ⟨k + 1, by omega, by go_num, Hz.out hbx, Hb.out.past _, HE.out⟩
            case measure => simp [intOf]; omega
          · have hq := (badW_iff _ _).1 hbx
            by_cases q1 : x.at_ < 0
            · clear hq
              go_wp2_with fail
              go_ret
              exact ⟨ret_i (chk_no (okD_any (Hi.out hbx))).symm, HE.out⟩
            · by_cases q2 : (d.sectors.length : Int) ≤ x.at_
              · clear hq
                go_wp2_with fail
                go_ret
                exact ⟨ret_i (chk_no (okD_any (Hi.out hbx))).symm, HE.out⟩
              · have q3 := (hq.resolve_left q1).resolve_left q2
                clear hq
                go_wp2_with fail
                go_ret
                exact ⟨ret_i (chk_no (okD_any (Hi.out hbx))).symm, HE.out⟩
        · obtain rfl : k = d.pending.length := by omega
          go_wp2_with fail
          go_ret
          exact ⟨ret_i (chk_yes ((okD_iff d).2 ⟨G.out, hp.any, HS.out⟩)).symm, hE⟩
end Go.Proofs.Ytpciankfpagnhaa
