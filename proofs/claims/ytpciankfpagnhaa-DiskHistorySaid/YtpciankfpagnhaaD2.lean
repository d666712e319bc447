/- What the functions of package disk do: Check, runs, has, Restart, Stop. -/
import Derived.Test.YtpciankfpagnhaaD1
namespace Go.Proofs.Ytpciankfpagnhaa
open Go.RowKit

/-- Is a disk valid? -/
def okD (d : Dk) : Bool :=
  !(decide ((d.sectors.length : Int) < 1) || decide (4096 < (d.sectors.length : Int)) || decide (4096 < (d.pending.length : Int)) || decide (d.left < -1) || decide (65536 < d.left) || d.pending.any (badW d.sectors.length) || d.sectors.any badS)
def chk (d : Dk) : Int := if okD d then 0 else 410
theorem chk_no {d : Dk} (h : okD d = false) : chk d = 410 := by simp [chk, h]
theorem chk_yes {d : Dk} (h : okD d = true) : chk d = 0 := by simp [chk, h]

set_option maxHeartbeats 1000000 in
theorem check_ok {S : Nat → Prop} (w : World) (v : Value) (d : Dk) (h : Disk S w v d) :
    Calls Try.prog 22 #[v] w fun e w' => e = .returned (.int .i64 (chk d)) ∧ Ext w w' := by
  obtain ⟨vs, vp, rfl, h1, h2⟩ := h
  obtain ⟨a, c, rfl, hc, hm⟩ := h1.open
  obtain ⟨a2, c2, rfl, hc2, hm2⟩ := h2.open
  have H1 := Lib.hid h1; clear h1
  have H2 := Lib.hid h2; clear h2
  go_enter Try.func22, Try.ntmps22
  go_wp2_with fail
  case' _ => skip
  rotate_left
  iterate 5
    · go_ret
      exact ⟨ret_i (chk_no (by unfold okD; simp [*])).symm, ((Ext.refl _).alloc _).alloc _⟩
  refine (containsW_ok _ _ d.pending _ d.sectors.length (H2.out.keep (((Ext.refl _).alloc _).alloc _)) (by simp) (by go_simp)).mono ?_
  rintro e w1 ⟨rfl, hx⟩
  have hE := (((Ext.refl w).alloc _).alloc _).trans hx
  have hc' : w1.cell? ⟨w.heap.size, 0, none⟩ = some (.slice a d.sectors.length c) := hx.cell (by go_simp)
  clear hx
  have hbad : d.pending.any (badW d.sectors.length) = true ∨ d.pending.any (badW d.sectors.length) = false := by cases d.pending.any (badW d.sectors.length) <;> simp
  rcases hbad with hbad | hbad
  · go_wp2_with fail
    go_ret
    exact ⟨ret_i (chk_no (by unfold okD; simp [hbad])).symm, hE⟩
  · go_wp2_with fail
    refine (containsS_ok _ _ d.sectors (H1.out.keep (hE))).mono ?_
    rintro e w2 ⟨rfl, hx2⟩
    have hbs : d.sectors.any badS = true ∨ d.sectors.any badS = false := by cases d.sectors.any badS <;> simp
    rcases hbs with hbs | hbs
    · go_wp2_with fail
      go_ret
      exact ⟨ret_i (chk_no (by unfold okD; simp [hbs])).symm, hE.trans hx2⟩
    · go_wp2_with fail
      go_ret
      refine ⟨ret_i (chk_yes ?_).symm, hE.trans hx2⟩
      unfold okD; rw [hbad, hbs]; simp; omega

/-- Is a disk valid, and has it not stopped? -/
def runsD (d : Dk) : Bool := okD d && !d.stopped
theorem chk_beq (d : Dk) : (chk d == 0) = okD d := by unfold chk; cases okD d <;> rfl

set_option maxHeartbeats 400000 in
theorem runs_ok {S : Nat → Prop} (w : World) (v : Value) (d : Dk) (h : Disk S w v d) :
    Calls Try.prog 57 #[v] w fun e w' => e = .returned (.bool (runsD d)) ∧ Ext w w' := by
  have h0 := h
  obtain ⟨vs, vp, rfl, h1, h2⟩ := h
  clear h1 h2
  have H := Lib.hid h0; clear h0
  go_enter Try.func57, Try.ntmps57
  go_wp2_with fail
  refine (check_ok _ _ d (H.out.keep ((Ext.refl _).alloc _))).mono ?_
  rintro e w1 ⟨rfl, hx⟩
  have hE := ((Ext.refl w).alloc _).trans hx
  have hc' : w1.cell? ⟨w.heap.size, 0 + 3, none⟩ = some (.bool d.stopped) := hx.cell (by go_simp)
  clear hx H
  have e0 := chk_beq d
  cases hok : okD d
  · rw [hok] at e0
    go_wp2_with fail
    go_ret
    exact ⟨ret_b (by simp [runsD, hok]), hE⟩
  · rw [hok] at e0
    go_wp2_with fail
    go_ret
    exact ⟨ret_b (by simp [runsD, hok]), hE⟩

def hasD (d : Dk) (i : Int) : Bool := decide (0 ≤ i) && decide (i < d.sectors.length)

set_option maxHeartbeats 400000 in
theorem has_ok {S : Nat → Prop} (w : World) (v : Value) (d : Dk) (i : Int) (h : Disk S w v d) :
    Calls Try.prog 58 #[v, .int .i64 i] w fun e w' => e = .returned (.bool (hasD d i)) ∧ Ext w w' := by
  obtain ⟨vs, vp, rfl, h1, h2⟩ := h
  obtain ⟨a, c, rfl, hc, hm⟩ := h1.open
  clear h1 h2
  go_enter Try.func58, Try.ntmps58
  go_wp2
  all_goals
    go_ret
    exact ⟨ret_b (by unfold hasD; first | (simp [*]; done) | (simp [*]; omega)), (Ext.refl _).alloc _⟩

def restartD (d : Dk) : Dk := { sectors := d.sectors, pending := [], left := -1, stopped := false }

set_option maxHeartbeats 400000 in
theorem restart_ok {S : Nat → Prop} (w : World) (v : Value) (d : Dk) (h : Disk S w v d) :
    Calls Try.prog 24 #[v] w fun e w' => ∃ x, e = .returned x ∧ Disk S w' x (restartD d) ∧ Ext w w' := by
  obtain ⟨a, c, a2, c2, rfl, hc, hm, hc2, hm2, h1, h2⟩ := h.open
  clear h h2
  have H := Lib.hid h1; clear h1
  go_enter Try.func24, Try.ntmps24
  go_wp2
  refine bodyPost_ret (v := .agg #[.slice a d.sectors.length c, .slice none 0 0, .int .i64 (-1), .bool false]) (by simp [results, Try.results24, go_sem]) rfl ⟨_, rfl, ?_, ((Ext.refl _).alloc _).alloc _⟩
  exact Disk.mk' (H.out.keep (((Ext.refl _).alloc _).alloc _)) (Sl.nil _ _ _ _)

set_option maxHeartbeats 400000 in
theorem refRestart_ok {S : Nat → Prop} (w : World) (v : Value) (d : Dk) (h : Disk S w v d) :
    Calls Try.prog 25 #[v] w fun e w' => ∃ x, e = .returned x ∧ Disk S w' x (restartD d) ∧ Ext w w' := by
  obtain ⟨a, c, a2, c2, rfl, hc, hm, hc2, hm2, h1, h2⟩ := h.open
  clear h h2
  have H := Lib.hid h1; clear h1
  go_enter Try.func25, Try.ntmps25
  go_wp2
  refine bodyPost_ret (v := .agg #[.slice a d.sectors.length c, .slice none 0 0, .int .i64 (-1), .bool false]) (by simp [results, Try.results25, go_sem]) rfl ⟨_, rfl, ?_, ((Ext.refl _).alloc _).alloc _⟩
  exact Disk.mk' (H.out.keep (((Ext.refl _).alloc _).alloc _)) (Sl.nil _ _ _ _)

def zeroD : Dk := { sectors := [], pending := [], left := 0, stopped := false }
theorem zeroD_disk (S : Nat → Prop) (w : World) : Disk S w (.agg #[.slice none 0 0, .slice none 0 0, .int .i64 0, .bool false]) zeroD := ⟨_, _, rfl, Sl.nil _ _ _ _, Sl.nil _ _ _ _⟩
/-- What Stop answers. -/
def stopD (d : Dk) (left : Int) : Dk × Int :=
  if runsD d then (if left < 0 ∨ 65536 < left then (zeroD, 1) else ({ d with left := left }, 0)) else (zeroD, 410)
/-- A disk and a number. -/
def DiskErr (S : Nat → Prop) (w : World) (x : Dk × Int) (e : Ending) (w' : World) : Prop := ∃ v, e = .returned (.tuple #[v, .int .i64 x.2]) ∧ Disk S w' v x.1 ∧ Ext w w'
theorem DiskErr.mk {S : Nat → Prop} {w w' : World} {x : Dk × Int} {v : Value} {n : Int} {d : Dk} (h : x = (d, n)) (hd : Disk S w' v d) (hx : Ext w w') : DiskErr S w x (.returned (.tuple #[v, .int .i64 n])) w' := by
  subst h; exact ⟨v, rfl, hd, hx⟩

set_option maxHeartbeats 1000000 in
theorem stop_ok {S : Nat → Prop} (w : World) (v : Value) (d : Dk) (left : Int) (h : Disk S w v d) :
    Calls Try.prog 32 #[v, .int .i64 left] w (DiskErr S w (stopD d left)) := by
  obtain ⟨a, c, a2, c2, rfl, hc, hm, hc2, hm2, h1, h2⟩ := h.open
  have H := Lib.hid h; clear h
  have H1 := Lib.hid h1; clear h1
  have H2 := Lib.hid h2; clear h2
  go_enter Try.func32, Try.ntmps32
  go_wp2_with fail
  refine (runs_ok _ _ d (H.out.keep (((Ext.refl _).alloc _).alloc _))).mono ?_
  rintro e w1 ⟨rfl, hx⟩
  have hE := (((Ext.refl w).alloc _).alloc _).trans hx
  have hs := hx.size
  simp only [World.size_alloc] at hs
  obtain ⟨c00, c01, c02, c03, f00, f01, f02, f03⟩ := (((Box.new w _ _).past _).keep hx).four
  obtain ⟨c10, c11, c12, c13, f10, f11, f12, f13⟩ := ((Box.at (b := w.heap.size + 1) (by simp)).keep hx).four
  clear hx
  have hlt : w.heap.size < w1.heap.size := by omega
  cases hr : runsD d
  · go_wp2_with fail
    refine bodyPost_ret (v := .tuple #[.agg #[.slice none 0 0, .slice none 0 0, .int .i64 0, .bool false], .int .i64 410]) (by simp [results, Try.results32, go_sem, *]) rfl (DiskErr.mk (by simp [stopD, hr]) (zeroD_disk _ _) ?_)
    repeat (first | exact hE | refine Ext.setCell ?_ (by simp) _)
  · by_cases h0 : left < 0
    · go_wp2_with fail
      refine bodyPost_ret (v := .tuple #[.agg #[.slice none 0 0, .slice none 0 0, .int .i64 0, .bool false], .int .i64 1]) (by simp [results, Try.results32, go_sem, *]) rfl (DiskErr.mk (by simp [stopD, hr, h0]) (zeroD_disk _ _) ?_)
      repeat (first | exact hE | refine Ext.setCell ?_ (by simp) _)
    · by_cases h1 : 65536 < left
      · go_wp2_with fail
        refine bodyPost_ret (v := .tuple #[.agg #[.slice none 0 0, .slice none 0 0, .int .i64 0, .bool false], .int .i64 1]) (by simp [results, Try.results32, go_sem, *]) rfl (DiskErr.mk (by simp [stopD, hr, h1]) (zeroD_disk _ _) ?_)
        repeat (first | exact hE | refine Ext.setCell ?_ (by simp) _)
      · go_wp2_with fail
        refine bodyPost_ret (v := .tuple #[.agg #[.slice a d.sectors.length c, .slice a2 d.pending.length c2, .int .i64 left, .bool d.stopped], .int .i64 0]) (by simp [results, Try.results32, go_sem, *]) rfl (DiskErr.mk (by simp [stopD, hr, h0, h1]) (Disk.mk' (H1.out.keep ?_) (H2.out.keep ?_)) ?_)
        all_goals repeat (first | exact hE | refine Ext.setCell ?_ (by simp) _)
end Go.Proofs.Ytpciankfpagnhaa
