/- The plain law of DiskHistory: what is read after writes, syncs and a stop. -/
import Derived.Test.YtpciankfpagnhaaM7
import Derived.Test.YtpciankfpagnhaaD16
namespace Go.Proofs.Ytpciankfpagnhaa
open Go.RowKit

/-- A sector whose halves begin with two bytes. -/
def sec2 (c e : UInt8) : List UInt8 := (c :: List.replicate 63 0) ++ (e :: List.replicate 63 0)
theorem sec2_length (c e : UInt8) : (sec2 c e).length = 128 := by simp [sec2]
theorem dbl_sec2 (c : UInt8) : dbl c = sec2 c c := by
  unfold dbl sec2
  rfl
theorem sec2_torn (c e f g : UInt8) : (sec2 c e).take 64 ++ (sec2 f g).drop 64 = sec2 c g := rfl
theorem sec2_get (c e : UInt8) : (sec2 c e)[0]? = some c ∧ (sec2 c e)[64]? = some e ∧ (sec2 c e)[1]? = some 0 ∧ (sec2 c e)[127]? = some 0 := ⟨rfl, rfl, rfl, rfl⟩
/-- The sectors. -/
def secs (f s : List UInt8) : List (List UInt8) := List.zipWith sec2 f s
theorem secs_length {f s : List UInt8} (hf : f.length = 4) (hs : s.length = 4) : (secs f s).length = 4 := by simp [secs, hf, hs]
theorem secs_get {f s : List UInt8} (hf : f.length = 4) (hs : s.length = 4) {i : Nat} (hi : i < 4) : (secs f s).getD i [] = sec2 (f.getD i 0) (s.getD i 0) := by
  unfold secs
  rw [List.getD_eq_getElem?_getD, List.getElem?_eq_getElem (by simp [hf, hs]; exact hi), List.getElem_zipWith, List.getD_eq_getElem?_getD, List.getD_eq_getElem?_getD, List.getElem?_eq_getElem (by omega), List.getElem?_eq_getElem (by omega)]
  rfl
theorem secs_set (f s : List UInt8) (i : Nat) (c e : UInt8) : (secs f s).set i (sec2 c e) = secs (f.set i c) (s.set i e) := by
  unfold secs
  induction f generalizing s i with
  | nil => simp
  | cons x f ih =>
    cases s with
    | nil => simp
    | cons y s =>
      cases i with
      | zero => rfl
      | succ i => simp [ih]
theorem secs_all (f s : List UInt8) : ∀ y ∈ secs f s, y.length = 128 := by
  unfold secs
  intro y hy
  obtain ⟨i, hi, rfl⟩ := List.getElem_of_mem hy
  rw [List.getElem_zipWith]
  exact sec2_length _ _

/-- Where an act writes. -/
def at4 (a : Ac) : Nat := a.at_.toNat % 4
theorem at4_lt (a : Ac) : at4 a < 4 := Nat.mod_lt _ (by decide)
/-- The bytes after some acts. -/
def upd (f : List UInt8) (l : List Ac) : List UInt8 := l.foldl (fun s a => s.set (at4 a) a.byte) f
theorem upd_length (l : List Ac) : ∀ f, (upd f l).length = f.length := by
  induction l with
  | nil => intro f; rfl
  | cons a l ih => intro f; show (upd (f.set (at4 a) a.byte) l).length = _; rw [ih]; simp
theorem upd_snoc (f : List UInt8) (l : List Ac) (a : Ac) : upd f (l ++ [a]) = (upd f l).set (at4 a) a.byte := by
  unfold upd; rw [List.foldl_append]; rfl
theorem upd_take (f : List UInt8) (l : List Ac) (k : Nat) (hk : k < l.length) : upd f (l.take (k + 1)) = (upd f (l.take k)).set (at4 l[k]) l[k].byte := by
  rw [List.take_succ_eq_append_getElem hk, upd_snoc]
def wr4 (a : Ac) : Wr := ⟨(at4 a : Int), dbl a.byte⟩
theorem perf_secs (l : List Ac) : ∀ f s, perfL (secs f s) (l.map wr4) = secs (upd f l) (upd s l) := by
  induction l with
  | nil => intro f s; rfl
  | cons a l ih =>
    intro f s
    show perfL ((secs f s).set (wr4 a).at_.toNat (wr4 a).data) (l.map wr4) = secs (upd (f.set (at4 a) a.byte) l) (upd (s.set (at4 a) a.byte) l)
    rw [show (wr4 a).at_.toNat = at4 a from Int.toNat_natCast _, show (wr4 a).data = sec2 a.byte a.byte from dbl_sec2 _, secs_set, ih]

/-- The disk of a history. -/
def hist (f : List UInt8) (l : List Ac) (r : Nat) : Dk := ⟨secs f f, l.map wr4, (r : Int), false⟩
theorem hist_ok {f s : List UInt8} {l : List Ac} {r : Int} {b : Bool} (hf : f.length = 4) (hs : s.length = 4) (hl : l.length ≤ 40) (hr : -1 ≤ r) (hr2 : r ≤ 255) : okD ⟨secs f s, l.map wr4, r, b⟩ = true := by
  refine okD_mk ?_ ?_ ?_ hr (by simp only; omega) ?_ (secs_all _ _)
  · simp only; rw [secs_length hf hs]; omega
  · simp only; rw [secs_length hf hs]; omega
  · simp; omega
  · intro x hx
    simp only at hx ⊢
    obtain ⟨a, _, rfl⟩ := List.mem_map.1 hx
    have := at4_lt a
    rw [secs_length hf hs]
    exact ⟨by simp [wr4], by simp only [wr4]; omega, dbl_length _⟩
theorem hist_runs {f : List UInt8} {l : List Ac} {r : Nat} (hf : f.length = 4) (hl : l.length ≤ 40) (hr : r ≤ 255) : runsD (hist f l r) = true :=
  (runsD_iff _).2 ⟨hist_ok hf hf hl (by omega) (by omega), rfl⟩
theorem hist_start (r : Nat) (hr : r ≤ 255) : newD 4 = (⟨secs [0, 0, 0, 0] [0, 0, 0, 0], [], -1, false⟩, 0) ∧ stopD ⟨secs [0, 0, 0, 0] [0, 0, 0, 0], [], -1, false⟩ r = (hist [0, 0, 0, 0] [] r, 0) := by
  refine ⟨by decide +kernel, ?_⟩
  unfold stopD
  have h : runsD ⟨secs [0, 0, 0, 0] [0, 0, 0, 0], [], -1, false⟩ = true := by decide +kernel
  rw [if_pos h, if_neg (by omega)]
  rfl
theorem hist_write {f : List UInt8} {l : List Ac} {r : Nat} (hf : f.length = 4) (hl : l.length ≤ 40) (hr : r ≤ 255) (a : Ac) : writeD (hist f l r) (at4 a : Int) (dbl a.byte) = (hist f (l ++ [a]) r, 0) := by
  have h4 := at4_lt a
  unfold writeD
  rw [if_pos (by rw [Bool.and_eq_true]; exact ⟨hist_runs hf hl hr, (hasD_iff _ _).2 ⟨by omega, by simp only [hist]; rw [secs_length hf hf]; omega⟩⟩), if_neg (by rw [dbl_length]; omega), if_neg (by simp [hist]; omega)]
  unfold hist
  simp only [List.map_append, List.map_cons, List.map_nil]
  have : padS (dbl a.byte) = dbl a.byte := by unfold padS; rw [dbl_length]; simp
  rw [this]
  rfl
theorem hist_sync_go {f : List UInt8} {l : List Ac} {r : Nat} (hf : f.length = 4) (hl : l.length ≤ 40) (hr : r ≤ 255) (h : l.length ≤ r) : syncD (hist f l r) = (hist (upd f l) [] (r - l.length), 0) := by
  rw [syncD_runs (hist_runs hf hl hr), if_neg (by simp [hist]; omega)]
  unfold hist
  simp only [List.length_map, List.map_nil]
  rw [perf_secs, if_pos (by omega)]
  congr 2
  omega
theorem hist_sync_stop {f : List UInt8} {l : List Ac} {r : Nat} (hf : f.length = 4) (hl : l.length ≤ 40) (hr : r ≤ 255) (h : r < l.length) : syncD (hist f l r) = (⟨secs (upd f (l.take (r + 1))) (upd f (l.take r)), [], 0, true⟩, 410) := by
  rw [syncD_runs (hist_runs hf hl hr), if_pos (by simp [hist]; omega)]
  unfold hist
  simp only [Int.toNat_natCast]
  have e1 : (l.map wr4).take r = (l.take r).map wr4 := by rw [List.map_take]
  have e2 : (l.map wr4).getD r ⟨0, []⟩ = wr4 l[r] := by rw [List.getD_eq_getElem?_getD, List.getElem?_map, List.getElem?_eq_getElem h]; rfl
  rw [e1, e2, perf_secs, show (wr4 l[r]).at_.toNat = at4 l[r] from Int.toNat_natCast _, show (wr4 l[r]).data = sec2 l[r].byte l[r].byte from dbl_sec2 _]
  have hu : (upd f (l.take r)).length = 4 := by rw [upd_length]; exact hf
  rw [secs_get hu hu (at4_lt _), sec2_torn, secs_set, upd_take f l r h]
  have : (upd f (l.take r)).set (at4 l[r]) ((upd f (l.take r)).getD (at4 l[r]) 0) = upd f (l.take r) := by
    have h4 : at4 l[r] < (upd f (l.take r)).length := by rw [hu]; exact at4_lt _
    rw [List.getD_eq_getElem?_getD, List.getElem?_eq_getElem h4]
    exact List.set_getElem_self h4
  rw [this]
/-- What a disk holds. -/
def Holds (d : Dk) (f s : List UInt8) : Prop := runsD d = true ∧ d.sectors.length = 4 ∧ f.length = 4 ∧ s.length = 4 ∧ ∀ i : Nat, i < 4 → readL d i = sec2 (f.getD i 0) (s.getD i 0)
theorem holds_mk {f s : List UInt8} {l : List Ac} {r : Int} (hf : f.length = 4) (hs : s.length = 4) (hl : l.length ≤ 40) (hr : -1 ≤ r) (hr2 : r ≤ 255) : Holds ⟨secs f s, l.map wr4, r, false⟩ (upd f l) (upd s l) := by
  have hf' : (upd f l).length = 4 := by rw [upd_length]; exact hf
  have hs' : (upd s l).length = 4 := by rw [upd_length]; exact hs
  refine ⟨(runsD_iff _).2 ⟨hist_ok hf hs hl hr hr2, rfl⟩, secs_length hf hs, hf', hs', fun i hi => ?_⟩
  rw [readL_perf _ i (by simp only; rw [secs_length hf hs]; exact hi) (fun x hx => by
    simp only at hx
    obtain ⟨a, _, rfl⟩ := List.mem_map.1 hx
    simp [wr4])]
  simp only
  rw [perf_secs, secs_get hf' hs' hi]
theorem hist_holds {f : List UInt8} {l : List Ac} {r : Nat} (hf : f.length = 4) (hl : l.length ≤ 40) (hr : r ≤ 255) : Holds (hist f l r) (upd f l) (upd f l) := holds_mk hf hf hl (by omega) (by omega)
theorem restart_holds {f s : List UInt8} {p : List Wr} {r : Int} {b : Bool} (hf : f.length = 4) (hs : s.length = 4) : Holds (restartD ⟨secs f s, p, r, b⟩) f s := holds_mk (l := []) hf hs (by simp) (by omega) (by omega)
end Go.Proofs.Ytpciankfpagnhaa
