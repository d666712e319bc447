/- Plain facts on reading, writing and syncing a disk. -/
import Derived.Test.YtpciankfpagnhaaD7
import Derived.Test.YtpciankfpagnhaaD14
namespace Go.Proofs.Ytpciankfpagnhaa
open Go.RowKit

theorem okD_mk {d : Dk} (h1 : 1 ≤ d.sectors.length) (h2 : d.sectors.length ≤ 4096) (h3 : d.pending.length ≤ 4096) (h4 : -1 ≤ d.left) (h5 : d.left ≤ 65536)
    (h6 : ∀ x ∈ d.pending, 0 ≤ x.at_ ∧ x.at_ < d.sectors.length ∧ x.data.length = 128) (h7 : ∀ l ∈ d.sectors, l.length = 128) : okD d = true := by
  rw [okD_iff]
  refine ⟨⟨by omega, by omega, by omega, by omega, by omega⟩, ?_, ?_⟩
  · rw [List.any_eq_false]; intro x hx; have := h6 x hx; simp [badW]; omega
  · rw [List.any_eq_false]; intro x hx; have := h7 x hx; simp [badS]; omega
theorem okD_bounds {d : Dk} (h : okD d = true) : 1 ≤ d.sectors.length ∧ d.sectors.length ≤ 4096 ∧ d.pending.length ≤ 4096 ∧ -1 ≤ d.left ∧ d.left ≤ 65536 := by
  have := (okD_iff d).1 h; omega
theorem runsD_iff (d : Dk) : runsD d = true ↔ okD d = true ∧ d.stopped = false := by unfold runsD; simp
theorem hasD_iff (d : Dk) (i : Int) : hasD d i = true ↔ 0 ≤ i ∧ i < d.sectors.length := by unfold hasD; simp

theorem write_facts {d x : Dk} {i : Int} {b : List UInt8} (h : writeD d i b = (x, 0)) :
    runsD d = true ∧ hasD d i = true ∧ b.length ≤ 128 ∧ d.pending.length < 4096 ∧ x = { d with pending := d.pending ++ [⟨i, padS b⟩] } ∧ runsD x = true := by
  unfold writeD at h
  by_cases hh : (runsD d && hasD d i) = true
  · rw [if_pos hh] at h
    simp only [Bool.and_eq_true] at hh
    by_cases hb : 128 < b.length
    · rw [if_pos hb] at h; simp at h
    · rw [if_neg hb] at h
      by_cases hp : d.pending.length = 4096
      · rw [if_pos hp] at h; simp at h
      · rw [if_neg hp] at h
        simp only [Prod.mk.injEq, and_true] at h
        have hr := (runsD_iff d).1 hh.1
        have hbd := okD_bounds hr.1
        have hi := (hasD_iff d i).1 hh.2
        refine ⟨hh.1, hh.2, by omega, by omega, h.symm, ?_⟩
        subst h
        rw [runsD_iff]
        refine ⟨okD_mk (by simp; omega) (by simp; omega) (by simp; omega) hbd.2.2.2.1 hbd.2.2.2.2 ?_ (fun l hl => ok_sec hr.1 l hl), hr.2⟩
        intro y hy
        simp at hy
        rcases hy with hy | rfl
        · exact ok_at hr.1 y hy
        · exact ⟨hi.1, hi.2, padS_length (by omega)⟩
  · rw [if_neg hh] at h; simp at h
theorem write_err {d : Dk} {i : Int} {b : List UInt8} (hr : runsD d = true) (hi : hasD d i = true) (hb : b.length ≤ 128) : (writeD d i b).2 = 0 ∨ (writeD d i b).2 = 2 := by
  unfold writeD
  rw [if_pos (by simp [hr, hi]), if_neg (by omega)]
  split
  · exact .inr rfl
  · exact .inl rfl
theorem read_yes {d : Dk} {i : Int} (hr : runsD d = true) (hi : hasD d i = true) : readD d i = (readL d i, 0) := by
  unfold readD; rw [if_pos (by simp [hr, hi])]
theorem read_ok_iff {d : Dk} {i : Int} {l : List UInt8} (h : readD d i = (l, 0)) : runsD d = true ∧ hasD d i = true ∧ l = readL d i := by
  unfold readD at h
  by_cases hh : (runsD d && hasD d i) = true
  · rw [if_pos hh] at h; simp at hh; simp at h; exact ⟨hh.1, hh.2, h.symm⟩
  · rw [if_neg hh] at h; simp at h
theorem readL_snoc (d : Dk) (i j : Int) (b : List UInt8) : readL { d with pending := d.pending ++ [⟨i, b⟩] } j = if i = j then b else readL d j := by
  unfold readL
  simp only [List.reverse_append, List.reverse_cons, List.reverse_nil, List.nil_append, List.singleton_append, List.find?_cons]
  by_cases h : i = j
  · simp [h]
  · rw [if_neg h, show (i == j) = false from by simpa using h]

/-- Reading is what the sectors will be. -/
theorem readL_perf (d : Dk) (k : Nat) (hk : k < d.sectors.length) (ha : ∀ x ∈ d.pending, 0 ≤ x.at_) : readL d k = (perfL d.sectors d.pending).getD k [] := by
  have key : ∀ (n : Nat) (l : List Wr), l.length = n → (∀ x ∈ l, 0 ≤ x.at_) → readL { d with pending := l } k = (perfL d.sectors l).getD k [] := by
    intro n
    induction n with
    | zero => intro l hl _; have : l = [] := List.eq_nil_of_length_eq_zero hl; subst this; simp [readL, perfL]
    | succ n ih =>
      intro l hl hx
      have hne : l ≠ [] := by intro e; subst e; simp at hl
      obtain ⟨l', x, rfl⟩ : ∃ l' x, l = l' ++ [x] := ⟨l.dropLast, l.getLast hne, (List.dropLast_concat_getLast hne).symm⟩
      have h1 := ih l' (by simp at hl; exact hl) (fun y hy => hx y (by simp [hy]))
      have h2 := hx x (by simp)
      obtain ⟨at_, data⟩ := x
      have := readL_snoc { d with pending := l' } at_ k data
      simp only at this h2
      rw [this, perfL_snoc]
      have hlen := perfL_length l' d.sectors
      by_cases e : at_ = k
      · rw [if_pos e, List.getD_eq_getElem?_getD]
        simp only
        rw [show at_.toNat = k from by omega, List.getElem?_set_self (by omega)]; rfl
      · rw [if_neg e, h1, List.getD_eq_getElem?_getD, List.getD_eq_getElem?_getD, List.getElem?_set_ne (by simp only; omega)]
  exact key _ d.pending rfl ha

theorem padS_take {b : List UInt8} : (padS b).take b.length = b := by unfold padS; simp

theorem perfL_ok {d : Dk} (h : okD d = true) : ∀ l ∈ perfL d.sectors d.pending, l.length = 128 :=
  perfL_all d.pending d.sectors (ok_sec h) (fun x hx => (ok_at h x hx).2.2)
/-- A sync that does not stop: what it answers. -/
theorem sync_facts {d z : Dk} (hr : runsD d = true) (h : syncD d = (z, 0)) :
    z.sectors = perfL d.sectors d.pending ∧ z.pending = [] ∧ runsD z = true := by
  unfold syncD at h
  rw [if_pos hr] at h
  by_cases hs : 0 ≤ d.left ∧ d.left < d.pending.length
  · rw [if_pos hs] at h; simp at h
  · rw [if_neg hs] at h
    simp only [Prod.mk.injEq, and_true] at h
    subst h
    have h0 := (runsD_iff d).1 hr
    have hb := okD_bounds h0.1
    refine ⟨rfl, rfl, ?_⟩
    rw [runsD_iff]
    refine ⟨okD_mk ?_ ?_ (by simp) ?_ ?_ (by simp) (perfL_ok h0.1), rfl⟩
    · simp only [perfL_length]; omega
    · simp only [perfL_length]; omega
    · simp only; split <;> omega
    · simp only; split <;> omega
theorem sync_err {d : Dk} (hr : runsD d = true) : (syncD d).2 = 0 ∨ (syncD d).2 = 410 ∧ (syncD d).1.stopped = true := by
  unfold syncD
  rw [if_pos hr]
  split
  · exact .inr ⟨rfl, rfl⟩
  · exact .inl rfl
end Go.Proofs.Ytpciankfpagnhaa

/- Acts: how a slice of them reads; and the plain law that syncing one by one and together lead to the same disk. -/
namespace Go.Proofs.Ytpciankfpagnhaa
open Go.RowKit

/-- A write, or a sync. -/
structure Ac where
  sync : Bool
  at_ : UInt8
  byte : UInt8
deriving DecidableEq
def eAc (_ : Nat → Prop) (_ : World) (cs : List Value) (x : Ac) : Prop := cs = [.bool x.sync, .int .u8 (x.at_.toNat : Int), .int .u8 (x.byte.toNat : Int)]
theorem etAc : ET eAc := ⟨fun _ _ _ _ _ _ h => h, fun _ _ _ _ _ _ h => h, fun _ _ cs x h u hu => by unfold eAc at h; subst h; simp at hu; rcases hu with rfl | rfl | rfl <;> rfl⟩
abbrev Acs (S : Nat → Prop) (w : World) (v : Value) (l : List Ac) : Prop := Sl 3 eAc S w v l
theorem Acs.keep {S : Nat → Prop} {w w' : World} {v : Value} {l : List Ac} (h : Acs S w v l) (hx : Ext w w') : Acs S w' v l := Sl.keepM etAc h (hx.mem S)
theorem Acs.elem {S : Nat → Prop} {w : World} {a : Option Addr} {n c : Nat} {xs : List Ac} (h : Acs S w (.slice a n c) xs) {k : Nat} (hk : k < xs.length) :
    ∃ b o, a = some ⟨b, o, none⟩ ∧ (b < w.heap.size ∧ ¬ S b) ∧ w.cell? ⟨b, o + k * 3, none⟩ = some (.bool xs[k].sync) ∧ w.cell? ⟨b, o + k * 3 + 1, none⟩ = some (.int .u8 (xs[k].at_.toNat : Int)) ∧ w.cell? ⟨b, o + k * 3 + 2, none⟩ = some (.int .u8 (xs[k].byte.toNat : Int)) := by
  obtain ⟨a', c', cells, e, _, _, _, h4, h5⟩ := h
  cases e
  rcases h5 with rfl | ⟨b, o, rfl, hb, h5⟩
  · simp at hk
  · obtain ⟨q0, q1, q2⟩ := take3 (h4 k _ (List.getElem?_eq_getElem hk))
    exact ⟨b, o, rfl, hb, h5 _ _ q0, by simpa [Nat.add_assoc] using h5 _ _ q1, by simpa [Nat.add_assoc] using h5 _ _ q2⟩

theorem syncD_runs {d : Dk} (hr : runsD d = true) : syncD d = (if 0 ≤ d.left ∧ d.left < d.pending.length then
      (let ss := perfL d.sectors (d.pending.take d.left.toNat)
       let x := d.pending.getD d.left.toNat ⟨0, []⟩
       ({ sectors := ss.set x.at_.toNat (x.data.take 64 ++ (ss.getD x.at_.toNat []).drop 64), pending := [], left := 0, stopped := true }, 410))
     else ({ sectors := perfL d.sectors d.pending, pending := [], left := if 0 ≤ d.left then d.left - d.pending.length else d.left, stopped := false }, 0)) := by
  unfold syncD; rw [if_pos hr]

/-- The write that an act of DiskTogether makes on a disk of n sectors. -/
def wrOf (n : Nat) (a : Ac) : Wr := ⟨(a.at_.toNat : Int) % (n : Int), padS [a.byte]⟩
/-- The disk with the first k writes pending. -/
def pendTo (d : Dk) (l : List Ac) (k : Nat) : Dk := { d with pending := (l.take k).map (wrOf d.sectors.length) }
/-- What one by one has led to after k writes. -/
def oneBy (d : Dk) (l : List Ac) (k : Nat) : Dk × Int := syncD (pendTo d l k)

theorem pendTo_zero (d : Dk) (l : List Ac) (h : d.pending = []) : pendTo d l 0 = d := by
  unfold pendTo; simp; cases d; simp_all
theorem pendTo_pending (d : Dk) (l : List Ac) (k : Nat) : (pendTo d l k).pending = (l.take k).map (wrOf d.sectors.length) := rfl
theorem pendTo_plen (d : Dk) (l : List Ac) (k : Nat) (hk : k ≤ l.length) : (pendTo d l k).pending.length = k := by rw [pendTo_pending]; simp; omega
theorem pendTo_succ (d : Dk) (l : List Ac) (k : Nat) (hk : k < l.length) : pendTo d l (k + 1) = { pendTo d l k with pending := (pendTo d l k).pending ++ [wrOf d.sectors.length l[k]] } := by
  unfold pendTo; rw [List.take_succ_eq_append_getElem hk, List.map_append]; rfl
theorem wrOf_at (n : Nat) (a : Ac) (hn : 0 < n) : 0 ≤ (wrOf n a).at_ ∧ (wrOf n a).at_ < n := by
  unfold wrOf; exact ⟨Int.emod_nonneg _ (by omega), Int.emod_lt_of_pos _ (by omega)⟩
theorem wrOf_data (n : Nat) (a : Ac) : (wrOf n a).data.length = 128 := padS_length (by simp)
theorem pendTo_runs {d : Dk} (hr : runsD d = true) (l : List Ac) (k : Nat) (hl : l.length ≤ 20) : runsD (pendTo d l k) = true := by
  have h := (runsD_iff d).1 hr
  have hb := okD_bounds h.1
  rw [runsD_iff]
  refine ⟨okD_mk hb.1 hb.2.1 ?_ hb.2.2.2.1 hb.2.2.2.2 ?_ (fun y hy => ok_sec h.1 y hy), h.2⟩
  · rw [pendTo_pending]; simp; omega
  · intro x hx
    rw [pendTo_pending] at hx
    obtain ⟨a, _, rfl⟩ := List.mem_map.1 hx
    have := wrOf_at d.sectors.length a (by omega)
    exact ⟨this.1, this.2, wrOf_data _ _⟩
/-- Writing one more. -/
theorem pendTo_write {d : Dk} (hr : runsD d = true) (l : List Ac) (k : Nat) (hl : l.length ≤ 20) (hk : k < l.length) :
    writeD (pendTo d l k) (((l[k].at_.toNat : Int) % (d.sectors.length : Int))) [l[k].byte] = (pendTo d l (k + 1), 0) := by
  have h := (runsD_iff d).1 hr
  have hb := okD_bounds h.1
  have hw := wrOf_at d.sectors.length l[k] (by omega)
  unfold writeD
  rw [if_pos (by rw [Bool.and_eq_true]; exact ⟨pendTo_runs hr l k hl, (hasD_iff _ _).2 hw⟩), if_neg (by simp), if_neg (by rw [pendTo_plen d l k (by omega)]; omega), pendTo_succ d l k hk]
  rfl
/-- After k that did not stop: what the disk is. -/
theorem oneBy_facts {d : Dk} (hr : runsD d = true) (l : List Ac) (k : Nat) (hl : l.length ≤ 20) (hk : k ≤ l.length) (h0 : (oneBy d l k).2 = 0) :
    (oneBy d l k).1 = { sectors := perfL d.sectors (pendTo d l k).pending, pending := [], left := if 0 ≤ d.left then d.left - k else d.left, stopped := false } ∧ (0 ≤ d.left → (k : Int) ≤ d.left) := by
  unfold oneBy syncD at *
  rw [if_pos (pendTo_runs hr l k hl)] at *
  rw [pendTo_plen d l k hk] at *
  by_cases hs : 0 ≤ (pendTo d l k).left ∧ (pendTo d l k).left < (k : Int)
  · rw [if_pos hs] at h0; simp at h0
  · rw [if_neg hs]
    refine ⟨rfl, fun h => ?_⟩
    have : (pendTo d l k).left = d.left := rfl
    omega
/-- Writing one more, one by one. -/
theorem oneBy_write {d : Dk} (hr : runsD d = true) (l : List Ac) (k : Nat) (hl : l.length ≤ 20) (hk : k < l.length) (h0 : (oneBy d l k).2 = 0) :
    ∃ z, writeD (oneBy d l k).1 (((l[k].at_.toNat : Int) % (d.sectors.length : Int))) [l[k].byte] = (z, 0) ∧ syncD z = oneBy d l (k + 1) := by
  have h := (runsD_iff d).1 hr
  have hb := okD_bounds h.1
  have hw := wrOf_at d.sectors.length l[k] (by omega)
  obtain ⟨e, hle⟩ := oneBy_facts hr l k hl (by omega) h0
  have hz : runsD (oneBy d l k).1 = true := (sync_facts (pendTo_runs hr l k hl) (Prod.ext rfl h0)).2.2
  have hlen : (oneBy d l k).1.sectors.length = d.sectors.length := by rw [e]; exact perfL_length _ _
  have hpn : (oneBy d l k).1.pending = [] := by rw [e]
  refine ⟨{ (oneBy d l k).1 with pending := [wrOf d.sectors.length l[k]] }, ?_, ?_⟩
  · unfold writeD
    rw [if_pos (by rw [Bool.and_eq_true]; exact ⟨hz, (hasD_iff _ _).2 (by rw [hlen]; exact hw)⟩), if_neg (by simp), if_neg (by rw [hpn]; simp), hpn]
    rfl
  · have hr2 : runsD { (oneBy d l k).1 with pending := [wrOf d.sectors.length l[k]] } = true := by
      have h2 := (runsD_iff _).1 hz
      have hb2 := okD_bounds h2.1
      rw [runsD_iff]
      refine ⟨okD_mk hb2.1 hb2.2.1 (by simp) hb2.2.2.2.1 hb2.2.2.2.2 ?_ (fun y hy => ok_sec h2.1 y hy), h2.2⟩
      intro x hx
      simp at hx; subst hx
      exact ⟨hw.1, by simp only; rw [hlen]; exact hw.2, wrOf_data _ _⟩
    rw [e] at hr2 ⊢
    rw [syncD_runs hr2, show oneBy d l (k + 1) = syncD (pendTo d l (k + 1)) from rfl, syncD_runs (pendTo_runs hr l (k + 1) hl), pendTo_plen d l (k + 1) (by omega)]
    simp only
    have e1 : (pendTo d l (k + 1)).left = d.left := rfl
    have e2 : (pendTo d l (k + 1)).sectors = d.sectors := rfl
    have hpl := pendTo_plen d l k (by omega)
    have e3 : (pendTo d l (k + 1)).pending = (pendTo d l k).pending ++ [wrOf d.sectors.length l[k]] := by rw [pendTo_succ d l k hk]
    rw [e1, e2, e3]
    by_cases hL : 0 ≤ d.left
    · have hkl := hle hL
      by_cases hq : d.left = k
      · have c1 : (0 : Int) ≤ (if 0 ≤ d.left then d.left - (k : Int) else d.left) ∧ (if 0 ≤ d.left then d.left - (k : Int) else d.left) < (([wrOf d.sectors.length l[k]].length : Nat) : Int) := by rw [if_pos hL]; simp; omega
        have c2 : 0 ≤ d.left ∧ d.left < ((k + 1 : Nat) : Int) := by omega
        rw [if_pos c1, if_pos c2]
        simp only [hq, Int.sub_self, Int.toNat_natCast]
        have t1 : List.take k ((pendTo d l k).pending ++ [wrOf d.sectors.length l[k]]) = (pendTo d l k).pending := by rw [List.take_append_of_le_length (by omega), List.take_of_length_le (by omega)]
        have t2 : ((pendTo d l k).pending ++ [wrOf d.sectors.length l[k]]).getD k ⟨0, []⟩ = wrOf d.sectors.length l[k] := by
          rw [List.getD_eq_getElem?_getD, List.getElem?_append_right (by omega), hpl]; simp
        rw [t1, t2]
        rfl
      · have c1 : ¬ ((0 : Int) ≤ (if 0 ≤ d.left then d.left - (k : Int) else d.left) ∧ (if 0 ≤ d.left then d.left - (k : Int) else d.left) < (([wrOf d.sectors.length l[k]].length : Nat) : Int)) := by rw [if_pos hL]; simp; omega
        have c2 : ¬ (0 ≤ d.left ∧ d.left < ((k + 1 : Nat) : Int)) := by omega
        rw [if_neg c1, if_neg c2, perfL_snoc]
        simp only [if_pos hL]
        rw [if_pos (by omega)]
        simp only [List.length_cons, List.length_nil]
        have c3 : d.left - (k : Int) - ((0 + 1 : Nat) : Int) = d.left - ((k + 1 : Nat) : Int) := by omega
        rw [c3]
        rfl
    · have c1 : ¬ ((0 : Int) ≤ (if 0 ≤ d.left then d.left - (k : Int) else d.left) ∧ (if 0 ≤ d.left then d.left - (k : Int) else d.left) < (([wrOf d.sectors.length l[k]].length : Nat) : Int)) := by rw [if_neg hL]; omega
      have c2 : ¬ (0 ≤ d.left ∧ d.left < ((k + 1 : Nat) : Int)) := by omega
      rw [if_neg c1, if_neg c2, perfL_snoc]
      simp only [if_neg hL]
      rfl
/-- Once it has stopped, the further writes change nothing. -/
theorem oneBy_end {d : Dk} (hr : runsD d = true) (l : List Ac) (k : Nat) (hl : l.length ≤ 20) (hk : k ≤ l.length) (h0 : k = l.length ∨ (oneBy d l k).2 ≠ 0) : oneBy d l k = oneBy d l l.length := by
  rcases h0 with rfl | h0
  · rfl
  · unfold oneBy syncD at *
    rw [if_pos (pendTo_runs hr l k hl), pendTo_plen d l k hk] at *
    rw [if_pos (pendTo_runs hr l l.length hl), pendTo_plen d l l.length (Nat.le_refl _)]
    have e1 : (pendTo d l k).left = d.left := rfl
    have e2 : (pendTo d l l.length).left = d.left := rfl
    have e3 : (pendTo d l k).sectors = d.sectors := rfl
    have e4 : (pendTo d l l.length).sectors = d.sectors := rfl
    rw [e1, e3] at h0 ⊢
    rw [e2, e4]
    by_cases hs : 0 ≤ d.left ∧ d.left < (k : Int)
    · rw [if_pos hs, if_pos (by omega)]
      have hn : d.left.toNat < k := by omega
      have p1 : (pendTo d l k).pending = ((pendTo d l l.length).pending).take k := by rw [pendTo_pending, pendTo_pending, ← List.map_take, List.take_take, Nat.min_eq_left hk]
      have t1 : (pendTo d l k).pending.take d.left.toNat = (pendTo d l l.length).pending.take d.left.toNat := by rw [p1, List.take_take, Nat.min_eq_left (by omega)]
      have t2 : (pendTo d l k).pending.getD d.left.toNat ⟨0, []⟩ = (pendTo d l l.length).pending.getD d.left.toNat ⟨0, []⟩ := by
        rw [p1, List.getD_eq_getElem?_getD, List.getD_eq_getElem?_getD, List.getElem?_take, if_pos hn]
      rw [t1, t2]
    · rw [if_neg hs] at h0; simp at h0
end Go.Proofs.Ytpciankfpagnhaa
