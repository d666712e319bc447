/- How the arguments of a law read, in the words of Rep; and the row's last step. -/
import Derived.Test.YtpciankfpagnhaaRows
import Derived.Test.YtpciankfpagnhaaRep
import Derived.ProofKit
import Derived.ReadAgain
import Derived.Deep.Slices
import Derived.Below
import Derived.ChangeSame
import Derived.Carry
namespace Go.Proofs.Ytpciankfpagnhaa
open Go.ChangeShapes Go.WideShapes Go.ChangeAt Go.RowKit Go.Deep

theorem list_of {α : Type} {p : Nat → α → Prop} : ∀ (n : Nat), (∀ i, i < n → ∃ x, p i x) → ∃ xs : List α, xs.length = n ∧ ∀ i x, xs[i]? = some x → p i x
  | 0, _ => ⟨[], rfl, by simp⟩
  | n + 1, h => by
    obtain ⟨xs, hl, hx⟩ := list_of n (fun i hi => h i (by omega))
    obtain ⟨x, hn⟩ := h n (by omega)
    refine ⟨xs ++ [x], by simp [hl], fun i y hi => ?_⟩
    by_cases hlt : i < xs.length
    · rw [List.getElem?_append_left hlt] at hi; exact hx i y hi
    · rw [List.getElem?_append_right (by omega)] at hi
      obtain rfl : i = n := by
        rcases Nat.lt_or_ge (i - xs.length) 1 with h | h
        · omega
        · rw [List.getElem?_eq_none (by simpa using h)] at hi; cases hi
      rw [hl, Nat.sub_self] at hi
      simp at hi; subst hi; exact hn

/-- The elements of a slice's datum read as a list. -/
def RSl {α H : Type} (R : α → DataW H → Prop) (xs : List α) (d : DataW H) : Prop :=
  (d = .nil ∧ xs = []) ∨ ∃ ds sp, d = .slice ds sp ∧ ds.length = xs.length ∧ ∀ (i : Nat) x y, xs[i]? = some x → ds[i]? = some y → R x y

section
variable {H : Type} {enc : TypeId × Value → H} {P : Program} {w : World}
theorem sl_open {α : Type} {E : (Nat → Prop) → World → List Value → α → Prop} {R : α → DataW H → Prop} {t e : TypeId} {size fuel : Nat} {cs : List Value} {x : DataW H × List MemPlace} (ht : P.underlying t = some (.slice e)) (hsz : P.cellsOf e = size) (hs0 : 0 < size)
    (hel : ∀ n cs' y, DataW.trod enc P w 0 (fun _ => true) true n e cs' = some y → cs'.length = size → ∃ z : α, E (fun _ => False) w cs' z ∧ R z y.1)
    (h : DataW.trod enc P w 0 (fun _ => true) true fuel t cs = some x) : ∃ v xs, cs = [v] ∧ Sl size E (fun _ => False) w v xs ∧ RSl R xs x.1 := by
  rcases open_slice ht h with ⟨rfl, rfl⟩ | ⟨a, len, cap, m, n, D, Pl, rfl, hb, hl, hm, hmm, rfl, hx⟩
  · exact ⟨_, [], rfl, Sl.nil _ _ _ _, .inl ⟨rfl, rfl⟩⟩
  · simp only [if_true] at hmm
    rw [hsz] at hx
    have hcell : ∀ j, j < len * size → ∃ u, w.cell? (a.add j) = some u := by
      intro j hj
      have hi : j / size < m := by have := (Nat.div_lt_iff_lt_mul hs0).2 hj; omega
      obtain ⟨cs', h1, _⟩ := hx _ hi
      obtain ⟨_, h2, h3⟩ := World.cells?_some h1
      have hk : j % size < size := Nat.mod_lt _ hs0
      have := h3 (j % size) hk
      rw [Go.Deep.add_add, show j / size * size + j % size = j from by rw [Nat.mul_comm]; exact Nat.div_add_mod j size] at this
      exact ⟨cs'[j % size]'(by omega), by rw [this, List.getElem?_eq_getElem (by omega)]⟩
    obtain ⟨cells, hcl, hcells⟩ := list_of (p := fun j u => w.cell? (a.add j) = some u) (len * size) hcell
    have hch : ∀ i cs', i < len → w.cells? 0 (a.add (i * size)) size = some cs' → (cells.drop (i * size)).take size = cs' := by
      intro i cs' hi h1
      obtain ⟨_, h2, h3⟩ := World.cells?_some h1
      have hle : i * size + size ≤ len * size := by have := Nat.mul_le_mul_right size (show i + 1 ≤ len from hi); rw [Nat.add_mul, Nat.one_mul] at this; exact this
      apply List.ext_getElem?
      intro k
      by_cases hk : k < size
      · rw [List.getElem?_take, if_pos hk, List.getElem?_drop, ← h3 k hk, Go.Deep.add_add]
        have hj : i * size + k < cells.length := by omega
        rw [List.getElem?_eq_getElem hj, hcells _ _ (List.getElem?_eq_getElem hj)]
      · rw [List.getElem?_eq_none (by simp; omega), List.getElem?_eq_none (by omega)]
    obtain ⟨xs, hxl, hxs⟩ := list_of (p := fun i z => E (fun _ => False) w ((cells.drop (i * size)).take size) z ∧ R z (D i)) len (fun i hi => by
      obtain ⟨cs', h1, h2⟩ := hx i (by omega)
      obtain ⟨_, h3, _⟩ := World.cells?_some h1
      obtain ⟨z, k1, k2⟩ := hel _ _ _ h2 h3
      exact ⟨z, by rw [hch i cs' hi h1]; exact k1, k2⟩)
    refine ⟨_, xs, rfl, ⟨some a, cap, cells, by rw [hxl], by omega, hm, by rw [hxl]; exact hcl, fun i z hz => (hxs i z hz).1, ?_⟩, .inr ⟨_, _, rfl, by simp [hxl], ?_⟩⟩
    · by_cases h0 : len = 0
      · left; exact List.eq_nil_of_length_eq_zero (by omega)
      · right
        have hp : 0 < len * size := Nat.mul_pos (by omega) hs0
        obtain ⟨u, hu⟩ := hcell 0 hp
        have hsp : a.spot = none := by
          unfold Addr.add at hu
          rw [if_pos rfl] at hu
          unfold World.cell? at hu
          cases hh : w.heap[a.block]? with
          | none => rw [hh] at hu; cases hu
          | some o =>
            rw [hh] at hu
            cases o with
            | cells c ty f =>
              simp only at hu
              cases hq : a.spot with
              | none => rfl
              | some q => rw [hq] at hu; simp at hu
            | _ => simp at hu
        obtain ⟨b, o, q⟩ := a
        simp only at hsp
        subst hsp
        refine ⟨b, o, rfl, ⟨?_, fun h => h⟩, fun j u hj => ?_⟩
        · rw [Addr.add_lit] at hu; exact lt_of_cell hu
        · have := hcells j u hj; rwa [Addr.add_lit] at this
    · intro i z y hz hy
      rw [List.getElem?_map] at hy
      have hi : i < len := by
        rcases Nat.lt_or_ge i xs.length with h | h
        · omega
        · rw [List.getElem?_eq_none h] at hz; cases hz
      rw [List.getElem?_range hi] at hy
      simp at hy
      subst hy
      exact (hxs i z hz).2

/-- A byte. -/
def RByte (_ : UInt8) (_ : DataW H) : Prop := True
theorem byte_open {e : TypeId} (he : P.underlying e = some (.int .u8)) (n : Nat) (cs' : List Value) (y : DataW H × List MemPlace) (h : DataW.trod enc P w 0 (fun _ => true) true n e cs' = some y) (hl : cs'.length = 1) :
    ∃ z : UInt8, eByte (fun _ => False) w cs' z ∧ RByte z y.1 := by
  cases n with
  | zero => simp [DataW.trod] at h
  | succ n =>
    match cs', hl with
    | [u], _ =>
      unfold DataW.trod at h
      rw [he] at h
      cases u <;> simp at h
      rename_i k m _
      obtain ⟨⟨rfl, hw⟩, _⟩ := h
      have : 0 ≤ m ∧ m ≤ 255 := by
        have e1 : IntKind.u8.min = 0 := by decide
        have e2 : IntKind.u8.max = 255 := by decide
        simp [Lit.wf] at hw
        omega
      refine ⟨UInt8.ofNat m.toNat, ?_, trivial⟩
      unfold eByte
      simp only [UInt8.toNat_ofNat', List.cons.injEq, Value.int.injEq, true_and, and_true]
      omega
theorem bs_open {t e : TypeId} {fuel : Nat} {cs : List Value} {x : DataW H × List MemPlace} (ht : P.underlying t = some (.slice e)) (he : P.underlying e = some (.int .u8)) (hsz : P.cellsOf e = 1) (h : DataW.trod enc P w 0 (fun _ => true) true fuel t cs = some x) :
    ∃ v xs, cs = [v] ∧ Bs (fun _ => False) w v xs ∧ RSl RByte xs x.1 := sl_open ht hsz (by omega) (byte_open he) h
theorem bss_open {t t2 e : TypeId} {fuel : Nat} {cs : List Value} {x : DataW H × List MemPlace} (ht2 : P.underlying t2 = some (.slice t)) (hsz2 : P.cellsOf t = 1) (ht : P.underlying t = some (.slice e)) (he : P.underlying e = some (.int .u8)) (hsz : P.cellsOf e = 1)
    (h : DataW.trod enc P w 0 (fun _ => true) true fuel t2 cs = some x) : ∃ v xs, cs = [v] ∧ Bss (fun _ => False) w v xs ∧ RSl (RSl RByte) xs x.1 :=
  sl_open ht2 hsz2 (by omega) (fun n cs' y hy _ => by
    obtain ⟨v, xs, rfl, h1, h2⟩ := bs_open ht he hsz hy
    exact ⟨xs, ⟨v, rfl, h1⟩, h2⟩) h

theorem weightsAll_mem {e : TypeId} {ds : List (DataW H)} {y : DataW H} {n : Nat} (hy : y ∈ ds) (hn : n ∈ y.weights P e) : n ∈ DataW.weightsAll P e ds := by
  induction ds with
  | nil => cases hy
  | cons d r ih =>
    simp only [DataW.weightsAll, List.mem_append]
    rcases List.mem_cons.1 hy with rfl | h
    · exact .inl hn
    · exact .inr (ih h)
theorem RSl.weights {α : Type} {R : α → DataW H → Prop} {xs : List α} {d : DataW H} (h : RSl R xs d) {t e : TypeId} (ht : P.underlying t = some (.slice e)) {B : Nat} (hw : ∀ n ∈ d.weights P t, n ≤ B) :
    xs.length * P.bytesOf e ≤ B ∧ ∀ x ∈ xs, ∃ y, R x y ∧ ∀ n ∈ y.weights P e, n ≤ B := by
  rcases h with ⟨rfl, rfl⟩ | ⟨ds, sp, rfl, hl, hr⟩
  · exact ⟨by simp, by simp⟩
  · simp only [DataW.weights, ht, List.mem_cons, List.mem_append] at hw
    refine ⟨?_, fun x hx => ?_⟩
    · have := hw _ (.inl rfl)
      rw [hl, Nat.add_mul] at this; omega
    · obtain ⟨i, hi, rfl⟩ := List.getElem_of_mem hx
      exact ⟨ds[i], hr i _ _ (List.getElem?_eq_getElem hi) (List.getElem?_eq_getElem (by omega)), fun n hn => hw n (.inr (.inl (weightsAll_mem (List.getElem_mem _) hn)))⟩

/-- All arguments read as they did, while only new memory has been made. -/
theorem trodAll_stays (hl : laidOutB P = true) {W W' : World} (hb : Below W.heap.size W W') {sp : Nat → Bool} : ∀ {ts : List TypeId} {vs : List Value} {ds : List (DataW H)} {ps : List MemPlace},
    (∀ t ∈ ts, P.readableRec t = true ∧ t < P.types.size) → DataW.TrodAll enc P W 0 (fun _ => true) true ts vs ds ps → (∀ x ∈ ps, x.block < W.heap.size) → (∀ x ∈ ps, sp x.block = true) → DataW.TrodAll enc P W' 0 sp true ts vs ds ps
  | [], [], [], _, _, h, _, _ => h
  | t :: ts, v :: vs, d :: ds, ps, ht, h, hlt, hsp => by
    obtain ⟨p, q, h1, h2, rfl⟩ := h
    refine ⟨p, q, ?_, trodAll_stays hl hb (fun t h => ht t (List.mem_cons_of_mem _ h)) h2 (fun x hx => hlt x (by simp [hx])) (fun x hx => hsp x (by simp [hx])), rfl⟩
    have := ht t (List.mem_cons_self ..)
    exact WideElems.Trod_stays hl this.1 this.2 h1 (fun x hx => hb.same (hlt x (by simp [hx]))) (fun x hx => hsp x (by simp [hx]))
  | [], [], _ :: _, _, _, h, _, _ => h.elim
  | [], _ :: _, _, _, _, h, _, _ => h.elim
  | _ :: _, [], _, _, _, h, _, _ => h.elim
  | _ :: _, _ :: _, [], _, _, h, _, _ => h.elim

/-- The row's last step: true, and only new memory. -/
theorem post_true {f : Func} {s : ChangeSpec} {apart fresh handsOn again : Bool} {W W' : World} {args : Array Value} {ds gs : List (DataW H)} {before : List MemPlace} {tb : TypeId}
    (hl : laidOutB P = true) (htb : P.underlying tb = some .bool) (hts : ∀ t ∈ f.params.toList, P.readableRec t = true ∧ t < P.types.size)
    (hW : DataW.Whole enc P f.params.toList s.vars apart W args.toList ds gs before) (hv : s.vars = []) (hf : f.resultTypes = #[tb])
    (hfn : s.fn H (ds ++ gs) = { results := [.lit (.bool true)], args := ds }) (hb : Below W.heap.size W W') :
    s.post enc P f apart fresh handsOn again W args (.bool true) W' := by
  have hlt : ∀ p ∈ before, p.block < W.heap.size := fun p hp => hW.lt p hp
  have hWk := hW
  obtain ⟨p, q, hA, hV, rfl, hz, hn⟩ := hW
  rw [hv] at hV
  have hq : q = [] := by
    cases gs with
    | nil => exact hV
    | cons g gs => exact hV.elim
  subst hq
  rw [List.append_nil] at *
  have hargs : ∀ sp : Nat → Bool, (∀ x ∈ p, sp x.block = true) → DataW.TrodAll enc P W' 0 sp true f.params.toList args.toList (s.fn H (ds ++ gs)).args p := by
    intro sp hsp
    rw [hfn]
    exact trodAll_stays hl hb hts hA hlt hsp
  have hold : ∀ x ∈ p, (fun b => decide (b < W.heap.size)) x.block = true := fun x hx => by simpa using hlt x hx
  have hres : ∀ (b : Nat) (sp : Nat → Bool) (hd : Bool), DataW.TrodAll enc P W' b sp hd f.resultTypes.toList ((Value.bool true).resultList f.resultTypes.size) (s.fn H (ds ++ gs)).results [] := by
    intro b sp hd
    rw [hfn, hf]
    exact trodAll_mk1 (shut_bool htb true)
  have hvars : ∀ sp : Nat → Bool, DataW.TrodVars enc P W' sp s.vars (s.fn H (ds ++ gs)).vars [] := by
    intro sp; rw [hfn, hv]; rfl
  refine ⟨ds, gs, p, [], p, [], hWk, hres _ _ _, hargs _ hold, hvars _, World.keptBut_mono (fun x hx => ⟨hx, .inr (.inl hx)⟩) (hb.frame (· ∈ p)), fun _ => ?_⟩
  refine ⟨ok_one hf rfl (okWide_bool_mk htb true), _, _, ([] ++ p) ++ [], ⟨[] ++ p, [], trodAll_append (hargs _ (fun _ _ => rfl)) (hres _ _ _), hvars _, rfl, ?_, ?_⟩, ?_⟩
  · intro b off hp
    have hin : MemPlace.cell b off ∈ p := by simpa using hp
    rw [hb.frozen (hlt _ hin)]
    exact hz b off hin
  · intro ha
    have := hn ha
    simpa using this
  · intro x hx _
    simpa using hx
end

theorem Try.own : ownKnob Try.prog.godebug = none := by kernel_rfl
theorem Try.laidOut : laidOutB Try.prog = true := by kernel_rfl
theorem Try.bytesOpen {H : Type} {enc : TypeId × Value → H} {w : World} {fuel : Nat} {cs : List Value} {x : DataW H × List MemPlace} (h : DataW.trod enc Try.prog w 0 (fun _ => true) true fuel 35 cs = some x) :
    ∃ v xs, cs = [v] ∧ Bs (fun _ => False) w v xs ∧ RSl RByte xs x.1 := bs_open (e := 5) (by kernel_rfl) (by kernel_rfl) (by kernel_rfl) h
theorem Try.rowsOpen {H : Type} {enc : TypeId × Value → H} {w : World} {fuel : Nat} {cs : List Value} {x : DataW H × List MemPlace} (h : DataW.trod enc Try.prog w 0 (fun _ => true) true fuel 22 cs = some x) :
    ∃ v xs, cs = [v] ∧ Bss (fun _ => False) w v xs ∧ RSl (RSl RByte) xs x.1 := bss_open (t := 35) (e := 5) (by kernel_rfl) (by kernel_rfl) (by kernel_rfl) (by kernel_rfl) (by kernel_rfl) h
end Go.Proofs.Ytpciankfpagnhaa
