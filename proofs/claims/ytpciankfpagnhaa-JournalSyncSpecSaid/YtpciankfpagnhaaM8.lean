/- A region that draws its order, by what each operation leaves: one proof an operation, whatever the order. -/
import Derived.Test.YtpciankfpagnhaaRep
import Derived.StillTail
namespace Go.Proofs.Ytpciankfpagnhaa
open Go.RowKit

/-- The frame with the operations' values put in. -/
def putAll (a : Act) : List Oper → List Value → Act
  | o :: os, v :: vs => putAll (a.put o.dst v) os vs
  | _, _ => a
theorem putAll_nil (a : Act) (vs : List Value) : putAll a [] vs = a := by cases vs <;> rfl
theorem putAll_cons (a : Act) (o : Oper) (os : List Oper) (v : Value) (vs : List Value) : putAll a (o :: os) (v :: vs) = putAll (a.put o.dst v) os vs := rfl

/-- No two operations write one slot. -/
def dstsB (l : List Oper) : Bool := match l with
  | [] => true
  | o :: os => (os.all fun p => match o.dst with | some d => p.dst != some d | none => true) && dstsB os

theorem putAll_comm : ∀ (os : List Oper) (vs : List Value) (a : Act) (d : Option Tmp) (v : Value), (∀ p ∈ os, ∀ t, d = some t → p.dst ≠ some t) → putAll (a.put d v) os vs = (putAll a os vs).put d v
  | [], vs, a, d, v, _ => by rw [putAll_nil, putAll_nil]
  | o :: os, [], a, d, v, _ => rfl
  | o :: os, u :: vs, a, d, v, h => by
    rw [putAll_cons, putAll_cons, Act.put_comm a v u (fun t ht => h o (by simp) t ht)]
    exact putAll_comm os vs _ d v (fun p hp => h p (by simp [hp]))
theorem put_put (a : Act) (d : Option Tmp) (u v : Value) : (a.put d u).put d v = a.put d v := by
  cases d with
  | none => rfl
  | some d => simp [Act.put]
theorem putAll_set : ∀ (os : List Oper) (vs : List Value) (a : Act) (i : Nat) (o : Oper) (v : Value), dstsB os = true → os[i]? = some o → vs.length = os.length → (putAll a os vs).put o.dst v = putAll a os (vs.set i v)
  | [], _, _, _, _, _, _, h, _ => by simp at h
  | p :: os, [], _, _, _, _, _, _, h => by simp at h
  | p :: os, u :: vs, a, 0, o, v, hd, h, hl => by
    simp at h; subst h
    simp only [dstsB, Bool.and_eq_true, List.all_eq_true] at hd
    rw [putAll_cons, List.set_cons_zero, putAll_cons, ← putAll_comm os vs _ p.dst v ?_, put_put]
    intro q hq t ht
    have := hd.1 q hq
    rw [ht] at this
    simpa using this
  | p :: os, u :: vs, a, i + 1, o, v, hd, h, hl => by
    simp at h hl
    simp only [dstsB, Bool.and_eq_true] at hd
    rw [putAll_cons, List.set_cons_succ, putAll_cons]
    exact putAll_set os vs _ i o v hd.2 h hl
/-- Values that are there already. -/
theorem put_same (a : Act) (d : Option Tmp) : ∃ v, a.put d v = a := by
  cases d with
  | none => exact ⟨undef, rfl⟩
  | some d =>
    rcases Nat.lt_or_ge d a.tmps.size with h | h
    · exact ⟨a.tmps[d], by cases a; simp [Act.put, Array.setIfInBounds, h]⟩
    · exact ⟨undef, by
      obtain ⟨t, ds⟩ := a
      simp only at h
      simp only [Act.put, Array.setIfInBounds]
      rw [dif_neg (by omega)]⟩
theorem putAll_same : ∀ (os : List Oper) (a : Act), ∃ vs, vs.length = os.length ∧ putAll a os vs = a
  | [], a => ⟨[], rfl, rfl⟩
  | o :: os, a => by
    obtain ⟨v, hv⟩ := put_same a o.dst
    obtain ⟨vs, hl, h⟩ := putAll_same os a
    exact ⟨v :: vs, by simp [hl], by rw [putAll_cons, hv, h]⟩

/-- How many of the first n are not listed. -/
def unl (listed : Array Bool) (n : Nat) : Nat := (List.range n).countP fun i => !listed.getD i true
theorem unl_succ (listed : Array Bool) (n : Nat) : unl listed (n + 1) = unl listed n + if listed.getD n true = false then 1 else 0 := by
  unfold unl
  rw [List.range_succ, List.countP_append, List.countP_singleton]
  cases listed.getD n true <;> rfl
theorem unl_set (listed : Array Bool) (i : Nat) (hi : listed.getD i true = false) : ∀ n, i < n → unl listed n = unl (listed.setIfInBounds i true) n + 1
  | 0, h => by omega
  | n + 1, h => by
    rw [unl_succ, unl_succ]
    by_cases e : i = n
    · subst e
      have h1 : (listed.setIfInBounds i true).getD i true = true := by
        rcases Nat.lt_or_ge i listed.size with h' | h'
        · simp [h']
        · simp
      rw [h1, hi]
      have : ∀ m, m ≤ i → unl listed m = unl (listed.setIfInBounds i true) m := by
        intro m
        induction m with
        | zero => intro _; rfl
        | succ m ih => intro hm; rw [unl_succ, unl_succ, ih (by omega), getD_set_ne true (by omega)]
      rw [this i (Nat.le_refl _)]; simp
    · rw [getD_set_ne true e, unl_set listed i hi n (by omega)]; omega
theorem unl_zero {listed : Array Bool} : ∀ {n : Nat}, unl listed n = 0 → ∀ i, i < n → listed.getD i true = true
  | 0, _, i, hi => by omega
  | n + 1, h, i, hi => by
    rw [unl_succ] at h
    by_cases e : i = n
    · subst e
      cases hq : listed.getD i true with
      | true => rfl
      | false => rw [hq] at h; simp at h
    · exact unl_zero (n := n) (by omega) i (by omega)
theorem unl_pos {listed : Array Bool} : ∀ {n : Nat}, 0 < unl listed n → ∃ i, i < n ∧ listed.getD i true = false ∧ ∀ j, j < i → listed.getD j true = true
  | 0, h => by simp [unl] at h
  | n + 1, h => by
    by_cases h0 : 0 < unl listed n
    · obtain ⟨i, hi, h1, h2⟩ := unl_pos h0
      exact ⟨i, by omega, h1, h2⟩
    · rw [unl_succ] at h
      refine ⟨n, by omega, ?_, fun j hj => unl_zero (by omega) j hj⟩
      cases hq : listed.getD n true with
      | false => rfl
      | true => rw [hq] at h; simp at h; omega

/-- Every operation waits for earlier ones alone. -/
def ordB (ops : Array Oper) : Bool := (List.range ops.size).all fun i => match ops[i]? with | some o => o.after.all fun e => !Region.binds .any e || decide (e.on < i) | none => true
/-- Does an operation wait for number j? -/
def depB (o : Oper) (j : Nat) : Bool := o.after.any fun e => Region.binds .any e && e.on == j
/-- What number j leaves is used up by the operation that 'cons' names: no other waits for j. -/
def consB (ops : Array Oper) (n : Nat) (cons : Nat → Option Nat) : Bool := (List.range n).all fun i => match ops[i]? with | some o => o.after.all fun e => !Region.binds .any e || (cons e.on == none || cons e.on == some i) | none => true
/-- What is asked of a region with n operations ahead of a tail. -/
def rgB (l : List Oper) (n : Nat) (cons : Nat → Option Nat) : Bool :=
  decide (n ≤ l.length) && (decide (n = l.length) || (Region.sinkB .any l.toArray n && Region.chainB .any l.toArray n)) && ordB l.toArray && dstsB (l.take n) &&
    Region.seqB .any l.toArray (l.length - n) n (Array.ofFn fun i : Fin l.toArray.size => decide (i.val < n)) && consB l.toArray n cons
/-- The frame with the values of the operations from number k on. -/
def putF (a : Act) (v : Nat → Value) : Nat → List Oper → Act
  | _, [] => a
  | k, o :: os => putF (a.put o.dst (v k)) v (k + 1) os
theorem putF_eq (v : Nat → Value) : ∀ (os : List Oper) (vs : List Value) (k : Nat) (a : Act), vs.length = os.length → (∀ i, i < vs.length → vs.getD i undef = v (k + i)) → putAll a os vs = putF a v k os
  | [], _, _, _, _, _ => by rw [putAll_nil]; rfl
  | o :: os, [], _, _, h, _ => by simp at h
  | o :: os, u :: vs, k, a, h, hv => by
    rw [putAll_cons]
    have h0 := hv 0 (by simp)
    simp at h0
    show _ = putF (a.put o.dst (v k)) v (k + 1) os
    rw [← h0]
    exact putF_eq v os vs (k + 1) _ (by simpa using h) (fun i hi => by
      have := hv (i + 1) (by simp; omega)
      rw [show k + 1 + i = k + (i + 1) by omega, ← this]
      simp)

/-- Does number j wait for number i, maybe through others? -/
def reachB (ops : Array Oper) : Nat → Nat → Nat → Bool
  | 0, _, _ => false
  | f + 1, j, i => match ops[j]? with
    | some o => o.after.any fun e => Region.binds .any e && (e.on == i || reachB ops f e.on i)
    | none => false
theorem reachB_listed {ops : Array Oper} {n : Nat} {listed : Array Bool} (inv : HeadInv .any ops n listed) : ∀ (f j i : Nat), reachB ops f j i = true → listed.getD j false = true → listed.getD i false = true
  | 0, _, _, h, _ => by simp [reachB] at h
  | f + 1, j, i, h, hl => by
    unfold reachB at h
    split at h
    · rename_i o ho
      obtain ⟨e, he, hb⟩ := Array.any_eq_true'.1 h
      simp only [Bool.and_eq_true, Bool.or_eq_true, beq_iff_eq] at hb
      have h1 := inv.closed j o ho hl e he hb.1
      rcases hb.2 with h2 | h2
      · rwa [h2] at h1
      · exact reachB_listed inv f e.on i h2 h1
    · cases h
theorem reachB_ready {ops : Array Oper} {n : Nat} {listed : Array Bool} (inv : HeadInv .any ops n listed) {i k f : Nat} (hi : i ∈ Region.ready .any ops listed) (h : reachB ops f i k = true) : listed.getD k false = true := by
  obtain ⟨_, o, ho, hall⟩ := mem_ready.1 hi
  cases f with
  | zero => simp [reachB] at h
  | succ f =>
    unfold reachB at h
    rw [ho] at h
    obtain ⟨e, he, hb⟩ := Array.any_eq_true'.1 h
    simp only [Bool.and_eq_true, Bool.or_eq_true, beq_iff_eq] at hb
    have h1 := hall e he hb.1
    rcases hb.2 with h2 | h2
    · rwa [h2] at h1
    · exact reachB_listed inv f e.on k h2 h1
/-- How a step may change the world: new memory alone; or else all that is left by others, but for what is used up, is kept. -/
def StepW (Φ : Nat → Value → World → Prop) (cons : Nat → Option Nat) (l : List Oper) (wb : World) (i : Nat) (w' w'' : World) : Prop :=
  Ext w' w'' ∨ (Ext wb w'' ∧ ∀ j y, j ≠ i → cons j ≠ some i → reachB l.toArray l.length j i = false → (∀ k, cons j = some k → reachB l.toArray l.length i k = false) → Φ j y w' → Φ j y w'')
/-- What is asked of operation number i. -/
def StepOK (P : Program) (Q : Exit → Act → World → Prop) (l : List Oper) (n : Nat) (a : Act) (wb : World) (Φ : Nat → Value → World → Prop) (cons : Nat → Option Nat) (i : Nat) (o : Oper) : Prop :=
  ∀ (v : Nat → Value) (w' : World), Ext wb w' → (∀ j, depB o j = true → Φ j (v j) w') →
    if Region.wanted o (yielded l.toArray (putF a v 0 (l.take n)).tmps) = true then ∀ K : Act → World → Prop, (∀ u w'', StepW Φ cons l wb i w' w'' → Φ i u w'' → K ((putF a v 0 (l.take n)).put o.dst u) w'') → o.wp P (putF a v 0 (l.take n)) w' K Q else Φ i undef w'
def StepsOK (P : Program) (Q : Exit → Act → World → Prop) (l : List Oper) (n : Nat) (a : Act) (wb : World) (Φ : Nat → Value → World → Prop) (cons : Nat → Option Nat) : Nat → List Oper → Prop
  | _, [] => True
  | k, o :: os => StepOK P Q l n a wb Φ cons k o ∧ StepsOK P Q l n a wb Φ cons (k + 1) os

/-- Predicates, by number. -/
def phi (l : List (Value → World → Prop)) (i : Nat) (v : Value) (w : World) : Prop := (l.getD i (fun _ _ => True)) v w
def Stab (f : Value → World → Prop) : Prop := ∀ v w w', Ext w w' → f v w → f v w'
theorem phi_stable {l : List (Value → World → Prop)} (h : ∀ f ∈ l, Stab f) (i : Nat) (v : Value) (w w' : World) (hx : Ext w w') (hp : phi l i v w) : phi l i v w' := by
  unfold phi at *
  rw [List.getD_eq_getElem?_getD] at *
  cases hq : l[i]? with
  | none => trivial
  | some f => rw [hq] at hp; exact h f (List.mem_of_getElem? hq) v w w' hx hp
/-- It does not look at the world. -/
def WI (f : Value → World → Prop) : Prop := ∀ v w w', f v w → f v w'
theorem wi_eq (u : Value) : WI (fun v _ => v = u) := fun _ _ _ h => h
/-- All but those whose numbers are in D do not look at the world. -/
def AllWI (D : List Nat) : Nat → List (Value → World → Prop) → Prop
  | _, [] => True
  | k, f :: l => (k ∈ D ∨ WI f) ∧ AllWI D (k + 1) l
theorem AllWI.at {D : List Nat} : ∀ {l : List (Value → World → Prop)} {k : Nat}, AllWI D k l → ∀ i f, l[i]? = some f → k + i ∈ D ∨ WI f
  | [], _, _, i, f, h => by simp at h
  | g :: l, k, hs, 0, f, h => by simp at h; subst h; exact hs.1
  | g :: l, k, hs, i + 1, f, h => by
    simp at h
    have := hs.2.at i f h
    rwa [show k + 1 + i = k + (i + 1) by omega] at this
theorem phi_keep {l : List (Value → World → Prop)} {D : List Nat} (h : AllWI D 0 l) {cons : Nat → Option Nat} {ls : List Oper} {i : Nat} {w w' : World}
    (hD : (D.all fun j => decide (j = i) || decide (cons j = some i) || reachB ls.toArray ls.length j i || (match cons j with | some k => reachB ls.toArray ls.length i k | none => false)) = true) (j : Nat) (y : Value) (h1 : j ≠ i) (h2 : cons j ≠ some i) (h3 : reachB ls.toArray ls.length j i = false) (h4 : ∀ k, cons j = some k → reachB ls.toArray ls.length i k = false) (hp : phi l j y w) : phi l j y w' := by
  have hn : j ∉ D := fun hj => by
    have := List.all_eq_true.1 hD j hj
    cases hq : cons j with
    | none => rw [hq] at this; simp [h1, h3] at this
    | some k =>
      have h6 := h4 k hq
      have h7 : k ≠ i := fun he => h2 (he ▸ hq)
      rw [hq] at this; simp [h1, h3, h6, h7] at this
  unfold phi at *
  rw [List.getD_eq_getElem?_getD] at *
  cases hq : l[j]? with
  | none => trivial
  | some f =>
    rw [hq] at hp
    have := h.at j f hq
    rw [Nat.zero_add] at this
    rcases this with h5 | h5
    · exact absurd h5 hn
    · exact h5 _ _ _ hp
theorem stab_eq (u : Value) : Stab (fun v _ => v = u) := fun _ _ _ _ h => h

section
variable {P : Program} {Q : Exit → Act → World → Prop}
theorem StepsOK.at {l : List Oper} {n : Nat} {a : Act} {wb : World} {Φ : Nat → Value → World → Prop} {cons : Nat → Option Nat} : ∀ {os : List Oper} {k : Nat}, StepsOK P Q l n a wb Φ cons k os → ∀ i o, os[i]? = some o → StepOK P Q l n a wb Φ cons (k + i) o
  | [], _, _, i, o, h => by simp at h
  | p :: os, k, hs, 0, o, h => by simp at h; subst h; exact hs.1
  | p :: os, k, hs, i + 1, o, h => by
    simp at h
    have := hs.2.at i o h
    rwa [show k + 1 + i = k + (i + 1) by omega] at this
/-- A region, by what each operation leaves; the operations from number n on come last, in their order. -/
theorem wp_region_rg {id : Nat} {a : Act} {w : World} {l : List Oper} (n : Nat) (cons : Nat → Option Nat) (hm : P.follows .mixedOrders = true) (hB : rgB l n cons = true)
    (Φ : Nat → Value → World → Prop) (hs : ∀ i v w w', Ext w w' → Φ i v w → Φ i v w')
    (hstep : StepsOK P Q l n a w Φ cons 0 (l.take n))
    (hend : ∀ (v : Nat → Value) w', Ext w w' → (∀ i, i < n → (∀ k, cons i = some k → n ≤ k) → Φ i (v i) w') → wpList P l.toArray Q (l.drop n) (putF a v 0 (l.take n)) w') :
    (Code.region id l.toArray true).wp P Q a w := by
  simp only [rgB, Bool.and_eq_true, Bool.or_eq_true, decide_eq_true_eq] at hB
  obtain ⟨⟨⟨⟨⟨hn, htail⟩, hord⟩, hdst⟩, hseq⟩, hcons⟩ := hB
  have hsz : l.toArray.size = l.length := by simp
  have htl : (l.take n).length = n := by simp; omega
  have hdl : (l.drop n).length = l.length - n := by simp
  have hput : ∀ vs : List Value, vs.length = n → putAll a (l.take n) vs = putF a (fun i => vs.getD i undef) 0 (l.take n) := fun vs hv =>
    putF_eq _ _ _ _ _ (by rw [hv, htl]) (fun i _ => by rw [Nat.zero_add])
  have main : ∀ (m : Nat) (listed : Array Bool) (vs : List Value) (w' : World), HeadInv .any l.toArray n listed → unl listed n = m → vs.length = n → Ext w w' →
      (∀ i, i < n → listed.getD i true = true → (∀ k, cons i = some k → listed.getD k false = false) → Φ i (vs.getD i undef) w') → wpAny P .any l.toArray Q (m + (l.length - n)) listed (putAll a (l.take n) vs) w' := by
    intro m
    induction m with
    | zero =>
      intro listed vs w' inv hu hv hR hΦ
      have hall := unl_zero hu
      have hlist : listed = Array.ofFn fun i : Fin l.toArray.size => decide (i.val < n) := by
        apply Array.ext
        · rw [inv.size]; simp
        · intro i h1 h2
          simp only [Array.getElem_ofFn]
          by_cases hi : i < n
          · have := hall i hi
            rw [Array.getD_eq_getD_getElem?, Array.getElem?_eq_getElem h1] at this
            simpa [hi] using this
          · have := inv.tail i (by omega) (by rw [← inv.size]; exact h1)
            rw [Array.getD_eq_getD_getElem?, Array.getElem?_eq_getElem h1] at this
            simpa [hi] using this
      rw [Nat.zero_add]
      have hE := hend (fun i => vs.getD i undef) w' hR (fun i hi hk => hΦ i hi (hall i hi) (fun k hc => by
        have h1 := hk k hc
        rw [hlist]
        rcases Nat.lt_or_ge k l.length with h2 | h2
        · simp [h2]; omega
        · simp [h2]))
      rw [← hput vs hv] at hE
      have := wpAny_of_seq (md := .any) (P := P) (ops := l.toArray) (Q' := Q) (l.drop n) n listed (putAll a (l.take n) vs) w' (fun j => by simp [List.getElem?_drop]) (by rw [hdl, hlist]; exact hseq) hE
      rwa [hdl] at this
    | succ m ih =>
      intro listed vs w' inv hu hv hR hΦ
      obtain ⟨i0, hi0, hun0, hbelow⟩ := unl_pos (listed := listed) (n := n) (by omega)
      have hready0 : i0 ∈ Region.ready .any l.toArray listed := by
        have hlt : i0 < l.toArray.size := by rw [hsz]; omega
        refine mem_ready.2 ⟨hun0, l.toArray[i0], Array.getElem?_eq_getElem hlt, fun e he hb => ?_⟩
        have h1 := List.all_eq_true.1 hord i0 (List.mem_range.2 hlt)
        rw [Array.getElem?_eq_getElem hlt] at h1
        have h2 := Array.all_eq_true_iff_forall_mem.1 h1 e he
        simp [hb] at h2
        have h3 := hbelow e.on h2
        have h4 : e.on < listed.size := by rw [inv.size]; omega
        simp [h4] at h3 ⊢; exact h3
      rw [show m + 1 + (l.length - n) = (m + (l.length - n)) + 1 by omega]
      refine ⟨fun h => (by rw [h] at hready0; cases hready0), fun i hi => ?_⟩
      obtain ⟨hun, o, ho, hall⟩ := mem_ready.1 hi
      have hilt : i < l.length := by have := (Array.getElem?_eq_some_iff.1 ho).1; rwa [hsz] at this
      have hin : i < n := by
        rcases Nat.lt_or_ge i n with h | h
        · exact h
        · exfalso
          rcases htail with h' | ⟨hsk, hch⟩
          · omega
          · exact tail_waits hsk hch (by rw [hsz]; omega) inv (n - i0) i0 rfl hi0 hun0 i h hi
      have ho' : (l.take n)[i]? = some o := by
        rw [List.getElem?_take, if_pos hin]
        simpa using ho
      have hdep : ∀ j, depB o j = true → Φ j (vs.getD j undef) w' := fun j hj => by
        obtain ⟨e, he, hb⟩ := Array.any_eq_true'.1 hj
        simp only [Bool.and_eq_true, beq_iff_eq] at hb
        obtain ⟨hb, rfl⟩ := hb
        have h1 := List.all_eq_true.1 hord i (List.mem_range.2 (by rw [hsz]; exact hilt))
        rw [ho] at h1
        have h2 := Array.all_eq_true_iff_forall_mem.1 h1 e he
        simp [hb] at h2
        have h3 := hall e he hb
        have h5 := List.all_eq_true.1 hcons i (List.mem_range.2 hin)
        rw [ho] at h5
        have h6 := Array.all_eq_true_iff_forall_mem.1 h5 e he
        simp [hb] at h6
        have h4 : e.on < listed.size := by rw [inv.size, hsz]; omega
        refine hΦ e.on (by omega) ?_ (fun k hk => ?_)
        · simp [h4] at h3 ⊢; exact h3
        · rcases h6 with h6 | h6
          · rw [h6] at hk; cases hk
          · rw [h6] at hk; cases hk
            exact getD_both hun
      have hst := hstep.at i o ho' (fun i => vs.getD i undef) w' hR hdep
      rw [Nat.zero_add, ← hput vs hv] at hst
      have next : ∀ u w'', StepW Φ cons l w i w' w'' → Φ i u w'' → wpAny P .any l.toArray Q (m + (l.length - n)) (listed.setIfInBounds i true) ((putAll a (l.take n) vs).put o.dst u) w'' := by
        intro v w'' hW hv'
        rw [putAll_set (l.take n) vs a i o v hdst ho' (by rw [hv, htl])]
        refine ih _ _ _ (inv.set hi hin) (by have := unl_set listed i hun n hin; omega) (by simp [hv]) (by rcases hW with h | h; exact hR.trans h; exact h.1) (fun j hj hl hc => ?_)
        by_cases e : i = j
        · subst e
          rw [List.getD_eq_getElem?_getD, List.getElem?_set_self (by omega)]
          exact hv'
        · rw [getD_set_ne true e] at hl
          rw [List.getD_eq_getElem?_getD, List.getElem?_set_ne e, ← List.getD_eq_getElem?_getD]
          have hci : cons j ≠ some i := fun hq => by
            have := hc i hq
            have h4 : i < listed.size := by rw [inv.size, hsz]; exact hilt
            simp [h4] at this
          have hold := hΦ j hj hl (fun k hk => by
            have h1 := hc k hk
            by_cases hik : i = k
            · subst hik; exact getD_both hun
            · rwa [getD_set_ne false hik] at h1)
          rcases hW with h | h
          · exact hs _ _ _ _ h hold
          · refine h.2 _ _ (Ne.symm e) hci ?_ (fun k hk => ?_) hold
            rotate_left
            · cases hq : reachB l.toArray l.length i k with
              | false => rfl
              | true =>
                have h5 := reachB_ready inv hi hq
                have h6 := hc k hk
                have hik : i ≠ k := fun he => hci (he ▸ hk)
                rw [getD_set_ne false hik, h5] at h6; cases h6
            cases hq : reachB l.toArray l.length j i with
            | false => rfl
            | true =>
              have h4 : j < listed.size := by rw [inv.size, hsz]; omega
              have h5 := reachB_listed inv _ j i hq (by simp [h4] at hl ⊢; exact hl)
              rw [getD_both hun] at h5; cases h5
      unfold wpOp
      simp only [ho]
      by_cases hw : Region.wanted o (yielded l.toArray (putAll a (l.take n) vs).tmps) = true
      · rw [if_pos hw] at hst ⊢
        exact .inl (hst _ next)
      · rw [if_neg hw] at hst ⊢
        exact next undef w' (.inl (Ext.refl w')) hst
  obtain ⟨vs, hvl, hva⟩ := putAll_same (l.take n) a
  have inv0 : HeadInv .any l.toArray n (Array.replicate l.toArray.size false) :=
    ⟨by simp, fun j oj _ hl => (by rw [getD_replicate_false] at hl; cases hl), fun t _ ht => getD_in (by simpa using ht) (getD_replicate_false _ _)⟩
  have hu0 : ∀ k, k ≤ l.length → unl (Array.replicate l.toArray.size false) k = k := by
    intro k
    induction k with
    | zero => intro _; rfl
    | succ k ih =>
      intro hk
      rw [unl_succ, ih (by omega), if_pos (getD_in (by simp; omega) (getD_replicate_false _ _))]
  have H := main n (Array.replicate l.toArray.size false) vs w.drew inv0 (hu0 n hn) (by rw [hvl, htl]) (Ext.drew' w) (fun i hi h _ => by
    rw [getD_in (by simp; omega) (getD_replicate_false _ _)] at h; cases h)
  refine wp_region_any hm ?_
  rw [hva] at H
  have e : n + (l.length - n) = l.toArray.size := by rw [hsz]; omega
  rw [e] at H
  exact H
end
end Go.Proofs.Ytpciankfpagnhaa
