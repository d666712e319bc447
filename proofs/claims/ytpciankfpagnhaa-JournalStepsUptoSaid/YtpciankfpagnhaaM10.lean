/- A region that draws its order, by what each operation leaves; what is said of an operation may name the values of those that it waits for. -/
import Derived.Test.YtpciankfpagnhaaM8
namespace Go.Proofs.Ytpciankfpagnhaa
open Go.RowKit

/-- How a step may change the world: new memory alone; or else all that is left by others, but for what is used up, is kept. -/
def StepV (Φ : Nat → (Nat → Value) → World → Prop) (cons : Nat → Option Nat) (l : List Oper) (wb : World) (i : Nat) (w' w'' : World) : Prop :=
  Ext w' w'' ∨ (Ext wb w'' ∧ ∀ j y, j ≠ i → cons j ≠ some i → reachB l.toArray l.length j i = false → (∀ k, cons j = some k → reachB l.toArray l.length i k = false) → Φ j y w' → Φ j y w'')
/-- What is asked of operation number i. -/
def StepOKv (P : Program) (Q : Exit → Act → World → Prop) (l : List Oper) (n : Nat) (a : Act) (wb : World) (Φ : Nat → (Nat → Value) → World → Prop) (cons : Nat → Option Nat) (i : Nat) (o : Oper) : Prop :=
  ∀ (v : Nat → Value) (w' : World), Ext wb w' → (∀ j, depB o j = true → Φ j v w') →
    if Region.wanted o (yielded l.toArray (putF a v 0 (l.take n)).tmps) = true then ∀ K : Act → World → Prop, (∀ u w'', StepV Φ cons l wb i w' w'' → Φ i (fun j => if j = i then u else v j) w'' → K ((putF a v 0 (l.take n)).put o.dst u) w'') → o.wp P (putF a v 0 (l.take n)) w' K Q else Φ i (fun j => if j = i then undef else v j) w'
def StepsOKv (P : Program) (Q : Exit → Act → World → Prop) (l : List Oper) (n : Nat) (a : Act) (wb : World) (Φ : Nat → (Nat → Value) → World → Prop) (cons : Nat → Option Nat) : Nat → List Oper → Prop
  | _, [] => True
  | k, o :: os => StepOKv P Q l n a wb Φ cons k o ∧ StepsOKv P Q l n a wb Φ cons (k + 1) os

/-- Predicates, by number. -/
def phv (l : List ((Nat → Value) → World → Prop)) (i : Nat) (v : Nat → Value) (w : World) : Prop := (l.getD i (fun _ _ => True)) v w
def Stabv (f : (Nat → Value) → World → Prop) : Prop := ∀ v w w', Ext w w' → f v w → f v w'
theorem phv_stable {l : List ((Nat → Value) → World → Prop)} (h : ∀ f ∈ l, Stabv f) (i : Nat) (v : Nat → Value) (w w' : World) (hx : Ext w w') (hp : phv l i v w) : phv l i v w' := by
  unfold phv at *
  rw [List.getD_eq_getElem?_getD] at *
  cases hq : l[i]? with
  | none => trivial
  | some f => rw [hq] at hp; exact h f (List.mem_of_getElem? hq) v w w' hx hp
/-- It does not look at the world. -/
def WIv (f : (Nat → Value) → World → Prop) : Prop := ∀ v w w', f v w → f v w'
theorem wiv_eq (i : Nat) (u : Value) : WIv (fun v _ => v i = u) := fun _ _ _ h => h
/-- All but those whose numbers are in D do not look at the world. -/
def AllWIv (D : List Nat) : Nat → List ((Nat → Value) → World → Prop) → Prop
  | _, [] => True
  | k, f :: l => (k ∈ D ∨ WIv f) ∧ AllWIv D (k + 1) l
theorem AllWIv.at {D : List Nat} : ∀ {l : List ((Nat → Value) → World → Prop)} {k : Nat}, AllWIv D k l → ∀ i f, l[i]? = some f → k + i ∈ D ∨ WIv f
  | [], _, _, i, f, h => by simp at h
  | g :: l, k, hs, 0, f, h => by simp at h; subst h; exact hs.1
  | g :: l, k, hs, i + 1, f, h => by
    simp at h
    have := hs.2.at i f h
    rwa [show k + 1 + i = k + (i + 1) by omega] at this
theorem phv_keep {l : List ((Nat → Value) → World → Prop)} {D : List Nat} (h : AllWIv D 0 l) {cons : Nat → Option Nat} {ls : List Oper} {i : Nat} {w w' : World}
    (hD : (D.all fun j => decide (j = i) || decide (cons j = some i) || reachB ls.toArray ls.length j i || (match cons j with | some k => reachB ls.toArray ls.length i k | none => false)) = true) (j : Nat) (y : Nat → Value) (h1 : j ≠ i) (h2 : cons j ≠ some i) (h3 : reachB ls.toArray ls.length j i = false) (h4 : ∀ k, cons j = some k → reachB ls.toArray ls.length i k = false) (hp : phv l j y w) : phv l j y w' := by
  have hn : j ∉ D := fun hj => by
    have := List.all_eq_true.1 hD j hj
    cases hq : cons j with
    | none => rw [hq] at this; simp [h1, h3] at this
    | some k =>
      have h6 := h4 k hq
      have h7 : k ≠ i := fun he => h2 (he ▸ hq)
      rw [hq] at this; simp [h1, h3, h6, h7] at this
  unfold phv at *
  rw [List.getD_eq_getElem?_getD] at *
  cases hq : l[j]? with
  | none => trivial
  | some f =>
    rw [hq] at hp
    have := h.at j f hq
    rw [Nat.zero_add] at this
    rcases this with h5 | h5
    · exact absurd h5 hn
    · exact h5 _ _ _ hp
theorem stabv_eq (i : Nat) (u : Value) : Stabv (fun v _ => v i = u) := fun _ _ _ _ h => h

/-- All but those whose numbers are in D are kept. -/
def AllKp (D : List Nat) (w w' : World) : Nat → List ((Nat → Value) → World → Prop) → Prop
  | _, [] => True
  | k, f :: l => (k ∈ D ∨ ∀ v, f v w → f v w') ∧ AllKp D w w' (k + 1) l
theorem AllKp.at {D : List Nat} {w w' : World} : ∀ {l : List ((Nat → Value) → World → Prop)} {k : Nat}, AllKp D w w' k l → ∀ i f, l[i]? = some f → k + i ∈ D ∨ ∀ v, f v w → f v w'
  | [], _, _, i, f, h => by simp at h
  | g :: l, k, hs, 0, f, h => by simp at h; subst h; exact hs.1
  | g :: l, k, hs, i + 1, f, h => by
    simp at h
    have := hs.2.at i f h
    rwa [show k + 1 + i = k + (i + 1) by omega] at this
theorem phv_kp {l : List ((Nat → Value) → World → Prop)} {D : List Nat} {w w' : World} (h : AllKp D w w' 0 l) {cons : Nat → Option Nat} {ls : List Oper} {i : Nat}
    (hD : (D.all fun j => decide (j = i) || decide (cons j = some i) || reachB ls.toArray ls.length j i || (match cons j with | some k => reachB ls.toArray ls.length i k | none => false)) = true) (j : Nat) (y : Nat → Value) (h1 : j ≠ i) (h2 : cons j ≠ some i) (h3 : reachB ls.toArray ls.length j i = false) (h4 : ∀ k, cons j = some k → reachB ls.toArray ls.length i k = false) (hp : phv l j y w) : phv l j y w' := by
  have hn : j ∉ D := fun hj => by
    have := List.all_eq_true.1 hD j hj
    cases hq : cons j with
    | none => rw [hq] at this; simp [h1, h3] at this
    | some k =>
      have h6 := h4 k hq
      have h7 : k ≠ i := fun he => h2 (he ▸ hq)
      rw [hq] at this; simp [h1, h3, h6, h7] at this
  unfold phv at *
  rw [List.getD_eq_getElem?_getD] at *
  cases hq : l[j]? with
  | none => trivial
  | some f =>
    rw [hq] at hp
    have := h.at j f hq
    rw [Nat.zero_add] at this
    rcases this with h5 | h5
    · exact absurd h5 hn
    · exact h5 _ hp
/-- It names no values but its own and those of operations that it waits for. -/
def Cg (ls : List Oper) (i : Nat) (f : (Nat → Value) → World → Prop) : Prop := ∀ v v' w, (∀ j, (j = i ∨ reachB ls.toArray ls.length i j = true) → v j = v' j) → f v w → f v' w
theorem cg_1 (ls : List Oper) (i : Nat) (f : Value → World → Prop) : Cg ls i (fun v w => f (v i) w) := fun v v' w h hp => by simp only at hp ⊢; rw [← h i (.inl rfl)]; exact hp
theorem cg_eq (ls : List Oper) (i : Nat) (u : Value) : Cg ls i (fun v _ => v i = u) := cg_1 ls i (fun x _ => x = u)
theorem cg_2 (ls : List Oper) (i j : Nat) (hr : reachB ls.toArray ls.length i j = true) (f : Value → Value → World → Prop) : Cg ls i (fun v w => f (v i) (v j) w) := fun v v' w h hp => by simp only at hp ⊢; rw [← h i (.inl rfl), ← h j (.inr hr)]; exact hp
theorem cg_1' (ls : List Oper) (i j : Nat) (hr : reachB ls.toArray ls.length i j = true) (f : Value → World → Prop) : Cg ls i (fun v w => f (v j) w) := fun v v' w h hp => by simp only at hp ⊢; rw [← h j (.inr hr)]; exact hp
def AllCg (ls : List Oper) : Nat → List ((Nat → Value) → World → Prop) → Prop
  | _, [] => True
  | k, f :: l => Cg ls k f ∧ AllCg ls (k + 1) l
theorem AllCg.at {ls : List Oper} : ∀ {l : List ((Nat → Value) → World → Prop)} {k : Nat}, AllCg ls k l → ∀ i f, l[i]? = some f → Cg ls (k + i) f
  | [], _, _, i, f, h => by simp at h
  | g :: l, k, hs, 0, f, h => by simp at h; subst h; exact hs.1
  | g :: l, k, hs, i + 1, f, h => by
    simp at h
    have := hs.2.at i f h
    rwa [show k + 1 + i = k + (i + 1) by omega] at this
theorem phv_cg {ls : List Oper} {l : List ((Nat → Value) → World → Prop)} (h : AllCg ls 0 l) (i : Nat) (v v' : Nat → Value) (w : World) (hv : ∀ j, (j = i ∨ reachB ls.toArray ls.length i j = true) → v j = v' j) (hp : phv l i v w) : phv l i v' w := by
  unfold phv at *
  rw [List.getD_eq_getElem?_getD] at *
  cases hq : l[i]? with
  | none => trivial
  | some f =>
    rw [hq] at hp
    have := h.at i f hq
    rw [Nat.zero_add] at this
    exact this v v' w hv hp

section
variable {P : Program} {Q : Exit → Act → World → Prop}
theorem StepsOKv.at {l : List Oper} {n : Nat} {a : Act} {wb : World} {Φ : Nat → (Nat → Value) → World → Prop} {cons : Nat → Option Nat} : ∀ {os : List Oper} {k : Nat}, StepsOKv P Q l n a wb Φ cons k os → ∀ i o, os[i]? = some o → StepOKv P Q l n a wb Φ cons (k + i) o
  | [], _, _, i, o, h => by simp at h
  | p :: os, k, hs, 0, o, h => by simp at h; subst h; exact hs.1
  | p :: os, k, hs, i + 1, o, h => by
    simp at h
    have := hs.2.at i o h
    rwa [show k + 1 + i = k + (i + 1) by omega] at this
/-- A region, by what each operation leaves; the operations from number n on come last, in their order. -/
theorem wp_region_rv {id : Nat} {a : Act} {w : World} {l : List Oper} (n : Nat) (cons : Nat → Option Nat) (hm : P.follows .mixedOrders = true) (hB : rgB l n cons = true)
    (Φ : Nat → (Nat → Value) → World → Prop) (hs : ∀ i v w w', Ext w w' → Φ i v w → Φ i v w') (hc : ∀ i v v' w, (∀ j, (j = i ∨ reachB l.toArray l.length i j = true) → v j = v' j) → Φ i v w → Φ i v' w)
    (hstep : StepsOKv P Q l n a w Φ cons 0 (l.take n))
    (hend : ∀ (v : Nat → Value) w', Ext w w' → (∀ i, i < n → (∀ k, cons i = some k → n ≤ k) → Φ i v w') → wpList P l.toArray Q (l.drop n) (putF a v 0 (l.take n)) w') :
    (Code.region id l.toArray true).wp P Q a w := by
  simp only [rgB, Bool.and_eq_true, Bool.or_eq_true, decide_eq_true_eq] at hB
  obtain ⟨⟨⟨⟨⟨hn, htail⟩, hord⟩, hdst⟩, hseq⟩, hcons⟩ := hB
  have hsz : l.toArray.size = l.length := by simp
  have htl : (l.take n).length = n := by simp; omega
  have hdl : (l.drop n).length = l.length - n := by simp
  have hput : ∀ vs : List Value, vs.length = n → putAll a (l.take n) vs = putF a (fun i => vs.getD i undef) 0 (l.take n) := fun vs hv =>
    putF_eq _ _ _ _ _ (by rw [hv, htl]) (fun i _ => by rw [Nat.zero_add])
  have main : ∀ (m : Nat) (listed : Array Bool) (vs : List Value) (w' : World), HeadInv .any l.toArray n listed → unl listed n = m → vs.length = n → Ext w w' →
      (∀ i, i < n → listed.getD i true = true → (∀ k, cons i = some k → listed.getD k false = false) → Φ i (fun j => vs.getD j undef) w') → wpAny P .any l.toArray Q (m + (l.length - n)) listed (putAll a (l.take n) vs) w' := by
    intro m
    induction m with
    | zero =>
      intro listed vs w' inv hu hv hR hΦ
      have hall := unl_zero hu
      have hlist : listed = Array.ofFn fun i : Fin l.toArray.size => decide (i.val < n) := by
        apply Array.ext
        · rw [inv.size]; simp
        · intro i h1 h2
          simp only [Array.getElem_ofFn]
          by_cases hi : i < n
          · have := hall i hi
            rw [Array.getD_eq_getD_getElem?, Array.getElem?_eq_getElem h1] at this
            simpa [hi] using this
          · have := inv.tail i (by omega) (by rw [← inv.size]; exact h1)
            rw [Array.getD_eq_getD_getElem?, Array.getElem?_eq_getElem h1] at this
            simpa [hi] using this
      rw [Nat.zero_add]
      have hE := hend (fun i => vs.getD i undef) w' hR (fun i hi hk => hΦ i hi (hall i hi) (fun k hc => by
        have h1 := hk k hc
        rw [hlist]
        rcases Nat.lt_or_ge k l.length with h2 | h2
        · simp [h2]; omega
        · simp [h2]))
      rw [← hput vs hv] at hE
      have := wpAny_of_seq (md := .any) (P := P) (ops := l.toArray) (Q' := Q) (l.drop n) n listed (putAll a (l.take n) vs) w' (fun j => by simp [List.getElem?_drop]) (by rw [hdl, hlist]; exact hseq) hE
      rwa [hdl] at this
    | succ m ih =>
      intro listed vs w' inv hu hv hR hΦ
      obtain ⟨i0, hi0, hun0, hbelow⟩ := unl_pos (listed := listed) (n := n) (by omega)
      have hready0 : i0 ∈ Region.ready .any l.toArray listed := by
        have hlt : i0 < l.toArray.size := by rw [hsz]; omega
        refine mem_ready.2 ⟨hun0, l.toArray[i0], Array.getElem?_eq_getElem hlt, fun e he hb => ?_⟩
        have h1 := List.all_eq_true.1 hord i0 (List.mem_range.2 hlt)
        rw [Array.getElem?_eq_getElem hlt] at h1
        have h2 := Array.all_eq_true_iff_forall_mem.1 h1 e he
        simp [hb] at h2
        have h3 := hbelow e.on h2
        have h4 : e.on < listed.size := by rw [inv.size]; omega
        simp [h4] at h3 ⊢; exact h3
      rw [show m + 1 + (l.length - n) = (m + (l.length - n)) + 1 by omega]
      refine ⟨fun h => (by rw [h] at hready0; cases hready0), fun i hi => ?_⟩
      obtain ⟨hun, o, ho, hall⟩ := mem_ready.1 hi
      have hilt : i < l.length := by have := (Array.getElem?_eq_some_iff.1 ho).1; rwa [hsz] at this
      have hin : i < n := by
        rcases Nat.lt_or_ge i n with h | h
        · exact h
        · exfalso
          rcases htail with h' | ⟨hsk, hch⟩
          · omega
          · exact tail_waits hsk hch (by rw [hsz]; omega) inv (n - i0) i0 rfl hi0 hun0 i h hi
      have ho' : (l.take n)[i]? = some o := by
        rw [List.getElem?_take, if_pos hin]
        simpa using ho
      have hdep : ∀ j, depB o j = true → Φ j (fun j => vs.getD j undef) w' := fun j hj => by
        obtain ⟨e, he, hb⟩ := Array.any_eq_true'.1 hj
        simp only [Bool.and_eq_true, beq_iff_eq] at hb
        obtain ⟨hb, rfl⟩ := hb
        have h1 := List.all_eq_true.1 hord i (List.mem_range.2 (by rw [hsz]; exact hilt))
        rw [ho] at h1
        have h2 := Array.all_eq_true_iff_forall_mem.1 h1 e he
        simp [hb] at h2
        have h3 := hall e he hb
        have h5 := List.all_eq_true.1 hcons i (List.mem_range.2 hin)
        rw [ho] at h5
        have h6 := Array.all_eq_true_iff_forall_mem.1 h5 e he
        simp [hb] at h6
        have h4 : e.on < listed.size := by rw [inv.size, hsz]; omega
        refine hΦ e.on (by omega) ?_ (fun k hk => ?_)
        · simp [h4] at h3 ⊢; exact h3
        · rcases h6 with h6 | h6
          · rw [h6] at hk; cases hk
          · rw [h6] at hk; cases hk
            exact getD_both hun
      have hst := hstep.at i o ho' (fun i => vs.getD i undef) w' hR hdep
      rw [Nat.zero_add, ← hput vs hv] at hst
      have next : ∀ u w'', StepV Φ cons l w i w' w'' → Φ i (fun j => if j = i then u else vs.getD j undef) w'' → wpAny P .any l.toArray Q (m + (l.length - n)) (listed.setIfInBounds i true) ((putAll a (l.take n) vs).put o.dst u) w'' := by
        intro v w'' hW hv'
        rw [putAll_set (l.take n) vs a i o v hdst ho' (by rw [hv, htl])]
        refine ih _ _ _ (inv.set hi hin) (by have := unl_set listed i hun n hin; omega) (by simp [hv]) (by rcases hW with h | h; exact hR.trans h; exact h.1) (fun j hj hl hcs => ?_)
        have hget : ∀ j, (vs.set i v).getD j undef = if j = i then v else vs.getD j undef := fun j => by
          rw [List.getD_eq_getElem?_getD, List.getD_eq_getElem?_getD]
          by_cases he : j = i
          · subst he; rw [List.getElem?_set_self (by omega), if_pos rfl]; rfl
          · rw [List.getElem?_set_ne (Ne.symm he), if_neg he]
        by_cases e : i = j
        · subst e
          exact hc _ _ _ _ (fun q _ => (hget q).symm) hv'
        · rw [getD_set_ne true e] at hl
          have hnr : ∀ q, (q = j ∨ reachB l.toArray l.length j q = true) → q ≠ i := fun q hq he => by
            subst he
            rcases hq with hq | hq
            · exact e hq
            · have h4 : j < listed.size := by rw [inv.size, hsz]; omega
              have h5 := reachB_listed inv _ j q hq (by simp [h4] at hl ⊢; exact hl)
              rw [getD_both hun] at h5; cases h5
          refine hc j (fun j => vs.getD j undef) _ _ (fun q hq => by rw [hget q, if_neg (hnr q hq)]) ?_
          have hci : cons j ≠ some i := fun hq => by
            have := hcs i hq
            have h4 : i < listed.size := by rw [inv.size, hsz]; exact hilt
            simp [h4] at this
          have hold := hΦ j hj hl (fun k hk => by
            have h1 := hcs k hk
            by_cases hik : i = k
            · subst hik; exact getD_both hun
            · rwa [getD_set_ne false hik] at h1)
          rcases hW with h | h
          · exact hs _ _ _ _ h hold
          · refine h.2 _ _ (Ne.symm e) hci ?_ (fun k hk => ?_) hold
            rotate_left
            · cases hq : reachB l.toArray l.length i k with
              | false => rfl
              | true =>
                have h5 := reachB_ready inv hi hq
                have h6 := hcs k hk
                have hik : i ≠ k := fun he => hci (he ▸ hk)
                rw [getD_set_ne false hik, h5] at h6; cases h6
            cases hq : reachB l.toArray l.length j i with
            | false => rfl
            | true =>
              have h4 : j < listed.size := by rw [inv.size, hsz]; omega
              have h5 := reachB_listed inv _ j i hq (by simp [h4] at hl ⊢; exact hl)
              rw [getD_both hun] at h5; cases h5
      unfold wpOp
      simp only [ho]
      by_cases hw : Region.wanted o (yielded l.toArray (putAll a (l.take n) vs).tmps) = true
      · rw [if_pos hw] at hst ⊢
        exact .inl (hst _ next)
      · rw [if_neg hw] at hst ⊢
        exact next undef w' (.inl (Ext.refl w')) hst
  obtain ⟨vs, hvl, hva⟩ := putAll_same (l.take n) a
  have inv0 : HeadInv .any l.toArray n (Array.replicate l.toArray.size false) :=
    ⟨by simp, fun j oj _ hl => (by rw [getD_replicate_false] at hl; cases hl), fun t _ ht => getD_in (by simpa using ht) (getD_replicate_false _ _)⟩
  have hu0 : ∀ k, k ≤ l.length → unl (Array.replicate l.toArray.size false) k = k := by
    intro k
    induction k with
    | zero => intro _; rfl
    | succ k ih =>
      intro hk
      rw [unl_succ, ih (by omega), if_pos (getD_in (by simp; omega) (getD_replicate_false _ _))]
  have H := main n (Array.replicate l.toArray.size false) vs w.drew inv0 (hu0 n hn) (by rw [hvl, htl]) (Ext.drew' w) (fun i hi h _ => by
    rw [getD_in (by simp; omega) (getD_replicate_false _ _)] at h; cases h)
  refine wp_region_any hm ?_
  rw [hva] at H
  have e : n + (l.length - n) = l.toArray.size := by rw [hsz]; omega
  rw [e] at H
  exact H
end

/-- S, and the new boxes of one type. -/
def Nx (T : TypeId) (S : Nat → Prop) (lo : Nat) (w : World) (k : Nat) : Prop := S k ∨ (lo ≤ k ∧ ∃ cs fr, w.heap[k]? = some (.cells cs T fr))
theorem heap_lt {w : World} {k : Nat} {o : Obj} (h : w.heap[k]? = some o) : k < w.heap.size := by
  rcases Nat.lt_or_ge k w.heap.size with h' | h'
  · exact h'
  · rw [Array.getElem?_eq_none h'] at h; cases h
theorem Nx.lt {T : TypeId} {S : Nat → Prop} {lo : Nat} {w : World} (hS : ∀ k, S k → k < w.heap.size) : ∀ k, Nx T S lo w k → k < w.heap.size := fun k hk => by
  rcases hk with h | ⟨_, cs, fr, h⟩
  · exact hS k h
  · exact heap_lt h
theorem Nx.more {T : TypeId} {S : Nat → Prop} {lo : Nat} {w w' : World} (hx : Ext w w') : ∀ k, Nx T S lo w' k → Nx T S lo w k ∨ w.heap.size ≤ k := fun k hk => by
  rcases hk with h | ⟨h0, cs, fr, h⟩
  · exact .inl (.inl h)
  · rcases Nat.lt_or_ge k w.heap.size with h' | h'
    · exact .inl (.inr ⟨h0, cs, fr, by rw [← Below.block hx k h']; exact h⟩)
    · exact .inr h'
theorem Nx.open {T : TypeId} {S : Nat → Prop} {lo : Nat} {w : World} (hlo : w.heap.size ≤ lo) : ∀ k, Nx T S lo w k → S k ∨ w.heap.size ≤ k := fun _ hk => hk.imp id (fun h => Nat.le_trans hlo h.1)
theorem Nx.less {T : TypeId} {S : Nat → Prop} {lo : Nat} {w w0 : World} : ∀ k, S k → Nx T S lo w k ∨ w0.heap.size ≤ k := fun _ h => .inl (.inl h)
theorem sl_nx {T : TypeId} {α : Type} {size : Nat} {E : (Nat → Prop) → World → List Value → α → Prop} (hE : ET E) {S : Nat → Prop} {lo : Nat} {w w' : World} {v : Value} {xs : List α} (hx : Ext w w') (h : Sl size E (Nx T S lo w) w v xs) : Sl size E (Nx T S lo w') w' v xs :=
  (h.more hE (Nx.more hx)).keepM hE (hx.mem _)
theorem disk_nx {T : TypeId} {S : Nat → Prop} {lo : Nat} {w w' : World} {v : Value} {d : Dk} (hx : Ext w w') (h : Disk (Nx T S lo w) w v d) : Disk (Nx T S lo w') w' v d := (h.more (Nx.more hx)).keepM (hx.mem _)
/-- A store into a new box. -/
theorem Nx.only {T : TypeId} {S : Nat → Prop} {lo g : Nat} {w w' : World} (hg : lo ≤ g) (h1 : ∃ cs fr, w.heap[g]? = some (.cells cs T fr)) (ho : Only g w w') : ∀ k, Nx T S lo w' k → Nx T S lo w k ∨ w'.heap.size ≤ k := fun k hk => by
  rcases hk with h | ⟨h0, cs, fr, h⟩
  · exact .inl (.inl h)
  · by_cases e : k = g
    · subst e; exact .inl (.inr ⟨hg, h1⟩)
    · exact .inl (.inr ⟨h0, cs, fr, by rw [← ho.block k e]; exact h⟩)
theorem sl_nx_only {T : TypeId} {α : Type} {size : Nat} {E : (Nat → Prop) → World → List Value → α → Prop} (hE : ET E) {S : Nat → Prop} {lo g : Nat} {w w' : World} {v : Value} {xs : List α} (hg : lo ≤ g) (h1 : ∃ cs fr, w.heap[g]? = some (.cells cs T fr)) (ho : Only g w w') (h : Sl size E (Nx T S lo w) w v xs) : Sl size E (Nx T S lo w') w' v xs :=
  (h.keepM hE (ho.mem (.inr ⟨hg, h1⟩))).more hE (Nx.only hg h1 ho)
theorem disk_nx_only {T : TypeId} {S : Nat → Prop} {lo g : Nat} {w w' : World} {v : Value} {d : Dk} (hg : lo ≤ g) (h1 : ∃ cs fr, w.heap[g]? = some (.cells cs T fr)) (ho : Only g w w') (h : Disk (Nx T S lo w) w v d) : Disk (Nx T S lo w') w' v d :=
  (h.keepM (ho.mem (.inr ⟨hg, h1⟩))).more (Nx.only hg h1 ho)
/-- A box, with its type. -/
def BoxT (T : TypeId) (w : World) (g : Nat) (cs : List Value) : Prop := w.heap[g]? = some (.cells cs.toArray T (0, 0))
theorem BoxT.box {T : TypeId} {w : World} {g : Nat} {cs : List Value} (h : BoxT T w g cs) : Box w g cs := ⟨T, h⟩
theorem BoxT.keep {T : TypeId} {w w' : World} {g : Nat} {cs : List Value} (h : BoxT T w g cs) (hx : Ext w w') : BoxT T w' g cs := by
  unfold BoxT at *; rw [Below.block hx g (heap_lt h)]; exact h
theorem BoxT.ex {T : TypeId} {w : World} {g : Nat} {cs : List Value} (h : BoxT T w g cs) : ∃ cs fr, w.heap[g]? = some (.cells cs T fr) := ⟨_, _, h⟩
theorem BoxT.new (w : World) (cs : List Value) (T : TypeId) : BoxT T (w.alloc (.cells cs.toArray T)) w.heap.size cs := heap_alloc_new w _
theorem BoxT.set {T : TypeId} {w : World} {B : Nat} {cs : List Value} (h : BoxT T w B cs) (i : Nat) (u : Value) : BoxT T (w.setCell ⟨B, i, none⟩ u) B (cs.set i u) := by
  unfold BoxT at *; simp [World.setCell, Array.getElem?_modify, h]
end Go.Proofs.Ytpciankfpagnhaa
