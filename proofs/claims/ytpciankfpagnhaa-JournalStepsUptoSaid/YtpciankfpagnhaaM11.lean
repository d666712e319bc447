/- A region that draws its order, by facts: each says which operations must have been carried out for it to hold, and which not yet. -/
import Derived.Test.YtpciankfpagnhaaM10
namespace Go.Proofs.Ytpciankfpagnhaa
open Go.RowKit

/-- What holds once the operations of 'need' have been carried out, and while those of 'nots' have not. -/
structure Fact where
  need : List Nat
  nots : List Nat
  pred : (Nat → Value) → World → Prop
def Fact.ok (f : Fact) (L : Nat → Bool) (v : Nat → Value) (w : World) : Prop := (∀ j ∈ f.need, L j = true) → (∀ j ∈ f.nots, L j = false) → f.pred v w
/-- The values, with one put in. -/
def vput (v : Nat → Value) (i : Nat) (u : Value) (j : Nat) : Value := if j = i then u else v j
/-- How a step may change the world: new memory alone; or else all facts that do not speak of it are kept. -/
def FKeep (F : List Fact) (L : Nat → Bool) (wb : World) (i : Nat) (v : Nat → Value) (w' w'' : World) : Prop :=
  Ext w' w'' ∨ (Ext wb w'' ∧ ∀ f ∈ F, i ∉ f.need → i ∉ f.nots → (∀ j ∈ f.need, L j = true) → (∀ j ∈ f.nots, L j = false) → f.pred v w' → f.pred v w'')
/-- The facts that become due. -/
def FNew (F : List Fact) (L : Nat → Bool) (i : Nat) (v : Nat → Value) (w : World) : Prop :=
  ∀ f ∈ F, i ∈ f.need → (∀ j ∈ f.need, j ≠ i → L j = true) → (∀ j ∈ f.nots, j ≠ i ∧ L j = false) → f.pred v w
/-- What is asked of operation number i. -/
def FStep (P : Program) (Q : Exit → Act → World → Prop) (l : List Oper) (n : Nat) (a : Act) (wb : World) (F : List Fact) (i : Nat) (o : Oper) : Prop :=
  ∀ (v : Nat → Value) (w' : World) (L : Nat → Bool), Ext wb w' → L i = false → (∀ j, depB o j = true → L j = true) → (∀ j q, L j = true → reachB l.toArray l.length j q = true → L q = true) → (∀ q, reachB l.toArray l.length i q = true → L q = true) → (∀ f ∈ F, f.ok L v w') →
    if Region.wanted o (yielded l.toArray (putF a v 0 (l.take n)).tmps) = true then ∀ K : Act → World → Prop, (∀ u w'', FKeep F L wb i v w' w'' → FNew F L i (vput v i u) w'' → K ((putF a v 0 (l.take n)).put o.dst u) w'') → o.wp P (putF a v 0 (l.take n)) w' K Q else FNew F L i (vput v i undef) w'
def FSteps (P : Program) (Q : Exit → Act → World → Prop) (l : List Oper) (n : Nat) (a : Act) (wb : World) (F : List Fact) : Nat → List Oper → Prop
  | _, [] => True
  | k, o :: os => FStep P Q l n a wb F k o ∧ FSteps P Q l n a wb F (k + 1) os

section
variable {P : Program} {Q : Exit → Act → World → Prop}
theorem FSteps.at {l : List Oper} {n : Nat} {a : Act} {wb : World} {F : List Fact} : ∀ {os : List Oper} {k : Nat}, FSteps P Q l n a wb F k os → ∀ i o, os[i]? = some o → FStep P Q l n a wb F (k + i) o
  | [], _, _, i, o, h => by simp at h
  | p :: os, k, hs, 0, o, h => by simp at h; subst h; exact hs.1
  | p :: os, k, hs, i + 1, o, h => by
    simp at h
    have := hs.2.at i o h
    rwa [show k + 1 + i = k + (i + 1) by omega] at this
/-- A region, by facts; the operations from number n on come last, in their order. -/
theorem wp_region_facts {id : Nat} {a : Act} {w : World} {l : List Oper} (n : Nat) (hm : P.follows .mixedOrders = true) (hB : rgB l n (fun _ => none) = true) (F : List Fact)
    (hs : ∀ f ∈ F, ∀ v w w', Ext w w' → f.pred v w → f.pred v w') (hc : ∀ f ∈ F, ∀ v v' w, (∀ j ∈ f.need, v j = v' j) → f.pred v w → f.pred v' w) (hne : ∀ f ∈ F, f.need ≠ [])
    (hstep : FSteps P Q l n a w F 0 (l.take n))
    (hend : ∀ (v : Nat → Value) w', Ext w w' → (∀ f ∈ F, (∀ j ∈ f.need, j < n) → (∀ j ∈ f.nots, n ≤ j) → f.pred v w') → wpList P l.toArray Q (l.drop n) (putF a v 0 (l.take n)) w') :
    (Code.region id l.toArray true).wp P Q a w := by
  simp only [rgB, Bool.and_eq_true, Bool.or_eq_true, decide_eq_true_eq] at hB
  obtain ⟨⟨⟨⟨⟨hn, htail⟩, hord⟩, hdst⟩, hseq⟩, -⟩ := hB
  have hsz : l.toArray.size = l.length := by simp
  have htl : (l.take n).length = n := by simp; omega
  have hdl : (l.drop n).length = l.length - n := by simp
  have hput : ∀ vs : List Value, vs.length = n → putAll a (l.take n) vs = putF a (fun i => vs.getD i undef) 0 (l.take n) := fun vs hv =>
    putF_eq _ _ _ _ _ (by rw [hv, htl]) (fun i _ => by rw [Nat.zero_add])
  have main : ∀ (m : Nat) (listed : Array Bool) (vs : List Value) (w' : World), HeadInv .any l.toArray n listed → unl listed n = m → vs.length = n → Ext w w' →
      (∀ f ∈ F, f.ok (fun j => listed.getD j false) (fun j => vs.getD j undef) w') → wpAny P .any l.toArray Q (m + (l.length - n)) listed (putAll a (l.take n) vs) w' := by
    intro m
    induction m with
    | zero =>
      intro listed vs w' inv hu hv hR hΦ
      have hall := unl_zero hu
      have hlist : listed = Array.ofFn fun i : Fin l.toArray.size => decide (i.val < n) := by
        apply Array.ext
        · rw [inv.size]; simp
        · intro i h1 h2
          simp only [Array.getElem_ofFn]
          by_cases hi : i < n
          · have := hall i hi
            rw [Array.getD_eq_getD_getElem?, Array.getElem?_eq_getElem h1] at this
            simpa [hi] using this
          · have := inv.tail i (by omega) (by rw [← inv.size]; exact h1)
            rw [Array.getD_eq_getD_getElem?, Array.getElem?_eq_getElem h1] at this
            simpa [hi] using this
      rw [Nat.zero_add]
      have hE := hend (fun i => vs.getD i undef) w' hR (fun f hf h1 h2 => hΦ f hf (fun j hj => by
          have h3 := h1 j hj
          have h4 : j < listed.size := by rw [inv.size, hsz]; omega
          have h5 := hall j h3
          simp only at h5 ⊢
          simp [h4] at h5 ⊢; exact h5) (fun j hj => by
          have h3 := h2 j hj
          rcases Nat.lt_or_ge j l.length with h4 | h4
          · exact getD_both (inv.tail j h3 (by rw [hsz]; exact h4))
          · have h5 : listed.size ≤ j := by rw [inv.size, hsz]; exact h4
            simp [h5]))
      rw [← hput vs hv] at hE
      have := wpAny_of_seq (md := .any) (P := P) (ops := l.toArray) (Q' := Q) (l.drop n) n listed (putAll a (l.take n) vs) w' (fun j => by simp [List.getElem?_drop]) (by rw [hdl, hlist]; exact hseq) hE
      rwa [hdl] at this
    | succ m ih =>
      intro listed vs w' inv hu hv hR hΦ
      obtain ⟨i0, hi0, hun0, hbelow⟩ := unl_pos (listed := listed) (n := n) (by omega)
      have hready0 : i0 ∈ Region.ready .any l.toArray listed := by
        have hlt : i0 < l.toArray.size := by rw [hsz]; omega
        refine mem_ready.2 ⟨hun0, l.toArray[i0], Array.getElem?_eq_getElem hlt, fun e he hb => ?_⟩
        have h1 := List.all_eq_true.1 hord i0 (List.mem_range.2 hlt)
        rw [Array.getElem?_eq_getElem hlt] at h1
        have h2 := Array.all_eq_true_iff_forall_mem.1 h1 e he
        simp [hb] at h2
        have h3 := hbelow e.on h2
        have h4 : e.on < listed.size := by rw [inv.size]; omega
        simp [h4] at h3 ⊢; exact h3
      rw [show m + 1 + (l.length - n) = (m + (l.length - n)) + 1 by omega]
      refine ⟨fun h => (by rw [h] at hready0; cases hready0), fun i hi => ?_⟩
      obtain ⟨hun, o, ho, hall⟩ := mem_ready.1 hi
      have hilt : i < l.length := by have := (Array.getElem?_eq_some_iff.1 ho).1; rwa [hsz] at this
      have hin : i < n := by
        rcases Nat.lt_or_ge i n with h | h
        · exact h
        · exfalso
          rcases htail with h' | ⟨hsk, hch⟩
          · omega
          · exact tail_waits hsk hch (by rw [hsz]; omega) inv (n - i0) i0 rfl hi0 hun0 i h hi
      have ho' : (l.take n)[i]? = some o := by
        rw [List.getElem?_take, if_pos hin]
        simpa using ho
      have hst0 := hstep.at i o ho'
      rw [Nat.zero_add] at hst0
      have hst := hst0 (fun i => vs.getD i undef) w' (fun j => listed.getD j false) hR (getD_both hun) (fun j hj => by
        obtain ⟨e, he, hb⟩ := Array.any_eq_true'.1 hj
        simp only [Bool.and_eq_true, beq_iff_eq] at hb
        obtain ⟨hb, rfl⟩ := hb
        exact hall e he hb) (fun j q hj hq => reachB_listed inv _ j q hq hj) (fun q hq => reachB_ready inv hi hq) hΦ
      rw [← hput vs hv] at hst
      have hset : ∀ j, (listed.setIfInBounds i true).getD j false = if j = i then true else listed.getD j false := fun j => by
        by_cases he : j = i
        · subst he
          have h4 : j < listed.size := by rw [inv.size, hsz]; exact hilt
          simp [h4]
        · rw [getD_set_ne false (Ne.symm he), if_neg he]
      have next : ∀ u w'', FKeep F (fun j => listed.getD j false) w i (fun j => vs.getD j undef) w' w'' → FNew F (fun j => listed.getD j false) i (vput (fun j => vs.getD j undef) i u) w'' → wpAny P .any l.toArray Q (m + (l.length - n)) (listed.setIfInBounds i true) ((putAll a (l.take n) vs).put o.dst u) w'' := by
        intro v w'' hW hv'
        rw [putAll_set (l.take n) vs a i o v hdst ho' (by rw [hv, htl])]
        have hget : (fun j => (vs.set i v).getD j undef) = vput (fun j => vs.getD j undef) i v := funext fun j => by
          unfold vput
          simp only
          rw [List.getD_eq_getElem?_getD, List.getD_eq_getElem?_getD]
          by_cases he : j = i
          · subst he; rw [List.getElem?_set_self (by omega), if_pos rfl]; rfl
          · rw [List.getElem?_set_ne (Ne.symm he), if_neg he]
        refine ih _ _ _ (inv.set hi hin) (by have := unl_set listed i hun n hin; omega) (by simp [hv]) (by rcases hW with h | h; exact hR.trans h; exact h.1) (fun f hf h1 h2 => ?_)
        rw [hget]
        by_cases hif : i ∈ f.need
        · refine hv' f hf hif (fun j hj hji => ?_) (fun j hj => ?_)
          · have := h1 j hj
            simp only at this
            rwa [hset j, if_neg hji] at this
          · have := h2 j hj
            simp only at this
            rw [hset j] at this
            by_cases he : j = i
            · rw [if_pos he] at this; cases this
            · rw [if_neg he] at this; exact ⟨he, this⟩
        · have hnot : i ∉ f.nots := fun hq => by
            have := h2 i hq
            simp only at this
            rw [hset i, if_pos rfl] at this; cases this
          have hn1 : ∀ j ∈ f.need, listed.getD j false = true := fun j hj => by
            have := h1 j hj
            simp only at this
            have hji : j ≠ i := fun he => hif (he ▸ hj)
            rwa [hset j, if_neg hji] at this
          have hn2 : ∀ j ∈ f.nots, listed.getD j false = false := fun j hj => by
            have := h2 j hj
            simp only at this
            have hji : j ≠ i := fun he => hnot (he ▸ hj)
            rwa [hset j, if_neg hji] at this
          have hold := hΦ f hf hn1 hn2
          refine hc f hf _ _ _ (fun j hj => by
            have hji : j ≠ i := fun he => hif (he ▸ hj)
            unfold vput; rw [if_neg hji]) (?_ : f.pred (fun j => vs.getD j undef) w'')
          rcases hW with h | h
          · exact hs f hf _ _ _ h hold
          · exact h.2 f hf hif hnot hn1 hn2 hold
      unfold wpOp
      simp only [ho]
      by_cases hw : Region.wanted o (yielded l.toArray (putAll a (l.take n) vs).tmps) = true
      · rw [if_pos hw] at hst ⊢
        exact .inl (hst _ next)
      · rw [if_neg hw] at hst ⊢
        exact next undef w' (.inl (Ext.refl w')) hst
  obtain ⟨vs, hvl, hva⟩ := putAll_same (l.take n) a
  have inv0 : HeadInv .any l.toArray n (Array.replicate l.toArray.size false) :=
    ⟨by simp, fun j oj _ hl => (by rw [getD_replicate_false] at hl; cases hl), fun t _ ht => getD_in (by simpa using ht) (getD_replicate_false _ _)⟩
  have hu0 : ∀ k, k ≤ l.length → unl (Array.replicate l.toArray.size false) k = k := by
    intro k
    induction k with
    | zero => intro _; rfl
    | succ k ih =>
      intro hk
      rw [unl_succ, ih (by omega), if_pos (getD_in (by simp; omega) (getD_replicate_false _ _))]
  have H := main n (Array.replicate l.toArray.size false) vs w.drew inv0 (hu0 n hn) (by rw [hvl, htl]) (Ext.drew' w) (fun f hf h1 _ => by
    obtain ⟨j, hj⟩ := List.exists_mem_of_ne_nil _ (hne f hf)
    have := h1 j hj
    simp only at this
    rw [getD_replicate_false] at this; cases this)
  refine wp_region_any hm ?_
  rw [hva] at H
  have e : n + (l.length - n) = l.toArray.size := by rw [hsz]; omega
  rw [e] at H
  exact H
end

/-- A fact that a value is known. -/
theorem fact_eq_c (i : Nat) (u : Value) (nots : List Nat) : ∀ v v' w, (∀ j ∈ (Fact.mk [i] nots (fun v _ => v i = u)).need, v j = v' j) → (Fact.mk [i] nots (fun v _ => v i = u)).pred v w → (Fact.mk [i] nots (fun v _ => v i = u)).pred v' w :=
  fun v v' _ h hp => by have := h i (List.mem_singleton.2 rfl); simp only at hp ⊢; rw [← this]; exact hp
end Go.Proofs.Ytpciankfpagnhaa
