/- A region that draws its order, by an invariant of what has been carried out, of the values and of the world. -/
import Derived.Test.YtpciankfpagnhaaM11
namespace Go.Proofs.Ytpciankfpagnhaa
open Go.RowKit

/-- What is asked of operation number i. -/
def IStep (P : Program) (Q : Exit → Act → World → Prop) (l : List Oper) (n : Nat) (a : Act) (I : (Nat → Bool) → (Nat → Value) → World → Prop) (i : Nat) (o : Oper) : Prop :=
  ∀ (v : Nat → Value) (w' : World) (L : Nat → Bool), L i = false → (∀ j, depB o j = true → L j = true) → (∀ j q, L j = true → reachB l.toArray l.length j q = true → L q = true) → (∀ q, reachB l.toArray l.length i q = true → L q = true) → I L v w' →
    if Region.wanted o (yielded l.toArray (putF a v 0 (l.take n)).tmps) = true then ∀ K : Act → World → Prop, (∀ u w'', I (fun j => if j = i then true else L j) (vput v i u) w'' → K ((putF a v 0 (l.take n)).put o.dst u) w'') → o.wp P (putF a v 0 (l.take n)) w' K Q else I (fun j => if j = i then true else L j) (vput v i undef) w'
def ISteps (P : Program) (Q : Exit → Act → World → Prop) (l : List Oper) (n : Nat) (a : Act) (I : (Nat → Bool) → (Nat → Value) → World → Prop) : Nat → List Oper → Prop
  | _, [] => True
  | k, o :: os => IStep P Q l n a I k o ∧ ISteps P Q l n a I (k + 1) os

section
variable {P : Program} {Q : Exit → Act → World → Prop}
theorem ISteps.at {l : List Oper} {n : Nat} {a : Act} {I : (Nat → Bool) → (Nat → Value) → World → Prop} : ∀ {os : List Oper} {k : Nat}, ISteps P Q l n a I k os → ∀ i o, os[i]? = some o → IStep P Q l n a I (k + i) o
  | [], _, _, i, o, h => by simp at h
  | p :: os, k, hs, 0, o, h => by simp at h; subst h; exact hs.1
  | p :: os, k, hs, i + 1, o, h => by
    simp at h
    have := hs.2.at i o h
    rwa [show k + 1 + i = k + (i + 1) by omega] at this
/-- A region, by an invariant; the operations from number n on come last, in their order. -/
theorem wp_region_inv {id : Nat} {a : Act} {w : World} {l : List Oper} (n : Nat) (hm : P.follows .mixedOrders = true) (hB : rgB l n (fun _ => none) = true) (I : (Nat → Bool) → (Nat → Value) → World → Prop)
    (h0 : ∀ v, I (fun _ => false) v w.drew) (hstep : ISteps P Q l n a I 0 (l.take n))
    (hend : ∀ (v : Nat → Value) w', I (fun j => decide (j < n)) v w' → wpList P l.toArray Q (l.drop n) (putF a v 0 (l.take n)) w') :
    (Code.region id l.toArray true).wp P Q a w := by
  simp only [rgB, Bool.and_eq_true, Bool.or_eq_true, decide_eq_true_eq] at hB
  obtain ⟨⟨⟨⟨⟨hn, htail⟩, hord⟩, hdst⟩, hseq⟩, -⟩ := hB
  have hsz : l.toArray.size = l.length := by simp
  have htl : (l.take n).length = n := by simp; omega
  have hdl : (l.drop n).length = l.length - n := by simp
  have hput : ∀ vs : List Value, vs.length = n → putAll a (l.take n) vs = putF a (fun i => vs.getD i undef) 0 (l.take n) := fun vs hv =>
    putF_eq _ _ _ _ _ (by rw [hv, htl]) (fun i _ => by rw [Nat.zero_add])
  have main : ∀ (m : Nat) (listed : Array Bool) (vs : List Value) (w' : World), HeadInv .any l.toArray n listed → unl listed n = m → vs.length = n →
      I (fun j => listed.getD j false) (fun j => vs.getD j undef) w' → wpAny P .any l.toArray Q (m + (l.length - n)) listed (putAll a (l.take n) vs) w' := by
    intro m
    induction m with
    | zero =>
      intro listed vs w' inv hu hv hΦ
      have hall := unl_zero hu
      have hlist : listed = Array.ofFn fun i : Fin l.toArray.size => decide (i.val < n) := by
        apply Array.ext
        · rw [inv.size]; simp
        · intro i h1 h2
          simp only [Array.getElem_ofFn]
          by_cases hi : i < n
          · have := hall i hi
            rw [Array.getD_eq_getD_getElem?, Array.getElem?_eq_getElem h1] at this
            simpa [hi] using this
          · have := inv.tail i (by omega) (by rw [← inv.size]; exact h1)
            rw [Array.getD_eq_getD_getElem?, Array.getElem?_eq_getElem h1] at this
            simpa [hi] using this
      rw [Nat.zero_add]
      have hL : (fun j => listed.getD j false) = fun j => decide (j < n) := funext fun j => by
        by_cases h3 : j < n
        · have h4 : j < listed.size := by rw [inv.size, hsz]; omega
          have h5 := hall j h3
          simp [h4, h3] at h5 ⊢; exact h5
        · simp only [h3, decide_false]
          rcases Nat.lt_or_ge j l.length with h4 | h4
          · exact getD_both (inv.tail j (by omega) (by rw [hsz]; exact h4))
          · have h5 : listed.size ≤ j := by rw [inv.size, hsz]; exact h4
            simp [h5]
      rw [hL] at hΦ
      have hE := hend (fun i => vs.getD i undef) w' hΦ
      rw [← hput vs hv] at hE
      have := wpAny_of_seq (md := .any) (P := P) (ops := l.toArray) (Q' := Q) (l.drop n) n listed (putAll a (l.take n) vs) w' (fun j => by simp [List.getElem?_drop]) (by rw [hdl, hlist]; exact hseq) hE
      rwa [hdl] at this
    | succ m ih =>
      intro listed vs w' inv hu hv hΦ
      obtain ⟨i0, hi0, hun0, hbelow⟩ := unl_pos (listed := listed) (n := n) (by omega)
      have hready0 : i0 ∈ Region.ready .any l.toArray listed := by
        have hlt : i0 < l.toArray.size := by rw [hsz]; omega
        refine mem_ready.2 ⟨hun0, l.toArray[i0], Array.getElem?_eq_getElem hlt, fun e he hb => ?_⟩
        have h1 := List.all_eq_true.1 hord i0 (List.mem_range.2 hlt)
        rw [Array.getElem?_eq_getElem hlt] at h1
        have h2 := Array.all_eq_true_iff_forall_mem.1 h1 e he
        simp [hb] at h2
        have h3 := hbelow e.on h2
        have h4 : e.on < listed.size := by rw [inv.size]; omega
        simp [h4] at h3 ⊢; exact h3
      rw [show m + 1 + (l.length - n) = (m + (l.length - n)) + 1 by omega]
      refine ⟨fun h => (by rw [h] at hready0; cases hready0), fun i hi => ?_⟩
      obtain ⟨hun, o, ho, hall⟩ := mem_ready.1 hi
      have hilt : i < l.length := by have := (Array.getElem?_eq_some_iff.1 ho).1; rwa [hsz] at this
      have hin : i < n := by
        rcases Nat.lt_or_ge i n with h | h
        · exact h
        · exfalso
          rcases htail with h' | ⟨hsk, hch⟩
          · omega
          · exact tail_waits hsk hch (by rw [hsz]; omega) inv (n - i0) i0 rfl hi0 hun0 i h hi
      have ho' : (l.take n)[i]? = some o := by
        rw [List.getElem?_take, if_pos hin]
        simpa using ho
      have hst0 := hstep.at i o ho'
      rw [Nat.zero_add] at hst0
      have hst := hst0 (fun i => vs.getD i undef) w' (fun j => listed.getD j false) (getD_both hun) (fun j hj => by
        obtain ⟨e, he, hb⟩ := Array.any_eq_true'.1 hj
        simp only [Bool.and_eq_true, beq_iff_eq] at hb
        obtain ⟨hb, rfl⟩ := hb
        exact hall e he hb) (fun j q hj hq => reachB_listed inv _ j q hq hj) (fun q hq => reachB_ready inv hi hq) hΦ
      rw [← hput vs hv] at hst
      have hset : ∀ j, (listed.setIfInBounds i true).getD j false = if j = i then true else listed.getD j false := fun j => by
        by_cases he : j = i
        · subst he
          have h4 : j < listed.size := by rw [inv.size, hsz]; exact hilt
          simp [h4]
        · rw [getD_set_ne false (Ne.symm he), if_neg he]
      have hsetf : (fun j => (listed.setIfInBounds i true).getD j false) = fun j => if j = i then true else listed.getD j false := funext hset
      have next : ∀ u w'', I (fun j => if j = i then true else listed.getD j false) (vput (fun j => vs.getD j undef) i u) w'' → wpAny P .any l.toArray Q (m + (l.length - n)) (listed.setIfInBounds i true) ((putAll a (l.take n) vs).put o.dst u) w'' := by
        intro v w'' hI
        rw [putAll_set (l.take n) vs a i o v hdst ho' (by rw [hv, htl])]
        have hget : (fun j => (vs.set i v).getD j undef) = vput (fun j => vs.getD j undef) i v := funext fun j => by
          unfold vput
          simp only
          rw [List.getD_eq_getElem?_getD, List.getD_eq_getElem?_getD]
          by_cases he : j = i
          · subst he; rw [List.getElem?_set_self (by omega), if_pos rfl]; rfl
          · rw [List.getElem?_set_ne (Ne.symm he), if_neg he]
        refine ih _ _ _ (inv.set hi hin) (by have := unl_set listed i hun n hin; omega) (by simp [hv]) ?_
        rw [hget, hsetf]
        exact hI
      unfold wpOp
      simp only [ho]
      by_cases hw : Region.wanted o (yielded l.toArray (putAll a (l.take n) vs).tmps) = true
      · rw [if_pos hw] at hst ⊢
        exact .inl (hst _ next)
      · rw [if_neg hw] at hst ⊢
        exact next undef w' hst
  obtain ⟨vs, hvl, hva⟩ := putAll_same (l.take n) a
  have inv0 : HeadInv .any l.toArray n (Array.replicate l.toArray.size false) :=
    ⟨by simp, fun j oj _ hl => (by rw [getD_replicate_false] at hl; cases hl), fun t _ ht => getD_in (by simpa using ht) (getD_replicate_false _ _)⟩
  have hu0 : ∀ k, k ≤ l.length → unl (Array.replicate l.toArray.size false) k = k := by
    intro k
    induction k with
    | zero => intro _; rfl
    | succ k ih =>
      intro hk
      rw [unl_succ, ih (by omega), if_pos (getD_in (by simp; omega) (getD_replicate_false _ _))]
  have hf : (fun j => (Array.replicate l.toArray.size false).getD j false) = fun _ => false := funext fun j => getD_replicate_false _ _
  have H := main n (Array.replicate l.toArray.size false) vs w.drew inv0 (hu0 n hn) (by rw [hvl, htl]) (by rw [hf]; exact h0 _)
  refine wp_region_any hm ?_
  rw [hva] at H
  have e : n + (l.length - n) = l.toArray.size := by rw [hsz]; omega
  rw [e] at H
  exact H
end

end Go.Proofs.Ytpciankfpagnhaa
