/- How a script of writings is held; and what holds while a writing's records are appended. -/
import Derived.Test.YtpciankfpagnhaaJ33
import Derived.Test.YtpciankfpagnhaaJ37
import Derived.Test.YtpciankfpagnhaaJ25
import Derived.Test.YtpciankfpagnhaaJ28
namespace Go.Proofs.Ytpciankfpagnhaa
open Go.RowKit

/-- A writing during which the disk may stop. -/
structure Cr where
  records : List (List UInt8)
  stop : Bool
  left : UInt8
def eCr (S : Nat → Prop) (w : World) (cs : List Value) (x : Cr) : Prop := ∃ v, cs = [v, .bool x.stop, .int .u8 (x.left.toNat : Int)] ∧ Bss S w v x.records
theorem etCr : ET eCr := ⟨fun _ _ _ _ _ hx ⟨v, h1, h2⟩ => ⟨v, h1, h2.keepM etBs hx⟩, fun _ _ _ _ _ hS ⟨v, h1, h2⟩ => ⟨v, h1, h2.more etBs hS⟩, fun _ _ cs x ⟨v, h, hv⟩ u hu => by
  subst h; simp at hu; rcases hu with rfl | rfl | rfl; exact hv.oneCell; rfl; rfl⟩
abbrev Crs (S : Nat → Prop) (w : World) (v : Value) (l : List Cr) : Prop := Sl 3 eCr S w v l
theorem Crs.elem {S : Nat → Prop} {w : World} {a : Option Addr} {n c : Nat} {xs : List Cr} (h : Crs S w (.slice a n c) xs) {k : Nat} (hk : k < xs.length) :
    ∃ b o vd, a = some ⟨b, o, none⟩ ∧ (b < w.heap.size ∧ ¬ S b) ∧ w.cell? ⟨b, o + k * 3, none⟩ = some vd ∧ w.cell? ⟨b, o + k * 3 + 1, none⟩ = some (.bool xs[k].stop) ∧ w.cell? ⟨b, o + k * 3 + 2, none⟩ = some (.int .u8 (xs[k].left.toNat : Int)) ∧ Bss S w vd xs[k].records := by
  obtain ⟨a', c', cells, e, _, _, _, h4, h5⟩ := h
  cases e
  rcases h5 with rfl | ⟨b, o, rfl, hb, h5⟩
  · simp at hk
  · obtain ⟨vd, hd, hv⟩ := h4 k _ (List.getElem?_eq_getElem hk)
    obtain ⟨q0, q1, q2⟩ := take3 hd
    exact ⟨b, o, vd, rfl, hb, h5 _ _ q0, by simpa [Nat.add_assoc] using h5 _ _ q1, by simpa [Nat.add_assoc] using h5 _ _ q2, hv⟩
theorem Mem.mono {S S' : Nat → Prop} {w w' : World} (h : Mem S w w') (hS : ∀ k, S k → S' k) : Mem S' w w' := ⟨h.size, fun k hk hn => h.block k hk fun q => hn (hS k q)⟩
/-- The boxes that a round writes. -/
def Tri (g5 g9 g10 k : Nat) : Prop := k = g5 ∨ k = g9 ∨ k = g10

/-- What holds while the records of a writing are appended: wb is the world before. -/
def RInv (S : Nat → Prop) (w wb : World) (g10 : Nat) (j : Jn) (rs : List (List UInt8)) (iv : Value) (wq : World) : Prop :=
  ∃ (i : Nat) (a : Option Addr) (c : Nat), i ≤ rs.length ∧ iv = .int .i64 (i : Int) ∧ Ext w wq ∧ Mem (fun k => k = g10) wb wq ∧
    Box wq g10 [.slice a (addJ j (rs.take i)).records.length c, .int .i64 (addJ j (rs.take i)).many, .int .i64 (addJ j (rs.take i)).synced] ∧
    Journal S wq (.agg #[.slice a (addJ j (rs.take i)).records.length c, .int .i64 (addJ j (rs.take i)).many, .int .i64 (addJ j (rs.take i)).synced]) (addJ j (rs.take i))
theorem RInv.mk' {S : Nat → Prop} {w wb : World} {g10 : Nat} {j y : Jn} {rs : List (List UInt8)} {wq : World} {i c : Nat} {a : Option Addr} (hi : i < rs.length) (hx : addJ j (rs.take (i + 1)) = y) (hE : Ext w wq)
    (hm : Mem (fun k => k = g10) wb wq) (hb2 : Box wq g10 [.slice a y.records.length c, .int .i64 y.many, .int .i64 y.synced])
    (hJ : Journal S wq (.agg #[.slice a y.records.length c, .int .i64 y.many, .int .i64 y.synced]) y) : RInv S w wb g10 j rs (.int .i64 ((i : Int) + 1)) wq := by
  subst hx
  have e : (i : Int) + 1 = ((i + 1 : Nat) : Int) := by rw [Int.natCast_add]; rfl
  rw [e]
  exact ⟨i + 1, a, c, hi, rfl, hE, hm, hb2, hJ⟩
end Go.Proofs.Ytpciankfpagnhaa
