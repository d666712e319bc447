/- What disk.perform does. -/
import Derived.Test.YtpciankfpagnhaaD4
import Derived.Test.YtpciankfpagnhaaM2
namespace Go.Proofs.Ytpciankfpagnhaa
open Go.RowKit

/-- The sectors after some writes. -/
def perfL (ss : List (List UInt8)) (l : List Wr) : List (List UInt8) := l.foldl (fun s x => s.set x.at_.toNat x.data) ss
theorem perfL_length (l : List Wr) : ∀ ss, (perfL ss l).length = ss.length := by
  induction l with
  | nil => intro ss; rfl
  | cons x l ih => intro ss; show (perfL (ss.set x.at_.toNat x.data) l).length = _; rw [ih]; simp
theorem perfL_snoc (ss : List (List UInt8)) (l : List Wr) (x : Wr) : perfL ss (l ++ [x]) = (perfL ss l).set x.at_.toNat x.data := by
  unfold perfL; rw [List.foldl_append]; rfl
theorem take_snoc' {α : Type} (l : List α) (k : Nat) (h : k < l.length) : l.take (k + 1) = l.take k ++ [l[k]] := by
  rw [List.take_succ_eq_append_getElem h]

set_option maxHeartbeats 1000000 in
theorem perform_ok {S : Nat → Prop} (w : World) (v v2 : Value) (ss : List (List UInt8)) (l : List Wr) (h : Bss S w v ss) (h2 : Wrs S w v2 l) (hS : ∀ k, S k → k < w.heap.size)
    (hl : ss.length ≤ 1000000) (hat : ∀ x ∈ l, 0 ≤ x.at_ ∧ x.at_ < ss.length) :
    Calls Try.prog 62 #[v, v2] w (OSlRet 35 1 eBs S w (perfL ss l)) := by
  obtain ⟨a, c, rfl, hc, hm⟩ := h.open
  obtain ⟨a2, c2, rfl, hc2, hm2⟩ := h2.open
  have H := Lib.hid h; clear h
  have H2 := Lib.hid h2; clear h2
  have HS := Lib.hid hS; clear hS
  have HA := Lib.hid hat; clear hat
  go_enter Try.func62, Try.ntmps62
  go_wp2_with fail
  refine (cloneS_ok _ _ ss H.out hl HS.out).mono ?_
  rintro e w1 ⟨v1, rfl, ho1, hx1⟩
  go_wp2_with fail
  go_loopw [12] (fun i wr => ∃ k : Nat, k ≤ l.length ∧ i = .int .i64 k ∧ Ext w wr ∧ OSl w.heap.size 35 1 eBs S wr v1 (perfL ss (l.take k))) (fun i _ => l.length - (intOf i).toNat)
  case atStart => exact ⟨0, Nat.zero_le _, rfl, hx1, ho1⟩
  case round =>
    obtain ⟨k, hk, rfl, hx, ho⟩ := hrel
    by_cases hlt : k < l.length
    · obtain ⟨b, o, vd, rfl, hb, x0, x1, hv⟩ := (Wrs.keep H2.out hx).elem hlt
      obtain ⟨a3, c3, rfl, hc3, hm3⟩ := hv.open
      have hts := perfL_snoc ss (l.take k) l[k]
      rw [← take_snoc' l k hlt] at hts
      have hat := HA.out l[k] (List.getElem_mem hlt)
      have hpl := perfL_length (l.take k) ss
      have hv0 : Bs S w (.slice a3 l[k].data.length c3) l[k].data := by
        obtain ⟨b', o', vd', e', _, x0', x1', hv'⟩ := H2.out.elem hlt
        cases e'
        have := hx.cell x1'
        rw [x1] at this; cases this
        exact hv'
      have hw : Bs (Wo S v1) wr (.slice a3 l[k].data.length c3) l[k].data := (hv0.more etByte (fun q hq => hq.imp id (fun e => (ho.block q e).1))).keepM etByte (hx.mem _)
      clear hv hv0
      generalize l[k] = x at *
      obtain ⟨at_, data⟩ := x
      simp only at *
      obtain ⟨n, rfl⟩ := Int.eq_ofNat_of_zero_le hat.1
      have hn : n < (perfL ss (l.take k)).length := by rw [hpl]; omega
      have ho' := ho.keep etBs ((Ext.refl wr).alloc (.cells #[.int .i64 (n : Int), .slice a3 data.length c3] 76))
      obtain ⟨g, cg, u0, rfl, hg1, hg2, hg3, hgc, hgf, ho2⟩ := ho'.store1 etBs hn (.slice a3 data.length c3) data ⟨_, rfl, hw.keep ((Ext.refl wr).alloc _)⟩
      have HO := Lib.hid ho2; clear ho2 ho ho' hw
      have HT := Lib.hid hts; clear hts
      have hx' := (hx.alloc (.cells #[.int .i64 (n : Int), .slice a3 data.length c3] 76)).setCell (p := ⟨g, n, none⟩) hg1 (.slice a3 data.length c3)
      have HX := Lib.hid hx'; clear hx'
      have HP := Lib.hid hpl; clear hpl
      have hnl : (n : Int) < (ss.length : Int) := hat.2
      have hpl' : ((perfL ss (l.take k)).length : Int) = ss.length := by rw [HP.out]
      have hgz : g < wr.heap.size + 1 := by simpa using hg2
      clear hat hn hg2
      go_wp2_with fail
      go_roundw
      case rel => exact ⟨k + 1, by omega, by go_num, HX.out, by rw [HT.out, Int.toNat_natCast]; exact HO.out⟩
      case measure => simp [intOf]; omega
    · obtain rfl : k = l.length := by omega
      rw [List.take_length] at ho
      have HO := Lib.hid ho; clear ho
      go_wp2_with fail
      go_ret
      exact ⟨_, rfl, HO.out, hx⟩
end Go.Proofs.Ytpciankfpagnhaa
