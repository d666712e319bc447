/- What holds in the loop over a record's pieces, in the reference's Sync. -/
import Derived.Test.YtpciankfpagnhaaJ20a
import Derived.Test.YtpciankfpagnhaaJ25
import Derived.Test.YtpciankfpagnhaaJ26
import Derived.Test.YtpciankfpagnhaaD25
namespace Go.Proofs.Ytpciankfpagnhaa
open Go.RowKit

def QInv (S : Nat → Prop) (w : World) (g2 g3 g4 g5 : Nat) (JV : List Value) (d : Dk) (g at0 n : Nat) (b : List UInt8) (T : Nat → List Wr) (W0 : List Wr) (av kv : Value) (wq : World) : Prop :=
  ∃ (k at1 : Nat) (p1 : List Wr), kv = .int .i64 (k : Int) ∧ av = .int .i64 (at1 : Int) ∧ k ≤ n ∧ at1 = at0 + p1.length ∧
    p1 ++ (recSects g at1 (decide (k = 0)) (n - k) (b.drop (k * 112)) ++ T (at1 + (n - k))) = W0 ∧ SInv S w g2 g3 g4 g5 JV d p1 wq
theorem QInv.split {g at1 n k : Nat} {b : List UInt8} {p1 W0 : List Wr} {T : Nat → List Wr} (hk : k < n)
    (h : p1 ++ (recSects g at1 (decide (k = 0)) (n - k) (b.drop (k * 112)) ++ T (at1 + (n - k))) = W0) :
    p1 ++ (⟨at1, sect g at1 (kindOf (decide (k = 0)) (decide (k + 1 = n))) ((b.drop (k * 112)).take 112)⟩ :: (recSects g (at1 + 1) false (n - (k + 1)) (b.drop ((k + 1) * 112)) ++ T (at1 + 1 + (n - (k + 1))))) = W0 := by
  obtain ⟨m, hm⟩ : ∃ m, n - k = m + 1 := ⟨n - k - 1, by omega⟩
  rw [hm, recSects] at h
  have e1 : n - (k + 1) = m := by omega
  have e2 : decide (k + 1 = n) = (m == 0) := by rw [Bool.eq_iff_iff]; simp; omega
  rw [e1, e2, ← h, List.drop_drop, show (k + 1) * 112 = k * 112 + 112 by omega, show at1 + 1 + m = at1 + (m + 1) by omega]
  rfl
theorem QInv.step {S : Nat → Prop} {w : World} {g2 g3 g4 g5 : Nat} {JV : List Value} {d : Dk} {g at0 n : Nat} {b : List UInt8} {T : Nat → List Wr} {W0 : List Wr} {wy : World} {k at1 : Nat} {p1 : List Wr}
    (hk : k < n) (hat : at1 = at0 + p1.length)
    (hp : p1 ++ (⟨at1, sect g at1 (kindOf (decide (k = 0)) (decide (k + 1 = n))) ((b.drop (k * 112)).take 112)⟩ :: (recSects g (at1 + 1) false (n - (k + 1)) (b.drop ((k + 1) * 112)) ++ T (at1 + 1 + (n - (k + 1))))) = W0)
    (hI : SInv S w g2 g3 g4 g5 JV d (p1 ++ [⟨at1, sect g at1 (kindOf (decide (k = 0)) (decide (k + 1 = n))) ((b.drop (k * 112)).take 112)⟩]) wy) :
    QInv S w g2 g3 g4 g5 JV d g at0 n b T W0 (.int .i64 ((at1 : Int) + 1)) (.int .i64 ((k : Int) + 1)) wy := by
  have e1 : (at1 : Int) + 1 = ((at1 + 1 : Nat) : Int) := by rw [Int.natCast_add]; rfl
  have e2 : (k : Int) + 1 = ((k + 1 : Nat) : Int) := by rw [Int.natCast_add]; rfl
  have e3 : ∀ x : Wr, at1 + 1 = at0 + (p1 ++ [x]).length := fun x => by rw [hat]; simp; omega
  rw [e1, e2]
  refine ⟨k + 1, at1 + 1, _, rfl, rfl, hk, e3 _, ?_, hI⟩
  rw [← hp]
  simp
theorem QInv.less {n k : Nat} (hk : k < n) : n - (intOf (.int .i64 ((k : Int) + 1))).toNat < n - (intOf (.int .i64 (k : Int))).toNat := by simp [intOf]; omega
end Go.Proofs.Ytpciankfpagnhaa

/- What Sync of the reference does. -/
namespace Go.Proofs.Ytpciankfpagnhaa
open Go.RowKit

set_option maxRecDepth 100000 in
set_option maxHeartbeats 8000000 in
theorem refJSync_ok {S : Nat → Prop} (w : World) (v vd : Value) (j : Jn) (d : Dk) (h : Journal S w v j) (hd : Disk S w vd d) (hl : ReachB j.records) (hnw : usedN j.records ≤ 4611686018427387904) (hS : ∀ k, S k → k < w.heap.size) :
    Calls Try.prog 48 #[v, vd] w (SyncErr S w (syncJ j d)) := by
  obtain ⟨aJ, cJ, rfl, hcJ, hmJ, hj1⟩ := h.open
  obtain ⟨a, c, a2, c2, rfl, hc, hm, hc2, hm2, hd1, hd2⟩ := hd.open
  have HJ := Lib.hid h; clear h
  have HJ1 := Lib.hid hj1; clear hj1
  have HD := Lib.hid hd; clear hd hd2
  have HD1 := Lib.hid hd1; clear hd1
  have HL := Lib.hid hl; clear hl
  have HNW := Lib.hid hnw; clear hnw
  have HS := Lib.hid hS; clear hS
  go_enter Try.func48, Try.ntmps48
  go_wp2_with fail
  refine (refCheckJ_ok _ _ j (HJ.out.keep ((((Ext.refl _).alloc _).alloc _).alloc _ |>.alloc _)) HL.out).mono ?_
  rintro e w1 ⟨rfl, hx⟩
  have hE := ((((Ext.refl w).alloc _).alloc _).alloc _ |>.alloc _).trans hx
  have B2 := Lib.hid ((((Box.new w _ _).past _).past _).past _ |>.keep hx)
  have B3 := Lib.hid (((Box.at (b := w.heap.size + 1) (by simp)).past _).past _ |>.keep hx)
  have B4 := Lib.hid ((Box.at (b := w.heap.size + 1 + 1) (by simp)).past _ |>.keep hx)
  have B5 := Lib.hid ((Box.at (b := w.heap.size + 1 + 1 + 1) (by simp)).keep hx)
  clear hx
  generalize hg3 : w.heap.size + 1 = g3 at *
  generalize hg4 : g3 + 1 = g4 at *
  generalize hg5 : g4 + 1 = g5 at *
  generalize hg2 : w.heap.size = g2 at *
  have l4 : w.heap.size ≤ g4 := by omega
  have l5 : w.heap.size ≤ g5 := by omega
  have l2 : w.heap.size ≤ g2 := by omega
  have l3 : w.heap.size ≤ g3 := by omega
  have HG := Lib.hid (show w.heap.size = g2 ∧ g2 + 1 = g3 ∧ g3 + 1 = g4 ∧ g4 + 1 = g5 from ⟨hg2, hg3, hg4, hg5⟩)
  have n45 : g4 ≠ g5 := by omega
  have n24 : g2 ≠ g4 := by omega
  have n25 : g2 ≠ g5 := by omega
  have n34 : g3 ≠ g4 := by omega
  have n35 : g3 ≠ g5 := by omega
  have n23 : g2 ≠ g3 := by omega
  clear hg2 hg3 hg4 hg5
  have hSw : ∀ k, S k → k < w.heap.size := fun k hk => by have h1 := HS.out k hk; have h2 := HG.out.1; omega
  clear HS
  have HS := Lib.hid hSw; clear hSw
  obtain ⟨c20, c21, c22, f20, f21, f22⟩ := B2.out.three
  obtain ⟨c30, c31, c32, c33, f30, f31, f32, f33⟩ := B3.out.four
  obtain ⟨c40, c41, c42, f40, f41, f42⟩ := B4.out.three
  obtain ⟨c50, c51, c52, c53, f50, f51, f52, f53⟩ := B5.out.four
  cases hok : okJ j
  · rw [chkJ_no hok]
    go_wp2_with fail
    generalize hWa : World.setCell (World.setCell (World.setCell w1 ⟨g4, 0, none⟩ _) ⟨g4, 1, none⟩ _) ⟨g4, 2, none⟩ _ = wa
    generalize hWb : World.setCell (World.setCell (World.setCell (World.setCell wa _ _) _ _) _ _) _ _ = wb
    obtain ⟨hba, hoa⟩ := box_set3 B4.out hWa
    obtain ⟨hbb, hob⟩ := box_set4 (hoa.box B5.out n45.symm) hWb
    have hEb := hob.ext (hoa.ext hE l4) l5
    obtain ⟨z0, z1, z2, -, -, -⟩ := (hob.box hba n45).three
    obtain ⟨y0, y1, y2, y3, -, -, -, -⟩ := hbb.four
    refine bodyPost_ret (v := .tuple #[.agg #[.slice none 0 0, .int .i64 0, .int .i64 0], .agg #[.slice none 0 0, .slice none 0 0, .int .i64 0, .bool false], .int .i64 1]) (by simp [results, Try.results48, go_sem, z0, z1, z2, y0, y1, y2, y3]) rfl (SyncErr.mk (j := zeroJ) (d := zeroD) (by unfold syncJ; rw [if_pos hok]) (zeroJ_journal _ _) (zeroD_disk _ _) hEb)
  rw [chkJ_yes hok]
  go_wp2_with fail
  refine (refCheck_ok _ _ d (HD.out.keep hE)).mono ?_
  rintro e w2 ⟨rfl, hx2⟩
  have hE2 := hE.trans hx2
  clear c20 c21 c22 f20 f21 f22 c30 c31 c32 c33 f30 f31 f32 f33 c40 c41 c42 f40 f41 f42 c50 c51 c52 c53 f50 f51 f52 f53
  have C2 := Lib.hid (B2.out.keep hx2); clear B2
  have C3 := Lib.hid (B3.out.keep hx2); clear B3
  have C4 := Lib.hid (B4.out.keep hx2); clear B4
  have C5 := Lib.hid (B5.out.keep hx2); clear B5
  obtain ⟨c20, c21, c22, f20, f21, f22⟩ := C2.out.three
  obtain ⟨c30, c31, c32, c33, f30, f31, f32, f33⟩ := C3.out.four
  obtain ⟨c40, c41, c42, f40, f41, f42⟩ := C4.out.three
  obtain ⟨c50, c51, c52, c53, f50, f51, f52, f53⟩ := C5.out.four
  clear hE hx2
  cases hod : okD d
  · rw [chk_no hod]
    go_wp2_with fail
    generalize hWa : World.setCell (World.setCell (World.setCell w2 ⟨g4, 0, none⟩ _) ⟨g4, 1, none⟩ _) ⟨g4, 2, none⟩ _ = wa
    generalize hWb : World.setCell (World.setCell (World.setCell (World.setCell wa _ _) _ _) _ _) _ _ = wb
    obtain ⟨hba, hoa⟩ := box_set3 C4.out hWa
    obtain ⟨hbb, hob⟩ := box_set4 (hoa.box C5.out n45.symm) hWb
    have hEb := hob.ext (hoa.ext hE2 l4) l5
    obtain ⟨z0, z1, z2, -, -, -⟩ := (hob.box hba n45).three
    obtain ⟨y0, y1, y2, y3, -, -, -, -⟩ := hbb.four
    refine bodyPost_ret (v := .tuple #[.agg #[.slice none 0 0, .int .i64 0, .int .i64 0], .agg #[.slice none 0 0, .slice none 0 0, .int .i64 0, .bool false], .int .i64 410]) (by simp [results, Try.results48, go_sem, z0, z1, z2, y0, y1, y2, y3]) rfl (SyncErr.mk (j := zeroJ) (d := zeroD) (by unfold syncJ; rw [if_neg (by rw [hok]; decide), if_pos hod]) (zeroJ_journal _ _) (zeroD_disk _ _) hEb)
  rw [chk_yes hod]
  cases hst : d.stopped
  case true =>
    have how : syncJ j d = (zeroJ, zeroD, 410) := by unfold syncJ; rw [if_neg (by rw [hok]; decide), if_neg (by rw [hod]; decide), if_pos hst]
    have HOW := Lib.hid how; clear how
    rw [hst] at c33
    go_wp2_with fail
    generalize hWa : World.setCell (World.setCell (World.setCell w2 ⟨g4, 0, none⟩ _) ⟨g4, 1, none⟩ _) ⟨g4, 2, none⟩ _ = wa
    generalize hWb : World.setCell (World.setCell (World.setCell (World.setCell wa _ _) _ _) _ _) _ _ = wb
    obtain ⟨hba, hoa⟩ := box_set3 C4.out hWa
    obtain ⟨hbb, hob⟩ := box_set4 (hoa.box C5.out n45.symm) hWb
    have hEb := hob.ext (hoa.ext hE2 l4) l5
    obtain ⟨z0, z1, z2, -, -, -⟩ := (hob.box hba n45).three
    obtain ⟨y0, y1, y2, y3, -, -, -, -⟩ := hbb.four
    refine bodyPost_ret (v := .tuple #[.agg #[.slice none 0 0, .int .i64 0, .int .i64 0], .agg #[.slice none 0 0, .slice none 0 0, .int .i64 0, .bool false], .int .i64 410]) (by simp [results, Try.results48, go_sem, z0, z1, z2, y0, y1, y2, y3]) rfl (SyncErr.mk (j := zeroJ) (d := zeroD) (HOW.out) (zeroJ_journal _ _) (zeroD_disk _ _) hEb)
  rw [hst] at c33
  have HST := Lib.hid hst; clear hst
  have hsy0 : syncJ j d = if j.many ≠ d.sectors.length ∨ d.pending ≠ [] then (zeroJ, zeroD, 1) else
      if recs d.sectors ≠ j.records.take j.synced.toNat ∨ 4294967295 < genMax d.sectors then (zeroJ, zeroD, 420) else
      if j.synced = j.records.length then (j, d, 0) else
      let r := syncD { d with pending := writesOf (genMax d.sectors) (usedN (j.records.take j.synced.toNat)) (j.records.drop j.synced.toNat) }
      if r.2 ≠ 0 then (zeroJ, r.1, r.2) else ({ j with synced := j.records.length }, r.1, 0) := by
    unfold syncJ; rw [if_neg (by rw [hok]; decide), if_neg (by rw [hod]; decide), if_neg (by rw [HST.out]; decide)]
  have HSY0 := Lib.hid hsy0; clear hsy0
  by_cases hmn : j.many = d.sectors.length
  case neg =>
    have hmb : (j.many != (d.sectors.length : Int)) = true := by simp [hmn]
    have HMN := Lib.hid hmn; clear hmn
    go_wp2_with fail
    generalize hWa : World.setCell (World.setCell (World.setCell w2 ⟨g4, 0, none⟩ _) ⟨g4, 1, none⟩ _) ⟨g4, 2, none⟩ _ = wa
    generalize hWb : World.setCell (World.setCell (World.setCell (World.setCell wa _ _) _ _) _ _) _ _ = wb
    obtain ⟨hba, hoa⟩ := box_set3 C4.out hWa
    obtain ⟨hbb, hob⟩ := box_set4 (hoa.box C5.out n45.symm) hWb
    have hEb := hob.ext (hoa.ext hE2 l4) l5
    obtain ⟨z0, z1, z2, -, -, -⟩ := (hob.box hba n45).three
    obtain ⟨y0, y1, y2, y3, -, -, -, -⟩ := hbb.four
    refine bodyPost_ret (v := .tuple #[.agg #[.slice none 0 0, .int .i64 0, .int .i64 0], .agg #[.slice none 0 0, .slice none 0 0, .int .i64 0, .bool false], .int .i64 1]) (by simp [results, Try.results48, go_sem, z0, z1, z2, y0, y1, y2, y3]) rfl (SyncErr.mk (j := zeroJ) (d := zeroD) (by rw [HSY0.out, if_pos (.inl HMN.out)]) (zeroJ_journal _ _) (zeroD_disk _ _) hEb)
  have hmb : (j.many != (d.sectors.length : Int)) = false := by simp [hmn]
  have HMN := Lib.hid hmn; clear hmn
  by_cases hpe : d.pending = []
  case neg =>
    have hpl : (0 : Int) < d.pending.length := by have := List.length_pos_iff.2 hpe; omega
    have HPE := Lib.hid hpe; clear hpe
    go_wp2_with fail
    generalize hWa : World.setCell (World.setCell (World.setCell w2 ⟨g4, 0, none⟩ _) ⟨g4, 1, none⟩ _) ⟨g4, 2, none⟩ _ = wa
    generalize hWb : World.setCell (World.setCell (World.setCell (World.setCell wa _ _) _ _) _ _) _ _ = wb
    obtain ⟨hba, hoa⟩ := box_set3 C4.out hWa
    obtain ⟨hbb, hob⟩ := box_set4 (hoa.box C5.out n45.symm) hWb
    have hEb := hob.ext (hoa.ext hE2 l4) l5
    obtain ⟨z0, z1, z2, -, -, -⟩ := (hob.box hba n45).three
    obtain ⟨y0, y1, y2, y3, -, -, -, -⟩ := hbb.four
    refine bodyPost_ret (v := .tuple #[.agg #[.slice none 0 0, .int .i64 0, .int .i64 0], .agg #[.slice none 0 0, .slice none 0 0, .int .i64 0, .bool false], .int .i64 1]) (by simp [results, Try.results48, go_sem, z0, z1, z2, y0, y1, y2, y3]) rfl (SyncErr.mk (j := zeroJ) (d := zeroD) (by rw [HSY0.out, if_pos (.inr HPE.out)]) (zeroJ_journal _ _) (zeroD_disk _ _) hEb)
  have hpl : d.pending.length = 0 := by rw [hpe]; rfl
  have hsy1 := HSY0.out
  rw [if_neg (by rw [HMN.out, hpe]; simp)] at hsy1
  have HSY1 := Lib.hid hsy1; clear hsy1 HSY0
  have HPE := Lib.hid hpe; clear hpe
  obtain ⟨hk1, hk2, hk3⟩ := (okD_iff d).1 hod
  have h128 : ∀ s ∈ d.sectors, s.length = 128 := fun s hs => by
    rw [List.any_eq_false] at hk3
    have := hk3 s hs
    unfold badS at this
    simp at this; omega
  have H128 := Lib.hid h128; clear h128 hk2 hk3
  have hk4096 : d.sectors.length ≤ 4096 := by omega
  have hk1 : 1 ≤ d.sectors.length := by omega
  go_wp2_with fail
  refine (generation_ok w2 _ d.sectors (Bss.keep HD1.out hE2) H128.out).mono ?_
  rintro e w3 ⟨rfl, hx3⟩
  have hE3 := hE2.trans hx3
  clear c20 c21 c22 f20 f21 f22 c30 c31 c32 c33 f30 f31 f32 f33 c40 c41 c42 f40 f41 f42 c50 c51 c52 c53 f50 f51 f52 f53
  have E2 := Lib.hid (C2.out.keep hx3); clear C2
  have E3 := Lib.hid (C3.out.keep hx3); clear C3
  have E4 := Lib.hid (C4.out.keep hx3); clear C4
  have E5 := Lib.hid (C5.out.keep hx3); clear C5
  clear hE2 hx3
  have hgm := genMax_le d.sectors H128.out
  have hgp := genMax_pos d.sectors
  obtain ⟨g, hgg⟩ : ∃ g, genMax d.sectors = g := ⟨_, rfl⟩
  rw [hgg] at hgm hgp ⊢
  have hsy1 := HSY1.out
  rw [hgg] at hsy1
  have HGG := Lib.hid hgg; clear hgg HSY1
  obtain ⟨hj1, hj2, hj3, hj4, hj5⟩ : 1 ≤ j.many ∧ j.many ≤ 4096 ∧ 0 ≤ j.synced ∧ j.synced ≤ j.records.length ∧ usedW j.records ≤ j.many := by
    have := hok; unfold okJ at this; simpa [and_assoc] using this
  obtain ⟨sy, hsy⟩ := Int.eq_ofNat_of_zero_le hj3
  have hsyl : sy ≤ j.records.length := by omega
  have hst : j.synced.toNat = sy := by omega
  rw [hst] at hsy1
  have HST2 := Lib.hid hst; clear hst
  rw [usedW_eq _ HNW.out] at hj5
  have HUM := Lib.hid hj5; clear hj5
  have HSYE := Lib.hid hsy
  have hjs : Bss S w (.slice aJ sy cJ) (j.records.take sy) := HJ1.out.pre sy cJ hsyl (by omega) hmJ
  have HJS := Lib.hid hjs; clear hjs
  have HSY2 := Lib.hid hsy1; clear hsy1
  have E2' := E2.out
  rw [hsy] at E2'
  have E2 := Lib.hid E2'; clear E2'
  have hj4' : (sy : Int) ≤ j.records.length := by omega
  clear hsy hj3 hj4
  obtain ⟨rs, hrs⟩ : ∃ rs, recs d.sectors = rs := ⟨_, rfl⟩
  have HRS := Lib.hid hrs; clear hrs
  have hsy2 := HSY2.out
  rw [HRS.out] at hsy2
  have HSY2 := Lib.hid hsy2; clear hsy2
  obtain ⟨c20, c21, c22, f20, f21, f22⟩ := E2.out.three
  obtain ⟨c30, c31, c32, c33, f30, f31, f32, f33⟩ := E3.out.four
  obtain ⟨c40, c41, c42, f40, f41, f42⟩ := E4.out.three
  obtain ⟨c50, c51, c52, c53, f50, f51, f52, f53⟩ := E5.out.four
  obtain ⟨bq, hbq⟩ : ∃ bq, decide (4294967295 < (g : Int)) = bq := ⟨_, rfl⟩
  go_upto_region 12 with fail
  by_cases q1 : rs = j.records.take sy
  case neg =>
    have HQ1 := Lib.hid q1
    refine reg48_12a (S := S) _ _ _ _ _ _ _ _ _ _ _ _ _ _ _ _ _ _ _ _ _ _ _ _ _ _ _ _ _ _ _ _ _ _ _ _ _ _ _ _ _ _ _ _ _ _ _ _ _ _ _ _ _ _ _ _ _ _ _ _ _ _ _ _ _ _ _ _ _ _ _ _ _ _ _ _ _ _ _ _ _ _ _ _ _ _ _ _ _ _ _ _ _ _ _ _ _ _ _ _ _ _ _ _ _ _ _ _ _ _ _ _ _ _ _ _ _ _ _ _ _ _ _ _ _ _ _ _ _ _ _ _ _ _ _ _ _ _ _ _ _ _ _ _ _ _ w3 g2 g3 d.sectors.length c j.records.length cJ sy g a aJ d.sectors rs (j.records.take sy) bq c30 c20 c22 (Bss.keep HD1.out hE3) HRS.out hk4096 H128.out (Bss.keep HJS.out hE3) hsyl hcJ (decide_eq_false q1) hbq ?_
    intro v0 v1 v2 v3 v4 v5 v6 v7 v8 v9 v10 v11 v12 wx hxx
    clear q1 c20 c21 c22 f20 f21 f22 c30 c31 c32 c33 f30 f31 f32 f33 c40 c41 c42 f40 f41 f42 c50 c51 c52 c53 f50 f51 f52 f53
    have F4 := Lib.hid (E4.out.keep hxx)
    have F5 := Lib.hid (E5.out.keep hxx)
    obtain ⟨c40, c41, c42, f40, f41, f42⟩ := F4.out.three
    obtain ⟨c50, c51, c52, c53, f50, f51, f52, f53⟩ := F5.out.four
    have hE6 := hE3.trans hxx
    go_wp2_with fail
    generalize hWa : World.setCell (World.setCell (World.setCell wx ⟨g4, 0, none⟩ _) ⟨g4, 1, none⟩ _) ⟨g4, 2, none⟩ _ = wa
    generalize hWb : World.setCell (World.setCell (World.setCell (World.setCell wa _ _) _ _) _ _) _ _ = wb
    obtain ⟨hba, hoa⟩ := box_set3 F4.out hWa
    obtain ⟨hbb, hob⟩ := box_set4 (hoa.box F5.out n45.symm) hWb
    have hEb := hob.ext (hoa.ext hE6 l4) l5
    obtain ⟨z0, z1, z2, -, -, -⟩ := (hob.box hba n45).three
    obtain ⟨y0, y1, y2, y3, -, -, -, -⟩ := hbb.four
    refine bodyPost_ret (v := .tuple #[.agg #[.slice none 0 0, .int .i64 0, .int .i64 0], .agg #[.slice none 0 0, .slice none 0 0, .int .i64 0, .bool false], .int .i64 420]) (by simp [results, Try.results48, go_sem, z0, z1, z2, y0, y1, y2, y3]) rfl (SyncErr.mk (j := zeroJ) (d := zeroD) (by rw [HSY2.out, if_pos (.inl HQ1.out)]) (zeroJ_journal _ _) (zeroD_disk _ _) hEb)
  have HQ1 := Lib.hid q1
  refine reg48_12b (S := S) _ _ _ _ _ _ _ _ _ _ _ _ _ _ _ _ _ _ _ _ _ _ _ _ _ _ _ _ _ _ _ _ _ _ _ _ _ _ _ _ _ _ _ _ _ _ _ _ _ _ _ _ _ _ _ _ _ _ _ _ _ _ _ _ _ _ _ _ _ _ _ _ _ _ _ _ _ _ _ _ _ _ _ _ _ _ _ _ _ _ _ _ _ _ _ _ _ _ _ _ _ _ _ _ _ _ _ _ _ _ _ _ _ _ _ _ _ _ _ _ _ _ _ _ _ _ _ _ _ _ _ _ _ _ _ _ _ _ _ _ _ _ _ _ _ _ w3 g2 g3 d.sectors.length c j.records.length cJ sy g a aJ d.sectors rs (j.records.take sy) bq c30 c20 c22 (Bss.keep HD1.out hE3) HRS.out hk4096 H128.out (Bss.keep HJS.out hE3) hsyl hcJ (decide_eq_true q1) hbq ?_
  intro v0 v1 v2 v3 v4 v5 v6 v7 v8 v9 v10 v11 v12 wx hxx
  clear q1 c20 c21 c22 f20 f21 f22 c30 c31 c32 c33 f30 f31 f32 f33 c40 c41 c42 f40 f41 f42 c50 c51 c52 c53 f50 f51 f52 f53
  have F2 := Lib.hid (E2.out.keep hxx)
  have F3 := Lib.hid (E3.out.keep hxx)
  have F4 := Lib.hid (E4.out.keep hxx)
  have F5 := Lib.hid (E5.out.keep hxx)
  have hE6 := hE3.trans hxx
  clear hE3 hxx
  cases bq
  case true =>
    have HBQ := Lib.hid hbq; clear hbq
    obtain ⟨c40, c41, c42, f40, f41, f42⟩ := F4.out.three
    obtain ⟨c50, c51, c52, c53, f50, f51, f52, f53⟩ := F5.out.four
    go_wp2_with fail
    generalize hWa : World.setCell (World.setCell (World.setCell wx ⟨g4, 0, none⟩ _) ⟨g4, 1, none⟩ _) ⟨g4, 2, none⟩ _ = wa
    generalize hWb : World.setCell (World.setCell (World.setCell (World.setCell wa _ _) _ _) _ _) _ _ = wb
    obtain ⟨hba, hoa⟩ := box_set3 F4.out hWa
    obtain ⟨hbb, hob⟩ := box_set4 (hoa.box F5.out n45.symm) hWb
    have hEb := hob.ext (hoa.ext hE6 l4) l5
    obtain ⟨z0, z1, z2, -, -, -⟩ := (hob.box hba n45).three
    obtain ⟨y0, y1, y2, y3, -, -, -, -⟩ := hbb.four
    refine bodyPost_ret (v := .tuple #[.agg #[.slice none 0 0, .int .i64 0, .int .i64 0], .agg #[.slice none 0 0, .slice none 0 0, .int .i64 0, .bool false], .int .i64 420]) (by simp [results, Try.results48, go_sem, z0, z1, z2, y0, y1, y2, y3]) rfl (SyncErr.mk (j := zeroJ) (d := zeroD) (by rw [HSY2.out, if_pos (.inr (by have := HBQ.out; simp at this; omega))]) (zeroJ_journal _ _) (zeroD_disk _ _) hEb)
  have hg32 : g < 4294967296 := by simp at hbq; omega
  have hsy3 := HSY2.out
  rw [if_neg (by rintro (h | h); exact h HQ1.out; omega)] at hsy3
  have HSY3 := Lib.hid hsy3; clear hsy3 HSY2 hbq
  obtain ⟨c20, c21, c22, f20, f21, f22⟩ := F2.out.three
  by_cases q2 : sy = j.records.length
  case pos =>
    have hq2 : ((sy : Int) == j.records.length) = true := by simp [q2]
    have HQ2 := Lib.hid q2; clear q2
    go_upto_region 15 with fail
    refine reg48_15 _ _ _ _ _ _ _ _ _ _ _ _ _ _ _ _ _ _ _ _ _ _ _ _ _ _ _ _ _ _ _ _ _ _ _ _ _ _ _ _ _ _ _ _ _ _ _ _ _ _ _ _ _ _ _ _ _ _ _ _ _ _ _ _ _ _ _ _ _ _ _ _ _ _ _ _ _ _ _ _ _ _ _ _ _ _ _ _ _ _ _ _ _ _ _ _ _ _ _ _ _ _ _ _ _ _ _ _ _ _ _ _ _ _ _ _ _ _ _ _ _ _ _ _ _ _ _ _ _ _ _ _ _ _ _ _ _ _ _ _ _ _ _ _ _ wx g2 g3 g4 g5 j.records.length cJ d.sectors.length c d.pending.length c2 aJ a a2 j.many (sy : Int) d.left false _ _ _ _ _ _ _ F2.out (by have := F3.out; rwa [HST.out] at this) F4.out F5.out n34 n45 ?_
    intro v0 v1 wz wy wa hxy hoa hob hb4 hb5
    clear c20 c21 c22 f20 f21 f22
    have hE7 := hob.ext (hoa.ext (hE6.trans hxy) l4) l5
    obtain ⟨z0, z1, z2, -, -, -⟩ := hb4.three
    obtain ⟨y0, y1, y2, y3, -, -, -, -⟩ := hb5.four
    go_wp2_with fail
    refine bodyPost_ret (v := .tuple #[.agg #[.slice aJ j.records.length cJ, .int .i64 j.many, .int .i64 (sy : Int)], .agg #[.slice a d.sectors.length c, .slice a2 d.pending.length c2, .int .i64 d.left, .bool false], .int .i64 0]) (by simp [results, Try.results48, go_sem, z0, z1, z2, y0, y1, y2, y3]) rfl (SyncErr.mk (j := j) (d := d) (by rw [HSY3.out, if_pos (by rw [HSYE.out, HQ2.out])]) (by have := HJ.out.keep hE7; rwa [HSYE.out] at this) (by have := HD.out.keep hE7; rwa [HST.out] at this) hE7)
  have hq2 : ((sy : Int) == j.records.length) = false := by simp; omega
  have hsyt : sy < j.records.length := by omega
  have HQ2 := Lib.hid q2; clear q2
  obtain ⟨bJ, oJ, vJ, rfl, hbJ, -, -⟩ := HJ1.out.elem (k := 0) (by omega)
  have hUt : usedW (j.records.take sy) = (usedN (j.records.take sy) : Int) := usedW_eq _ (by have := HNW.out; have := usedN_split j.records sy; omega)
  have HUT := Lib.hid hUt; clear hUt
  have HLT := Lib.hid (show ReachB (j.records.take sy) from fun b hb => HL.out b (List.mem_of_mem_take hb))
  have hUS := usedN_split j.records sy
  have i1 : (sy : Int) ≤ cJ := by omega
  have i2 : (sy : Int) < j.records.length := by omega
  have i4 : (j.records.length : Int) ≤ cJ := by omega
  go_wp2_with fail
  refine (refUsed_ok wx _ (j.records.take sy) (Bss.keep HJS.out hE6) HLT.out).mono ?_
  rintro e wx' ⟨rfl, rfl⟩
  rw [HUT.out]
  have hI0 : SInv (Bx S w.heap.size (g5 + 1)) w g2 g3 g4 g5 [.slice (some ⟨bJ, oJ, none⟩) j.records.length cJ, .int .i64 j.many, .int .i64 (sy : Int)] d [] wx := by
    refine ⟨hE6, F2.out, F4.out, F5.out, ?_, a, c, a2, c2, ?_, ?_⟩
    · have := hod; rwa [← show ({ d with pending := [] } : Dk) = d by rw [← HPE.out]] at this
    · have := F3.out; rw [HPE.out] at this; exact this
    · have := Disk.keep (HD.out.more (S' := (Bx S w.heap.size (g5 + 1))) Bx.more) hE6
      have e : ({ d with pending := [] } : Dk) = d := by rw [← HPE.out]
      rw [e]; rw [HPE.out] at this; exact this
  have HI0 := Lib.hid hI0; clear hI0
  have hR0 : ∀ i, (j.records.drop sy)[i]? = j.records[sy + i]? := fun i => by rw [List.getElem?_drop]
  have hlR : (j.records.drop sy).length = j.records.length - sy := List.length_drop ..
  generalize hat0 : usedN (j.records.take sy) = at0 at *
  generalize hR : j.records.drop sy = R at *
  have HAT0 := Lib.hid hat0; clear hat0
  have HRE := Lib.hid hR; clear hR
  have HR0 := Lib.hid hR0; clear hR0
  have hUR : at0 + usedN R ≤ d.sectors.length := by have := HUM.out; have := HMN.out; omega
  clear hUS
  have HURL := Lib.hid hUR; clear hUR
  have HLJ := Lib.hid (show ∀ i b, R[i]? = some b → b.length ≤ 140737488355328 from fun i b hb => HL.out b (List.mem_of_mem_drop (by rw [HRE.out]; exact List.mem_of_getElem? hb)))
  clear F2 F3 F4 F5
  go_wp2_with fail
  clear c20 c21 c22 f20 f21 f22
  go_loopw [10, 11] (fun av iv wr => ∃ (i at_ : Nat) (p : List Wr), i ≤ R.length ∧ av = .int .i64 (at_ : Int) ∧ iv = .int .i64 ((sy + i : Nat) : Int) ∧ at_ = at0 + p.length ∧ p ++ writesOf g at_ (R.drop i) = writesOf g at0 R ∧
      SInv (Bx S w.heap.size (g5 + 1)) w g2 g3 g4 g5 [.slice (some ⟨bJ, oJ, none⟩) j.records.length cJ, .int .i64 j.many, .int .i64 (sy : Int)] d p wr) (fun _ iv _ => j.records.length - (intOf iv).toNat)
  case atStart => exact ⟨0, at0, [], Nat.zero_le _, rfl, rfl, rfl, by simp, HI0.out⟩
  case round =>
    obtain ⟨i, at_, p, hi, rfl, rfl, hat, hpw, hI⟩ := hrel
    have HAT := Lib.hid hat; clear hat
    by_cases hlt : i < R.length
    case neg =>
      obtain rfl : i = R.length := by omega
      rw [List.drop_length, writesOf, List.append_nil] at hpw
      have HPW := Lib.hid hpw; clear hpw
      obtain ⟨hx1, hb2, hb4, hb5, hod1, a3, c3, a4, c4, hb3, hd3⟩ := hI
      have HB2 := Lib.hid hb2
      have HB3 := Lib.hid hb3
      have HB4 := Lib.hid hb4; clear hb4
      have hlt5 := hb5.lt
      have HB5 := Lib.hid hb5; clear hb5
      have k0 := refSync_ok (S := (Bx S w.heap.size (g5 + 1))) wr _ { d with pending := p } hd3 (Bx.lt HS.out hx1.size hlt5)
      obtain ⟨X, hX⟩ : ∃ X, syncD { d with pending := p } = X := ⟨_, rfl⟩
      rw [hX] at k0
      have HX := Lib.hid hX; clear hX
      obtain ⟨y, ye⟩ := X
      have K0 := Lib.hid k0; clear k0 hd3
      obtain ⟨c20, c21, c22, f20, f21, f22⟩ := hb2.three
      obtain ⟨c30, c31, c32, c33, f30, f31, f32, f33⟩ := hb3.four
      clear hb2 hb3
      have hge : ¬ (((sy + R.length : Nat) : Int) < j.records.length) := by omega
      go_wp2_with fail
      refine K0.out.mono ?_
      rintro e w5 ⟨v5, rfl, hd5, hx5⟩
      obtain ⟨a5, c5, a6, c6, rfl, -, -, -, -, -, -⟩ := hd5.open
      clear c30 c31 c32 c33 f30 f31 f32 f33 c20 c21 c22 f20 f21 f22
      have hx6 := hx5.alloc (.cells #[.slice a5 y.sectors.length c5, .slice a6 y.pending.length c6, .int .i64 y.left, .bool y.stopped] 25)
      have HB6 := Lib.hid (Box.new w5 [.slice a5 y.sectors.length c5, .slice a6 y.pending.length c6, .int .i64 y.left, .bool y.stopped] 25)
      have HD6 := Lib.hid (hd5.keep ((Ext.refl w5).alloc (.cells #[.slice a5 y.sectors.length c5, .slice a6 y.pending.length c6, .int .i64 y.left, .bool y.stopped] 25)))
      have hg56 : g5 < w5.heap.size := Nat.lt_of_lt_of_le hlt5 hx5.size
      go_upto_region 29 with fail
      generalize w5.alloc (.cells #[.slice a5 y.sectors.length c5, .slice a6 y.pending.length c6, .int .i64 y.left, .bool y.stopped] 25) = w6 at *
      generalize w5.heap.size = g6 at *
      have hin2 : Bx S w.heap.size (g5 + 1) g2 := .inr ⟨l2, by have := HG.out; omega⟩
      have hin4 : Bx S w.heap.size (g5 + 1) g4 := .inr ⟨l4, by have := HG.out; omega⟩
      have hin5 : Bx S w.heap.size (g5 + 1) g5 := .inr ⟨l5, by have := HG.out; omega⟩
      have n62 : g6 ≠ g2 := by have := HG.out; omega
      have n64 : g6 ≠ g4 := by have := HG.out; omega
      have hE6' : Ext w w6 := hx1.trans hx6
      have hb2 := HB2.out.keep hx6
      have hb4 := HB4.out.keep hx6
      have hb5 := HB5.out.keep hx6
      have hne : ¬ j.synced = (j.records.length : Int) := by have := HSYE.out; have := HQ2.out; omega
      have hsy4 := HSY3.out
      rw [if_neg hne, ← HPW.out, HX.out] at hsy4
      clear HSY3 HX K0 hd5 hx5
      by_cases hye : ye = 0
      · rw [if_neg (by simp [hye])] at hsy4
        have HSY5 := Lib.hid hsy4; clear hsy4
        have hye1 : (ye != 0) = false := by simp [hye]
        have HB4' := Lib.hid hb4; clear hb4
        have HB5' := Lib.hid hb5; clear hb5
        obtain ⟨c20, c21, c22, f20, f21, f22⟩ := hb2.three
        have HB2' := Lib.hid hb2; clear hb2
        go_upto_region 32 with fail
        generalize hWc : World.setCell w6 _ _ = w7
        obtain ⟨hb7, ho7⟩ := box_set1 HB2'.out hWc
        simp only [List.set_cons_succ, List.set_cons_zero] at hb7
        clear c20 c21 c22 f20 f21 f22
        refine reg48_32 _ _ _ _ _ _ _ _ _ _ _ _ _ _ _ _ _ _ _ _ _ _ _ _ _ _ _ _ _ _ _ _ _ _ _ _ _ _ _ _ _ _ _ _ _ _ _ _ _ _ _ _ _ _ _ _ _ _ _ _ _ _ _ _ _ _ _ _ _ _ _ _ _ _ _ _ _ _ _ _ _ _ _ _ _ _ _ _ _ _ _ _ _ _ _ _ _ _ _ _ _ _ _ _ _ _ _ _ _ _ _ _ _ _ _ _ _ _ _ _ _ _ _ _ _ _ _ _ _ _ _ _ _ _ _ _ _ _ _ _ _ _ _ _ _ w7 g2 g6 g4 g5 j.records.length cJ y.sectors.length c5 y.pending.length c6 (some ⟨bJ, oJ, none⟩) a5 a6 j.many (j.records.length : Int) y.left y.stopped _ _ _ _ _ _ _ hb7 (ho7.box HB6.out n62) (ho7.box HB4'.out n24.symm) (ho7.box HB5'.out n25.symm) n64 n45 ?_
        intro v0 v1 wz wy wa hxy hoa hob hb4 hb5
        have hE7 := hob.ext (hoa.ext ((ho7.ext hE6' l2).trans hxy) l4) l5
        have hD7 := (((HD6.out.keepM (ho7.mem hin2)).keep hxy).keepM (hoa.mem hin4)).keepM (hob.mem hin5)
        obtain ⟨z0, z1, z2, -, -, -⟩ := hb4.three
        obtain ⟨y0, y1, y2, y3, -, -, -, -⟩ := hb5.four
        have HE7 := Lib.hid hE7; clear hE7
        have HD7 := Lib.hid hD7; clear hD7
        go_wp2_with fail
        refine bodyPost_ret (v := .tuple #[.agg #[.slice (some ⟨bJ, oJ, none⟩) j.records.length cJ, .int .i64 j.many, .int .i64 (j.records.length : Int)], .agg #[.slice a5 y.sectors.length c5, .slice a6 y.pending.length c6, .int .i64 y.left, .bool y.stopped], .int .i64 0]) (by simp [results, Try.results48, go_sem, z0, z1, z2, y0, y1, y2, y3]) rfl (SyncErr.mk (j := { j with synced := (j.records.length : Int) }) (d := y) HSY5.out ⟨_, rfl, HJ1.out.keep HE7.out⟩ (HD7.out.more (S' := S) Bx.less) HE7.out)
      · rw [if_pos (by simp [hye])] at hsy4
        have HSY5 := Lib.hid hsy4; clear hsy4
        have hye1 : (ye != 0) = true := by simp [hye]
        have HB4' := Lib.hid hb4; clear hb4
        have HB5' := Lib.hid hb5; clear hb5 hb2
        go_upto_region 30 with fail
        refine reg48_30 _ _ _ _ _ _ _ _ _ _ _ _ _ _ _ _ _ _ _ _ _ _ _ _ _ _ _ _ _ _ _ _ _ _ _ _ _ _ _ _ _ _ _ _ _ _ _ _ _ _ _ _ _ _ _ _ _ _ _ _ _ _ _ _ _ _ _ _ _ _ _ _ _ _ _ _ _ _ _ _ _ _ _ _ _ _ _ _ _ _ _ _ _ _ _ _ _ _ _ _ _ _ _ _ _ _ _ _ _ _ _ _ _ _ _ _ _ _ _ _ _ _ _ _ _ _ _ _ _ _ _ _ _ _ _ _ _ _ _ _ _ _ _ _ _ w6 g6 g4 g5 y.sectors.length c5 y.pending.length c6 a5 a6 y.left ye y.stopped _ _ _ _ _ _ _ HB6.out HB4'.out HB5'.out n64 n45 ?_
        intro v0 v1 v2 wz wy wa hxy hoa hob hb4 hb5
        have hE7 := hob.ext (hoa.ext (hE6'.trans hxy) l4) l5
        have hD7 := ((HD6.out.keep hxy).keepM (hoa.mem hin4)).keepM (hob.mem hin5)
        obtain ⟨z0, z1, z2, -, -, -⟩ := hb4.three
        obtain ⟨y0, y1, y2, y3, -, -, -, -⟩ := hb5.four
        have HE7 := Lib.hid hE7; clear hE7
        have HD7 := Lib.hid hD7; clear hD7
        go_wp2_with fail
        refine bodyPost_ret (v := .tuple #[.agg #[.slice none 0 0, .int .i64 0, .int .i64 0], .agg #[.slice a5 y.sectors.length c5, .slice a6 y.pending.length c6, .int .i64 y.left, .bool y.stopped], .int .i64 ye]) (by simp [results, Try.results48, go_sem, z0, z1, z2, y0, y1, y2, y3]) rfl (SyncErr.mk (j := zeroJ) (d := y) HSY5.out (zeroJ_journal _ _) (HD7.out.more (S' := S) Bx.less) HE7.out)
    have hsl : sy + i < j.records.length := by omega
    obtain ⟨b1, o1, vd, e1, hb1, r1, hv⟩ := HJ1.out.elem hsl
    cases e1
    have hbl := HLJ.out i R[i] (List.getElem?_eq_getElem hlt)
    have heq : j.records[sy + i] = R[i] := by
      have := HR0.out i
      rw [List.getElem?_eq_getElem hlt, List.getElem?_eq_getElem hsl] at this
      exact (Option.some.inj this).symm
    rw [heq] at hv
    have hdi : R.drop i = R[i] :: R.drop (i + 1) := List.drop_eq_getElem_cons hlt
    rw [hdi, writesOf] at hpw
    have HPW := Lib.hid hpw; clear hpw hdi heq
    generalize R[i] = b at *
    obtain ⟨ab, cb, rfl, hcb, hmb⟩ := hv.open
    have HV := Lib.hid (Sl.more (S' := (Bx S w.heap.size (g5 + 1))) etByte hv Bx.more); clear hv
    have HBL := Lib.hid hbl; clear hbl
    have HI := Lib.hid hI
    obtain ⟨hx1, hb2, -, -, -, -⟩ := hI
    have rr := hx1.cell r1
    obtain ⟨c20, c21, c22, f20, f21, f22⟩ := hb2.three
    clear hb2 r1
    have hii : ((sy + i : Nat) : Int) < j.records.length := by omega
    have hi0 : (0 : Int) ≤ ((sy + i : Nat) : Int) := by omega
    have hofs : oJ + (sy + i) = oJ + (sy + i) := rfl
    go_wp2_with fail
    refine (refSectors_ok wr b.length HBL.out).mono ?_
    rintro e wr' ⟨rfl, rfl⟩
    clear c20 c21 c22 f20 f21 f22
    have hnp := secN_pos b.length
    have hnb : secN b.length ≤ 4096 := by
      have hll := congrArg List.length HPW.out
      simp only [List.length_append, recSects_length, writesOf_length] at hll
      have := HURL.out; omega
    have hnf : b.length ≤ 112 * secN b.length := by unfold secN; omega
    have hnf2 : 112 * (secN b.length - 1) ≤ b.length := by unfold secN; omega
    generalize hn : secN b.length = n at *
    have HN := Lib.hid hn; clear hn
    go_wp2_with fail
    go_loopw [10, 14] (QInv (Bx S w.heap.size (g5 + 1)) w g2 g3 g4 g5 [.slice (some ⟨bJ, oJ, none⟩) j.records.length cJ, .int .i64 j.many, .int .i64 (sy : Int)] d g at0 n b (fun k => writesOf g k (R.drop (i + 1))) (writesOf g at0 R)) (fun _ kv _ => n - (intOf kv).toNat)
    case atStart => exact ⟨0, at_, p, rfl, rfl, Nat.zero_le _, HAT.out, by have := HPW.out; simpa using this, HI.out⟩
    case round =>
      clear HPW HI HAT
      obtain ⟨k, at1, p1, rfl, rfl, hkn, hat, hpw, hI⟩ := hrel
      have HAT := Lib.hid hat; clear hat
      have HI := Lib.hid hI; clear hI
      by_cases hkl : k < n
      case neg =>
        obtain rfl : k = n := by omega
        have HPW := Lib.hid hpw; clear hpw
        have hge : ¬ ((k : Int) < k) := by omega
        go_wp2_with fail
        go_roundw
        case rel => exact ⟨i + 1, at1, p1, by omega, rfl, by go_num, HAT.out, by have := HPW.out; simpa [recSects] using this, HI.out⟩
        case measure => simp [intOf]; omega
      have hki : (k : Int) < n := by omega
      have HPW := Lib.hid (QInv.split (T := fun k => writesOf g k (R.drop (i + 1))) hkl hpw); clear hpw
      obtain ⟨hx1, hb2, hb4, hb5, hod1, a3, c3, a4, c4, hb3, hd3⟩ := HI.out
      have hsz := hb5.lt
      have HB2 := Lib.hid hb2; clear hb2
      have HB3 := Lib.hid hb3; clear hb3
      have HB4 := Lib.hid hb4; clear hb4
      have HB5 := Lib.hid hb5; clear hb5
      have HD3 := Lib.hid hd3; clear hd3
      have HX1 := Lib.hid hx1; clear hx1
      have HOD1 := Lib.hid hod1; clear hod1
      have hll := congrArg List.length HPW.out
      simp only [List.length_append, List.length_cons, recSects_length, writesOf_length] at hll
      have hat1 : at1 < d.sectors.length := by have h1 := HAT.out; have h2 := HURL.out; omega
      have hp4 : p1.length < 4096 := by have h1 := HAT.out; have h2 := HURL.out; omega
      clear hll
      obtain ⟨lo, hlo⟩ : ∃ lo, k * 112 = lo := ⟨_, rfl⟩
      obtain ⟨hi, hhi⟩ : ∃ hi, min b.length ((k + 1) * 112) = hi := ⟨_, rfl⟩
      have q1 : lo ≤ hi := by omega
      have q2 : hi ≤ b.length := by omega
      have q3 : hi - lo ≤ 112 := by omega
      have hdk : (b.drop lo).take (hi - lo) = (b.drop (k * 112)).take 112 := by
        rw [hlo]
        rcases Nat.le_total b.length ((k + 1) * 112) with h | h
        · rw [List.take_of_length_le (by rw [List.length_drop]; omega), List.take_of_length_le (by rw [List.length_drop]; omega)]
        · rw [show hi - lo = 112 by omega]
      have hcut := (Bs.keep HV.out HX1.out).cut lo hi cb q1 q2 (by omega) (Nat.le_refl _)
      rw [hdk] at hcut
      simp only [Nat.mul_one] at hcut
      have HCUT := Lib.hid hcut; clear hcut hdk
      have hwlo : IntKind.i64.wrap ((k : Int) * 112) = (lo : Int) := by rw [← hlo]; rw [wraps_i64 _ (by omega) (by omega)]; omega
      have hwk1 : IntKind.i64.wrap ((k : Int) + 1) = (k : Int) + 1 := wraps_i64 _ (by omega) (by omega)
      have hwk2 : IntKind.i64.wrap (((k : Int) + 1) * 112) = ((k : Int) + 1) * 112 := wraps_i64 _ (by omega) (by omega)
      have hite : (if ((k : Int) + 1) * 112 < b.length then ((k : Int) + 1) * 112 else (b.length : Int)) = (hi : Int) := by split <;> omega
      have hpl : ((b.drop (k * 112)).take 112).length ≤ 112 := by rw [List.length_take]; omega
      have hbe : ((k : Int) == 0) = decide (k = 0) := by rw [Bool.eq_iff_iff]; simp
      have hee : ((k : Int) == (n : Int) - 1) = decide (k + 1 = n) := by rw [Bool.eq_iff_iff]; simp; omega
      have j1 : (lo : Int) ≤ hi := by omega
      have j2 : (hi : Int) ≤ cb := by omega
      have j3 : (lo : Int) ≤ cb := by omega
      have j4 : (hi : Int) ≤ b.length := by omega
      clear hlo hhi
      go_upto_region 26 with fail
      have hcut := HCUT.out; clear HCUT
      generalize (if cb = lo then ab else Option.map (fun x => x.add lo) ab) = ab2 at hcut ⊢
      generalize hi - lo = nb2 at hcut ⊢
      generalize cb - lo = cb2 at hcut ⊢
      have HCUT := Lib.hid hcut; clear hcut
      refine reg48_26 (S := (Bx S w.heap.size (g5 + 1))) _ _ _ _ _ _ _ _ _ _ _ _ _ _ _ _ _ _ _ _ _ _ _ _ _ _ _ _ _ _ _ _ _ _ _ _ _ _ _ _ _ _ _ _ _ _ _ _ _ _ _ _ _ _ _ _ _ _ _ _ _ _ _ _ _ _ _ _ _ _ _ _ _ _ _ _ _ _ _ _ _ _ _ _ _ _ _ _ _ _ _ _ _ _ _ _ _ _ _ _ _ _ _ _ _ _ _ _ _ _ _ _ _ _ _ _ _ _ _ _ _ _ _ _ _ _ _ _ _ _ _ _ _ _ _ _ _ _ _ _ _ _ _ wr g3 g at1 nb2 cb2 k n (decide (k = 0)) (decide (k + 1 = n)) ab2 a3 a4 c3 c4 { d with pending := p1 } { d with pending := p1 ++ [⟨at1, sect g at1 (kindOf (decide (k = 0)) (decide (k + 1 = n))) ((b.drop (k * 112)).take 112)⟩] } ((b.drop (k * 112)).take 112) HB3.out HD3.out HCUT.out hpl hg32 (by omega) (by omega) hbe hee hnp (writeD_sect HOD1.out HST.out at1 g (kindOf (decide (k = 0)) (decide (k + 1 = n))) ((b.drop (k * 112)).take 112) hpl hat1 hp4) (Bx.lt HS.out HX1.out.size hsz) (.inr ⟨l3, by have := HG.out; omega⟩) ?_
      intro v0 v1 v2 v3 v4 v5 v6 v7 v8 v9 v10 v11 v12 v13 v14 v15 wy w9 a5 c5 a6 c6 hx9 ho9 hb9 hd9
      have hxw : Ext w wy := ho9.ext (HX1.out.trans hx9) l3
      have HI9 : Hid (SInv (Bx S w.heap.size (g5 + 1)) w g2 g3 g4 g5 [.slice (some ⟨bJ, oJ, none⟩) j.records.length cJ, .int .i64 j.many, .int .i64 (sy : Int)] d (p1 ++ [⟨at1, sect g at1 (kindOf (decide (k = 0)) (decide (k + 1 = n))) ((b.drop (k * 112)).take 112)⟩]) wy) :=
        Lib.hid ⟨hxw, ho9.box (HB2.out.keep hx9) n23, ho9.box (HB4.out.keep hx9) n34.symm, ho9.box (HB5.out.keep hx9) n35.symm, okD_write HOD1.out at1 g (kindOf (decide (k = 0)) (decide (k + 1 = n))) ((b.drop (k * 112)).take 112) hpl hat1 hp4, a5, c5, a6, c6, hb9, hd9⟩
      clear hb9 hd9 ho9 hx9 hwlo hwk2 hite
      go_wp2_with fail
      exact ⟨QInv.step hkl HAT.out HPW.out HI9.out, QInv.less hkl⟩
end Go.Proofs.Ytpciankfpagnhaa
