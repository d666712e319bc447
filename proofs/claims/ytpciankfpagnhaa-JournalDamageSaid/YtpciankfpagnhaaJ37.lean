/- What the laws JournalSteps, JournalSurvives and JournalDamage compute: plain functions. -/
import Derived.Test.YtpciankfpagnhaaJ21
namespace Go.Proofs.Ytpciankfpagnhaa
open Go.RowKit

theorem Fit.of_add {L : Jn} {d : Dk} (hd : Ready d) (hL : openJ d = (L, 0)) (hg : genMax d.sectors < 4294967296) (R : List (List UInt8)) : Nice L ∧ Fit (addJ L R) d ∧ L.records = recs d.sectors ∧ L.synced = (recs d.sectors).length ∧ (addJ L R).synced = L.synced ∧ ∃ x, (addJ L R).records = recs d.sectors ++ x := by
  rw [hd.open] at hL
  have hn := hd.opened
  obtain ⟨rfl, -⟩ := Prod.mk.inj hL
  obtain ⟨k1, k2, k3, x, hx⟩ := addJ_nice R hn
  refine ⟨hn, ⟨k1, hd, k2, ?_, hg⟩, rfl, rfl, k3, x, hx⟩
  rw [k3, hx]
  simp
/-- A sync without a stop: what it leaves. -/
theorem Fit.done {j : Jn} {d : Dk} (h : Fit j d) (hl : ¬ (0 ≤ d.left ∧ d.left < usedN (j.records.drop j.synced.toNat))) :
    ∃ ss l, syncJ j d = ({ j with synced := j.records.length }, ⟨ss, [], l, false⟩, 0) ∧ (d.left < 0 → l = d.left) ∧ recs ss = j.records ∧ genMax ss ≤ genMax d.sectors + 1 ∧ (∀ s ∈ ss, s.length = 128) ∧ ss.length = d.sectors.length := by
  obtain ⟨a1, a2, a3, a4⟩ := h.after rfl
  exact ⟨_, _, h.go hl, fun hlt => by rw [if_neg (by omega)], a1, a2, a3, a4⟩
/-- What the law JournalSteps computes. -/
theorem steps42 (a b : List (List UInt8)) : ∃ (D C X Y : Dk) (L A B O B2 T M N : Jn), newD 40 = (D, 0) ∧ openJ D = (L, 0) ∧ addJ L a = A ∧ addJ A b = B ∧ syncJ B D = (T, C, 0) ∧ syncJ A D = (O, X, 0) ∧ addJ O b = B2 ∧
    syncJ B2 X = (T, Y, 0) ∧ syncJ T Y = (T, Y, 0) ∧ openJ C = (M, 0) ∧ openJ Y = (N, 0) ∧ M.records = T.records ∧ N.records = T.records ∧ Nice L ∧ Nice A ∧ Nice B ∧ Nice O ∧ Nice B2 ∧ Nice T := by
  obtain ⟨r1, r2, r3, r4, r5, r6⟩ := new_ready (n := 40) (by decide) (by decide)
  have e1 := newD_eq (n := 40) (by decide) (by decide)
  generalize (newD (40 : Nat)).1 = D at *
  have eL := r1.open
  generalize hLd : ({ records := recs D.sectors, many := D.sectors.length, synced := (recs D.sectors).length } : Jn) = L at eL
  have hgD : genMax D.sectors < 4294967296 := by rw [r6]; decide
  obtain ⟨nL, fA, q1, q2, q3, xa, q4⟩ := Fit.of_add r1 eL hgD a
  have nB := (addJ_nice b fA.nice).1
  obtain ⟨-, bm, bs, xb, hxb⟩ := addJ_nice b fA.nice
  rw [r5] at q2 q4
  have sA : (addJ L a).synced = 0 := by rw [q3, q2]; rfl
  have fB : Fit (addJ (addJ L a) b) D := ⟨nB, r1, bm.trans fA.many, by rw [bs, sA, r5]; rfl, hgD⟩
  obtain ⟨ssC, lC, hC, hlC, c1, c2, c3, c4⟩ := fB.done (by rw [r4]; simp)
  obtain ⟨ssX, lX, hX, hlX, x1, x2, x3, x4⟩ := fA.done (by rw [r4]; simp)
  have hlX' := hlX (by rw [r4]; decide)
  have hlC' := hlC (by rw [r4]; decide)
  rw [r4] at hlX' hlC'
  subst hlX'; subst hlC'
  have len := r1.len
  have rC : Ready ⟨ssC, [], -1, false⟩ := ready_mk (by omega) (by omega) c3 (by decide) (by decide)
  have rX : Ready ⟨ssX, [], -1, false⟩ := ready_mk (by omega) (by omega) x3 (by decide) (by decide)
  have nO : Nice { addJ L a with synced := ((addJ L a).records.length : Int) } := ⟨fA.nice.many1, fA.nice.many2, by simp, by simp, fA.nice.used⟩
  have eB2 := addJ_syn b ((addJ L a).records.length : Int) fA.nice nO
  have nB2 : Nice { addJ (addJ L a) b with synced := ((addJ L a).records.length : Int) } := ⟨nB.many1, nB.many2, by simp, by simp only [hxb, List.length_append]; omega, nB.used⟩
  have fB2 : Fit { addJ (addJ L a) b with synced := ((addJ L a).records.length : Int) } ⟨ssX, [], -1, false⟩ := by
    refine ⟨nB2, rX, ?_, ?_, ?_⟩
    · show (addJ (addJ L a) b).many = (ssX.length : Int); rw [bm, fA.many, x4]
    · show recs ssX = (addJ (addJ L a) b).records.take ((addJ L a).records.length : Int).toNat; rw [x1, hxb]; simp
    · show genMax ssX < 4294967296; omega
  obtain ⟨ssY, lY, hY, hlY, y1, y2, y3, y4⟩ := fB2.done (by simp)
  have hlY' := hlY (by show (-1 : Int) < 0; decide)
  simp only at hlY' y4 y2
  subst hlY'
  have rY : Ready ⟨ssY, [], -1, false⟩ := ready_mk (by omega) (by omega) y3 (by decide) (by decide)
  have nT : Nice { addJ (addJ L a) b with synced := ((addJ (addJ L a) b).records.length : Int) } := ⟨nB.many1, nB.many2, by simp, by simp, nB.used⟩
  have fT : Fit { addJ (addJ L a) b with synced := ((addJ (addJ L a) b).records.length : Int) } ⟨ssY, [], -1, false⟩ := by
    refine ⟨nT, rY, ?_, ?_, ?_⟩
    · show (addJ (addJ L a) b).many = (ssY.length : Int); rw [bm, fA.many, y4, x4]
    · show recs ssY = (addJ (addJ L a) b).records.take ((addJ (addJ L a) b).records.length : Int).toNat; rw [y1]; simp
    · show genMax ssY < 4294967296; omega
  have hT := fT.sync
  rw [if_pos rfl] at hT
  refine ⟨D, _, _, _, L, _, _, _, _, _, _, _, e1, eL, rfl, rfl, hC, hX, eB2, hY, hT, rC.open, rY.open, c1, y1, nL, fA.nice, nB, nO, nB2, nT⟩

theorem pre_take {α : Type} (K D : List α) (r : Nat) : K ++ D.take r <+: K ++ D := (List.prefix_append_right_inj K).2 (List.take_prefix r D)
/-- One round of the law JournalSurvives. -/
theorem survive1 {d : Dk} (hd : Ready d) (hlft : d.left = -1) (hg : genMax d.sectors < 4294967296) (R : List (List UInt8)) (stop : Bool) (m : Nat) (hm : m ≤ 65536) :
    ∃ (L T : Jn) (d' Y : Dk) (e : Int) (K : List (List UInt8)), openJ d = (L, 0) ∧ Nice L ∧ L.records = recs d.sectors ∧ L.synced = L.records.length ∧ Nice (addJ L R) ∧ L.records.length ≤ (addJ L R).records.length ∧
      (stop = true → stopD d m = (d', 0)) ∧ (stop = false → d' = d) ∧ syncJ (addJ L R) d' = (T, Y, e) ∧ Ready (restartD Y) ∧ recs Y.sectors = K ∧ genMax Y.sectors ≤ genMax d.sectors + 1 ∧
      ((e = 0 ∧ T.synced = (addJ L R).records.length ∧ T.records = (addJ L R).records ∧ K = (addJ L R).records) ∨
       (e = 410 ∧ stop = true ∧ ∃ Z, openJ (restartD Y) = (Z, 0) ∧ Z.records = K ∧ L.records.length ≤ K.length ∧ K.length ≤ (addJ L R).records.length ∧ K = (addJ L R).records.take K.length)) := by
  have eL := hd.open
  generalize hLd : ({ records := recs d.sectors, many := d.sectors.length, synced := (recs d.sectors).length } : Jn) = L at eL
  obtain ⟨nL, fA, q1, q2, q3, x, q4⟩ := Fit.of_add hd eL hg R
  have len := hd.len
  have key : ∀ d' : Dk, d'.sectors = d.sectors → Ready d' → (d'.left < 0 ∨ ∃ k : Nat, d'.left = k) → (stop = false → d'.left < 0) → ∃ (T : Jn) (Y : Dk) (e : Int) (K : List (List UInt8)), syncJ (addJ L R) d' = (T, Y, e) ∧ Ready (restartD Y) ∧ recs Y.sectors = K ∧ genMax Y.sectors ≤ genMax d.sectors + 1 ∧
      ((e = 0 ∧ T.synced = (addJ L R).records.length ∧ T.records = (addJ L R).records ∧ K = (addJ L R).records) ∨
       (e = 410 ∧ stop = true ∧ ∃ Z, openJ (restartD Y) = (Z, 0) ∧ Z.records = K ∧ L.records.length ≤ K.length ∧ K.length ≤ (addJ L R).records.length ∧ K = (addJ L R).records.take K.length)) := by
    intro d' hs rd hk hst
    have f' : Fit (addJ L R) d' := ⟨fA.nice, rd, by rw [hs]; exact fA.many, by rw [hs]; exact fA.same, by rw [hs]; exact hg⟩
    by_cases hgo : 0 ≤ d'.left ∧ d'.left < usedN ((addJ L R).records.drop (addJ L R).synced.toNat)
    · obtain ⟨k, hk⟩ : ∃ k : Nat, d'.left = k := by rcases hk with h | h; omega; exact h
      obtain ⟨ss, h1, h2, h3, h4, h5⟩ := f'.stop hk (by omega)
      have hrd : Ready (restartD ⟨ss, [], 0, true⟩) := ready_mk (by rw [hs] at h5; omega) (by rw [hs] at h5; omega) h4 (by decide) (by decide)
      refine ⟨_, _, _, _, h1, hrd, rfl, by rw [hs] at h3; exact h3, .inr ⟨rfl, ?_, _, hrd.open, rfl, ?_, ?_, ?_⟩⟩
      · cases stop with
        | true => rfl
        | false => have := hst rfl; omega
      · rw [h2, hs, q1]; simp
      · rw [h2, hs]
        have := pre_take (recs d.sectors) ((addJ L R).records.drop (addJ L R).synced.toNat) (doneN k ((addJ L R).records.drop (addJ L R).synced.toNat))
        rw [fA.split] at this
        exact this.length_le
      · rw [h2, hs]
        have := pre_take (recs d.sectors) ((addJ L R).records.drop (addJ L R).synced.toNat) (doneN k ((addJ L R).records.drop (addJ L R).synced.toNat))
        rw [fA.split] at this
        exact List.prefix_iff_eq_take.1 this
    · obtain ⟨ss, l, h1, h2, h3, h4, h5, h6⟩ := f'.done hgo
      have hrd : Ready (restartD ⟨ss, [], l, false⟩) := ready_mk (by rw [hs] at h6; omega) (by rw [hs] at h6; omega) h5 (by decide) (by decide)
      exact ⟨_, _, _, _, h1, hrd, rfl, by rw [hs] at h4; exact h4, .inl ⟨rfl, rfl, rfl, h3⟩⟩
  cases stop with
  | false =>
    obtain ⟨T, Y, e, K, k1, k2, k3, k4, k5⟩ := key d rfl hd (.inl (by rw [hlft]; decide)) (fun _ => by rw [hlft]; decide)
    exact ⟨L, T, d, Y, e, K, eL, nL, q1, by rw [q2, q1], fA.nice, by rw [q1, q4]; simp, (fun h => by cases h), (fun _ => rfl), k1, k2, k3, k4, k5⟩
  | true =>
    have hs : stopD d m = ({ d with left := (m : Int) }, 0) := by
      unfold stopD runsD
      rw [hd.ok, hd.run, if_pos (by rfl), if_neg (by omega)]
    have rd : Ready { d with left := (m : Int) } := by
      have h1 := ((okD_iff _).1 hd.ok)
      exact ⟨(okD_iff _).2 ⟨⟨h1.1.1, h1.1.2.1, h1.1.2.2.1, by show (-1 : Int) ≤ m; omega, by show (m : Int) ≤ 65536; omega⟩, h1.2⟩, hd.run, hd.pend⟩
    obtain ⟨T, Y, e, K, k1, k2, k3, k4, k5⟩ := key { d with left := (m : Int) } rfl rd (.inr ⟨m, rfl⟩) (fun h => by cases h)
    exact ⟨L, T, _, Y, e, K, eL, nL, q1, by rw [q2, q1], fA.nice, by rw [q1, q4]; simp, fun _ => hs, (fun h => by cases h), k1, k2, k3, k4, k5⟩
/-- Which records end up to a sector. -/
theorem doneN_spec : ∀ (P : List (List UInt8)) (k w : Nat), w < P.length → (usedN (P.take (w + 1)) ≤ k ↔ w < doneN k P)
  | [], _, _, h => by simp at h
  | b :: P, k, 0, _ => by
    rw [doneN, List.take_succ_cons, List.take_zero, usedN_cons, usedN_nil]
    by_cases h : secN b.length ≤ k
    · rw [if_pos h]; omega
    · rw [if_neg h]; omega
  | b :: P, k, w + 1, h => by
    rw [doneN, List.take_succ_cons, usedN_cons]
    by_cases hb : secN b.length ≤ k
    · rw [if_pos hb]
      have := doneN_spec P (k - secN b.length) w (by simpa using h)
      omega
    · rw [if_neg hb]; omega
/-- A byte of a written sector is changed: the records before it are read. -/
theorem damage42 {P : List (List UInt8)} (hP : usedN P ≤ 40) {k : Nat} (hk : k < usedN P) {C : List (List UInt8)} (hC : C = perfL (List.replicate 40 (List.replicate 128 0)) (writesOf 1 0 P)) (j : Nat) (hj : j < 128) (y : UInt8) (hy : y ≠ (C.getD k []).getD j 0) :
    (C.getD k []).length = 128 ∧ C.length = 40 ∧ recs (C.set k ((C.getD k []).set j y)) = P.take (doneN k P) := by
  obtain ⟨r1, r2, r3, r4, r5, r6⟩ := new_ready (n := 40) (by decide) (by decide)
  generalize (newD (40 : Nat)).1 = D at *
  rw [← r3] at hC
  have hl : D.sectors.length = 40 := by rw [r3]; simp
  have hwl := writesOf_length 1 P 0
  have hp := perf_run (writesOf 1 0 P) 0 D.sectors (run_writes _ _ _) (by omega)
  rw [hwl, List.take_zero, List.nil_append, Nat.zero_add] at hp
  rw [hp] at hC
  have hkl : k < (wds (writesOf 1 0 P)).length := by rw [wds_length, hwl]; exact hk
  have hget : C.getD k [] = (wds (writesOf 1 0 P))[k] := by
    rw [List.getD_eq_getElem?_getD, hC, List.getElem?_append_left hkl, List.getElem?_eq_getElem hkl]; rfl
  have hmem : (wds (writesOf 1 0 P))[k] ∈ wds (writesOf 1 0 P) := List.getElem_mem hkl
  have hgood : goodS ((wds (writesOf 1 0 P))[k]) k = true := by
    have : ∀ (R : List (List UInt8)) (a i : Nat) (h : i < (wds (writesOf 1 a R)).length), a + usedN R ≤ 65536 → goodS ((wds (writesOf 1 a R))[i]) (a + i) = true := by
      intro R
      induction R with
      | nil => intro a i h; simp [writesOf, wds] at h
      | cons b R ih =>
        intro a i h hu
        rw [usedN_cons] at hu
        have hs : ∀ (n a i : Nat) (f : Bool) (b : List UInt8) (h : i < (wds (recSects 1 a f n b)).length), Fits f n b.length → a + n ≤ 65536 → goodS ((wds (recSects 1 a f n b))[i]) (a + i) = true := by
          intro n
          induction n with
          | zero => intro a i f b h; simp [recSects, wds] at h
          | succ n ihn =>
            intro a i f b h hf hk
            have h2 := recGo_ok (g := 1) (by decide) (by decide) (n + 1) a f b [] [] hf hk
            rw [recSects, wds, List.map_cons] at h2
            rw [List.append_nil, recGo] at h2
            cases i with
            | zero =>
              simp only [recSects, wds, List.map_cons, List.getElem_cons_zero, Nat.add_zero]
              cases hg : goodS (sect 1 a (kindOf f (n == 0)) (b.take 112)) a with
              | true => rfl
              | false => simp [hg] at h2
            | succ i =>
              have e : a + (i + 1) = a + 1 + i := by omega
              have hn : 1 ≤ n := by
                simp only [recSects, wds, List.map_cons, List.length_cons, List.length_map, recSects_length] at h; omega
              have := ihn (a + 1) i false (b.drop 112) (by simp only [recSects, wds, List.map_cons, List.length_cons] at h; simpa [wds] using h) (by unfold Fits at hf ⊢; rw [List.length_drop]; omega) (by omega)
              rw [e]
              simpa [recSects, wds] using this
        by_cases hi : i < secN b.length
        · have := hs (secN b.length) a i true b (by rw [wds_length, recSects_length]; exact hi) (fits_secN _) (by omega)
          simp only [writesOf, wds_append]
          rw [List.getElem_append_left (by rw [wds_length, recSects_length]; exact hi)]
          exact this
        · have hh := h
          rw [writesOf, wds_append, List.length_append, wds_length, recSects_length] at hh
          have := ih (a + secN b.length) (i - secN b.length) (by omega) (by omega)
          simp only [writesOf, wds_append]
          rw [List.getElem_append_right (by rw [wds_length, recSects_length]; omega)]
          simp only [wds_length, recSects_length]
          rw [show a + i = a + secN b.length + (i - secN b.length) by omega]
          exact this
    have := this P 0 k hkl (by omega)
    rwa [Nat.zero_add] at this
  rw [hget] at hy ⊢
  generalize (wds (writesOf 1 0 P))[k] = s at *
  have h128 : s.length = 128 := by
    obtain ⟨x, hx, rfl⟩ := List.mem_map.1 hmem
    obtain ⟨k, kd, p, e, hpl⟩ := writes_mem _ _ _ x hx
    rw [e]; exact sect_length _ _ _ _ hpl
  have hbad := good_set h128 hj hgood hy
  have hCl : C.length = 40 := by rw [hC, List.length_append, wds_length, hwl, List.length_drop]; omega
  refine ⟨h128, hCl, ?_⟩
  have hg1 : genMax D.sectors < 4294967296 := by rw [r6]; decide
  have := recs_part (ss := D.sectors) (ss' := C.set k (s.set j y)) (rest := (s.set j y) :: C.drop (k + 1)) (R := P) (m := k) r1.h128 r1.len.2 hg1 (by rw [r5, usedN_nil]; omega) (by omega) (by rw [r5, usedN_nil]; simp) ?_ ?_ ?_
  · rw [this, r5]; rfl
  · rw [r5, usedN_nil, r6, List.drop_zero]
    have e1 := List.take_append_drop k C
    have e2 : C.drop k = C[k]'(by omega) :: C.drop (k + 1) := List.drop_eq_getElem_cons (by omega)
    have e3 : C.set k (s.set j y) = C.take k ++ (s.set j y) :: C.drop (k + 1) := by
      conv => lhs; rw [← e1, e2]
      rw [List.set_append_right _ _ (by rw [List.length_take]; omega)]
      simp [show k - min k C.length = 0 by omega]
      rw [e2]; rfl
    rw [e3]
    congr 1
    rw [hC, List.take_append_of_le_length (by omega)]
  · exact .inr ⟨_, _, rfl, .inl (by rw [r5, usedN_nil, Nat.zero_add]; exact hbad)⟩
  · exact .inr (.inr ⟨_, _, rfl, by rw [r5, usedN_nil, Nat.zero_add]; exact hbad⟩)
end Go.Proofs.Ytpciankfpagnhaa

