import Derived.Test.YtlmgnlhagpoggaaDoorQ5
namespace Go.Proofs.YtlmgnlhagpoggaaDoor
open Go.Ab Go.Tb
set_option maxRecDepth 10000
attribute [local irreducible] W WO Pu QS QB QL QF QV QV1 CH QE
theorem read_fn (ws : List ByteArray) (h0 : 0 < ws.length) (hl : ws.length ≤ 100000) (hsz : ∀ w ∈ ws, w.size ≤ 1000000) : Does Tryd.prog 38 [.d (.sl (txs ws))] (.ag (readR ws).c) 0 := by
  obtain ⟨T0, hT⟩ : ∃ T0, T0 = (numP (wordAt ws 0)).1 := ⟨_, rfl⟩
  obtain ⟨K, hK⟩ : ∃ K, K = kindR ws 12 := ⟨_, rfl⟩
  obtain ⟨a, hA⟩ : ∃ a, a = nameR ws K := ⟨_, rfl⟩
  obtain ⟨n, hN⟩ : ∃ n, n = numRd (usesN K) ws a.2 := ⟨_, rfl⟩
  obtain ⟨m, hM⟩ : ∃ m, m = numRd (usesM K) ws n.2 := ⟨_, rfl⟩
  obtain ⟨st, hS⟩ : ∃ st, st = stackR (usesStack K) ws m.2 := ⟨_, rfl⟩
  have hR : readR ws = ⟨T0, K, a.1, n.1, m.1, st⟩ := by subst hS; subst hM; subst hN; subst hA; subst hK; subst hT; rfl
  have ha3 : a.2 ≤ 3 := by rw [hA]; unfold nameR; split <;> simp
  have hn4 : n.2 ≤ 4 := by rw [hN]; unfold numRd; split <;> (simp only; omega)
  have hm5 : m.2 ≤ 5 := by rw [hM]; unfold numRd; split <;> (simp only; omega)
  rw [hR]
  refine Does.of_V tab (n := 123) (rs := [.cell 2 25]) Tryd.func38 (by kernel_rfl) rfl Tryd.ntmps38 Tryd.results38 rfl fun C hC hG => ?_
  refine W.seq ?_
  refine W.region ?_
  refine allocR tab rfl rfl rfl ?_
  refine WO.nil ?_
  refine qs ?_
  refine W.seq ?_
  refine W.region ?_
  refine pu (ev tab rfl) rfl ?_
  refine pu (indexAddr (l := sc (wordAt ws 0)) tab rfl rfl rfl rfl rfl rfl (Int.le_refl _) (idx_map (wordAt_get h0)) rfl) rfl ?_
  first | refine pu (ev tab rfl) rfl ?_ | refine pu (loadRow tab rfl rfl rfl rfl) rfl ?_ | refine pu (loadBox tab rfl rfl rfl rfl rfl) rfl ?_
  refine pu (puCall rfl rfl rfl (rnparse_fn ..) rfl) rfl ?_
  iterate 5 refine pu (ev tab rfl) rfl ?_
  refine WO.nil ?_
  refine qs ?_
  refine W.seq ?_
  refine W.region ?_
  refine pu (puI (ev tab rfl) hT.symm) rfl ?_
  refine pu (build tab rfl rfl rfl rfl) rfl ?_
  refine allocR tab rfl rfl rfl ?_
  refine storeR tab rfl rfl rfl rfl rfl rfl rfl rfl ?_
  refine WO.nil ?_
  refine qs ?_
  refine W.seq ?_
  refine W.seq ?_
  refine W.region ?_
  refine pu (ev tab rfl) rfl ?_
  refine WO.nil ?_
  refine qs ?_
  refine W.block ?_
  refine W.loopR (ι := {x : Nat // match x with | j => j ≤ 12})
    (fun x => match x.1 with | j => [(2, .ptr 0 0), (5, .ptr 1 0), (6, .d (.v (.int .i64 ((j + 1 : Nat) : Int))))]) [(0, _)]
    (fun x => match x.1 with | j => [(0, ev0n), (1, evB T0 (kindR ws j) (B #[]) 0 0)]) [] [] 2 (fun x => match x.1 with | j => 12 - j)
    [0, 1] ⟨0, ?_⟩ rfl ?_ ⟨rfl, rfl, trivial⟩ ?_ trivial rfl ?_
  · exact Nat.zero_le _
  · repeat' first | exact trivial | refine ⟨rfl, ?_⟩ | refine ⟨step_nat (by assumption) (by assumption), ?_⟩
  · repeat' first | exact trivial | refine ⟨rfl, ?_⟩ | refine ⟨step_nat (by assumption) (by assumption), ?_⟩
  rintro ⟨j, hj⟩
  show W _ _ _ _ _ ⟨[(2, .ptr 0 0), (5, .ptr 1 0), (6, .d (.v (.int .i64 ((j + 1 : Nat) : Int)))), (0, _)], [(0, ev0n), (1, evB T0 (kindR ws j) (B #[]) 0 0)], [], 2⟩
  refine W.seq ?_
  refine W.seq ?_
  refine W.region ?_
  iterate 2 refine pu (ev tab rfl) rfl ?_
  refine WO.nil ?_
  refine qs ?_
  refine condK rfl (fun h26 => ?_) (fun h26 => ?_)
  · skip
    have hj12 : j < 12 := by simp at h26; omega
    refine W.skip ?_
    refine qs ?_
    refine W.seq ?_
    refine W.block ?_
    refine W.seq ?_
    apply regionDB tab; (case hb => rfl); (case hB => kernel_rfl)
    · skip
      refine chPu (ev tab rfl) rfl ?_
      refine chPu (ev tab rfl) rfl ?_
      refine chPu (ev tab rfl) rfl ?_
      refine chPu (ev tab rfl) rfl ?_
      apply chSplitH; (case hj => rfl); (case hl => rfl)
      · intro g32
        refine chGo rfl rfl (ev tab rfl) rfl ?_
        refine chGo rfl rfl (puCall rfl rfl rfl (rword_fn ((j + 1 : Nat) : Int) (by omega) (by omega)) rfl) rfl ?_
        refine chGo rfl rfl (ev tab rfl) rfl ?_
        refine chGo rfl rfl (indexAddr (l := sc (wordAt ws 1)) tab rfl rfl rfl rfl rfl rfl (by decide) (idx_map (wordAt_get (by have q := g32; simp at q; omega))) rfl) rfl ?_
        first | refine chGo rfl rfl (ev tab rfl) rfl ?_ | refine chGo rfl rfl (loadRow tab rfl rfl rfl rfl) rfl ?_ | refine chGo rfl rfl (loadBox tab rfl rfl rfl rfl rfl) rfl ?_
        refine chGo rfl rfl (ev tab rfl) rfl ?_
        refine chPu (ev tab rfl) rfl ?_
        refine CH.nil ?_
        refine qv1 rfl rfl rfl
      · intro g32
        refine chSkip rfl rfl rfl rfl ?_
        refine chSkip rfl rfl rfl rfl ?_
        refine chSkip rfl rfl rfl rfl ?_
        refine chSkip rfl rfl rfl rfl ?_
        refine chSkip rfl rfl rfl rfl ?_
        refine chSkip rfl rfl rfl rfl ?_
        refine chPu (ev tab rfl) rfl ?_
        refine CH.nil ?_
        refine qv1 rfl rfl rfl
    refine qs ?_
    refine condK rfl (fun h39 => ?_) (fun h39 => ?_)
    · skip
      have hk' : kindR ws (j + 1) = ((j + 1 : Nat) : Int) := by simp only [kindR]; exact if_pos (by simp at h39; exact ⟨by omega, h39.2⟩)
      refine W.region ?_
      iterate 2 refine pu (ev tab rfl) rfl ?_
      refine storeR tab rfl rfl rfl rfl rfl rfl rfl rfl ?_
      refine WO.nil ?_
      refine qbN ?_
      refine qs ?_
      refine W.region ?_
      refine pu (ev tab rfl) rfl ?_
      refine pu (puI (ev tab rfl) (y := ((j + 1 + 1 : Nat) : Int)) (by rw [show (((j + 1 : Nat) : Int) + 1) = ((j + 1 + 1 : Nat) : Int) by omega]; exact wrap64 (by omega))) rfl ?_
      refine pu (ev tab rfl) rfl ?_
      refine WO.nil ?_
      refine W.endR [0, 1] ⟨j + 1, ?_⟩ ?_ rfl ?_ ⟨rfl, rfl, trivial⟩ ?_ trivial rfl
      · exact hj12
      · dsimp only; omega
      · repeat' first | exact trivial | refine ⟨rfl, ?_⟩ | refine ⟨step_nat (by assumption) (by assumption), ?_⟩
      · simp only [hk']
        repeat' first | exact trivial | refine ⟨rfl, ?_⟩
    · skip
      have hk' : kindR ws (j + 1) = kindR ws j := by simp only [kindR]; exact if_neg (fun q => by simp at h39; exact h39 (by omega) q.2)
      refine W.skip ?_
      refine qbN ?_
      refine qs ?_
      refine W.region ?_
      refine pu (ev tab rfl) rfl ?_
      refine pu (puI (ev tab rfl) (y := ((j + 1 + 1 : Nat) : Int)) (by rw [show (((j + 1 : Nat) : Int) + 1) = ((j + 1 + 1 : Nat) : Int) by omega]; exact wrap64 (by omega))) rfl ?_
      refine pu (ev tab rfl) rfl ?_
      refine WO.nil ?_
      refine W.endR [0, 1] ⟨j + 1, ?_⟩ ?_ rfl ?_ ⟨rfl, rfl, trivial⟩ ?_ trivial rfl
      · exact hj12
      · dsimp only; omega
      · repeat' first | exact trivial | refine ⟨rfl, ?_⟩ | refine ⟨step_nat (by assumption) (by assumption), ?_⟩
      · simp only [hk']
        repeat' first | exact trivial | refine ⟨rfl, ?_⟩
  · skip
    have hj12 : j = 12 := by simp at h26; omega
    have hKj : kindR ws j = K := by rw [hj12, hK]
    rw [hKj]
    refine W.exit ?_
    refine qsExit ?_
    refine qlExit ?_
    refine qbExit ?_
    refine qs ?_
    refine W.seq ?_
    refine W.region ?_
    refine pu (ev tab rfl) rfl ?_
    first | refine pu (ev tab rfl) rfl ?_ | refine pu (loadRow tab rfl rfl rfl rfl) rfl ?_ | refine pu (loadBox tab rfl rfl rfl rfl rfl) rfl ?_
    refine pu (puCall rfl rfl rfl (uses_fn2 ..) rfl) rfl ?_
    iterate 9 refine pu (ev tab rfl) rfl ?_
    refine WO.nil ?_
    refine qs ?_
    refine W.seq ?_
    refine W.region ?_
    refine pu (ev tab rfl) rfl ?_
    refine WO.nil ?_
    refine qs ?_
    refine W.seq ?_
    refine W.seq ?_
    apply regionB; (case hb => rfl)
    · skip
      iterate 2 refine pu (ev tab rfl) rfl ?_
      apply splitH; (case hj => rfl); (case hl => rfl)
      · intro g51
        refine goG rfl rfl ?_
        refine pu (ev tab rfl) rfl ?_
        refine goG rfl rfl ?_
        refine pu (ev tab rfl) rfl ?_
        refine goG rfl rfl ?_
        refine pu (ev tab rfl) rfl ?_
        refine goG rfl rfl ?_
        iterate 2 refine pu (ev tab rfl) rfl ?_
        refine WO.nil ?_
        refine qv1 rfl rfl rfl
      · intro g51
        refine skipT rfl rfl rfl rfl ?_
        refine skipT rfl rfl rfl rfl ?_
        refine skipT rfl rfl rfl rfl ?_
        refine skipT rfl rfl rfl rfl ?_
        refine pu (ev tab rfl) rfl ?_
        refine WO.nil ?_
        refine qv1 rfl rfl rfl
    refine qs ?_
    refine W.cutS [(0, .d (.sl (txs ws))), (2, .ptr 0 0), (5, .ptr 1 0), (8, .d (.v (.bool (usesN K)))), (9, .d (.v (.bool (usesM K)))), (10, .d (.v (.bool (usesStack K)))), (11, .d (.v (.int .i64 ((a.2 : Nat) : Int))))] [] [(0, ev0n), (1, evB T0 K a.1 0 0)] [] [] 2 ?_ ?_
    · skip
      refine condK rfl (fun h56 => ?_) (fun h56 => ?_)
      · skip
        have ha' : a = (wordAt ws 2, 3) := by rw [hA]; exact if_pos (by simp at h56; simp [h56.1]; omega)
        have hi2 : 2 < ws.length := by simp at h56; omega
        refine W.seq ?_
        refine W.region ?_
        iterate 2 refine pu (ev tab rfl) rfl ?_
        refine pu (indexAddr (l := sc (wordAt ws 2)) tab rfl rfl rfl rfl rfl rfl (by decide) (idx_map (wordAt_get hi2)) rfl) rfl ?_
        first | refine pu (ev tab rfl) rfl ?_ | refine pu (loadRow tab rfl rfl rfl rfl) rfl ?_ | refine pu (loadBox tab rfl rfl rfl rfl rfl) rfl ?_
        refine pu (ev tab rfl) rfl ?_
        refine storeR tab rfl rfl rfl rfl rfl rfl rfl rfl ?_
        refine WO.nil ?_
        refine qs ?_
        refine W.region ?_
        iterate 3 refine pu (ev tab rfl) rfl ?_
        refine WO.nil ?_
        refine cutEnd [0, 1] rfl ?_ trivial ?_ trivial rfl
        · rw [ha']
          repeat' first | exact trivial | refine ⟨rfl, ?_⟩
        · rw [ha']
          repeat' first | exact trivial | refine ⟨rfl, ?_⟩
      · skip
        have ha' : a = (B #[], 2) := by rw [hA]; exact if_neg (by simp at h56; simp; intro q; have := h56 q; omega)
        refine W.skip ?_
        refine cutEnd [0, 1] rfl ?_ trivial ?_ trivial rfl
        · rw [ha']
          repeat' first | exact trivial | refine ⟨rfl, ?_⟩
        · rw [ha']
          repeat' first | exact trivial | refine ⟨rfl, ?_⟩
    refine qs ?_
    refine W.seq ?_
    refine W.seq ?_
    apply regionB; (case hb => rfl)
    · skip
      iterate 2 refine pu (ev tab rfl) rfl ?_
      apply splitH; (case hj => rfl); (case hl => rfl)
      · intro g65
        refine goG rfl rfl ?_
        refine pu (ev tab rfl) rfl ?_
        refine goG rfl rfl ?_
        refine pu (ev tab rfl) rfl ?_
        refine goG rfl rfl ?_
        refine pu (ev tab rfl) rfl ?_
        refine goG rfl rfl ?_
        iterate 2 refine pu (ev tab rfl) rfl ?_
        refine WO.nil ?_
        refine qv1 rfl rfl rfl
      · intro g65
        refine skipT rfl rfl rfl rfl ?_
        refine skipT rfl rfl rfl rfl ?_
        refine skipT rfl rfl rfl rfl ?_
        refine skipT rfl rfl rfl rfl ?_
        refine pu (ev tab rfl) rfl ?_
        refine WO.nil ?_
        refine qv1 rfl rfl rfl
    refine qs ?_
    refine W.cutS [(0, .d (.sl (txs ws))), (2, .ptr 0 0), (5, .ptr 1 0), (9, .d (.v (.bool (usesM K)))), (10, .d (.v (.bool (usesStack K)))), (11, .d (.v (.int .i64 ((n.2 : Nat) : Int))))] [] [(0, ev0n), (1, evB T0 K a.1 n.1 0)] [] [] 2 ?_ ?_
    · skip
      refine condK rfl (fun h70 => ?_) (fun h70 => ?_)
      · skip
        have hn' : n = ((numP (wordAt ws a.2)).1, a.2 + 1) := by rw [hN]; exact if_pos (by simp at h70; simp [h70.1]; omega)
        have hi3 : a.2 < ws.length := by simp at h70; omega
        refine W.seq ?_
        refine W.region ?_
        iterate 2 refine pu (ev tab rfl) rfl ?_
        refine pu (indexAddr (l := sc (wordAt ws a.2)) tab rfl rfl rfl rfl rfl rfl (Int.natCast_nonneg _) (idx_map (wordAt_get hi3)) rfl) rfl ?_
        first | refine pu (ev tab rfl) rfl ?_ | refine pu (loadRow tab rfl rfl rfl rfl) rfl ?_ | refine pu (loadBox tab rfl rfl rfl rfl rfl) rfl ?_
        refine pu (puCall rfl rfl rfl (rnparse_fn ..) rfl) rfl ?_
        iterate 5 refine pu (ev tab rfl) rfl ?_
        refine WO.nil ?_
        refine qs ?_
        refine W.seq ?_
        refine W.region ?_
        iterate 2 refine pu (ev tab rfl) rfl ?_
        refine storeR tab rfl rfl rfl rfl rfl rfl rfl rfl ?_
        refine WO.nil ?_
        refine qs ?_
        refine W.region ?_
        refine pu (ev tab rfl) rfl ?_
        refine pu (puI (ev tab rfl) (y := ((a.2 + 1 : Nat) : Int)) (wrap_nat (n := a.2 + 1) (Nat.lt_succ_self _) (by simp only [maxLen]; omega))) rfl ?_
        refine pu (ev tab rfl) rfl ?_
        refine WO.nil ?_
        refine cutEnd [0, 1] rfl ?_ trivial ?_ trivial rfl
        · rw [hn']
          repeat' first | exact trivial | refine ⟨rfl, ?_⟩
        · rw [hn']
          repeat' first | exact trivial | refine ⟨rfl, ?_⟩
      · skip
        have hn' : n = (0, a.2) := by rw [hN]; exact if_neg (by simp at h70; simp; intro q; have := h70 q; omega)
        refine W.skip ?_
        refine cutEnd [0, 1] rfl ?_ trivial ?_ trivial rfl
        · rw [hn']
          repeat' first | exact trivial | refine ⟨rfl, ?_⟩
        · rw [hn']
          repeat' first | exact trivial | refine ⟨rfl, ?_⟩
    refine qs ?_
    refine W.seq ?_
    refine W.seq ?_
    apply regionB; (case hb => rfl)
    · skip
      iterate 2 refine pu (ev tab rfl) rfl ?_
      apply splitH; (case hj => rfl); (case hl => rfl)
      · intro g84
        refine goG rfl rfl ?_
        refine pu (ev tab rfl) rfl ?_
        refine goG rfl rfl ?_
        refine pu (ev tab rfl) rfl ?_
        refine goG rfl rfl ?_
        refine pu (ev tab rfl) rfl ?_
        refine goG rfl rfl ?_
        iterate 2 refine pu (ev tab rfl) rfl ?_
        refine WO.nil ?_
        refine qv1 rfl rfl rfl
      · intro g84
        refine skipT rfl rfl rfl rfl ?_
        refine skipT rfl rfl rfl rfl ?_
        refine skipT rfl rfl rfl rfl ?_
        refine skipT rfl rfl rfl rfl ?_
        refine pu (ev tab rfl) rfl ?_
        refine WO.nil ?_
        refine qv1 rfl rfl rfl
    refine qs ?_
    refine W.cutS [(0, .d (.sl (txs ws))), (2, .ptr 0 0), (5, .ptr 1 0), (10, .d (.v (.bool (usesStack K)))), (11, .d (.v (.int .i64 ((m.2 : Nat) : Int))))] [] [(0, ev0n), (1, evB T0 K a.1 n.1 m.1)] [] [] 2 ?_ ?_
    · skip
      refine condK rfl (fun h89 => ?_) (fun h89 => ?_)
      · skip
        have hm' : m = ((numP (wordAt ws n.2)).1, n.2 + 1) := by rw [hM]; exact if_pos (by simp at h89; simp [h89.1]; omega)
        have hi4 : n.2 < ws.length := by simp at h89; omega
        refine W.seq ?_
        refine W.region ?_
        iterate 2 refine pu (ev tab rfl) rfl ?_
        refine pu (indexAddr (l := sc (wordAt ws n.2)) tab rfl rfl rfl rfl rfl rfl (Int.natCast_nonneg _) (idx_map (wordAt_get hi4)) rfl) rfl ?_
        first | refine pu (ev tab rfl) rfl ?_ | refine pu (loadRow tab rfl rfl rfl rfl) rfl ?_ | refine pu (loadBox tab rfl rfl rfl rfl rfl) rfl ?_
        refine pu (puCall rfl rfl rfl (rnparse_fn ..) rfl) rfl ?_
        iterate 5 refine pu (ev tab rfl) rfl ?_
        refine WO.nil ?_
        refine qs ?_
        refine W.seq ?_
        refine W.region ?_
        iterate 2 refine pu (ev tab rfl) rfl ?_
        refine storeR tab rfl rfl rfl rfl rfl rfl rfl rfl ?_
        refine WO.nil ?_
        refine qs ?_
        refine W.region ?_
        refine pu (ev tab rfl) rfl ?_
        refine pu (puI (ev tab rfl) (y := ((n.2 + 1 : Nat) : Int)) (wrap_nat (n := n.2 + 1) (Nat.lt_succ_self _) (by simp only [maxLen]; omega))) rfl ?_
        refine pu (ev tab rfl) rfl ?_
        refine WO.nil ?_
        refine cutEnd [0, 1] rfl ?_ trivial ?_ trivial rfl
        · rw [hm']
          repeat' first | exact trivial | refine ⟨rfl, ?_⟩
        · rw [hm']
          repeat' first | exact trivial | refine ⟨rfl, ?_⟩
      · skip
        have hm' : m = (0, n.2) := by rw [hM]; exact if_neg (by simp at h89; simp; intro q; have := h89 q; omega)
        refine W.skip ?_
        refine cutEnd [0, 1] rfl ?_ trivial ?_ trivial rfl
        · rw [hm']
          repeat' first | exact trivial | refine ⟨rfl, ?_⟩
        · rw [hm']
          repeat' first | exact trivial | refine ⟨rfl, ?_⟩
    refine qs ?_
    refine W.seq ?_
    refine W.seq ?_
    apply regionB; (case hb => rfl)
    · skip
      iterate 2 refine pu (ev tab rfl) rfl ?_
      apply splitH; (case hj => rfl); (case hl => rfl)
      · intro g103
        refine goG rfl rfl ?_
        refine pu (ev tab rfl) rfl ?_
        refine goG rfl rfl ?_
        refine pu (ev tab rfl) rfl ?_
        refine goG rfl rfl ?_
        refine pu (ev tab rfl) rfl ?_
        refine goG rfl rfl ?_
        iterate 3 refine pu (ev tab rfl) rfl ?_
        apply splitH; (case hj => rfl); (case hl => rfl)
        · intro g109
          refine goG rfl rfl ?_
          refine pu (ev tab rfl) rfl ?_
          refine goG rfl rfl ?_
          refine pu (ev tab rfl) rfl ?_
          refine goG rfl rfl ?_
          refine pu (indexAddr (l := sc (wordAt ws m.2)) tab rfl rfl rfl rfl rfl rfl (Int.natCast_nonneg _) (idx_map (wordAt_get (by have q := g109; simp at q; omega))) rfl) rfl ?_
          refine goG rfl rfl ?_
          first | refine pu (ev tab rfl) rfl ?_ | refine pu (loadRow tab rfl rfl rfl rfl) rfl ?_ | refine pu (loadBox tab rfl rfl rfl rfl rfl) rfl ?_
          refine goG rfl rfl ?_
          iterate 2 refine pu (ev tab rfl) rfl ?_
          refine WO.nil ?_
          refine qv1 rfl rfl rfl
        · intro g109
          refine skipT rfl rfl rfl rfl ?_
          refine skipT rfl rfl rfl rfl ?_
          refine skipT rfl rfl rfl rfl ?_
          refine skipT rfl rfl rfl rfl ?_
          refine skipT rfl rfl rfl rfl ?_
          refine pu (ev tab rfl) rfl ?_
          refine WO.nil ?_
          refine qv1 rfl rfl rfl
      · intro g103
        refine skipT rfl rfl rfl rfl ?_
        refine skipT rfl rfl rfl rfl ?_
        refine skipT rfl rfl rfl rfl ?_
        refine skipT rfl rfl rfl rfl ?_
        iterate 2 refine pu (ev tab rfl) rfl ?_
        refine skipT rfl rfl rfl rfl ?_
        refine skipT rfl rfl rfl rfl ?_
        refine skipT rfl rfl rfl rfl ?_
        refine skipT rfl rfl rfl rfl ?_
        refine skipT rfl rfl rfl rfl ?_
        refine pu (ev tab rfl) rfl ?_
        refine WO.nil ?_
        refine qv1 rfl rfl rfl
    refine qs ?_
    refine W.cutS [(2, .ptr 0 0), (5, .ptr 1 0)] [] [(0, ev0n), (1, (Ev.mk T0 K a.1 n.1 m.1 st).c.map A.d)] [] [] 2 ?_ ?_
    · skip
      refine condK rfl (fun h115 => ?_) (fun h115 => ?_)
      · skip
        have hs' : st = cutB (wordAt ws m.2) 59 := by rw [hS]; exact if_pos (by simp at h115; simp; grind)
        have hi5 : m.2 < ws.length := by simp at h115; omega
        refine W.region ?_
        iterate 2 refine pu (ev tab rfl) rfl ?_
        refine pu (indexAddr (l := sc (wordAt ws m.2)) tab rfl rfl rfl rfl rfl rfl (Int.natCast_nonneg _) (idx_map (wordAt_get hi5)) rfl) rfl ?_
        first | refine pu (ev tab rfl) rfl ?_ | refine pu (loadRow tab rfl rfl rfl rfl) rfl ?_ | refine pu (loadBox tab rfl rfl rfl rfl rfl) rfl ?_
        refine pu (puCall rfl rfl rfl (cut_fn (wordAt ws m.2) 59 (wordAt_le hsz _)) rfl) rfl ?_
        refine pu (ev tab rfl) rfl ?_
        refine storeR tab rfl rfl rfl rfl rfl rfl rfl rfl ?_
        refine WO.nil ?_
        refine cutEnd [0, 1] rfl ?_ trivial ?_ trivial rfl
        · repeat' first | exact trivial | refine ⟨rfl, ?_⟩ | refine ⟨step_nat (by assumption) (by assumption), ?_⟩
        · rw [hs']
          repeat' first | exact trivial | refine ⟨rfl, ?_⟩
      · skip
        have hs' : st = [] := by rw [hS]; exact if_neg (by simp at h115; simp; grind)
        refine nilBox 1 5 rfl rfl rfl ?_
        refine W.skip ?_
        refine cutEnd [0, 1] rfl ?_ trivial ?_ trivial rfl
        · repeat' first | exact trivial | refine ⟨rfl, ?_⟩ | refine ⟨step_nat (by assumption) (by assumption), ?_⟩
        · rw [hs']
          repeat' first | exact trivial | refine ⟨rfl, ?_⟩
    refine qs ?_
    refine W.seq ?_
    refine W.region ?_
    first | refine pu (ev tab rfl) rfl ?_ | refine pu (loadRow tab rfl rfl rfl rfl) rfl ?_ | refine pu (loadBox tab rfl rfl rfl rfl rfl) rfl ?_
    refine storeR tab rfl rfl rfl rfl rfl rfl rfl rfl ?_
    refine WO.nil ?_
    refine qs ?_
    refine W.ret ?_
    refine QV.ret0 tab trivial rfl ?_
    rfl
end Go.Proofs.YtlmgnlhagpoggaaDoor
namespace Go.Proofs.YtlmgnlhagpoggaaDoor
open Go.Ab Go.Tb
set_option maxRecDepth 10000
attribute [local irreducible] W WO Pu QS QB QL QF QV QV1 CH QE
theorem rparse_fn (s : ByteArray) (hs : s.size ≤ 1000000) : Does Tryd.prog 16 [.d (.v (.string s))] (.tup [.ag (parseE s).1.c, .d (.v (.int .i64 (parseE s).2))]) 0 := by
  rw [← parseR_eq]
  refine Does.of_V tab (n := 22) (rs := [.cell 2 25, .tmp 3]) Tryd.func16 (by kernel_rfl) rfl Tryd.ntmps16 Tryd.results16 rfl fun C hC hG => ?_
  refine W.seq ?_
  refine W.region ?_
  refine allocR tab rfl rfl rfl ?_
  refine pu (ev tab rfl) rfl ?_
  refine WO.nil ?_
  refine qs ?_
  refine W.seq ?_
  refine W.seq ?_
  refine W.region ?_
  iterate 3 refine pu (ev tab rfl) rfl ?_
  refine WO.nil ?_
  refine qs ?_
  refine condK rfl (fun h7 => ?_) (fun h7 => ?_)
  · skip
    have hg : parseR s = (ev0, 7) := by unfold parseR; rw [if_pos (by simp at h7; omega)]
    refine W.seq ?_
    refine W.region ?_
    refine pu (build tab rfl rfl rfl rfl) rfl ?_
    refine storeR tab rfl rfl rfl rfl rfl rfl rfl rfl ?_
    refine pu (ev tab rfl) rfl ?_
    refine WO.nil ?_
    refine qs ?_
    try refine nilBox 0 5 rfl rfl rfl ?_
    refine W.ret ?_
    refine qsRet ?_
    refine QV.ret0 tab trivial rfl ?_
    rw [hg]; rfl
  · skip
    have h2000 : ¬ 2000 < s.size := by simp at h7; omega
    have hsz := cutB_le (s := s) (c := 32) (m := 1000000) hs
    have hpos : 0 < (cutB s 32).length := by
      obtain ⟨x, t, e⟩ := cutL_cons 32 s.data.toList
      unfold cutB
      rw [e]
      simp
    have hlen : (cutB s 32).length ≤ 100000 := by
      have h1 := cutL_len 32 s.data.toList
      have h2 : s.data.toList.length = s.size := Array.length_toList
      unfold cutB
      rw [List.length_map]
      omega
    have hg0 : parseR s = if s = B #[] ∨ textE (readR (cutB s 32)) ≠ s then (ev0, 10) else (readR (cutB s 32), 0) := by unfold parseR; rw [if_neg h2000]
    refine W.skip ?_
    refine qs ?_
    refine W.seq ?_
    refine W.region ?_
    refine pu (ev tab rfl) rfl ?_
    refine pu (puCall rfl rfl rfl (cut_fn s 32 hs) rfl) rfl ?_
    refine pu (puCall rfl rfl rfl (read_fn (cutB s 32) hpos hlen hsz) rfl) rfl ?_
    refine allocR tab rfl rfl rfl ?_
    refine storeR tab rfl rfl rfl rfl rfl rfl rfl rfl ?_
    refine WO.nil ?_
    refine qs ?_
    refine W.seq ?_
    refine W.seq ?_
    apply regionB; (case hb => rfl)
    · skip
      iterate 3 refine pu (ev tab rfl) rfl ?_
      apply splitJ; (case hj => rfl); (case hl => rfl)
      · skip
        refine skipT rfl rfl rfl rfl ?_
        refine skipT rfl rfl rfl rfl ?_
        refine skipT rfl rfl rfl rfl ?_
        refine skipT rfl rfl rfl rfl ?_
        refine pu (ev tab rfl) rfl ?_
        refine WO.nil ?_
        refine qv1 rfl rfl rfl
      · skip
        refine goG rfl rfl ?_
        first | refine pu (ev tab rfl) rfl ?_ | refine pu (loadRow tab rfl rfl rfl rfl) rfl ?_ | refine pu (loadBox tab rfl rfl rfl rfl rfl) rfl ?_
        refine goG rfl rfl ?_
        refine pu (puCall rfl rfl rfl (rtextE_fn (readR (cutB s 32))) rfl) rfl ?_
        refine goG rfl rfl ?_
        refine pu (ev tab rfl) rfl ?_
        refine goG rfl rfl ?_
        iterate 2 refine pu (ev tab rfl) rfl ?_
        refine WO.nil ?_
        refine qv1 rfl rfl rfl
    refine qs ?_
    refine condK rfl (fun h19 => ?_) (fun h19 => ?_)
    · skip
      refine W.seq ?_
      refine W.region ?_
      refine pu (build tab rfl rfl rfl rfl) rfl ?_
      refine storeR tab rfl rfl rfl rfl rfl rfl rfl rfl ?_
      refine pu (ev tab rfl) rfl ?_
      refine WO.nil ?_
      refine qs ?_
      try refine nilBox 0 5 rfl rfl rfl ?_
      refine W.ret ?_
      refine qsRet ?_
      refine QV.ret0 tab trivial rfl ?_
      have hg : parseR s = (ev0, 10) := by
        rw [hg0, if_pos]
        revert h19
        by_cases q : s = B #[] <;> simp [q]
      rw [hg]
      rfl
    · skip
      refine W.skip ?_
      refine qs ?_
      refine W.seq ?_
      refine W.region ?_
      first | refine pu (ev tab rfl) rfl ?_ | refine pu (loadRow tab rfl rfl rfl rfl) rfl ?_ | refine pu (loadBox tab rfl rfl rfl rfl rfl) rfl ?_
      refine storeR tab rfl rfl rfl rfl rfl rfl rfl rfl ?_
      refine pu (ev tab rfl) rfl ?_
      refine WO.nil ?_
      refine qs ?_
      try refine nilBox 0 5 rfl rfl rfl ?_
      refine W.ret ?_
      refine QV.ret0 tab trivial rfl ?_
      have hg : parseR s = (readR (cutB s 32), 0) := by
        rw [hg0, if_neg]
        revert h19
        by_cases q : s = B #[] <;> simp [q]
      rw [hg]
      rfl
instance evDec : DecidableEq Ev := fun a b => decidable_of_iff (sameEv a b = true) (sameEv_iff a b)
@[reducible] def nl (t k n m : Int) : List D := [ci t, ci k, cs (B #[]), ci n, ci m, .v (.slice none 0 0)]
abbrev ex1 : Ev := ⟨3, 9, B #[], 2, 17, []⟩
abbrev ex2 : Ev := ⟨9, 5, B #[], 4, 0, [B #[109, 97, 105, 110], B #[102]]⟩
theorem awake_fn : Does Tryd.prog 9 [] (.d (.v (.bool true))) 0 := by
  have p1 : parseE (B #[51, 32, 115, 116, 111, 112, 32, 50, 32, 49, 55]) = (ex1, 0) := by decide +kernel
  have p2 : parseE (B #[51, 32, 115, 116, 111, 112, 32, 49, 32, 48]) = (ev0, 10) := by decide +kernel
  have t1 : textE ex2 = B #[57, 32, 115, 97, 109, 112, 108, 101, 32, 52, 32, 109, 97, 105, 110, 59, 102] := by decide +kernel
  have t2 : textE ⟨9, 5, B #[], 4, 0, []⟩ = B #[57, 32, 115, 97, 109, 112, 108, 101, 32, 52, 32, 59] := by decide +kernel
  have e1 := eparse_fn (B #[51, 32, 115, 116, 111, 112, 32, 50, 32, 49, 55]) (by decide)
  have e2 := eparse_fn (B #[51, 32, 115, 116, 111, 112, 32, 49, 32, 48]) (by decide)
  have f1 := etext_fn ex2
  have f2 := Does.nilA (args := [.ag (nl 9 5 4 0)]) (etext_fn ⟨9, 5, B #[], 4, 0, []⟩)
  have f3 := Does.nilA (args := [.ag ex1.c, .ag (nl 3 9 2 17)]) (same_fn ex1 ex1)
  have f4 := Does.nilA (args := [.ag (nl (-1) 0 0 0)]) (echeck_fn ⟨-1, 0, B #[], 0, 0, []⟩)
  have f5 := Does.nilA (args := [.d (.sl [nl 2 2 0 0, nl 1 2 0 0])]) (checkAll_fn [⟨2, 2, B #[], 0, 0, []⟩, ⟨1, 2, B #[], 0, 0, []⟩])
  rw [p1] at e1
  rw [p2] at e2
  rw [t1] at f1
  rw [t2] at f2
  refine Does.of_W (n := 51) (ts := [0]) Tryd.func9 (by kernel_rfl) rfl Tryd.ntmps9 Tryd.results9 rfl rfl fun C hC hG => ?_
  refine W.seq ?_
  refine W.region ?_
  refine pu (ev tab rfl) rfl ?_
  refine WO.nil ?_
  refine qs ?_
  refine W.seq ?_
  refine W.region ?_
  refine pu (puCall rfl rfl rfl e1 rfl) rfl ?_
  iterate 3 refine pu (ev tab rfl) rfl ?_
  refine allocR tab rfl rfl rfl ?_
  refine storeR tab rfl rfl rfl rfl rfl rfl rfl rfl ?_
  refine pu (ev tab rfl) rfl ?_
  refine WO.nil ?_
  refine qs ?_
  refine W.seq ?_
  refine W.region ?_
  refine pu (puCall rfl rfl rfl e2 rfl) rfl ?_
  iterate 3 refine pu (ev tab rfl) rfl ?_
  refine allocR tab rfl rfl rfl ?_
  refine storeR tab rfl rfl rfl rfl rfl rfl rfl rfl ?_
  refine pu (ev tab rfl) rfl ?_
  refine WO.nil ?_
  refine qs ?_
  refine W.seq ?_
  refine W.region ?_
  refine pu (buildV tab rfl rfl rfl rfl rfl rfl rfl rfl rfl) rfl ?_
  refine pu (build tab rfl rfl rfl rfl) rfl ?_
  refine pu (puCall rfl rfl rfl f1 rfl) rfl ?_
  refine pu (ev tab rfl) rfl ?_
  refine WO.nil ?_
  refine qs ?_
  refine W.seq ?_
  refine W.region ?_
  refine pu (build tab rfl rfl rfl rfl) rfl ?_
  refine pu (puCall rfl rfl rfl f2 rfl) rfl ?_
  refine pu (ev tab rfl) rfl ?_
  refine WO.nil ?_
  refine qs ?_
  refine W.seq ?_
  apply regionB; (case hb => rfl)
  · skip
    iterate 3 refine pu (ev tab rfl) rfl ?_
    apply splitJ; (case hj => rfl); (case hl => rfl)
    · skip
      refine goG rfl rfl ?_
      first | refine pu (ev tab rfl) rfl ?_ | refine pu (loadRow tab rfl rfl rfl rfl) rfl ?_ | refine pu (loadBox tab rfl rfl rfl rfl rfl) rfl ?_
      refine goG rfl rfl ?_
      refine pu (build tab rfl rfl rfl rfl) rfl ?_
      refine goG rfl rfl ?_
      refine pu (puCall rfl rfl rfl f3 rfl) rfl ?_
      iterate 2 refine pu (ev tab rfl) rfl ?_
      apply splitJ; (case hj => rfl); (case hl => rfl)
      · skip
        refine goG rfl rfl ?_
        refine pu (ev tab rfl) rfl ?_
        refine goG rfl rfl ?_
        iterate 3 refine pu (ev tab rfl) rfl ?_
        apply splitJ; (case hj => rfl); (case hl => rfl)
        · skip
          refine goG rfl rfl ?_
          refine pu (ev tab rfl) rfl ?_
          refine goG rfl rfl ?_
          iterate 3 refine pu (ev tab rfl) rfl ?_
          apply splitJ; (case hj => rfl); (case hl => rfl)
          · skip
            refine goG rfl rfl ?_
            refine pu (ev tab rfl) rfl ?_
            refine goG rfl rfl ?_
            iterate 3 refine pu (ev tab rfl) rfl ?_
            apply splitJ; (case hj => rfl); (case hl => rfl)
            · skip
              refine goG rfl rfl ?_
              refine pu (build tab rfl rfl rfl rfl) rfl ?_
              refine goG rfl rfl ?_
              refine pu (puCall rfl rfl rfl f4 rfl) rfl ?_
              refine goG rfl rfl ?_
              iterate 3 refine pu (ev tab rfl) rfl ?_
              apply splitJ; (case hj => rfl); (case hl => rfl)
              · skip
                refine goG rfl rfl ?_
                refine pu (build tab rfl rfl rfl rfl) rfl ?_
                refine goG rfl rfl ?_
                refine pu (build tab rfl rfl rfl rfl) rfl ?_
                refine goG rfl rfl ?_
                refine pu (buildV tab rfl rfl rfl rfl rfl rfl rfl rfl rfl) rfl ?_
                refine goG rfl rfl ?_
                refine pu (puCall rfl rfl rfl f5 rfl) rfl ?_
                refine goG rfl rfl ?_
                iterate 3 refine pu (ev tab rfl) rfl ?_
                refine WO.nil ?_
                refine qv1 rfl rfl rfl
              · skip
                refine skipT rfl rfl rfl rfl ?_
                refine skipT rfl rfl rfl rfl ?_
                refine skipT rfl rfl rfl rfl ?_
                refine skipT rfl rfl rfl rfl ?_
                refine skipT rfl rfl rfl rfl ?_
                iterate 2 refine pu (ev tab rfl) rfl ?_
                refine WO.nil ?_
                refine qv1 rfl rfl rfl
            · skip
              refine skipT rfl rfl rfl rfl ?_
              refine skipT rfl rfl rfl rfl ?_
              refine skipT rfl rfl rfl rfl ?_
              iterate 2 refine pu (ev tab rfl) rfl ?_
              refine skipT rfl rfl rfl rfl ?_
              refine skipT rfl rfl rfl rfl ?_
              refine skipT rfl rfl rfl rfl ?_
              refine skipT rfl rfl rfl rfl ?_
              refine skipT rfl rfl rfl rfl ?_
              iterate 2 refine pu (ev tab rfl) rfl ?_
              refine WO.nil ?_
              refine qv1 rfl rfl rfl
          · skip
            refine skipT rfl rfl rfl rfl ?_
            refine skipT rfl rfl rfl rfl ?_
            iterate 2 refine pu (ev tab rfl) rfl ?_
            refine skipT rfl rfl rfl rfl ?_
            refine skipT rfl rfl rfl rfl ?_
            refine skipT rfl rfl rfl rfl ?_
            iterate 2 refine pu (ev tab rfl) rfl ?_
            refine skipT rfl rfl rfl rfl ?_
            refine skipT rfl rfl rfl rfl ?_
            refine skipT rfl rfl rfl rfl ?_
            refine skipT rfl rfl rfl rfl ?_
            refine skipT rfl rfl rfl rfl ?_
            iterate 2 refine pu (ev tab rfl) rfl ?_
            refine WO.nil ?_
            refine qv1 rfl rfl rfl
        · skip
          refine skipT rfl rfl rfl rfl ?_
          refine skipT rfl rfl rfl rfl ?_
          iterate 2 refine pu (ev tab rfl) rfl ?_
          refine skipT rfl rfl rfl rfl ?_
          refine skipT rfl rfl rfl rfl ?_
          iterate 2 refine pu (ev tab rfl) rfl ?_
          refine skipT rfl rfl rfl rfl ?_
          refine skipT rfl rfl rfl rfl ?_
          refine skipT rfl rfl rfl rfl ?_
          iterate 2 refine pu (ev tab rfl) rfl ?_
          refine skipT rfl rfl rfl rfl ?_
          refine skipT rfl rfl rfl rfl ?_
          refine skipT rfl rfl rfl rfl ?_
          refine skipT rfl rfl rfl rfl ?_
          refine skipT rfl rfl rfl rfl ?_
          iterate 2 refine pu (ev tab rfl) rfl ?_
          refine WO.nil ?_
          refine qv1 rfl rfl rfl
      · skip
        refine skipT rfl rfl rfl rfl ?_
        refine skipT rfl rfl rfl rfl ?_
        iterate 2 refine pu (ev tab rfl) rfl ?_
        refine skipT rfl rfl rfl rfl ?_
        refine skipT rfl rfl rfl rfl ?_
        iterate 2 refine pu (ev tab rfl) rfl ?_
        refine skipT rfl rfl rfl rfl ?_
        refine skipT rfl rfl rfl rfl ?_
        iterate 2 refine pu (ev tab rfl) rfl ?_
        refine skipT rfl rfl rfl rfl ?_
        refine skipT rfl rfl rfl rfl ?_
        refine skipT rfl rfl rfl rfl ?_
        iterate 2 refine pu (ev tab rfl) rfl ?_
        refine skipT rfl rfl rfl rfl ?_
        refine skipT rfl rfl rfl rfl ?_
        refine skipT rfl rfl rfl rfl ?_
        refine skipT rfl rfl rfl rfl ?_
        refine skipT rfl rfl rfl rfl ?_
        iterate 2 refine pu (ev tab rfl) rfl ?_
        refine WO.nil ?_
        refine qv1 rfl rfl rfl
    · skip
      refine skipT rfl rfl rfl rfl ?_
      refine skipT rfl rfl rfl rfl ?_
      refine skipT rfl rfl rfl rfl ?_
      iterate 2 refine pu (ev tab rfl) rfl ?_
      refine skipT rfl rfl rfl rfl ?_
      refine skipT rfl rfl rfl rfl ?_
      iterate 2 refine pu (ev tab rfl) rfl ?_
      refine skipT rfl rfl rfl rfl ?_
      refine skipT rfl rfl rfl rfl ?_
      iterate 2 refine pu (ev tab rfl) rfl ?_
      refine skipT rfl rfl rfl rfl ?_
      refine skipT rfl rfl rfl rfl ?_
      iterate 2 refine pu (ev tab rfl) rfl ?_
      refine skipT rfl rfl rfl rfl ?_
      refine skipT rfl rfl rfl rfl ?_
      refine skipT rfl rfl rfl rfl ?_
      iterate 2 refine pu (ev tab rfl) rfl ?_
      refine skipT rfl rfl rfl rfl ?_
      refine skipT rfl rfl rfl rfl ?_
      refine skipT rfl rfl rfl rfl ?_
      refine skipT rfl rfl rfl rfl ?_
      refine skipT rfl rfl rfl rfl ?_
      iterate 2 refine pu (ev tab rfl) rfl ?_
      refine WO.nil ?_
      refine qv1 rfl rfl rfl
  refine qs ?_
  refine W.ret ?_
  refine QF.ret0 trivial rfl ?_
  refine congrArg (fun b => A.d (D.v (Value.bool b))) (?_ : _ = true)
  decide +kernel
end Go.Proofs.YtlmgnlhagpoggaaDoor
namespace Go.Proofs.YtlmgnlhagpoggaaDoor
open Go.Ab Go.Tb
set_option maxRecDepth 10000
attribute [local irreducible] W WO Pu QS QB QL QF QV QV1 CH QE
theorem text_any (e : Ev) : (textE e).size ≤ 1000000 := by
  by_cases h : checkE e = 0
  · have := text_size h; omega
  · rw [text_empty h]; decide
theorem checks_fn (e : Ev) : Does Tryd.prog 3 [.ag e.c] (.d (.v (.bool true))) 0 := by
  refine Does.of_W (n := 15) (ts := [2]) Tryd.func3 (by kernel_rfl) rfl Tryd.ntmps3 Tryd.results3 rfl rfl fun C hC hG => ?_
  refine W.seq ?_
  refine W.region ?_
  refine boxR rfl rfl rfl ?_
  refine pu (ev tab rfl) rfl ?_
  refine WO.nil ?_
  refine qs ?_
  refine W.seq ?_
  refine W.seq ?_
  refine W.region ?_
  first | refine pu (ev tab rfl) rfl ?_ | refine pu (loadRow tab rfl rfl rfl rfl) rfl ?_ | refine pu (loadBox tab rfl rfl rfl rfl rfl) rfl ?_
  refine pu (puCall rfl rfl rfl (small_fn ..) rfl) rfl ?_
  refine pu (ev tab rfl) rfl ?_
  refine WO.nil ?_
  refine qs ?_
  refine condK rfl (fun h5 => ?_) (fun h5 => ?_)
  · skip
    refine W.seq ?_
    refine W.region ?_
    refine pu (puCall rfl rfl rfl (awake_fn ..) rfl) rfl ?_
    refine pu (ev tab rfl) rfl ?_
    refine WO.nil ?_
    refine qs ?_
    refine W.ret ?_
    refine qsRet ?_
    refine QF.ret0 trivial rfl ?_
    simp [norm, oneA]
  · skip
    refine W.skip ?_
    refine qs ?_
    refine W.seq ?_
    apply regionDB tab; (case hb => rfl); (case hB => kernel_rfl)
    · skip
      first | refine chPu (ev tab rfl) rfl ?_ | refine chPu (loadRow tab rfl rfl rfl rfl) rfl ?_ | refine chPu (loadBox tab rfl rfl rfl rfl rfl) rfl ?_
      refine chPu (puCall rfl rfl rfl (echeck_fn e) rfl) rfl ?_
      first | refine chPu (ev tab rfl) rfl ?_ | refine chPu (loadRow tab rfl rfl rfl rfl) rfl ?_ | refine chPu (loadBox tab rfl rfl rfl rfl rfl) rfl ?_
      refine chPu (puCall rfl rfl rfl (rcheck_fn e) rfl) rfl ?_
      refine chPu (ev tab rfl) rfl ?_
      refine chPu (ev tab rfl) rfl ?_
      apply chSplitJ; (case hj => rfl); (case hl => rfl)
      · skip
        refine chGo rfl rfl (puCall rfl rfl rfl (awake_fn ..) rfl) rfl ?_
        refine chPu (ev tab rfl) rfl ?_
        refine chPu (ev tab rfl) rfl ?_
        refine CH.nil ?_
        refine qv1 rfl rfl rfl
      · skip
        refine chSkip rfl rfl rfl rfl ?_
        refine chPu (ev tab rfl) rfl ?_
        refine chPu (ev tab rfl) rfl ?_
        refine CH.nil ?_
        refine qv1 rfl rfl rfl
    refine qs ?_
    refine W.ret ?_
    refine QF.ret0 trivial rfl ?_
    simp [norm, oneA]
theorem etexts_fn (e : Ev) : Does Tryd.prog 4 [.ag e.c] (.d (.v (.bool true))) 0 := by
  refine Does.of_W (n := 41) (ts := [2]) Tryd.func4 (by kernel_rfl) rfl Tryd.ntmps4 Tryd.results4 rfl rfl fun C hC hG => ?_
  refine W.seq ?_
  refine W.region ?_
  refine boxR rfl rfl rfl ?_
  refine pu (ev tab rfl) rfl ?_
  refine WO.nil ?_
  refine qs ?_
  refine W.seq ?_
  refine W.seq ?_
  apply regionB; (case hb => rfl)
  · skip
    refine pu (puCall rfl rfl rfl (awake_fn ..) rfl) rfl ?_
    iterate 2 refine pu (ev tab rfl) rfl ?_
    apply splitJ; (case hj => rfl); (case hl => rfl)
    · skip
      refine skipT rfl rfl rfl rfl ?_
      refine skipT rfl rfl rfl rfl ?_
      refine skipT rfl rfl rfl rfl ?_
      refine pu (ev tab rfl) rfl ?_
      refine WO.nil ?_
      refine qv1 rfl rfl rfl
    · skip
      refine goG rfl rfl ?_
      first | refine pu (ev tab rfl) rfl ?_ | refine pu (loadRow tab rfl rfl rfl rfl) rfl ?_ | refine pu (loadBox tab rfl rfl rfl rfl rfl) rfl ?_
      refine goG rfl rfl ?_
      refine pu (puCall rfl rfl rfl (small_fn e) rfl) rfl ?_
      refine goG rfl rfl ?_
      iterate 2 refine pu (ev tab rfl) rfl ?_
      refine WO.nil ?_
      refine qv1 rfl rfl rfl
  refine qs ?_
  refine condK rfl (fun h12 => ?_) (fun h12 => ?_)
  · skip
    refine W.seq ?_
    refine W.region ?_
    refine pu (puCall rfl rfl rfl (awake_fn ..) rfl) rfl ?_
    refine pu (ev tab rfl) rfl ?_
    refine WO.nil ?_
    refine qs ?_
    refine W.ret ?_
    refine qsRet ?_
    refine QF.ret0 trivial rfl ?_
    first | (simp only [norm, oneA]; simp [ht, hp]; done) | (simp only [norm, oneA]; simp [hp, hse]; done) | (simp [norm, oneA]; done)
  · skip
    refine W.skip ?_
    refine qs ?_
    refine W.seq ?_
    refine W.region ?_
    first | refine pu (ev tab rfl) rfl ?_ | refine pu (loadRow tab rfl rfl rfl rfl) rfl ?_ | refine pu (loadBox tab rfl rfl rfl rfl rfl) rfl ?_
    refine pu (puCall rfl rfl rfl (etext_fn e) rfl) rfl ?_
    refine pu (ev tab rfl) rfl ?_
    refine WO.nil ?_
    refine qs ?_
    refine W.seq ?_
    refine W.seq ?_
    refine W.region ?_
    refine pu (ev tab rfl) rfl ?_
    first | refine pu (ev tab rfl) rfl ?_ | refine pu (loadRow tab rfl rfl rfl rfl) rfl ?_ | refine pu (loadBox tab rfl rfl rfl rfl rfl) rfl ?_
    refine pu (puCall rfl rfl rfl (rtextE_fn e) rfl) rfl ?_
    refine pu (ev tab rfl) rfl ?_
    refine WO.nil ?_
    refine qs ?_
    refine condK rfl (fun h19 => ?_) (fun h19 => ?_)
    · skip
      exfalso
      simp at h19
    · skip
      refine W.skip ?_
      refine qs ?_
      refine W.seq ?_
      refine W.region ?_
      refine pu (ev tab rfl) rfl ?_
      refine pu (puCall rfl rfl rfl (eparse_fn (textE e) (text_any e)) rfl) rfl ?_
      iterate 3 refine pu (ev tab rfl) rfl ?_
      refine allocR tab rfl rfl rfl ?_
      refine storeR tab rfl rfl rfl rfl rfl rfl rfl rfl ?_
      refine pu (ev tab rfl) rfl ?_
      refine WO.nil ?_
      refine qs ?_
      refine W.seq ?_
      refine W.seq ?_
      refine W.region ?_
      first | refine pu (ev tab rfl) rfl ?_ | refine pu (loadRow tab rfl rfl rfl rfl) rfl ?_ | refine pu (loadBox tab rfl rfl rfl rfl rfl) rfl ?_
      refine pu (puCall rfl rfl rfl (echeck_fn e) rfl) rfl ?_
      refine pu (ev tab rfl) rfl ?_
      refine WO.nil ?_
      refine qs ?_
      refine condK rfl (fun h27 => ?_) (fun h27 => ?_)
      · skip
        have hc : checkE e ≠ 0 := by simpa using h27
        have ht := text_empty hc
        have hp := parse_empty
        refine W.seq ?_
        apply regionB; (case hb => rfl)
        · skip
          iterate 3 refine pu (ev tab rfl) rfl ?_
          apply splitJ; (case hj => rfl); (case hl => rfl)
          · skip
            refine goG rfl rfl ?_
            refine pu (ev tab rfl) rfl ?_
            refine goG rfl rfl ?_
            iterate 3 refine pu (ev tab rfl) rfl ?_
            refine WO.nil ?_
            refine qv1 rfl rfl rfl
          · skip
            refine skipT rfl rfl rfl rfl ?_
            refine skipT rfl rfl rfl rfl ?_
            iterate 2 refine pu (ev tab rfl) rfl ?_
            refine WO.nil ?_
            refine qv1 rfl rfl rfl
        refine qs ?_
        refine W.ret ?_
        refine qsRet ?_
        refine QF.ret0 trivial rfl ?_
        first | (simp only [norm, oneA]; simp [ht, hp]; done) | (simp only [norm, oneA]; simp [hp, hse]; done) | (simp [norm, oneA]; done)
      · skip
        have hc : checkE e = 0 := by simpa using h27
        have hp := parse_text hc
        have hse : sameEv e e = true := (sameEv_iff e e).2 rfl
        refine W.skip ?_
        refine qs ?_
        refine W.seq ?_
        apply regionB; (case hb => rfl)
        · skip
          iterate 3 refine pu (ev tab rfl) rfl ?_
          apply splitJ; (case hj => rfl); (case hl => rfl)
          · skip
            refine goG rfl rfl ?_
            first | refine pu (ev tab rfl) rfl ?_ | refine pu (loadRow tab rfl rfl rfl rfl) rfl ?_ | refine pu (loadBox tab rfl rfl rfl rfl rfl) rfl ?_
            refine goG rfl rfl ?_
            first | refine pu (ev tab rfl) rfl ?_ | refine pu (loadRow tab rfl rfl rfl rfl) rfl ?_ | refine pu (loadBox tab rfl rfl rfl rfl rfl) rfl ?_
            refine goG rfl rfl ?_
            refine pu (puCall rfl rfl rfl (rsame_fn (parseE (textE e)).1 e) rfl) rfl ?_
            iterate 2 refine pu (ev tab rfl) rfl ?_
            refine WO.nil ?_
            refine qv1 rfl rfl rfl
          · skip
            refine skipT rfl rfl rfl rfl ?_
            refine skipT rfl rfl rfl rfl ?_
            refine skipT rfl rfl rfl rfl ?_
            iterate 2 refine pu (ev tab rfl) rfl ?_
            refine WO.nil ?_
            refine qv1 rfl rfl rfl
        refine qs ?_
        refine W.ret ?_
        refine QF.ret0 trivial rfl ?_
        first | (simp only [norm, oneA]; simp [ht, hp]; done) | (simp only [norm, oneA]; simp [hp, hse]; done) | (simp [norm, oneA]; done)
theorem eparses_fn (s : ByteArray) : Does Tryd.prog 5 [.d (.v (.string s))] (.d (.v (.bool true))) 0 := by
  refine Does.of_W (n := 47) (ts := [2]) Tryd.func5 (by kernel_rfl) rfl Tryd.ntmps5 Tryd.results5 rfl rfl fun C hC hG => ?_
  refine W.seq ?_
  refine W.region ?_
  refine pu (ev tab rfl) rfl ?_
  refine WO.nil ?_
  refine qs ?_
  refine W.seq ?_
  refine W.seq ?_
  apply regionB; (case hb => rfl)
  · skip
    refine pu (puCall rfl rfl rfl (awake_fn ..) rfl) rfl ?_
    iterate 2 refine pu (ev tab rfl) rfl ?_
    apply splitJ; (case hj => rfl); (case hl => rfl)
    · skip
      refine skipT rfl rfl rfl rfl ?_
      refine skipT rfl rfl rfl rfl ?_
      refine skipT rfl rfl rfl rfl ?_
      refine pu (ev tab rfl) rfl ?_
      refine WO.nil ?_
      refine qv1 rfl rfl rfl
    · skip
      refine goG rfl rfl ?_
      refine pu (ev tab rfl) rfl ?_
      refine goG rfl rfl ?_
      refine pu (ev tab rfl) rfl ?_
      refine goG rfl rfl ?_
      iterate 2 refine pu (ev tab rfl) rfl ?_
      refine WO.nil ?_
      refine qv1 rfl rfl rfl
  refine qs ?_
  refine condK rfl (fun h13 => ?_) (fun h13 => ?_)
  · skip
    refine W.seq ?_
    refine W.region ?_
    refine pu (puCall rfl rfl rfl (awake_fn ..) rfl) rfl ?_
    refine pu (ev tab rfl) rfl ?_
    refine WO.nil ?_
    refine qs ?_
    refine W.ret ?_
    refine qsRet ?_
    refine QF.ret0 trivial rfl ?_
    first | (simp [norm, oneA]; done) | (simp only [norm, oneA]; by_cases q : (parseE s).2 = 0 <;> simp [q, parse_ok]; done)
  · skip
    have hs : s.size ≤ 1000000 := by simp at h13; omega
    refine W.skip ?_
    refine qs ?_
    refine W.seq ?_
    refine W.region ?_
    refine pu (ev tab rfl) rfl ?_
    refine pu (puCall rfl rfl rfl (eparse_fn s hs) rfl) rfl ?_
    iterate 3 refine pu (ev tab rfl) rfl ?_
    refine allocR tab rfl rfl rfl ?_
    refine storeR tab rfl rfl rfl rfl rfl rfl rfl rfl ?_
    refine pu (ev tab rfl) rfl ?_
    refine WO.nil ?_
    refine qs ?_
    refine W.seq ?_
    refine W.region ?_
    refine pu (ev tab rfl) rfl ?_
    refine pu (puCall rfl rfl rfl (rparse_fn s hs) rfl) rfl ?_
    iterate 3 refine pu (ev tab rfl) rfl ?_
    refine allocR tab rfl rfl rfl ?_
    refine storeR tab rfl rfl rfl rfl rfl rfl rfl rfl ?_
    refine pu (ev tab rfl) rfl ?_
    refine WO.nil ?_
    refine qs ?_
    refine W.seq ?_
    refine W.seq ?_
    apply regionB; (case hb => rfl)
    · skip
      iterate 4 refine pu (ev tab rfl) rfl ?_
      apply splitJ; (case hj => rfl); (case hl => rfl)
      · skip
        refine skipT rfl rfl rfl rfl ?_
        refine skipT rfl rfl rfl rfl ?_
        refine skipT rfl rfl rfl rfl ?_
        refine skipT rfl rfl rfl rfl ?_
        refine pu (ev tab rfl) rfl ?_
        refine WO.nil ?_
        refine qv1 rfl rfl rfl
      · skip
        refine goG rfl rfl ?_
        first | refine pu (ev tab rfl) rfl ?_ | refine pu (loadRow tab rfl rfl rfl rfl) rfl ?_ | refine pu (loadBox tab rfl rfl rfl rfl rfl) rfl ?_
        refine goG rfl rfl ?_
        first | refine pu (ev tab rfl) rfl ?_ | refine pu (loadRow tab rfl rfl rfl rfl) rfl ?_ | refine pu (loadBox tab rfl rfl rfl rfl rfl) rfl ?_
        refine goG rfl rfl ?_
        refine pu (puCall rfl rfl rfl (rsame_fn (parseE s).1 (parseE s).1) rfl) rfl ?_
        refine goG rfl rfl ?_
        iterate 2 refine pu (ev tab rfl) rfl ?_
        refine WO.nil ?_
        refine qv1 rfl rfl rfl
    refine qs ?_
    refine condK rfl (fun h33 => ?_) (fun h33 => ?_)
    · skip
      exfalso
      have hse : sameEv (parseE s).1 (parseE s).1 = true := (sameEv_iff _ _).2 rfl
      simp [hse] at h33
    · skip
      refine W.skip ?_
      refine qs ?_
      refine W.seq ?_
      apply regionB; (case hb => rfl)
      · skip
        iterate 3 refine pu (ev tab rfl) rfl ?_
        apply splitJ; (case hj => rfl); (case hl => rfl)
        · skip
          refine skipT rfl rfl rfl rfl ?_
          refine skipT rfl rfl rfl rfl ?_
          refine skipT rfl rfl rfl rfl ?_
          refine skipT rfl rfl rfl rfl ?_
          refine skipT rfl rfl rfl rfl ?_
          refine skipU rfl rfl rfl ?_
          refine skipU rfl rfl rfl ?_
          refine skipU rfl rfl rfl ?_
          refine skipT rfl rfl rfl rfl ?_
          iterate 2 refine pu (ev tab rfl) rfl ?_
          refine WO.nil ?_
          refine qv1 rfl rfl rfl
        · skip
          refine goG rfl rfl ?_
          first | refine pu (ev tab rfl) rfl ?_ | refine pu (loadRow tab rfl rfl rfl rfl) rfl ?_ | refine pu (loadBox tab rfl rfl rfl rfl rfl) rfl ?_
          refine goG rfl rfl ?_
          refine pu (puCall rfl rfl rfl (etext_fn (parseE s).1) rfl) rfl ?_
          refine goG rfl rfl ?_
          refine pu (ev tab rfl) rfl ?_
          refine goG rfl rfl ?_
          refine pu (ev tab rfl) rfl ?_
          refine goG rfl rfl ?_
          refine pu (ev tab rfl) rfl ?_
          apply splitJ; (case hj => rfl); (case hl => rfl)
          · skip
            refine goG rfl rfl ?_
            first | refine pu (ev tab rfl) rfl ?_ | refine pu (loadRow tab rfl rfl rfl rfl) rfl ?_ | refine pu (loadBox tab rfl rfl rfl rfl rfl) rfl ?_
            refine goG rfl rfl ?_
            refine pu (puCall rfl rfl rfl (echeck_fn (parseE s).1) rfl) rfl ?_
            refine goG rfl rfl ?_
            refine pu (ev tab rfl) rfl ?_
            refine goG rfl rfl ?_
            iterate 3 refine pu (ev tab rfl) rfl ?_
            refine WO.nil ?_
            refine qv1 rfl rfl rfl
          · skip
            refine skipT rfl rfl rfl rfl ?_
            refine skipT rfl rfl rfl rfl ?_
            refine skipT rfl rfl rfl rfl ?_
            refine goG rfl rfl ?_
            iterate 3 refine pu (ev tab rfl) rfl ?_
            refine WO.nil ?_
            refine qv1 rfl rfl rfl
      refine qs ?_
      refine W.ret ?_
      refine QF.ret0 trivial rfl ?_
      first | (simp [norm, oneA]; done) | (simp only [norm, oneA]; by_cases q : (parseE s).2 = 0 <;> simp [q, parse_ok]; done)
end Go.Proofs.YtlmgnlhagpoggaaDoor
namespace Go.Proofs.YtlmgnlhagpoggaaDoor
open Go.Ab Go.Tb
set_option maxRecDepth 10000
attribute [local irreducible] W WO Pu QS QB QL QF QV QV1 CH QE
theorem same_comm (a b : Ev) : sameEv a b = sameEv b a := by
  have h1 := sameEv_iff a b
  have h2 := sameEv_iff b a
  cases q : sameEv a b <;> cases r : sameEv b a <;> simp_all
theorem same_text (a b : Ev) (ha : checkE a = 0) (hb : checkE b = 0) : sameEv a b = decide (textE a = textE b) := by
  have h1 := sameEv_iff a b
  by_cases h : textE a = textE b
  · have := text_inj ha hb h
    rw [h1.2 this]
    simp [h]
  · cases q : sameEv a b
    · simp [h]
    · exact absurd (congrArg textE (h1.1 q)) h
theorem esame_fn (a b : Ev) : Does Tryd.prog 6 [.ag a.c, .ag b.c] (.d (.v (.bool true))) 0 := by
  have hse : sameEv a a = true := (sameEv_iff a a).2 rfl
  have hcm := same_comm b a
  refine Does.of_W (n := 57) (ts := [4]) Tryd.func6 (by kernel_rfl) rfl Tryd.ntmps6 Tryd.results6 rfl rfl fun C hC hG => ?_
  refine W.seq ?_
  refine W.region ?_
  refine boxR rfl rfl rfl ?_
  refine boxR rfl rfl rfl ?_
  refine pu (ev tab rfl) rfl ?_
  refine WO.nil ?_
  refine qs ?_
  refine W.seq ?_
  refine W.seq ?_
  apply regionB; (case hb => rfl)
  · skip
    refine pu (puCall rfl rfl rfl (awake_fn ..) rfl) rfl ?_
    iterate 2 refine pu (ev tab rfl) rfl ?_
    apply splitJ; (case hj => rfl); (case hl => rfl)
    · skip
      refine skipT rfl rfl rfl rfl ?_
      refine skipT rfl rfl rfl rfl ?_
      refine skipT rfl rfl rfl rfl ?_
      iterate 2 refine pu (ev tab rfl) rfl ?_
      refine skipT rfl rfl rfl rfl ?_
      refine skipT rfl rfl rfl rfl ?_
      refine skipT rfl rfl rfl rfl ?_
      refine pu (ev tab rfl) rfl ?_
      refine WO.nil ?_
      refine qv1 rfl rfl rfl
    · skip
      refine goG rfl rfl ?_
      first | refine pu (ev tab rfl) rfl ?_ | refine pu (loadRow tab rfl rfl rfl rfl) rfl ?_ | refine pu (loadBox tab rfl rfl rfl rfl rfl) rfl ?_
      refine goG rfl rfl ?_
      refine pu (puCall rfl rfl rfl (small_fn a) rfl) rfl ?_
      refine goG rfl rfl ?_
      iterate 3 refine pu (ev tab rfl) rfl ?_
      apply splitJ; (case hj => rfl); (case hl => rfl)
      · skip
        refine skipT rfl rfl rfl rfl ?_
        refine skipT rfl rfl rfl rfl ?_
        refine skipT rfl rfl rfl rfl ?_
        refine pu (ev tab rfl) rfl ?_
        refine WO.nil ?_
        refine qv1 rfl rfl rfl
      · skip
        refine goG rfl rfl ?_
        first | refine pu (ev tab rfl) rfl ?_ | refine pu (loadRow tab rfl rfl rfl rfl) rfl ?_ | refine pu (loadBox tab rfl rfl rfl rfl rfl) rfl ?_
        refine goG rfl rfl ?_
        refine pu (puCall rfl rfl rfl (small_fn b) rfl) rfl ?_
        refine goG rfl rfl ?_
        iterate 2 refine pu (ev tab rfl) rfl ?_
        refine WO.nil ?_
        refine qv1 rfl rfl rfl
  refine qs ?_
  refine condK rfl (fun h17 => ?_) (fun h17 => ?_)
  · skip
    refine W.seq ?_
    refine W.region ?_
    refine pu (puCall rfl rfl rfl (awake_fn ..) rfl) rfl ?_
    refine pu (ev tab rfl) rfl ?_
    refine WO.nil ?_
    refine qs ?_
    refine W.ret ?_
    refine qsRet ?_
    refine QF.ret0 trivial rfl ?_
    first | (simp [norm, oneA]; done) | (simp only [norm, oneA]; by_cases p : checkE a = 0 <;> by_cases q : checkE b = 0 <;> simp [p, q, same_text]; done)
  · skip
    refine W.skip ?_
    refine qs ?_
    refine W.seq ?_
    refine W.region ?_
    first | refine pu (ev tab rfl) rfl ?_ | refine pu (loadRow tab rfl rfl rfl rfl) rfl ?_ | refine pu (loadBox tab rfl rfl rfl rfl rfl) rfl ?_
    first | refine pu (ev tab rfl) rfl ?_ | refine pu (loadRow tab rfl rfl rfl rfl) rfl ?_ | refine pu (loadBox tab rfl rfl rfl rfl rfl) rfl ?_
    refine pu (puCall rfl rfl rfl (same_fn a b) rfl) rfl ?_
    refine pu (ev tab rfl) rfl ?_
    refine WO.nil ?_
    refine qs ?_
    refine W.seq ?_
    refine W.seq ?_
    apply regionB; (case hb => rfl)
    · skip
      refine pu (ev tab rfl) rfl ?_
      first | refine pu (ev tab rfl) rfl ?_ | refine pu (loadRow tab rfl rfl rfl rfl) rfl ?_ | refine pu (loadBox tab rfl rfl rfl rfl rfl) rfl ?_
      first | refine pu (ev tab rfl) rfl ?_ | refine pu (loadRow tab rfl rfl rfl rfl) rfl ?_ | refine pu (loadBox tab rfl rfl rfl rfl rfl) rfl ?_
      refine pu (puCall rfl rfl rfl (rsame_fn a b) rfl) rfl ?_
      iterate 2 refine pu (ev tab rfl) rfl ?_
      apply splitJ; (case hj => rfl); (case hl => rfl)
      · skip
        refine skipT rfl rfl rfl rfl ?_
        refine skipT rfl rfl rfl rfl ?_
        refine skipT rfl rfl rfl rfl ?_
        refine skipT rfl rfl rfl rfl ?_
        refine skipT rfl rfl rfl rfl ?_
        iterate 2 refine pu (ev tab rfl) rfl ?_
        refine skipT rfl rfl rfl rfl ?_
        refine skipT rfl rfl rfl rfl ?_
        refine skipT rfl rfl rfl rfl ?_
        refine skipT rfl rfl rfl rfl ?_
        refine pu (ev tab rfl) rfl ?_
        refine WO.nil ?_
        refine qv1 rfl rfl rfl
      · skip
        refine goG rfl rfl ?_
        refine pu (ev tab rfl) rfl ?_
        refine goG rfl rfl ?_
        first | refine pu (ev tab rfl) rfl ?_ | refine pu (loadRow tab rfl rfl rfl rfl) rfl ?_ | refine pu (loadBox tab rfl rfl rfl rfl rfl) rfl ?_
        refine goG rfl rfl ?_
        first | refine pu (ev tab rfl) rfl ?_ | refine pu (loadRow tab rfl rfl rfl rfl) rfl ?_ | refine pu (loadBox tab rfl rfl rfl rfl rfl) rfl ?_
        refine goG rfl rfl ?_
        refine pu (puCall rfl rfl rfl (same_fn b a) rfl) rfl ?_
        refine goG rfl rfl ?_
        iterate 3 refine pu (ev tab rfl) rfl ?_
        apply splitJ; (case hj => rfl); (case hl => rfl)
        · skip
          refine skipT rfl rfl rfl rfl ?_
          refine skipT rfl rfl rfl rfl ?_
          refine skipT rfl rfl rfl rfl ?_
          refine skipT rfl rfl rfl rfl ?_
          refine pu (ev tab rfl) rfl ?_
          refine WO.nil ?_
          refine qv1 rfl rfl rfl
        · skip
          refine goG rfl rfl ?_
          first | refine pu (ev tab rfl) rfl ?_ | refine pu (loadRow tab rfl rfl rfl rfl) rfl ?_ | refine pu (loadBox tab rfl rfl rfl rfl rfl) rfl ?_
          refine goG rfl rfl ?_
          first | refine pu (ev tab rfl) rfl ?_ | refine pu (loadRow tab rfl rfl rfl rfl) rfl ?_ | refine pu (loadBox tab rfl rfl rfl rfl rfl) rfl ?_
          refine goG rfl rfl ?_
          refine pu (puCall rfl rfl rfl (same_fn a a) rfl) rfl ?_
          refine goG rfl rfl ?_
          iterate 2 refine pu (ev tab rfl) rfl ?_
          refine WO.nil ?_
          refine qv1 rfl rfl rfl
    refine qs ?_
    refine condK rfl (fun h39 => ?_) (fun h39 => ?_)
    · skip
      exfalso
      simp [hse, hcm] at h39
    · skip
      refine W.skip ?_
      refine qs ?_
      refine W.seq ?_
      apply regionDB tab; (case hb => rfl); (case hB => kernel_rfl)
      · skip
        first | refine chPu (ev tab rfl) rfl ?_ | refine chPu (loadRow tab rfl rfl rfl rfl) rfl ?_ | refine chPu (loadBox tab rfl rfl rfl rfl rfl) rfl ?_
        refine chPu (puCall rfl rfl rfl (echeck_fn a) rfl) rfl ?_
        refine chPu (ev tab rfl) rfl ?_
        refine chPu (ev tab rfl) rfl ?_
        apply chSplitJ; (case hj => rfl); (case hl => rfl)
        · skip
          refine chSkip rfl rfl rfl rfl ?_
          refine chSkip rfl rfl rfl rfl ?_
          refine chSkip rfl rfl rfl rfl ?_
          refine chPu (ev tab rfl) rfl ?_
          refine chPu (ev tab rfl) rfl ?_
          refine chSkip rfl rfl rfl rfl ?_
          refine chSkip rfl rfl rfl rfl ?_
          refine chSkip rfl rfl rfl rfl ?_
          refine chSkip rfl rfl rfl rfl ?_
          refine chSkip rfl rfl rfl rfl ?_
          refine chSkip rfl rfl rfl rfl ?_
          refine chSkip rfl rfl rfl rfl ?_
          refine chPu (ev tab rfl) rfl ?_
          refine chPu (ev tab rfl) rfl ?_
          refine CH.nil ?_
          refine qv1 rfl rfl rfl
        · skip
          first | refine chGo rfl rfl (ev tab rfl) rfl ?_ | refine chGo rfl rfl (loadRow tab rfl rfl rfl rfl) rfl ?_ | refine chGo rfl rfl (loadBox tab rfl rfl rfl rfl rfl) rfl ?_
          refine chGo rfl rfl (puCall rfl rfl rfl (echeck_fn b) rfl) rfl ?_
          refine chGo rfl rfl (ev tab rfl) rfl ?_
          refine chPu (ev tab rfl) rfl ?_
          refine chPu (ev tab rfl) rfl ?_
          apply chSplitJ; (case hj => rfl); (case hl => rfl)
          · skip
            refine chSkip rfl rfl rfl rfl ?_
            refine chSkip rfl rfl rfl rfl ?_
            refine chSkip rfl rfl rfl rfl ?_
            refine chSkip rfl rfl rfl rfl ?_
            refine chSkip rfl rfl rfl rfl ?_
            refine chSkip rfl rfl rfl rfl ?_
            refine chSkip rfl rfl rfl rfl ?_
            refine chPu (ev tab rfl) rfl ?_
            refine chPu (ev tab rfl) rfl ?_
            refine CH.nil ?_
            refine qv1 rfl rfl rfl
          · skip
            refine chGo rfl rfl (ev tab rfl) rfl ?_
            first | refine chGo rfl rfl (ev tab rfl) rfl ?_ | refine chGo rfl rfl (loadRow tab rfl rfl rfl rfl) rfl ?_ | refine chGo rfl rfl (loadBox tab rfl rfl rfl rfl rfl) rfl ?_
            refine chGo rfl rfl (puCall rfl rfl rfl (etext_fn a) rfl) rfl ?_
            first | refine chGo rfl rfl (ev tab rfl) rfl ?_ | refine chGo rfl rfl (loadRow tab rfl rfl rfl rfl) rfl ?_ | refine chGo rfl rfl (loadBox tab rfl rfl rfl rfl rfl) rfl ?_
            refine chGo rfl rfl (puCall rfl rfl rfl (etext_fn b) rfl) rfl ?_
            refine chGo rfl rfl (ev tab rfl) rfl ?_
            refine chGo rfl rfl (ev tab rfl) rfl ?_
            refine chPu (ev tab rfl) rfl ?_
            refine chPu (ev tab rfl) rfl ?_
            refine CH.nil ?_
            refine qv1 rfl rfl rfl
      refine qs ?_
      refine W.ret ?_
      refine QF.ret0 trivial rfl ?_
      first | (simp [norm, oneA]; done) | (simp only [norm, oneA]; by_cases p : checkE a = 0 <;> by_cases q : checkE b = 0 <;> simp [p, q, same_text]; done)
end Go.Proofs.YtlmgnlhagpoggaaDoor
namespace Go.Proofs.YtlmgnlhagpoggaaDoor
open Go.Ab Go.Tb
set_option maxRecDepth 10000
attribute [local irreducible] W WO Pu QS QB QL QF QV QV1 CH QE
theorem chk_name {e : Ev} (h : checkE e = 0) (h0 : e.name = B #[]) {name : ByteArray} (hn : name ≠ B #[]) : checkE ⟨e.time, e.kind, name, e.n, e.m, e.stack⟩ = 1 := by
  have g := good_of h
  have hf : (frmOf e.kind).name = false := by
    cases q : (frmOf e.kind).name with
    | false => rfl
    | true => exact absurd h0 (name_ok (g.name q)).2.2
  unfold checkE
  rw [if_neg (by have := g.time; simp only; omega), if_pos (.inr (.inl ⟨hf, hn⟩))]
theorem chk_stack {e : Ev} (h : checkE e = 0) (h5 : e.kind ≠ 5) (h11 : e.kind ≠ 11) (name : ByteArray) : checkE ⟨e.time, e.kind, e.name, e.n, e.m, [name]⟩ = 1 := by
  have g := good_of h
  have hf : (frmOf e.kind).stack = false := by
    rcases kinds g.kind.1 g.kind.2 with k | k | k | k | k | k | k | k | k | k | k | k <;> rw [k] at h5 h11 ⊢ <;> first | rfl | (exact absurd rfl h5) | (exact absurd rfl h11)
  unfold checkE
  rw [if_neg (by have := g.time; simp only; omega), if_pos (.inr (.inr (.inr (.inr ⟨hf, by simp⟩))))]
theorem chk_n {e : Ev} (h : checkE e = 0) (h4 : e.kind < 4) {n : Int} (hn : n ≠ 0) : checkE ⟨e.time, e.kind, e.name, n, e.m, e.stack⟩ = 1 := by
  have g := good_of h
  have hf : (frmOf e.kind).n = false := by
    rcases kinds g.kind.1 g.kind.2 with k | k | k | k | k | k | k | k | k | k | k | k <;> rw [k] at h4 ⊢ <;> first | rfl | omega
  unfold checkE
  rw [if_neg (by have := g.time; simp only; omega), if_pos (.inr (.inr (.inl ⟨hf, hn⟩)))]
theorem efields_fn (e : Ev) (name : ByteArray) (n : Int) : Does Tryd.prog 7 [.ag e.c, .d (.v (.string name)), .d (.v (.int .i64 n))] (.d (.v (.bool true))) 0 := by
  refine Does.of_W (n := 70) (ts := [6]) Tryd.func7 (by kernel_rfl) rfl Tryd.ntmps7 Tryd.results7 rfl rfl fun C hC hG => ?_
  refine W.seq ?_
  refine W.region ?_
  refine boxR rfl rfl rfl ?_
  refine pu (ev tab rfl) rfl ?_
  refine WO.nil ?_
  refine qs ?_
  refine W.seq ?_
  refine W.seq ?_
  apply regionB; (case hb => rfl)
  · skip
    refine pu (puCall rfl rfl rfl (awake_fn ..) rfl) rfl ?_
    iterate 2 refine pu (ev tab rfl) rfl ?_
    apply splitJ; (case hj => rfl); (case hl => rfl)
    · skip
      refine skipT rfl rfl rfl rfl ?_
      refine skipT rfl rfl rfl rfl ?_
      refine skipT rfl rfl rfl rfl ?_
      iterate 2 refine pu (ev tab rfl) rfl ?_
      refine skipT rfl rfl rfl rfl ?_
      refine skipT rfl rfl rfl rfl ?_
      refine skipT rfl rfl rfl rfl ?_
      iterate 2 refine pu (ev tab rfl) rfl ?_
      refine skipT rfl rfl rfl rfl ?_
      refine skipT rfl rfl rfl rfl ?_
      iterate 2 refine pu (ev tab rfl) rfl ?_
      refine skipT rfl rfl rfl rfl ?_
      refine skipT rfl rfl rfl rfl ?_
      refine pu (ev tab rfl) rfl ?_
      refine WO.nil ?_
      refine qv1 rfl rfl rfl
    · skip
      refine goG rfl rfl ?_
      first | refine pu (ev tab rfl) rfl ?_ | refine pu (loadRow tab rfl rfl rfl rfl) rfl ?_ | refine pu (loadBox tab rfl rfl rfl rfl rfl) rfl ?_
      refine goG rfl rfl ?_
      refine pu (puCall rfl rfl rfl (small_fn e) rfl) rfl ?_
      refine goG rfl rfl ?_
      iterate 3 refine pu (ev tab rfl) rfl ?_
      apply splitJ; (case hj => rfl); (case hl => rfl)
      · skip
        refine skipT rfl rfl rfl rfl ?_
        refine skipT rfl rfl rfl rfl ?_
        refine skipT rfl rfl rfl rfl ?_
        iterate 2 refine pu (ev tab rfl) rfl ?_
        refine skipT rfl rfl rfl rfl ?_
        refine skipT rfl rfl rfl rfl ?_
        iterate 2 refine pu (ev tab rfl) rfl ?_
        refine skipT rfl rfl rfl rfl ?_
        refine skipT rfl rfl rfl rfl ?_
        refine pu (ev tab rfl) rfl ?_
        refine WO.nil ?_
        refine qv1 rfl rfl rfl
      · skip
        refine goG rfl rfl ?_
        first | refine pu (ev tab rfl) rfl ?_ | refine pu (loadRow tab rfl rfl rfl rfl) rfl ?_ | refine pu (loadBox tab rfl rfl rfl rfl rfl) rfl ?_
        refine goG rfl rfl ?_
        refine pu (puCall rfl rfl rfl (echeck_fn e) rfl) rfl ?_
        refine goG rfl rfl ?_
        iterate 3 refine pu (ev tab rfl) rfl ?_
        apply splitJ; (case hj => rfl); (case hl => rfl)
        · skip
          refine skipT rfl rfl rfl rfl ?_
          refine skipT rfl rfl rfl rfl ?_
          iterate 2 refine pu (ev tab rfl) rfl ?_
          refine skipT rfl rfl rfl rfl ?_
          refine skipT rfl rfl rfl rfl ?_
          refine pu (ev tab rfl) rfl ?_
          refine WO.nil ?_
          refine qv1 rfl rfl rfl
        · skip
          refine goG rfl rfl ?_
          refine pu (ev tab rfl) rfl ?_
          refine goG rfl rfl ?_
          iterate 3 refine pu (ev tab rfl) rfl ?_
          apply splitJ; (case hj => rfl); (case hl => rfl)
          · skip
            refine skipT rfl rfl rfl rfl ?_
            refine skipT rfl rfl rfl rfl ?_
            refine pu (ev tab rfl) rfl ?_
            refine WO.nil ?_
            refine qv1 rfl rfl rfl
          · skip
            refine goG rfl rfl ?_
            refine pu (ev tab rfl) rfl ?_
            refine goG rfl rfl ?_
            iterate 2 refine pu (ev tab rfl) rfl ?_
            refine WO.nil ?_
            refine qv1 rfl rfl rfl
  refine qs ?_
  refine condK rfl (fun h29 => ?_) (fun h29 => ?_)
  · skip
    refine W.seq ?_
    refine W.region ?_
    refine pu (puCall rfl rfl rfl (awake_fn ..) rfl) rfl ?_
    refine pu (ev tab rfl) rfl ?_
    refine WO.nil ?_
    refine qs ?_
    refine W.ret ?_
    refine qsRet ?_
    refine QF.ret0 trivial rfl ?_
    first | (simp [norm, oneA]; done) | (simp only [norm, oneA]; by_cases q : e.kind < 4; simp [chk_n hc q hn2]; simp; omega)
  · skip
    have hh : checkE e = 0 ∧ name ≠ B #[] ∧ n ≠ 0 := by
      cases q : smallEv e <;> simp [q] at h29
      exact h29
    obtain ⟨hc, hn1, hn2⟩ := hh
    refine W.skip ?_
    refine qs ?_
    refine W.seq ?_
    refine W.regionE tab 8 3 (by kernel_rfl) rfl rfl ?_
    first | refine cePu rfl (ev tab rfl) rfl ?_ | refine cePu rfl (loadRow tab rfl rfl rfl rfl) rfl ?_ | refine cePu rfl (loadBox tab rfl rfl rfl rfl rfl) rfl ?_
    first | refine cePu rfl (ev tab rfl) rfl ?_ | refine cePu rfl (loadRow tab rfl rfl rfl rfl) rfl ?_ | refine cePu rfl (loadBox tab rfl rfl rfl rfl rfl) rfl ?_
    first | refine cePu rfl (ev tab rfl) rfl ?_ | refine cePu rfl (loadRow tab rfl rfl rfl rfl) rfl ?_ | refine cePu rfl (loadBox tab rfl rfl rfl rfl rfl) rfl ?_
    refine ceAlloc 0 rfl rfl rfl rfl rfl rfl ?_
    refine ceAlloc 1 rfl rfl rfl rfl rfl rfl ?_
    refine ceAlloc 2 rfl rfl rfl rfl rfl rfl ?_
    refine ceStore 3 0 rfl rfl rfl rfl rfl rfl rfl rfl rfl rfl rfl rfl ?_
    refine ceStore 4 1 rfl rfl rfl rfl rfl rfl rfl rfl rfl rfl rfl rfl ?_
    refine CE.nil ?_
    refine storeR tab rfl rfl rfl rfl rfl rfl rfl rfl ?_
    refine WO.nil ?_
    refine qs ?_
    refine W.seq ?_
    refine W.region ?_
    iterate 2 refine pu (ev tab rfl) rfl ?_
    refine storeR tab rfl rfl rfl rfl rfl rfl rfl rfl ?_
    refine WO.nil ?_
    refine qs ?_
    refine W.seq ?_
    refine W.region ?_
    refine pu (ev tab rfl) rfl ?_
    refine pu (buildV tab rfl rfl rfl rfl rfl rfl rfl rfl rfl) rfl ?_
    refine pu (ev tab rfl) rfl ?_
    refine storeR tab rfl rfl rfl rfl rfl rfl rfl rfl ?_
    refine WO.nil ?_
    refine qs ?_
    refine W.seq ?_
    refine W.region ?_
    iterate 2 refine pu (ev tab rfl) rfl ?_
    refine storeR tab rfl rfl rfl rfl rfl rfl rfl rfl ?_
    refine WO.nil ?_
    refine qs ?_
    refine W.seq ?_
    refine W.seq ?_
    apply regionB; (case hb => rfl)
    · skip
      refine pu (ev tab rfl) rfl ?_
      first | refine pu (ev tab rfl) rfl ?_ | refine pu (loadRow tab rfl rfl rfl rfl) rfl ?_ | refine pu (loadBox tab rfl rfl rfl rfl rfl) rfl ?_
      iterate 2 refine pu (ev tab rfl) rfl ?_
      apply splitJ; (case hj => rfl); (case hl => rfl)
      · skip
        refine goG rfl rfl ?_
        first | refine pu (ev tab rfl) rfl ?_ | refine pu (loadRow tab rfl rfl rfl rfl) rfl ?_ | refine pu (loadBox tab rfl rfl rfl rfl rfl) rfl ?_
        refine goG rfl rfl ?_
        refine pu (puCall rfl rfl rfl (echeck_fn (Ev.mk e.time e.kind name e.n e.m e.stack)) rfl) rfl ?_
        refine goG rfl rfl ?_
        iterate 2 refine pu (ev tab rfl) rfl ?_
        refine WO.nil ?_
        refine qv1 rfl rfl rfl
      · skip
        refine skipT rfl rfl rfl rfl ?_
        refine skipT rfl rfl rfl rfl ?_
        refine skipT rfl rfl rfl rfl ?_
        refine pu (ev tab rfl) rfl ?_
        refine WO.nil ?_
        refine qv1 rfl rfl rfl
    refine qs ?_
    refine condK rfl (fun h48 => ?_) (fun h48 => ?_)
    · skip
      exfalso
      by_cases q : e.name = B #[]
      · simp [q, chk_name hc q hn1] at h48
      · simp [q] at h48
    · skip
      refine W.skip ?_
      refine qs ?_
      refine W.seq ?_
      refine W.seq ?_
      apply regionB; (case hb => rfl)
      · skip
        refine pu (ev tab rfl) rfl ?_
        first | refine pu (ev tab rfl) rfl ?_ | refine pu (loadRow tab rfl rfl rfl rfl) rfl ?_ | refine pu (loadBox tab rfl rfl rfl rfl rfl) rfl ?_
        iterate 2 refine pu (ev tab rfl) rfl ?_
        apply splitJ; (case hj => rfl); (case hl => rfl)
        · skip
          refine goG rfl rfl ?_
          refine pu (ev tab rfl) rfl ?_
          refine goG rfl rfl ?_
          first | refine pu (ev tab rfl) rfl ?_ | refine pu (loadRow tab rfl rfl rfl rfl) rfl ?_ | refine pu (loadBox tab rfl rfl rfl rfl rfl) rfl ?_
          refine goG rfl rfl ?_
          iterate 3 refine pu (ev tab rfl) rfl ?_
          apply splitJ; (case hj => rfl); (case hl => rfl)
          · skip
            refine goG rfl rfl ?_
            first | refine pu (ev tab rfl) rfl ?_ | refine pu (loadRow tab rfl rfl rfl rfl) rfl ?_ | refine pu (loadBox tab rfl rfl rfl rfl rfl) rfl ?_
            refine goG rfl rfl ?_
            refine pu (puCall rfl rfl rfl (echeck_fn (Ev.mk e.time e.kind e.name e.n e.m [name])) rfl) rfl ?_
            refine goG rfl rfl ?_
            iterate 2 refine pu (ev tab rfl) rfl ?_
            refine WO.nil ?_
            refine qv1 rfl rfl rfl
          · skip
            refine skipT rfl rfl rfl rfl ?_
            refine skipT rfl rfl rfl rfl ?_
            refine skipT rfl rfl rfl rfl ?_
            refine pu (ev tab rfl) rfl ?_
            refine WO.nil ?_
            refine qv1 rfl rfl rfl
        · skip
          refine skipT rfl rfl rfl rfl ?_
          refine skipT rfl rfl rfl rfl ?_
          refine skipT rfl rfl rfl rfl ?_
          iterate 2 refine pu (ev tab rfl) rfl ?_
          refine skipT rfl rfl rfl rfl ?_
          refine skipT rfl rfl rfl rfl ?_
          refine skipT rfl rfl rfl rfl ?_
          refine pu (ev tab rfl) rfl ?_
          refine WO.nil ?_
          refine qv1 rfl rfl rfl
      refine qs ?_
      refine condK rfl (fun h61 => ?_) (fun h61 => ?_)
      · skip
        exfalso
        by_cases q : e.kind = 5
        · simp [q] at h61
        · by_cases r : e.kind = 11
          · simp [r] at h61
          · simp [q, r, chk_stack hc q r name] at h61
      · skip
        refine W.skip ?_
        refine qs ?_
        refine W.seq ?_
        apply regionB; (case hb => rfl)
        · skip
          refine pu (ev tab rfl) rfl ?_
          first | refine pu (ev tab rfl) rfl ?_ | refine pu (loadRow tab rfl rfl rfl rfl) rfl ?_ | refine pu (loadBox tab rfl rfl rfl rfl rfl) rfl ?_
          iterate 2 refine pu (ev tab rfl) rfl ?_
          apply splitJ; (case hj => rfl); (case hl => rfl)
          · skip
            refine skipT rfl rfl rfl rfl ?_
            refine skipT rfl rfl rfl rfl ?_
            refine skipT rfl rfl rfl rfl ?_
            iterate 2 refine pu (ev tab rfl) rfl ?_
            refine WO.nil ?_
            refine qv1 rfl rfl rfl
          · skip
            refine goG rfl rfl ?_
            first | refine pu (ev tab rfl) rfl ?_ | refine pu (loadRow tab rfl rfl rfl rfl) rfl ?_ | refine pu (loadBox tab rfl rfl rfl rfl rfl) rfl ?_
            refine goG rfl rfl ?_
            refine pu (puCall rfl rfl rfl (echeck_fn (Ev.mk e.time e.kind e.name n e.m e.stack)) rfl) rfl ?_
            refine goG rfl rfl ?_
            iterate 3 refine pu (ev tab rfl) rfl ?_
            refine WO.nil ?_
            refine qv1 rfl rfl rfl
        refine qs ?_
        refine W.ret ?_
        refine QF.ret0 trivial rfl ?_
        first | (simp [norm, oneA]; done) | (simp only [norm, oneA]; by_cases q : e.kind < 4; simp [chk_n hc q hn2]; simp; omega)
end Go.Proofs.YtlmgnlhagpoggaaDoor
