import Derived.Test.YtmhjgeneogknpaaGreatQ8
namespace Go.Proofs.YtmhjgeneogknpaaGreat
open Go.Ab Go.Tb
set_option maxRecDepth 10000
attribute [local irreducible] W WO Pu QS QB QL QF QV QV1 CH QE
theorem fewS_of {s : Stp} (h : fewStep s = true) : fewS s := by
  simp only [fewStep, Bool.and_eq_true, decide_eq_true_eq] at h
  obtain ⟨⟨⟨⟨⟨⟨⟨⟨_, h1⟩, h2⟩, h3⟩, h4⟩, _⟩, _⟩, _⟩, _⟩ := h
  exact ⟨by omega, by omega, by omega, by omega⟩
theorem fewT_of {d : List Nmd} (h : fewData d = true) : fewT d := by
  intro x hx
  simp only [fewData, Bool.and_eq_true, decide_eq_true_eq, List.all_eq_true] at h
  have := h.2 x hx
  simp only [fewNmd, fewTable, fewCols, Bool.and_eq_true, decide_eq_true_eq] at this
  have := this.2.1.1.2
  omega
theorem fewC_of {l : List Col} (h : fewCols l = true) : l.length ≤ 40 := by
  simp only [fewCols, Bool.and_eq_true, decide_eq_true_eq] at h
  exact h.2

theorem selErr_expr : ∀ (l : List Itm) (ks : List ByteArray), selErr ks l = 0 → ∀ x ∈ l, exprErr x.e = 0
  | [], _, _, x, hx => by cases hx
  | y :: r, ks, h, x, hx => by
    simp only [selErr] at h
    split at h
    · rename_i h1; exact absurd h h1
    · rename_i h1
      split at h
      · rename_i h2; exact absurd h h2
      · rcases List.mem_cons.1 hx with rfl | hx
        · simpa using h1
        · exact selErr_expr r _ h x hx
theorem usesB_op {s : Stp} (h : ¬ usesB s = false) : 1 ≤ s.op ∧ s.op ≤ 9 := by
  rw [usesB_eq] at h
  by_cases q : s.op < 1 <;> by_cases q2 : 9 < s.op <;> simp [q, q2] at h <;> omega

theorem rtstep_fn (d : List Nmd) (cols : List Col) (s : Stp) (hf : fewS s) (ht : fewT d) (hc : cols.length ≤ 1000) : Does Tryz.prog 10 [.d (.sl (d.map Nmd.c)), .d (.sl (cols.map Col.c)), .ag s.c]
    (.tup [.d (.sl ((stepCT d cols s).1.map Col.c)), .d (.v (.int .i64 (stepCT d cols s).2))]) 0 := by
  obtain ⟨hf1, hf2, hf3, hf4⟩ := id hf
  have hg : stepCT d cols s = stepCT d cols s := rfl
  conv at hg => rhs; unfold stepCT
  refine Does.of_W (n := 101) (ts := [6, 7]) Tryz.func10 (by kernel_rfl) rfl Tryz.ntmps10 Tryz.results10 rfl rfl fun C hC => ?_
  refine W.seq ?_
  refine W.region ?_
  refine boxR rfl rfl rfl ?_
  iterate 2 refine pu (ev tab rfl) rfl ?_
  refine WO.nil ?_
  refine qs ?_
  refine W.seq ?_
  refine W.region ?_
  first | refine pu (ev tab rfl) rfl ?_ | refine pu (loadRow tab rfl rfl rfl rfl) rfl ?_ | refine pu (loadBox tab rfl rfl rfl rfl rfl) rfl ?_
  refine pu (puCall rfl rfl rfl (rstep_fn s hf) rfl) rfl ?_
  refine pu (ev tab rfl) rfl ?_
  refine WO.nil ?_
  refine qs ?_
  refine W.seq ?_
  refine W.seq ?_
  refine W.region ?_
  iterate 2 refine pu (ev tab rfl) rfl ?_
  refine WO.nil ?_
  refine qs ?_
  refine condK rfl (fun h17 => ?_) (fun h17 => ?_)
  · skip
    rw [if_pos (by simpa using h17)] at hg
    refine W.seq ?_
    refine W.region ?_
    iterate 3 refine pu (ev tab rfl) rfl ?_
    refine WO.nil ?_
    refine qs ?_
    try refine ownNilR (d := 6) rfl rfl ?_
    refine W.ret ?_
    refine qsRet ?_
    refine QF.ret0 trivial rfl ?_
    rw [hg]; rfl
  · skip
    have h17 : stepErr s = 0 := by simpa using h17
    rw [if_neg (by simp [h17])] at hg
    have hse := h17
    unfold stepErr at hse
    split at hse
    · cases hse
    rename_i hub
    have hop := usesB_op hub
    refine W.skip ?_
    refine qs ?_
    refine W.seq ?_
    refine W.seq ?_
    refine W.region ?_
    refine pu (ev tab rfl) rfl ?_
    first | refine pu (ev tab rfl) rfl ?_ | refine pu (loadRow tab rfl rfl rfl rfl) rfl ?_ | refine pu (loadBox tab rfl rfl rfl rfl rfl) rfl ?_
    refine WO.nil ?_
    refine qs ?_
    refine W.block ?_
    refine W.seq ?_
    refine W.region ?_
    iterate 2 refine pu (ev tab rfl) rfl ?_
    refine WO.nil ?_
    refine qs ?_
    refine condK rfl (fun h21 => ?_) (fun h21 => ?_)
    · skip
      have h21 : s.op = 1 := by simpa using h21
      rw [if_pos h21] at hg hse
      have hX := rtexpr_fn cols s.cond
      rw [show exprT cols s.cond = typ cols s.cond by unfold exprT; rw [if_neg (by simp [hse])]] at hX
      refine W.seq ?_
      refine W.region ?_
      iterate 2 refine pu (ev tab rfl) rfl ?_
      first | refine pu (ev tab rfl) rfl ?_ | refine pu (loadRow tab rfl rfl rfl rfl) rfl ?_ | refine pu (loadBox tab rfl rfl rfl rfl rfl) rfl ?_
      refine pu (puCall rfl rfl rfl hX rfl) rfl ?_
      iterate 5 refine pu (ev tab rfl) rfl ?_
      refine WO.nil ?_
      refine qs ?_
      refine W.seq ?_
      refine W.seq ?_
      apply regionB; (case hb => rfl)
      · skip
        iterate 3 refine pu (ev tab rfl) rfl ?_
        apply splitJ; (case hj => rfl); (case hl => rfl)
        · skip
          refine goG rfl rfl ?_
          refine pu (ev tab rfl) rfl ?_
          refine goG rfl rfl ?_
          refine pu (puCall rfl rfl rfl (rfits_fn ..) rfl) rfl ?_
          refine goG rfl rfl ?_
          iterate 2 refine pu (ev tab rfl) rfl ?_
          refine WO.nil ?_
          refine qv1 rfl rfl rfl
        · skip
          refine skipT rfl rfl rfl rfl ?_
          refine skipT rfl rfl rfl rfl ?_
          refine skipT rfl rfl rfl rfl ?_
          refine pu (ev tab rfl) rfl ?_
          refine WO.nil ?_
          refine qv1 rfl rfl rfl
      refine qs ?_
      refine condK rfl (fun h36 => ?_) (fun h36 => ?_)
      · skip
        have h36 : (typ cols s.cond).2 = 0 ∧ fits (typ cols s.cond).1 1 = false := by revert h36; generalize fits (typ cols s.cond).1 1 = u; by_cases q : (typ cols s.cond).2 = 0 <;> cases u <;> simp [q]
        have hw : whereErr cols s.cond = 14 := by unfold whereErr; rw [if_pos h36]
        simp only [hw] at hg
        refine W.region ?_
        refine pu (ev tab rfl) rfl ?_
        refine WO.nil ?_
        refine qs ?_
        refine W.seq ?_
        refine W.seq ?_
        refine W.region ?_
        iterate 2 refine pu (ev tab rfl) rfl ?_
        refine WO.nil ?_
        refine qs ?_
        refine condK rfl (fun h38 => ?_) (fun h38 => ?_)
        · skip
          rw [if_pos (by first | decide | simpa using h38)] at hg
          refine W.seq ?_
          refine W.region ?_
          iterate 3 refine pu (ev tab rfl) rfl ?_
          refine WO.nil ?_
          refine qs ?_
          try refine ownNilR (d := 6) rfl rfl ?_
          refine W.ret ?_
          refine qsRet ?_
          refine qbRet ?_
          refine qsRet ?_
          refine QF.ret0 trivial rfl ?_
          rw [hg]; rfl
        · skip
          rw [if_neg (by first | (exfalso; revert h38; decide) | simpa using h38)] at hg
          refine W.skip ?_
          refine qs ?_
          refine W.seq ?_
          refine W.region ?_
          iterate 3 refine pu (ev tab rfl) rfl ?_
          refine WO.nil ?_
          refine qs ?_
          try refine ownNilR (d := 6) rfl rfl ?_
          refine W.ret ?_
          refine qbRet ?_
          refine qsRet ?_
          refine QF.ret0 trivial rfl ?_
          rw [hg]; rfl
      · skip
        have h36 : ¬ ((typ cols s.cond).2 = 0 ∧ fits (typ cols s.cond).1 1 = false) := by revert h36; generalize fits (typ cols s.cond).1 1 = u; by_cases q : (typ cols s.cond).2 = 0 <;> cases u <;> simp [q]
        have hw : whereErr cols s.cond = (typ cols s.cond).2 := by unfold whereErr; rw [if_neg h36]
        simp only [hw] at hg
        refine W.skip ?_
        refine qs ?_
        refine W.seq ?_
        refine W.seq ?_
        refine W.region ?_
        iterate 2 refine pu (ev tab rfl) rfl ?_
        refine WO.nil ?_
        refine qs ?_
        refine condK rfl (fun h38 => ?_) (fun h38 => ?_)
        · skip
          rw [if_pos (by first | decide | simpa using h38)] at hg
          refine W.seq ?_
          refine W.region ?_
          iterate 3 refine pu (ev tab rfl) rfl ?_
          refine WO.nil ?_
          refine qs ?_
          try refine ownNilR (d := 6) rfl rfl ?_
          refine W.ret ?_
          refine qsRet ?_
          refine qbRet ?_
          refine qsRet ?_
          refine QF.ret0 trivial rfl ?_
          rw [hg]; rfl
        · skip
          rw [if_neg (by first | (exfalso; revert h38; decide) | simpa using h38)] at hg
          refine W.skip ?_
          refine qs ?_
          refine W.seq ?_
          refine W.region ?_
          iterate 3 refine pu (ev tab rfl) rfl ?_
          refine WO.nil ?_
          refine qs ?_
          try refine ownNilR (d := 6) rfl rfl ?_
          refine W.ret ?_
          refine qbRet ?_
          refine qsRet ?_
          refine QF.ret0 trivial rfl ?_
          rw [hg]; rfl
    · skip
      have h21 : ¬ s.op = 1 := by simpa using h21
      rw [if_neg h21] at hg hse
      refine W.seq ?_
      refine W.region ?_
      iterate 2 refine pu (ev tab rfl) rfl ?_
      refine WO.nil ?_
      refine qs ?_
      refine condK rfl (fun h41 => ?_) (fun h41 => ?_)
      · skip
        have h41 : s.op = 2 := by simpa using h41
        rw [if_pos h41] at hg hse
        have hsel : selErr [] s.items = 0 := by
          split at hse
          · rename_i h1; exact absurd hse h1
          · exact hse
        refine W.seq ?_
        refine W.region ?_
        iterate 2 refine pu (ev tab rfl) rfl ?_
        first | refine pu (ev tab rfl) rfl ?_ | refine pu (loadRow tab rfl rfl rfl rfl) rfl ?_ | refine pu (loadBox tab rfl rfl rfl rfl rfl) rfl ?_
        refine pu (puCall rfl rfl rfl (rsel_fn cols s.items (by omega) (selErr_expr _ _ hsel)) rfl) rfl ?_
        iterate 4 refine pu (ev tab rfl) rfl ?_
        refine WO.nil ?_
        refine qs ?_
        try refine ownNilR (d := 6) rfl rfl ?_
        refine W.ret ?_
        refine qbRet ?_
        refine qsRet ?_
        refine QF.ret0 trivial rfl ?_
        rw [hg]; rfl
      · skip
        have h41 : ¬ s.op = 2 := by simpa using h41
        rw [if_neg h41] at hg hse
        refine W.seq ?_
        refine W.region ?_
        iterate 2 refine pu (ev tab rfl) rfl ?_
        refine WO.nil ?_
        refine qs ?_
        refine condK rfl (fun h49 => ?_) (fun h49 => ?_)
        · skip
          have h49 : s.op = 3 := by simpa using h49
          rw [if_pos h49] at hg hse
          refine W.seq ?_
          refine W.region ?_
          refine pu (ev tab rfl) rfl ?_
          first | refine pu (ev tab rfl) rfl ?_ | refine pu (loadRow tab rfl rfl rfl rfl) rfl ?_ | refine pu (loadBox tab rfl rfl rfl rfl rfl) rfl ?_
          refine pu (puCall rfl rfl rfl (rgroup_fn cols s hf) rfl) rfl ?_
          iterate 4 refine pu (ev tab rfl) rfl ?_
          refine WO.nil ?_
          refine qs ?_
          try refine ownNilR (d := 6) rfl rfl ?_
          refine W.ret ?_
          refine qbRet ?_
          refine qsRet ?_
          refine QF.ret0 trivial rfl ?_
          rw [hg]; rfl
        · skip
          have h49 : ¬ s.op = 3 := by simpa using h49
          rw [if_neg h49] at hg hse
          refine W.seq ?_
          refine W.region ?_
          iterate 2 refine pu (ev tab rfl) rfl ?_
          refine WO.nil ?_
          refine qs ?_
          refine condK rfl (fun h56 => ?_) (fun h56 => ?_)
          · skip
            have h56 : s.op = 4 := by simpa using h56
            rw [if_pos h56] at hg hse
            refine W.seq ?_
            refine W.seq ?_
            refine W.region ?_
            refine pu (ev tab rfl) rfl ?_
            refine WO.nil ?_
            refine qs ?_
            refine W.block ?_
            have hlen : s.sorts.length ≤ maxLen := by simp [maxLen]; omega
            refine W.loopR (ι := {x : Nat // match x with | k => k ≤ s.sorts.length ∧ sortErr cols (s.sorts.drop k) = sortErr cols s.sorts})
              (fun x => match x.1 with | k => [(5, .ptr 0 0), (11, .d (.v (.int .i64 ((k : Nat) : Int))))]) [(1, _)]
              (fun x => match x.1 with | k => []) [(0, _)] [] 1 (fun x => match x.1 with | k => s.sorts.length - k)
              [0] ⟨0, ?_⟩ rfl ?_ ⟨rfl, rfl, trivial⟩ ?_ ⟨rfl, rfl, trivial⟩ rfl ?_
            · first | exact ⟨Nat.zero_le _, rfl⟩ | exact trivial | simp
            · repeat' first | exact trivial | refine ⟨rfl, ?_⟩ | refine ⟨step_nat (by assumption) (by assumption), ?_⟩
            · repeat' first | exact trivial | refine ⟨rfl, ?_⟩ | refine ⟨step_nat (by assumption) (by assumption), ?_⟩
            rintro ⟨k, hk, hI⟩
            show W _ _ _ _ _ ⟨[(5, .ptr 0 0), (11, .d (.v (.int .i64 ((k : Nat) : Int)))), (1, _)], [(0, _)], [], 1⟩
            refine W.seq ?_
            refine W.seq ?_
            refine W.region ?_
            iterate 2 refine pu (ev tab rfl) rfl ?_
            first | refine pu (ev tab rfl) rfl ?_ | refine pu (loadRow tab rfl rfl rfl rfl) rfl ?_ | refine pu (loadBox tab rfl rfl rfl rfl rfl) rfl ?_
            iterate 2 refine pu (ev tab rfl) rfl ?_
            refine WO.nil ?_
            refine qs ?_
            refine eachR (l := s.sorts) (k := k) rfl (by simp [Ex.kc_len, bytes_len]) hk (fun z hx hd hlt => ?_) (fun he hd => ?_)
            · skip
              rw [hd] at hI
              rw [show sortErr cols (z :: s.sorts.drop (k + 1)) = (!(cols.any fun c => decide (c.name = z.col)) || sortErr cols (s.sorts.drop (k + 1))) from rfl] at hI
              refine W.skip ?_
              refine qs ?_
              refine W.seq ?_
              refine W.block ?_
              refine W.seq ?_
              refine W.region ?_
              iterate 2 refine pu (ev tab rfl) rfl ?_
              first | refine pu (ev tab rfl) rfl ?_ | refine pu (loadRow tab rfl rfl rfl rfl) rfl ?_ | refine pu (loadBox tab rfl rfl rfl rfl rfl) rfl ?_
              refine pu (ev tab rfl) rfl ?_
              refine pu (indexAddr tab rfl rfl rfl rfl rfl rfl (Int.natCast_nonneg _) (idx_map hx) rfl) rfl ?_
              refine pu (ev tab rfl) rfl ?_
              first | refine pu (ev tab rfl) rfl ?_ | refine pu (loadRow tab rfl rfl rfl rfl) rfl ?_ | refine pu (loadBox tab rfl rfl rfl rfl rfl) rfl ?_
              refine pu (puCall rfl rfl rfl (rfind_fn cols z.col) rfl) rfl ?_
              refine pu (ev tab rfl) rfl ?_
              refine WO.nil ?_
              refine qs ?_
              refine condK rfl (fun h73 => ?_) (fun h73 => ?_)
              · skip
                have h73 : (cols.any fun c => decide (c.name = z.col)) = false := by rw [← idx_nonneg]; simp at h73 ⊢; omega
                rw [h73] at hI
                rw [if_pos (by rw [← hI]; rfl)] at hg
                refine W.seq ?_
                refine W.region ?_
                iterate 2 refine pu (ev tab rfl) rfl ?_
                refine WO.nil ?_
                refine qs ?_
                try refine ownNilR (d := 6) rfl rfl ?_
                refine W.ret ?_
                refine qbRet ?_
                refine qsRet ?_
                refine qlRet ?_
                refine qbRet ?_
                refine qsRet ?_
                refine qbRet ?_
                refine qsRet ?_
                refine QF.ret0 trivial rfl ?_
                rw [hg]; rfl
              · skip
                have h73 : (cols.any fun c => decide (c.name = z.col)) = true := by rw [← idx_nonneg]; simp at h73 ⊢; omega
                rw [h73] at hI
                refine W.skip ?_
                refine qbN ?_
                refine qs ?_
                refine W.region ?_
                iterate 3 refine pu (ev tab rfl) rfl ?_
                refine WO.nil ?_
                refine W.endR [0] ⟨k + 1, ?_⟩ ?_ rfl ?_ ⟨rfl, rfl, trivial⟩ ?_ ⟨rfl, rfl, trivial⟩ rfl
                · exact ⟨hlt, hI⟩
                · dsimp only; omega
                · repeat' first | exact trivial | refine ⟨rfl, ?_⟩ | refine ⟨step_nat (by assumption) (by assumption), ?_⟩
                · repeat' first | exact trivial | refine ⟨rfl, ?_⟩ | refine ⟨step_nat (by assumption) (by assumption), ?_⟩
            · skip
              rw [hd] at hI
              rw [if_neg (by rw [← hI]; simp [sortErr])] at hg
              refine W.exit ?_
              refine qsExit ?_
              refine qlExit ?_
              refine qbExit ?_
              refine qs ?_
              refine W.seq ?_
              refine W.region ?_
              iterate 3 refine pu (ev tab rfl) rfl ?_
              refine WO.nil ?_
              refine qs ?_
              try refine ownNilR (d := 6) rfl rfl ?_
              refine W.ret ?_
              refine qbRet ?_
              refine qsRet ?_
              refine QF.ret0 trivial rfl ?_
              rw [hg]; rfl
          · skip
            have h56 : ¬ s.op = 4 := by simpa using h56
            rw [if_neg h56] at hg hse
            refine W.seq ?_
            refine W.region ?_
            iterate 2 refine pu (ev tab rfl) rfl ?_
            refine WO.nil ?_
            refine qs ?_
            refine condK rfl (fun h75 => ?_) (fun h75 => ?_)
            · skip
              have h75 : s.op = 5 := by simpa using h75
              rw [if_neg (by omega), if_neg (by omega)] at hg
              refine W.seq ?_
              refine W.region ?_
              iterate 3 refine pu (ev tab rfl) rfl ?_
              refine WO.nil ?_
              refine qs ?_
              try refine ownNilR (d := 6) rfl rfl ?_
              refine W.ret ?_
              refine qbRet ?_
              refine qsRet ?_
              refine QF.ret0 trivial rfl ?_
              rw [hg]; rfl
            · skip
              have h75 : ¬ s.op = 5 := by simpa using h75
              refine W.seq ?_
              refine W.region ?_
              iterate 2 refine pu (ev tab rfl) rfl ?_
              refine WO.nil ?_
              refine qs ?_
              refine condK rfl (fun h78 => ?_) (fun h78 => ?_)
              · skip
                have h78 : s.op = 9 := by simpa using h78
                rw [if_pos h78] at hg
                refine W.seq ?_
                refine W.region ?_
                refine pu (ev tab rfl) rfl ?_
                first | refine pu (ev tab rfl) rfl ?_ | refine pu (loadRow tab rfl rfl rfl rfl) rfl ?_ | refine pu (loadBox tab rfl rfl rfl rfl rfl) rfl ?_
                refine pu (puCall rfl rfl rfl (rcoal_fn cols s hf) rfl) rfl ?_
                iterate 4 refine pu (ev tab rfl) rfl ?_
                refine WO.nil ?_
                refine qs ?_
                try refine ownNilR (d := 6) rfl rfl ?_
                refine W.ret ?_
                refine qbRet ?_
                refine qsRet ?_
                refine QF.ret0 trivial rfl ?_
                rw [hg]; rfl
              · skip
                have h78 : ¬ s.op = 9 := by simpa using h78
                rw [if_neg h78, if_pos (by omega)] at hg
                refine W.skip ?_
                refine qbN ?_
                refine qs ?_
                refine W.seq ?_
                obtain ⟨p, q, hpq⟩ := tcells2 (findT d s.table)
                have hf' := rfindT_fn d s.table
                rw [hpq] at hf'
                refine W.region ?_
                iterate 2 refine pu (ev tab rfl) rfl ?_
                first | refine pu (ev tab rfl) rfl ?_ | refine pu (loadRow tab rfl rfl rfl rfl) rfl ?_ | refine pu (loadBox tab rfl rfl rfl rfl rfl) rfl ?_
                refine pu (puCall rfl rfl rfl hf' rfl) rfl ?_
                iterate 3 refine pu (ev tab rfl) rfl ?_
                refine allocR tab rfl rfl rfl ?_
                refine storeR tab rfl rfl rfl rfl rfl rfl rfl rfl ?_
                refine pu (ev tab rfl) rfl ?_
                refine WO.nil ?_
                refine qs ?_
                refine W.seq ?_
                refine W.seq ?_
                refine W.region ?_
                iterate 2 refine pu (ev tab rfl) rfl ?_
                refine WO.nil ?_
                refine qs ?_
                refine condK rfl (fun h93 => ?_) (fun h93 => ?_)
                · skip
                  have hq : findT d s.table = none := by cases hq : findT d s.table with | none => rfl | some t => rw [hq] at h93; simp at h93
                  unfold joinedT at hg
                  rw [hq] at hg
                  refine W.seq ?_
                  refine W.region ?_
                  iterate 2 refine pu (ev tab rfl) rfl ?_
                  refine WO.nil ?_
                  refine qs ?_
                  try refine ownNilR (d := 6) rfl rfl ?_
                  refine W.ret ?_
                  refine qsRet ?_
                  refine QF.ret0 trivial rfl ?_
                  rw [hg]; rfl
                · skip
                  obtain ⟨t, hq⟩ : ∃ t, findT d s.table = some t := by cases hq : findT d s.table with | none => rw [hq] at h93; simp at h93 | some t => exact ⟨t, rfl⟩
                  unfold joinedT at hg
                  rw [hq] at hg hpq
                  simp only at hg
                  have htc : t.cols.length ≤ 1000 := by obtain ⟨x, hx, rfl⟩ := findT_mem hq; exact ht x hx
                  simp only [tcells, Tbl.c, List.cons.injEq, and_true] at hpq
                  obtain ⟨rfl, rfl⟩ := hpq
                  refine W.skip ?_
                  refine qs ?_
                  refine W.seq ?_
                  refine W.region ?_
                  iterate 2 refine pu (ev tab rfl) rfl ?_
                  first | refine pu (ev tab rfl) rfl ?_ | refine pu (loadRow tab rfl rfl rfl rfl) rfl ?_ | refine pu (loadBox tab rfl rfl rfl rfl rfl) rfl ?_
                  first | refine pu (ev tab rfl) rfl ?_ | refine pu (loadRow tab rfl rfl rfl rfl) rfl ?_ | refine pu (loadBox tab rfl rfl rfl rfl rfl) rfl ?_
                  refine pu (puCall rfl rfl rfl (rjoins_fn cols t.cols s hf hc htc) rfl) rfl ?_
                  iterate 4 refine pu (ev tab rfl) rfl ?_
                  refine WO.nil ?_
                  refine qs ?_
                  try refine ownNilR (d := 6) rfl rfl ?_
                  refine W.ret ?_
                  refine QF.ret0 trivial rfl ?_
                  rw [hg]; rfl

theorem rtquery_fn (d : List Nmd) (q : Qry) (hf : ∀ s ∈ q.steps, fewS s) (ht : fewT d) : Does Tryz.prog 14 [.d (.sl (d.map Nmd.c)), .ag q.c]
    (.tup [.d (.sl ((queryCT d q).1.map Col.c)), .d (.v (.int .i64 (queryCT d q).2))]) 0 := by
  have hg : queryCT d q = queryCT d q := rfl
  conv at hg => rhs; unfold queryCT
  refine Does.of_W (n := 56) (ts := [4, 5]) Tryz.func14 (by kernel_rfl) rfl Tryz.ntmps14 Tryz.results14 rfl rfl fun C hC => ?_
  refine W.seq ?_
  refine W.region ?_
  refine boxR rfl rfl rfl ?_
  iterate 2 refine pu (ev tab rfl) rfl ?_
  refine WO.nil ?_
  refine qs ?_
  refine W.seq ?_
  refine W.region ?_
  refine pu (ev tab rfl) rfl ?_
  refine pu (puCall rfl rfl rfl (rcheckAll_fn d) rfl) rfl ?_
  refine pu (ev tab rfl) rfl ?_
  refine WO.nil ?_
  refine qs ?_
  refine W.seq ?_
  refine W.seq ?_
  refine W.region ?_
  iterate 2 refine pu (ev tab rfl) rfl ?_
  refine WO.nil ?_
  refine qs ?_
  refine condK rfl (fun h16 => ?_) (fun h16 => ?_)
  · skip
    rw [if_neg (by simpa using h16)] at hg
    refine W.region ?_
    first | refine pu (ev tab rfl) rfl ?_ | refine pu (loadRow tab rfl rfl rfl rfl) rfl ?_ | refine pu (loadBox tab rfl rfl rfl rfl rfl) rfl ?_
    refine pu (puCall rfl rfl rfl (rquery_fn q hf) rfl) rfl ?_
    refine pu (ev tab rfl) rfl ?_
    refine WO.nil ?_
    refine qs ?_
    refine W.seq ?_
    refine W.seq ?_
    refine W.region ?_
    iterate 2 refine pu (ev tab rfl) rfl ?_
    refine WO.nil ?_
    refine qs ?_
    refine condK rfl (fun h20 => ?_) (fun h20 => ?_)
    · skip
      try rw [if_pos (by simpa using h20)] at hg
      refine W.seq ?_
      refine W.region ?_
      iterate 3 refine pu (ev tab rfl) rfl ?_
      refine WO.nil ?_
      refine qs ?_
      try refine ownNilR (d := 4) rfl rfl ?_
      refine W.ret ?_
      refine qsRet ?_
      refine QF.ret0 trivial rfl ?_
      first | (rw [hg]; rfl) | (rw [hg, ← hI]; rfl) | (exfalso; simp_all)
    · skip
      try rw [if_neg (by simpa using h20)] at hg
      refine W.skip ?_
      refine qs ?_
      refine W.seq ?_
      obtain ⟨p, q', hpq⟩ := tcells2 (findT d q.from_)
      have hf' := rfindT_fn d q.from_
      rw [hpq] at hf'
      refine W.region ?_
      iterate 2 refine pu (ev tab rfl) rfl ?_
      first | refine pu (ev tab rfl) rfl ?_ | refine pu (loadRow tab rfl rfl rfl rfl) rfl ?_ | refine pu (loadBox tab rfl rfl rfl rfl rfl) rfl ?_
      refine pu (puCall rfl rfl rfl hf' rfl) rfl ?_
      iterate 3 refine pu (ev tab rfl) rfl ?_
      refine allocR tab rfl rfl rfl ?_
      refine storeR tab rfl rfl rfl rfl rfl rfl rfl rfl ?_
      refine pu (ev tab rfl) rfl ?_
      refine WO.nil ?_
      refine qs ?_
      refine W.seq ?_
      refine W.seq ?_
      refine W.region ?_
      iterate 2 refine pu (ev tab rfl) rfl ?_
      refine WO.nil ?_
      refine qs ?_
      refine condK rfl (fun h30 => ?_) (fun h30 => ?_)
      · skip
        have hq : findT d q.from_ = none := by cases hq : findT d q.from_ with | none => rfl | some t => rw [hq] at h30; simp at h30
        try rw [hq] at hg
        refine W.seq ?_
        refine W.region ?_
        iterate 2 refine pu (ev tab rfl) rfl ?_
        refine WO.nil ?_
        refine qs ?_
        try refine ownNilR (d := 4) rfl rfl ?_
        refine W.ret ?_
        refine qsRet ?_
        refine QF.ret0 trivial rfl ?_
        first | (rw [hg]; rfl) | (rw [hg, ← hI]; rfl) | (exfalso; simp_all)
      · skip
        obtain ⟨t, hq⟩ : ∃ t, findT d q.from_ = some t := by cases hq : findT d q.from_ with | none => rw [hq] at h30; simp at h30 | some t => exact ⟨t, rfl⟩
        try rw [hq] at hg
        try simp only at hg
        rw [hq] at hpq
        have htc : t.cols.length ≤ 1000 := by obtain ⟨x, hx, rfl⟩ := findT_mem hq; exact ht x hx
        simp only [tcells, Tbl.c, List.cons.injEq, and_true] at hpq
        obtain ⟨rfl, rfl⟩ := hpq
        refine W.skip ?_
        refine qs ?_
        refine W.seq ?_
        refine W.region ?_
        refine pu (ev tab rfl) rfl ?_
        first | refine pu (ev tab rfl) rfl ?_ | refine pu (loadRow tab rfl rfl rfl rfl) rfl ?_ | refine pu (loadBox tab rfl rfl rfl rfl rfl) rfl ?_
        refine pu (ev tab rfl) rfl ?_
        refine WO.nil ?_
        refine qs ?_
        refine W.seq ?_
        refine W.seq ?_
        refine W.region ?_
        refine pu (ev tab rfl) rfl ?_
        refine WO.nil ?_
        refine qs ?_
        refine W.block ?_
        refine lenBox (g := 0) (j := 1) rfl rfl (fun hlen => ?_)
        rw [List.length_map] at hlen
        refine W.loopR (ι := {x : Nat × List Col // match x with | (k, cols) => k ≤ q.steps.length ∧ stepsCT d cols (q.steps.drop k) = stepsCT d t.cols q.steps ∧ cols.length ≤ 1000})
          (fun x => match x.1 with | (k, cols) => [(3, .ptr 0 0), (9, .d (.sl (cols.map Col.c))), (10, .d (.v (.int .i64 ((k : Nat) : Int))))]) [(0, _)]
          (fun x => match x.1 with | (k, cols) => []) [(0, _)] [] 1 (fun x => match x.1 with | (k, cols) => q.steps.length - k)
          [0] ⟨(0, t.cols), ?_⟩ rfl ?_ ⟨rfl, rfl, trivial⟩ ?_ ⟨rfl, rfl, trivial⟩ rfl ?_
        · exact ⟨Nat.zero_le _, rfl, htc⟩
        · repeat' first | exact trivial | refine ⟨rfl, ?_⟩ | refine ⟨step_nat (by assumption) (by assumption), ?_⟩
        · repeat' first | exact trivial | refine ⟨rfl, ?_⟩ | refine ⟨step_nat (by assumption) (by assumption), ?_⟩
        rintro ⟨⟨k, cols⟩, hk, hI, hL⟩
        show W _ _ _ _ _ ⟨[(3, .ptr 0 0), (9, .d (.sl (cols.map Col.c))), (10, .d (.v (.int .i64 ((k : Nat) : Int)))), (0, _)], [(0, _)], [], 1⟩
        refine W.seq ?_
        refine W.seq ?_
        refine W.region ?_
        iterate 2 refine pu (ev tab rfl) rfl ?_
        first | refine pu (ev tab rfl) rfl ?_ | refine pu (loadRow tab rfl rfl rfl rfl) rfl ?_ | refine pu (loadBox tab rfl rfl rfl rfl rfl) rfl ?_
        iterate 2 refine pu (ev tab rfl) rfl ?_
        refine WO.nil ?_
        refine qs ?_
        refine eachR (l := q.steps) (k := k) rfl (by simp [Ex.kc_len, bytes_len]) hk (fun z hx hd hlt => ?_) (fun he hd => ?_)
        · skip
          rw [hd] at hI
          simp only [stepsCT] at hI
          have hfx := hf z (List.mem_of_getElem? hx)
          refine W.skip ?_
          refine qs ?_
          refine W.seq ?_
          refine W.block ?_
          refine W.seq ?_
          refine W.region ?_
          iterate 3 refine pu (ev tab rfl) rfl ?_
          first | refine pu (ev tab rfl) rfl ?_ | refine pu (loadRow tab rfl rfl rfl rfl) rfl ?_ | refine pu (loadBox tab rfl rfl rfl rfl rfl) rfl ?_
          refine pu (ev tab rfl) rfl ?_
          refine pu (indexAddr tab rfl rfl rfl rfl rfl rfl (Int.natCast_nonneg _) (idx_map hx) rfl) rfl ?_
          first | refine pu (ev tab rfl) rfl ?_ | refine pu (loadRow tab rfl rfl rfl rfl) rfl ?_ | refine pu (loadBox tab rfl rfl rfl rfl rfl) rfl ?_
          refine pu (puCall rfl rfl rfl (rtstep_fn d cols z hfx ht hL) rfl) rfl ?_
          iterate 5 refine pu (ev tab rfl) rfl ?_
          refine WO.nil ?_
          refine qs ?_
          refine W.seq ?_
          refine W.seq ?_
          refine W.region ?_
          iterate 2 refine pu (ev tab rfl) rfl ?_
          refine WO.nil ?_
          refine qs ?_
          refine condK rfl (fun h52 => ?_) (fun h52 => ?_)
          · skip
            rw [if_pos (by simpa using h52)] at hI
            refine W.seq ?_
            refine W.region ?_
            iterate 3 refine pu (ev tab rfl) rfl ?_
            refine WO.nil ?_
            refine qs ?_
            try refine ownNilR (d := 4) rfl rfl ?_
            refine W.ret ?_
            refine qsRet ?_
            refine qbRet ?_
            refine qsRet ?_
            refine qlRet ?_
            refine qbRet ?_
            refine qsRet ?_
            refine QF.ret0 trivial rfl ?_
            first | (rw [hg]; rfl) | (rw [hg, ← hI]; rfl) | (exfalso; simp_all)
          · skip
            rw [if_neg (by simpa using h52)] at hI
            refine W.skip ?_
            refine qs ?_
            refine W.region ?_
            iterate 2 refine pu (ev tab rfl) rfl ?_
            refine WO.nil ?_
            refine qbN ?_
            refine qs ?_
            refine W.region ?_
            iterate 3 refine pu (ev tab rfl) rfl ?_
            refine WO.nil ?_
            refine W.endR [0] ⟨(k + 1, (stepCT d cols z).1), ?_⟩ ?_ rfl ?_ ⟨rfl, rfl, trivial⟩ ?_ ⟨rfl, rfl, trivial⟩ rfl
            · exact ⟨hlt, hI, stepCT_len d cols z hfx hL⟩
            · dsimp only; omega
            · repeat' first | exact trivial | refine ⟨rfl, ?_⟩ | refine ⟨step_nat (by assumption) (by assumption), ?_⟩
            · repeat' first | exact trivial | refine ⟨rfl, ?_⟩ | refine ⟨step_nat (by assumption) (by assumption), ?_⟩
        · skip
          rw [hd] at hI
          simp only [stepsCT] at hI
          refine W.exit ?_
          refine qsExit ?_
          refine qlExit ?_
          refine qbExit ?_
          refine qs ?_
          refine W.seq ?_
          refine W.region ?_
          iterate 3 refine pu (ev tab rfl) rfl ?_
          refine WO.nil ?_
          refine qs ?_
          try refine ownNilR (d := 4) rfl rfl ?_
          refine W.ret ?_
          refine QF.ret0 trivial rfl ?_
          first | (rw [hg]; rfl) | (rw [hg, ← hI]; rfl) | (exfalso; simp_all)
  · skip
    rw [if_pos (by simpa using h16)] at hg
    refine W.skip ?_
    refine qs ?_
    refine W.seq ?_
    refine W.seq ?_
    refine W.region ?_
    iterate 2 refine pu (ev tab rfl) rfl ?_
    refine WO.nil ?_
    refine qs ?_
    refine condK rfl (fun h20 => ?_) (fun h20 => ?_)
    · skip
      try rw [if_pos (by simpa using h20)] at hg
      refine W.seq ?_
      refine W.region ?_
      iterate 3 refine pu (ev tab rfl) rfl ?_
      refine WO.nil ?_
      refine qs ?_
      try refine ownNilR (d := 4) rfl rfl ?_
      refine W.ret ?_
      refine qsRet ?_
      refine QF.ret0 trivial rfl ?_
      first | (rw [hg]; rfl) | (rw [hg, ← hI]; rfl) | (exfalso; simp_all)
    · skip
      try rw [if_neg (by simpa using h20)] at hg
      refine W.skip ?_
      refine qs ?_
      refine W.seq ?_
      obtain ⟨p, q', hpq⟩ := tcells2 (findT d q.from_)
      have hf' := rfindT_fn d q.from_
      rw [hpq] at hf'
      refine W.region ?_
      iterate 2 refine pu (ev tab rfl) rfl ?_
      first | refine pu (ev tab rfl) rfl ?_ | refine pu (loadRow tab rfl rfl rfl rfl) rfl ?_ | refine pu (loadBox tab rfl rfl rfl rfl rfl) rfl ?_
      refine pu (puCall rfl rfl rfl hf' rfl) rfl ?_
      iterate 3 refine pu (ev tab rfl) rfl ?_
      refine allocR tab rfl rfl rfl ?_
      refine storeR tab rfl rfl rfl rfl rfl rfl rfl rfl ?_
      refine pu (ev tab rfl) rfl ?_
      refine WO.nil ?_
      refine qs ?_
      refine W.seq ?_
      refine W.seq ?_
      refine W.region ?_
      iterate 2 refine pu (ev tab rfl) rfl ?_
      refine WO.nil ?_
      refine qs ?_
      refine condK rfl (fun h30 => ?_) (fun h30 => ?_)
      · skip
        have hq : findT d q.from_ = none := by cases hq : findT d q.from_ with | none => rfl | some t => rw [hq] at h30; simp at h30
        try rw [hq] at hg
        refine W.seq ?_
        refine W.region ?_
        iterate 2 refine pu (ev tab rfl) rfl ?_
        refine WO.nil ?_
        refine qs ?_
        try refine ownNilR (d := 4) rfl rfl ?_
        refine W.ret ?_
        refine qsRet ?_
        refine QF.ret0 trivial rfl ?_
        first | (rw [hg]; rfl) | (rw [hg, ← hI]; rfl) | (exfalso; simp_all)
      · skip
        obtain ⟨t, hq⟩ : ∃ t, findT d q.from_ = some t := by cases hq : findT d q.from_ with | none => rw [hq] at h30; simp at h30 | some t => exact ⟨t, rfl⟩
        try rw [hq] at hg
        try simp only at hg
        rw [hq] at hpq
        have htc : t.cols.length ≤ 1000 := by obtain ⟨x, hx, rfl⟩ := findT_mem hq; exact ht x hx
        simp only [tcells, Tbl.c, List.cons.injEq, and_true] at hpq
        obtain ⟨rfl, rfl⟩ := hpq
        refine W.skip ?_
        refine qs ?_
        refine W.seq ?_
        refine W.region ?_
        refine pu (ev tab rfl) rfl ?_
        first | refine pu (ev tab rfl) rfl ?_ | refine pu (loadRow tab rfl rfl rfl rfl) rfl ?_ | refine pu (loadBox tab rfl rfl rfl rfl rfl) rfl ?_
        refine pu (ev tab rfl) rfl ?_
        refine WO.nil ?_
        refine qs ?_
        refine W.seq ?_
        refine W.seq ?_
        refine W.region ?_
        refine pu (ev tab rfl) rfl ?_
        refine WO.nil ?_
        refine qs ?_
        refine W.block ?_
        refine lenBox (g := 0) (j := 1) rfl rfl (fun hlen => ?_)
        rw [List.length_map] at hlen
        refine W.loopR (ι := {x : Nat × List Col // match x with | (k, cols) => k ≤ q.steps.length ∧ stepsCT d cols (q.steps.drop k) = stepsCT d t.cols q.steps ∧ cols.length ≤ 1000})
          (fun x => match x.1 with | (k, cols) => [(3, .ptr 0 0), (9, .d (.sl (cols.map Col.c))), (10, .d (.v (.int .i64 ((k : Nat) : Int))))]) [(0, _)]
          (fun x => match x.1 with | (k, cols) => []) [(0, _)] [] 1 (fun x => match x.1 with | (k, cols) => q.steps.length - k)
          [0] ⟨(0, t.cols), ?_⟩ rfl ?_ ⟨rfl, rfl, trivial⟩ ?_ ⟨rfl, rfl, trivial⟩ rfl ?_
        · exact ⟨Nat.zero_le _, rfl, htc⟩
        · repeat' first | exact trivial | refine ⟨rfl, ?_⟩ | refine ⟨step_nat (by assumption) (by assumption), ?_⟩
        · repeat' first | exact trivial | refine ⟨rfl, ?_⟩ | refine ⟨step_nat (by assumption) (by assumption), ?_⟩
        rintro ⟨⟨k, cols⟩, hk, hI, hL⟩
        show W _ _ _ _ _ ⟨[(3, .ptr 0 0), (9, .d (.sl (cols.map Col.c))), (10, .d (.v (.int .i64 ((k : Nat) : Int)))), (0, _)], [(0, _)], [], 1⟩
        refine W.seq ?_
        refine W.seq ?_
        refine W.region ?_
        iterate 2 refine pu (ev tab rfl) rfl ?_
        first | refine pu (ev tab rfl) rfl ?_ | refine pu (loadRow tab rfl rfl rfl rfl) rfl ?_ | refine pu (loadBox tab rfl rfl rfl rfl rfl) rfl ?_
        iterate 2 refine pu (ev tab rfl) rfl ?_
        refine WO.nil ?_
        refine qs ?_
        refine eachR (l := q.steps) (k := k) rfl (by simp [Ex.kc_len, bytes_len]) hk (fun z hx hd hlt => ?_) (fun he hd => ?_)
        · skip
          rw [hd] at hI
          simp only [stepsCT] at hI
          have hfx := hf z (List.mem_of_getElem? hx)
          refine W.skip ?_
          refine qs ?_
          refine W.seq ?_
          refine W.block ?_
          refine W.seq ?_
          refine W.region ?_
          iterate 3 refine pu (ev tab rfl) rfl ?_
          first | refine pu (ev tab rfl) rfl ?_ | refine pu (loadRow tab rfl rfl rfl rfl) rfl ?_ | refine pu (loadBox tab rfl rfl rfl rfl rfl) rfl ?_
          refine pu (ev tab rfl) rfl ?_
          refine pu (indexAddr tab rfl rfl rfl rfl rfl rfl (Int.natCast_nonneg _) (idx_map hx) rfl) rfl ?_
          first | refine pu (ev tab rfl) rfl ?_ | refine pu (loadRow tab rfl rfl rfl rfl) rfl ?_ | refine pu (loadBox tab rfl rfl rfl rfl rfl) rfl ?_
          refine pu (puCall rfl rfl rfl (rtstep_fn d cols z hfx ht hL) rfl) rfl ?_
          iterate 5 refine pu (ev tab rfl) rfl ?_
          refine WO.nil ?_
          refine qs ?_
          refine W.seq ?_
          refine W.seq ?_
          refine W.region ?_
          iterate 2 refine pu (ev tab rfl) rfl ?_
          refine WO.nil ?_
          refine qs ?_
          refine condK rfl (fun h52 => ?_) (fun h52 => ?_)
          · skip
            rw [if_pos (by simpa using h52)] at hI
            refine W.seq ?_
            refine W.region ?_
            iterate 3 refine pu (ev tab rfl) rfl ?_
            refine WO.nil ?_
            refine qs ?_
            try refine ownNilR (d := 4) rfl rfl ?_
            refine W.ret ?_
            refine qsRet ?_
            refine qbRet ?_
            refine qsRet ?_
            refine qlRet ?_
            refine qbRet ?_
            refine qsRet ?_
            refine QF.ret0 trivial rfl ?_
            first | (rw [hg]; rfl) | (rw [hg, ← hI]; rfl) | (exfalso; simp_all)
          · skip
            rw [if_neg (by simpa using h52)] at hI
            refine W.skip ?_
            refine qs ?_
            refine W.region ?_
            iterate 2 refine pu (ev tab rfl) rfl ?_
            refine WO.nil ?_
            refine qbN ?_
            refine qs ?_
            refine W.region ?_
            iterate 3 refine pu (ev tab rfl) rfl ?_
            refine WO.nil ?_
            refine W.endR [0] ⟨(k + 1, (stepCT d cols z).1), ?_⟩ ?_ rfl ?_ ⟨rfl, rfl, trivial⟩ ?_ ⟨rfl, rfl, trivial⟩ rfl
            · exact ⟨hlt, hI, stepCT_len d cols z hfx hL⟩
            · dsimp only; omega
            · repeat' first | exact trivial | refine ⟨rfl, ?_⟩ | refine ⟨step_nat (by assumption) (by assumption), ?_⟩
            · repeat' first | exact trivial | refine ⟨rfl, ?_⟩ | refine ⟨step_nat (by assumption) (by assumption), ?_⟩
        · skip
          rw [hd] at hI
          simp only [stepsCT] at hI
          refine W.exit ?_
          refine qsExit ?_
          refine qlExit ?_
          refine qbExit ?_
          refine qs ?_
          refine W.seq ?_
          refine W.region ?_
          iterate 3 refine pu (ev tab rfl) rfl ?_
          refine WO.nil ?_
          refine qs ?_
          try refine ownNilR (d := 4) rfl rfl ?_
          refine W.ret ?_
          refine QF.ret0 trivial rfl ?_
          first | (rw [hg]; rfl) | (rw [hg, ← hI]; rfl) | (exfalso; simp_all)

theorem steps_fn (d : List Nmd) (cols : List Col) (s : Stp) : Does Tryz.prog 3 [.d (.sl (d.map Nmd.c)), .d (.sl (cols.map Col.c)), .ag s.c] (.d (.v (.bool true))) 0 := by
  refine Does.of_W (n := 51) (ts := [6]) Tryz.func3 (by kernel_rfl) rfl Tryz.ntmps3 Tryz.results3 rfl rfl fun C hC => ?_
  refine W.seq ?_
  refine W.region ?_
  refine boxR rfl rfl rfl ?_
  refine pu (ev tab rfl) rfl ?_
  refine WO.nil ?_
  refine qs ?_
  refine W.seq ?_
  refine W.seq ?_
  apply regionB; (case hb => rfl)
  · skip
    refine pu (puCall rfl rfl rfl awake_fn rfl) rfl ?_
    iterate 2 refine pu (ev tab rfl) rfl ?_
    apply splitJ; (case hj => rfl); (case hl => rfl)
    · skip
      refine skipT rfl rfl rfl rfl ?_
      refine skipT rfl rfl rfl rfl ?_
      refine skipT rfl rfl rfl rfl ?_
      iterate 2 refine pu (ev tab rfl) rfl ?_
      refine skipT rfl rfl rfl rfl ?_
      refine skipT rfl rfl rfl rfl ?_
      refine skipT rfl rfl rfl rfl ?_
      iterate 2 refine pu (ev tab rfl) rfl ?_
      refine skipT rfl rfl rfl rfl ?_
      refine skipT rfl rfl rfl rfl ?_
      refine skipT rfl rfl rfl rfl ?_
      refine pu (ev tab rfl) rfl ?_
      refine WO.nil ?_
      refine qv1 rfl rfl rfl
    · skip
      refine goG rfl rfl ?_
      refine pu (ev tab rfl) rfl ?_
      refine goG rfl rfl ?_
      refine pu (puCall rfl rfl rfl (fewData_fn d) rfl) rfl ?_
      refine goG rfl rfl ?_
      iterate 3 refine pu (ev tab rfl) rfl ?_
      apply splitJ; (case hj => rfl); (case hl => rfl)
      · skip
        refine skipT rfl rfl rfl rfl ?_
        refine skipT rfl rfl rfl rfl ?_
        refine skipT rfl rfl rfl rfl ?_
        iterate 2 refine pu (ev tab rfl) rfl ?_
        refine skipT rfl rfl rfl rfl ?_
        refine skipT rfl rfl rfl rfl ?_
        refine skipT rfl rfl rfl rfl ?_
        refine pu (ev tab rfl) rfl ?_
        refine WO.nil ?_
        refine qv1 rfl rfl rfl
      · skip
        refine goG rfl rfl ?_
        refine pu (ev tab rfl) rfl ?_
        refine goG rfl rfl ?_
        refine pu (puCall rfl rfl rfl (fewCols_fn cols) rfl) rfl ?_
        refine goG rfl rfl ?_
        iterate 3 refine pu (ev tab rfl) rfl ?_
        apply splitJ; (case hj => rfl); (case hl => rfl)
        · skip
          refine skipT rfl rfl rfl rfl ?_
          refine skipT rfl rfl rfl rfl ?_
          refine skipT rfl rfl rfl rfl ?_
          refine pu (ev tab rfl) rfl ?_
          refine WO.nil ?_
          refine qv1 rfl rfl rfl
        · skip
          refine goG rfl rfl ?_
          first | refine pu (ev tab rfl) rfl ?_ | refine pu (loadRow tab rfl rfl rfl rfl) rfl ?_ | refine pu (loadBox tab rfl rfl rfl rfl rfl) rfl ?_
          refine goG rfl rfl ?_
          refine pu (puCall rfl rfl rfl (fewStep_fn s) rfl) rfl ?_
          refine goG rfl rfl ?_
          iterate 2 refine pu (ev tab rfl) rfl ?_
          refine WO.nil ?_
          refine qv1 rfl rfl rfl
  refine qs ?_
  refine condK rfl (fun h27 => ?_) (fun h27 => ?_)
  · skip
    refine W.seq ?_
    refine W.region ?_
    refine pu (puCall rfl rfl rfl awake_fn rfl) rfl ?_
    refine pu (ev tab rfl) rfl ?_
    refine WO.nil ?_
    refine qs ?_
    refine W.ret ?_
    refine qsRet ?_
    refine QF.ret0 trivial rfl ?_
    rfl
  · skip
    have hfew : fewData d = true ∧ fewCols cols = true ∧ fewStep s = true := by revert h27; cases fewData d <;> cases fewCols cols <;> cases fewStep s <;> simp
    have hfs := fewS_of hfew.2.2
    have hft := fewT_of hfew.1
    have hfc := fewC_of hfew.2.1
    have hfc' : cols.length ≤ 1000 := by omega
    refine W.skip ?_
    refine qs ?_
    refine W.seq ?_
    refine W.region ?_
    iterate 2 refine pu (ev tab rfl) rfl ?_
    first | refine pu (ev tab rfl) rfl ?_ | refine pu (loadRow tab rfl rfl rfl rfl) rfl ?_ | refine pu (loadBox tab rfl rfl rfl rfl rfl) rfl ?_
    refine pu (puCall rfl rfl rfl (tstep_fn d cols s hfs hft hfc') rfl) rfl ?_
    iterate 5 refine pu (ev tab rfl) rfl ?_
    refine WO.nil ?_
    refine qs ?_
    refine W.seq ?_
    refine W.region ?_
    iterate 2 refine pu (ev tab rfl) rfl ?_
    first | refine pu (ev tab rfl) rfl ?_ | refine pu (loadRow tab rfl rfl rfl rfl) rfl ?_ | refine pu (loadBox tab rfl rfl rfl rfl rfl) rfl ?_
    refine pu (puCall rfl rfl rfl (rtstep_fn d cols s hfs hft hfc') rfl) rfl ?_
    iterate 5 refine pu (ev tab rfl) rfl ?_
    refine WO.nil ?_
    refine qs ?_
    refine W.seq ?_
    apply regionB; (case hb => rfl)
    · skip
      iterate 4 refine pu (ev tab rfl) rfl ?_
      apply splitJ; (case hj => rfl); (case hl => rfl)
      · skip
        refine goG rfl rfl ?_
        refine pu (ev tab rfl) rfl ?_
        refine goG rfl rfl ?_
        refine pu (ev tab rfl) rfl ?_
        refine goG rfl rfl ?_
        refine pu (puCall rfl rfl rfl (same_fn (stepCT d cols s).1 (stepCT d cols s).1) rfl) rfl ?_
        iterate 2 refine pu (ev tab rfl) rfl ?_
        refine WO.nil ?_
        refine qv1 rfl rfl rfl
      · skip
        refine skipT rfl rfl rfl rfl ?_
        refine skipT rfl rfl rfl rfl ?_
        refine skipT rfl rfl rfl rfl ?_
        iterate 2 refine pu (ev tab rfl) rfl ?_
        refine WO.nil ?_
        refine qv1 rfl rfl rfl
    refine qs ?_
    refine W.ret ?_
    refine QF.ret0 trivial rfl ?_
    simp only [norm, oneA]; simp

theorem stepsCT_len (d : List Nmd) : ∀ (l : List Stp) (cols : List Col), (∀ s ∈ l, fewS s) → cols.length ≤ 1000 → (stepsCT d cols l).1.length ≤ 1000
  | [], cols, _, h => h
  | s :: r, cols, hf, h => by
    simp only [stepsCT]
    split
    · simp
    · exact stepsCT_len d r _ (fun x hx => hf x (by simp [hx])) (stepCT_len d cols s (hf s (by simp)) h)
theorem stepsCT_cat (d : List Nmd) : ∀ (l : List Stp) (cols : List Col) (s : Stp), (stepsCT d cols (l ++ [s])).2 = 0 →
    (stepsCT d cols l).2 = 0 ∧ (stepCT d (stepsCT d cols l).1 s).2 = 0 ∧ (stepCT d (stepsCT d cols l).1 s).1 = (stepsCT d cols (l ++ [s])).1
  | [], cols, s, h => by
    simp only [List.nil_append, stepsCT] at h ⊢
    split at h
    · rename_i h1; exact absurd h h1
    · rename_i h1
      rw [if_neg h1]
      exact ⟨trivial, by simpa using h1, rfl⟩
  | x :: r, cols, s, h => by
    simp only [List.cons_append, stepsCT] at h ⊢
    split at h
    · rename_i h1; exact absurd h h1
    · rename_i h1
      rw [if_neg h1, if_neg h1]
      exact stepsCT_cat d r _ s h
theorem stepsErr_cat : ∀ (l : List Stp) (s : Stp), stepsErr (l ++ [s]) = 0 → stepsErr l = 0
  | [], _, _ => rfl
  | x :: r, s, h => by
    simp only [List.cons_append, stepsErr] at h ⊢
    split at h
    · rename_i h1; exact absurd h h1
    · rename_i h1
      rw [if_neg h1]
      exact stepsErr_cat r s h

theorem queryCT_cat (d : List Nmd) (f : ByteArray) (l : List Stp) (s : Stp) (hf : ∀ s ∈ l, fewS s) (ht : fewT d) (h : (queryCT d ⟨f, l ++ [s]⟩).2 = 0) :
    (queryCT d ⟨f, l⟩).2 = 0 ∧ (stepCT d (queryCT d ⟨f, l⟩).1 s).2 = 0 ∧ (stepCT d (queryCT d ⟨f, l⟩).1 s).1 = (queryCT d ⟨f, l ++ [s]⟩).1 ∧ (queryCT d ⟨f, l⟩).1.length ≤ 1000 := by
  unfold queryCT at h ⊢
  split at h
  · rename_i h1; exact absurd h h1
  rename_i h1
  rw [if_neg h1, if_neg h1]
  split at h
  · rename_i h2; exact absurd h h2
  rename_i h2
  rw [if_neg h2]
  have hq : queryErr ⟨f, l ++ [s]⟩ = 0 := by simpa using h2
  have hq2 : queryErr ⟨f, l⟩ = 0 := by
    unfold queryErr at hq ⊢
    split at hq
    · cases hq
    rename_i h3
    rw [if_neg h3]
    split at hq
    · cases hq
    rename_i h4
    rw [if_neg (by simp at h4 ⊢; omega)]
    exact stepsErr_cat l s hq
  rw [if_neg (by simp [hq2])]
  dsimp only at h ⊢
  cases hft : findT d f with
  | none => rw [hft] at h; cases h
  | some t =>
    rw [hft] at h
    dsimp only at h ⊢
    obtain ⟨a1, a2, a3⟩ := stepsCT_cat d l t.cols s h
    refine ⟨a1, a2, a3, stepsCT_len d l t.cols hf ?_⟩
    obtain ⟨x, hx, rfl⟩ := findT_mem hft
    exact ht x hx

theorem fewQ_of {q : Qry} (h : fewQuery q = true) : (∀ s ∈ q.steps, fewS s) ∧ q.steps.length ≤ 30 := by
  simp only [fewQuery, Bool.and_eq_true, decide_eq_true_eq, List.all_eq_true] at h
  exact ⟨fun s hs => fewS_of (h.2 s hs), h.1.1⟩

theorem queries_fn (d : List Nmd) (q : Qry) : Does Tryz.prog 4 [.d (.sl (d.map Nmd.c)), .ag q.c] (.d (.v (.bool true))) 0 := by
  refine Does.of_W (n := 93) (ts := [4]) Tryz.func4 (by kernel_rfl) rfl Tryz.ntmps4 Tryz.results4 rfl rfl fun C hC => ?_
  refine W.seq ?_
  refine W.region ?_
  refine boxR rfl rfl rfl ?_
  refine pu (ev tab rfl) rfl ?_
  refine WO.nil ?_
  refine qs ?_
  refine W.seq ?_
  refine W.seq ?_
  apply regionB; (case hb => rfl)
  · skip
    refine pu (puCall rfl rfl rfl awake_fn rfl) rfl ?_
    iterate 2 refine pu (ev tab rfl) rfl ?_
    apply splitJ; (case hj => rfl); (case hl => rfl)
    · skip
      refine skipT rfl rfl rfl rfl ?_
      refine skipT rfl rfl rfl rfl ?_
      refine skipT rfl rfl rfl rfl ?_
      iterate 2 refine pu (ev tab rfl) rfl ?_
      refine skipT rfl rfl rfl rfl ?_
      refine skipT rfl rfl rfl rfl ?_
      refine skipT rfl rfl rfl rfl ?_
      refine pu (ev tab rfl) rfl ?_
      refine WO.nil ?_
      refine qv1 rfl rfl rfl
    · skip
      refine goG rfl rfl ?_
      refine pu (ev tab rfl) rfl ?_
      refine goG rfl rfl ?_
      refine pu (puCall rfl rfl rfl (fewData_fn d) rfl) rfl ?_
      refine goG rfl rfl ?_
      iterate 3 refine pu (ev tab rfl) rfl ?_
      apply splitJ; (case hj => rfl); (case hl => rfl)
      · skip
        refine skipT rfl rfl rfl rfl ?_
        refine skipT rfl rfl rfl rfl ?_
        refine skipT rfl rfl rfl rfl ?_
        refine pu (ev tab rfl) rfl ?_
        refine WO.nil ?_
        refine qv1 rfl rfl rfl
      · skip
        refine goG rfl rfl ?_
        first | refine pu (ev tab rfl) rfl ?_ | refine pu (loadRow tab rfl rfl rfl rfl) rfl ?_ | refine pu (loadBox tab rfl rfl rfl rfl rfl) rfl ?_
        refine goG rfl rfl ?_
        refine pu (puCall rfl rfl rfl (rfew_fn q) rfl) rfl ?_
        refine goG rfl rfl ?_
        iterate 2 refine pu (ev tab rfl) rfl ?_
        refine WO.nil ?_
        refine qv1 rfl rfl rfl
  refine qs ?_
  refine condK rfl (fun h25 => ?_) (fun h25 => ?_)
  · skip
    refine W.seq ?_
    refine W.region ?_
    refine pu (puCall rfl rfl rfl awake_fn rfl) rfl ?_
    refine pu (ev tab rfl) rfl ?_
    refine WO.nil ?_
    refine qs ?_
    refine W.ret ?_
    refine qsRet ?_
    refine QF.ret0 trivial rfl ?_
    rfl
  · skip
    have hfew : fewData d = true ∧ fewQuery q = true := by revert h25; cases fewData d <;> cases fewQuery q <;> simp
    have hft := fewT_of hfew.1
    have hfq := fewQ_of hfew.2
    refine W.skip ?_
    refine qs ?_
    refine W.seq ?_
    refine W.region ?_
    refine pu (ev tab rfl) rfl ?_
    first | refine pu (ev tab rfl) rfl ?_ | refine pu (loadRow tab rfl rfl rfl rfl) rfl ?_ | refine pu (loadBox tab rfl rfl rfl rfl rfl) rfl ?_
    refine pu (puCall rfl rfl rfl (tquery_fn d q hfq.1 hft) rfl) rfl ?_
    iterate 5 refine pu (ev tab rfl) rfl ?_
    refine WO.nil ?_
    refine qs ?_
    refine W.seq ?_
    refine W.region ?_
    refine pu (ev tab rfl) rfl ?_
    first | refine pu (ev tab rfl) rfl ?_ | refine pu (loadRow tab rfl rfl rfl rfl) rfl ?_ | refine pu (loadBox tab rfl rfl rfl rfl rfl) rfl ?_
    refine pu (puCall rfl rfl rfl (rtquery_fn d q hfq.1 hft) rfl) rfl ?_
    iterate 5 refine pu (ev tab rfl) rfl ?_
    refine WO.nil ?_
    refine qs ?_
    refine W.seq ?_
    refine W.seq ?_
    apply regionB; (case hb => rfl)
    · skip
      iterate 4 refine pu (ev tab rfl) rfl ?_
      apply splitJ; (case hj => rfl); (case hl => rfl)
      · skip
        refine skipT rfl rfl rfl rfl ?_
        refine skipT rfl rfl rfl rfl ?_
        refine skipT rfl rfl rfl rfl ?_
        refine skipT rfl rfl rfl rfl ?_
        refine pu (ev tab rfl) rfl ?_
        refine WO.nil ?_
        refine qv1 rfl rfl rfl
      · skip
        refine goG rfl rfl ?_
        refine pu (ev tab rfl) rfl ?_
        refine goG rfl rfl ?_
        refine pu (ev tab rfl) rfl ?_
        refine goG rfl rfl ?_
        refine pu (puCall rfl rfl rfl (same_fn (queryCT d q).1 (queryCT d q).1) rfl) rfl ?_
        refine goG rfl rfl ?_
        iterate 2 refine pu (ev tab rfl) rfl ?_
        refine WO.nil ?_
        refine qv1 rfl rfl rfl
    refine qs ?_
    refine condK rfl (fun h47 => ?_) (fun h47 => ?_)
    · skip
      exfalso
      simp at h47
    · skip
      refine W.skip ?_
      refine qs ?_
      refine W.seq ?_
      refine W.region ?_
      refine pu (ev tab rfl) rfl ?_
      first | refine pu (ev tab rfl) rfl ?_ | refine pu (loadRow tab rfl rfl rfl rfl) rfl ?_ | refine pu (loadBox tab rfl rfl rfl rfl rfl) rfl ?_
      iterate 2 refine pu (ev tab rfl) rfl ?_
      refine WO.nil ?_
      refine qs ?_
      refine W.seq ?_
      refine W.seq ?_
      apply regionB; (case hb => rfl)
      · skip
        iterate 3 refine pu (ev tab rfl) rfl ?_
        apply splitJ; (case hj => rfl); (case hl => rfl)
        · skip
          refine skipT rfl rfl rfl rfl ?_
          refine skipT rfl rfl rfl rfl ?_
          refine pu (ev tab rfl) rfl ?_
          refine WO.nil ?_
          refine qv1 rfl rfl rfl
        · skip
          refine goG rfl rfl ?_
          refine pu (ev tab rfl) rfl ?_
          refine goG rfl rfl ?_
          iterate 2 refine pu (ev tab rfl) rfl ?_
          refine WO.nil ?_
          refine qv1 rfl rfl rfl
      refine qs ?_
      refine condK rfl (fun h56 => ?_) (fun h56 => ?_)
      · skip
        refine W.seq ?_
        refine W.region ?_
        refine pu (ev tab rfl) rfl ?_
        refine WO.nil ?_
        refine qs ?_
        refine W.ret ?_
        refine qsRet ?_
        refine QF.ret0 trivial rfl ?_
        rfl
      · skip
        have h56' : (queryCT d q).2 = 0 ∧ q.steps.length ≠ 0 := by revert h56; simp only [List.length_map]; by_cases q1 : (queryCT d q).2 = 0 <;> simp [q1]
        obtain ⟨f, st⟩ := q
        obtain ⟨hq0, hn⟩ := h56'
        dsimp only at hq0 hn hfq
        obtain ⟨l, s, rfl⟩ : ∃ l s, st = l ++ [s] := ⟨st.dropLast, st.getLast (by rintro rfl; exact hn rfl), (List.dropLast_concat_getLast _).symm⟩
        have hfl : ∀ x ∈ l, fewS x := fun x hx => hfq.1 x (by simp [hx])
        obtain ⟨c1, c2, c3, c4⟩ := queryCT_cat d f l s hfl hft hq0
        have hfs : fewS s := hfq.1 s (by simp)
        have hll : (l ++ [s]).length = l.length + 1 := by simp
        have hl30 := hfq.2
        have htk : (l ++ [s]).take l.length = l := by simp
        have hgs : (l ++ [s])[l.length]? = some s := by simp
        have hQ := tquery_fn d ⟨f, l⟩ hfl hft
        have hS := tstep_fn d (queryCT d ⟨f, l⟩).1 s hfs hft c4
        refine W.skip ?_
        refine qs ?_
        refine W.seq ?_
        refine W.regionD tab (by kernel_rfl) ?_
        refine chPu (ev tab rfl) rfl ?_
        refine chPu (ev tab rfl) rfl ?_
        first | refine chPu (ev tab rfl) rfl ?_ | refine chPu (loadRow tab rfl rfl rfl rfl) rfl ?_ | refine chPu (loadBox tab rfl rfl rfl rfl rfl) rfl ?_
        refine chPu (ev tab rfl) rfl ?_
        first | refine chPu (ev tab rfl) rfl ?_ | refine chPu (loadRow tab rfl rfl rfl rfl) rfl ?_ | refine chPu (loadBox tab rfl rfl rfl rfl rfl) rfl ?_
        refine chPu (ev tab rfl) rfl ?_
        refine chPu (puI (ev tab rfl) (y := ((l.length : Nat) : Int)) (by rw [List.length_map, hll, wrap64 (by omega)]; omega)) rfl ?_
        refine chPu (puA (slToM (fn := Stp.c) (l := l ++ [s]) tab rfl rfl rfl rfl rfl rfl (fun _ => rfl) (by omega)) (by rw [htk])) rfl ?_
        refine chPu (build tab rfl rfl rfl rfl) rfl ?_
        refine chPu (puCall rfl rfl rfl hQ rfl) rfl ?_
        refine chPu (ev tab rfl) rfl ?_
        refine chPu (ev tab rfl) rfl ?_
        refine chPu (ev tab rfl) rfl ?_
        refine chPu (ev tab rfl) rfl ?_
        refine chPu (ev tab rfl) rfl ?_
        refine CH.nil ?_
        refine qs ?_
        refine W.seq ?_
        refine W.region ?_
        iterate 3 refine pu (ev tab rfl) rfl ?_
        first | refine pu (ev tab rfl) rfl ?_ | refine pu (loadRow tab rfl rfl rfl rfl) rfl ?_ | refine pu (loadBox tab rfl rfl rfl rfl rfl) rfl ?_
        refine pu (ev tab rfl) rfl ?_
        refine pu (puI (ev tab rfl) (y := ((l.length : Nat) : Int)) (by rw [List.length_map, hll, wrap64 (by omega)]; omega)) rfl ?_
        refine pu (indexAddr tab rfl rfl rfl rfl rfl rfl (Int.natCast_nonneg _) (idx_map hgs) rfl) rfl ?_
        first | refine pu (ev tab rfl) rfl ?_ | refine pu (loadRow tab rfl rfl rfl rfl) rfl ?_ | refine pu (loadBox tab rfl rfl rfl rfl rfl) rfl ?_
        refine pu (puCall rfl rfl rfl hS rfl) rfl ?_
        iterate 5 refine pu (ev tab rfl) rfl ?_
        refine WO.nil ?_
        refine qs ?_
        refine W.seq ?_
        apply regionB; (case hb => rfl)
        · skip
          iterate 3 refine pu (ev tab rfl) rfl ?_
          apply splitJ; (case hj => rfl); (case hl => rfl)
          · skip
            refine goG rfl rfl ?_
            refine pu (ev tab rfl) rfl ?_
            refine goG rfl rfl ?_
            iterate 3 refine pu (ev tab rfl) rfl ?_
            apply splitJ; (case hj => rfl); (case hl => rfl)
            · skip
              refine goG rfl rfl ?_
              refine pu (ev tab rfl) rfl ?_
              refine goG rfl rfl ?_
              refine pu (ev tab rfl) rfl ?_
              refine goG rfl rfl ?_
              refine pu (puCall rfl rfl rfl (same_fn (stepCT d (queryCT d ⟨f, l⟩).1 s).1 (queryCT d ⟨f, l ++ [s]⟩).1) rfl) rfl ?_
              iterate 2 refine pu (ev tab rfl) rfl ?_
              refine WO.nil ?_
              refine qv1 rfl rfl rfl
            · skip
              refine skipT rfl rfl rfl rfl ?_
              refine skipT rfl rfl rfl rfl ?_
              refine skipT rfl rfl rfl rfl ?_
              iterate 2 refine pu (ev tab rfl) rfl ?_
              refine WO.nil ?_
              refine qv1 rfl rfl rfl
          · skip
            refine skipT rfl rfl rfl rfl ?_
            refine skipT rfl rfl rfl rfl ?_
            iterate 2 refine pu (ev tab rfl) rfl ?_
            refine skipT rfl rfl rfl rfl ?_
            refine skipT rfl rfl rfl rfl ?_
            refine skipT rfl rfl rfl rfl ?_
            iterate 2 refine pu (ev tab rfl) rfl ?_
            refine WO.nil ?_
            refine qv1 rfl rfl rfl
        refine qs ?_
        refine W.ret ?_
        refine QF.ret0 trivial rfl ?_
        simp only [norm, oneA, c1, c2, c3]
        simp
end Go.Proofs.YtmhjgeneogknpaaGreat
/- Typed data out of a reading: tables, steps, queries. -/
namespace Go.Tb
open Go.Ab
section
variable {P : Program} {T : Tab P} {l : List D}
variable {ts ti tk tc tcs tv tr trs tt tn te teo tes tit titl ttl tag tagl tso tsol tb top tst tstl tq : Nat}
variable {o1 o2 o3 o4 o5 o6 o7 o8 p1 p2 p3 p4 p5 p6 p7 p8 q1 q2 q3 q4 q5 q6 q7 q8 r1 r2 r3 r4 r5 : Nat}
variable {n1 n2 n3 n4 n5 n6 n7 n8 m1 m2 m3 m4 m5 m6 m7 m8 k1 k2 k3 k4 k5 k6 k7 k8 j1 j2 j3 j4 j5 : String}

theorem conf_tbl (h : Conf T tt l) (ht : kdAt T tt = .st [(o1, tcs, n1), (o2, trs, n2)]) (hcs : kdAt T tcs = .slice tc) (hc : kdAt T tc = .st [(o3, ts, n3), (o4, tk, n4)]) (hs : kdAt T ts = .str) (hk : kdAt T tk = .int .i64)
    (hrs : kdAt T trs = .slice tr) (hr : kdAt T tr = .slice tv) (hv : kdAt T tv = .st [(o5, tk, n5), (o6, ti, n6), (o7, ts, n7)]) (hi : kdAt T ti = .int .i64) : ∃ x : Tbl, l = x.c := by
  obtain ⟨p, q, rfl, h1, h2⟩ := conf_st2 h ht
  obtain ⟨cols, rfl⟩ := conf_sl h1 hcs (fun x hx => conf_col hx hc hs hk)
  obtain ⟨rows, rfl⟩ := conf_sl (f := rc) h2 hrs (fun x hx => by
    obtain ⟨r, rfl⟩ := conf_sl hx hr (fun y hy => conf_val hy hv hk hi hs)
    exact ⟨r, rfl⟩)
  exact ⟨⟨cols, rows⟩, rfl⟩

theorem conf_nmd (h : Conf T tn l) (hn : kdAt T tn = .st [(p1, ts, m1), (p2, tt, m2)]) (ht : kdAt T tt = .st [(o1, tcs, n1), (o2, trs, n2)]) (hcs : kdAt T tcs = .slice tc) (hc : kdAt T tc = .st [(o3, ts, n3), (o4, tk, n4)]) (hs : kdAt T ts = .str)
    (hk : kdAt T tk = .int .i64) (hrs : kdAt T trs = .slice tr) (hr : kdAt T tr = .slice tv) (hv : kdAt T tv = .st [(o5, tk, n5), (o6, ti, n6), (o7, ts, n7)]) (hi : kdAt T ti = .int .i64) : ∃ x : Nmd, l = x.c := by
  obtain ⟨p, q, rfl, h1, h2⟩ := conf_st2 h hn
  obtain ⟨a, rfl⟩ := conf_str h1 hs
  obtain ⟨t, rfl⟩ := conf_tbl h2 ht hcs hc hs hk hrs hr hv hi
  exact ⟨⟨a, t⟩, rfl⟩

theorem conf_step (h : Conf T tst l) (hst : kdAt T tst = .st [(o1, top, n1), (o2, te, n2), (o3, titl, n3), (o4, ttl, n4), (o5, tagl, n5), (o6, tsol, n6), (o7, ti, n7), (o8, ts, n8)]) (hop : kdAt T top = .int .i64)
    (he : kdAt T te = .st [(p1, teo, m1), (p2, ts, m2), (p3, tv, m3), (p4, tes, m4)]) (heo : kdAt T teo = .int .i64) (hes : kdAt T tes = .slice te) (hv : kdAt T tv = .st [(p5, tk, m5), (p6, ti, m6), (p7, ts, m7)]) (hk : kdAt T tk = .int .i64)
    (hi : kdAt T ti = .int .i64) (hs : kdAt T ts = .str) (hitl : kdAt T titl = .slice tit) (hit : kdAt T tit = .st [(q1, te, k1), (q2, ts, k2)]) (httl : kdAt T ttl = .slice ts) (hagl : kdAt T tagl = .slice tag)
    (hag : kdAt T tag = .st [(q3, ts, k3), (q4, ts, k4), (q5, ts, k5)]) (hsol : kdAt T tsol = .slice tso) (hso : kdAt T tso = .st [(q6, ts, k6), (q7, tb, k7)]) (hb : kdAt T tb = .bool) : ∃ x : Stp, l = x.c := by
  obtain ⟨a, b, c, d, e, f, g, i, rfl, h1, h2, h3, h4, h5, h6, h7, h8⟩ := conf_st8 h hst
  obtain ⟨op, rfl⟩ := conf_int h1 hop
  obtain ⟨cond, rfl⟩ := conf_expr he heo hes hv hk hi hs _ h2
  obtain ⟨items, rfl⟩ := conf_sl (f := Itm.c) h3 hitl (fun x hx => by
    obtain ⟨p, q, rfl, g1, g2⟩ := conf_st2 hx hit
    obtain ⟨e, rfl⟩ := conf_expr he heo hes hv hk hi hs _ g1
    obtain ⟨s, rfl⟩ := conf_str g2 hs
    exact ⟨⟨e, s⟩, rfl⟩)
  obtain ⟨cols, rfl⟩ := conf_sl (f := sc) h4 httl (fun x hx => conf_str hx hs)
  obtain ⟨aggs, rfl⟩ := conf_sl (f := Agr.c) h5 hagl (fun x hx => by
    obtain ⟨p, q, r, rfl, g1, g2, g3⟩ := conf_st3 hx hag
    obtain ⟨u, rfl⟩ := conf_str g1 hs
    obtain ⟨v, rfl⟩ := conf_str g2 hs
    obtain ⟨w, rfl⟩ := conf_str g3 hs
    exact ⟨⟨u, v, w⟩, rfl⟩)
  obtain ⟨sorts, rfl⟩ := conf_sl (f := Srt.c) h6 hsol (fun x hx => by
    obtain ⟨p, q, rfl, g1, g2⟩ := conf_st2 hx hso
    obtain ⟨u, rfl⟩ := conf_str g1 hs
    obtain ⟨v, rfl⟩ := g2.toBool hb
    exact ⟨⟨u, v⟩, rfl⟩)
  obtain ⟨n, rfl⟩ := conf_int h7 hi
  obtain ⟨t, rfl⟩ := conf_str h8 hs
  exact ⟨⟨op, cond, items, cols, aggs, sorts, n, t⟩, rfl⟩

theorem conf_query (h : Conf T tq l) (hq : kdAt T tq = .st [(r1, ts, j1), (r2, tstl, j2)]) (hstl : kdAt T tstl = .slice tst)
    (hst : kdAt T tst = .st [(o1, top, n1), (o2, te, n2), (o3, titl, n3), (o4, ttl, n4), (o5, tagl, n5), (o6, tsol, n6), (o7, ti, n7), (o8, ts, n8)]) (hop : kdAt T top = .int .i64)
    (he : kdAt T te = .st [(p1, teo, m1), (p2, ts, m2), (p3, tv, m3), (p4, tes, m4)]) (heo : kdAt T teo = .int .i64) (hes : kdAt T tes = .slice te) (hv : kdAt T tv = .st [(p5, tk, m5), (p6, ti, m6), (p7, ts, m7)]) (hk : kdAt T tk = .int .i64)
    (hi : kdAt T ti = .int .i64) (hs : kdAt T ts = .str) (hitl : kdAt T titl = .slice tit) (hit : kdAt T tit = .st [(q1, te, k1), (q2, ts, k2)]) (httl : kdAt T ttl = .slice ts) (hagl : kdAt T tagl = .slice tag)
    (hag : kdAt T tag = .st [(q3, ts, k3), (q4, ts, k4), (q5, ts, k5)]) (hsol : kdAt T tsol = .slice tso) (hso : kdAt T tso = .st [(q6, ts, k6), (q7, tb, k7)]) (hb : kdAt T tb = .bool) : ∃ x : Qry, l = x.c := by
  obtain ⟨p, q, rfl, h1, h2⟩ := conf_st2 h hq
  obtain ⟨f, rfl⟩ := conf_str h1 hs
  obtain ⟨steps, rfl⟩ := conf_sl h2 hstl (fun x hx => conf_step hx hst hop he heo hes hv hk hi hs hitl hit httl hagl hag hsol hso hb)
  exact ⟨⟨f, steps⟩, rfl⟩
end
end Go.Tb
