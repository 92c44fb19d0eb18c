import Derived.Test.YtmhjgeneogknpaaQ6
namespace Go.Proofs.Ytmhjgeneogknpaa
open Go.Ab Go.Tb
set_option maxRecDepth 10000
attribute [local irreducible] W WO Pu QS QB QL QF QV QV1 CH QE
def fewS (s : Stp) : Prop := s.items.length ≤ 400 ∧ s.cols.length ≤ 400 ∧ s.aggs.length ≤ 400 ∧ s.sorts.length ≤ 400
def fewT (d : List Nmd) : Prop := ∀ x ∈ d, x.table.cols.length ≤ 1000

theorem selErr_valid : ∀ (l : List Itm) (ks : List ByteArray), selErr ks l = 0 → ∀ x ∈ l, nodesErr x.e = 0
  | [], _, _, x, hx => by cases hx
  | y :: r, ks, h, x, hx => by
    simp only [selErr] at h
    split at h
    · rename_i h1; exact absurd h h1
    · rename_i h1
      split at h
      · rename_i h2; exact absurd h h2
      · rcases List.mem_cons.1 hx with rfl | hx
        · exact exprErr_zero (by omega)
        · exact selErr_valid r _ h x hx

theorem tstep_fn (d : List Nmd) (cols : List Col) (s : Stp) (hf : fewS s) (ht : fewT d) (hc : cols.length ≤ 1000) : Does Try.prog 15 [.d (.sl (d.map Nmd.c)), .d (.sl (cols.map Col.c)), .ag s.c]
    (.tup [.d (.sl ((stepCT d cols s).1.map Col.c)), .d (.v (.int .i64 (stepCT d cols s).2))]) 0 := by
  obtain ⟨hf1, hf2, hf3, hf4⟩ := id hf
  have hg : stepCT d cols s = stepCT d cols s := rfl
  conv at hg => rhs; unfold stepCT
  refine Does.of_W (n := 88) (ts := [6, 7]) Try.func15 (by kernel_rfl) rfl Try.ntmps15 Try.results15 rfl rfl fun C hC => ?_
  refine W.seq ?_
  refine W.region ?_
  refine boxR rfl rfl rfl ?_
  iterate 2 refine pu (ev tab rfl) rfl ?_
  refine WO.nil ?_
  refine qs ?_
  refine W.seq ?_
  refine W.seq ?_
  refine W.region ?_
  first | refine pu (ev tab rfl) rfl ?_ | refine pu (loadRow tab rfl rfl rfl rfl) rfl ?_ | refine pu (loadBox tab rfl rfl rfl rfl rfl) rfl ?_
  refine pu (puCall rfl rfl rfl (step_fn s (by omega)) rfl) rfl ?_
  refine pu (ev tab rfl) rfl ?_
  refine WO.nil ?_
  refine qs ?_
  refine W.seq ?_
  refine W.region ?_
  iterate 2 refine pu (ev tab rfl) rfl ?_
  refine WO.nil ?_
  refine qs ?_
  refine condK rfl (fun h16 => ?_) (fun h16 => ?_)
  · skip
    rw [if_pos (by simpa using h16)] at hg
    refine W.seq ?_
    refine W.region ?_
    iterate 3 refine pu (ev tab rfl) rfl ?_
    refine WO.nil ?_
    refine qs ?_
    try refine ownNilR (d := 6) rfl rfl ?_
    refine W.ret ?_
    refine qsRet ?_
    refine QF.ret0 trivial rfl ?_
    first | (rw [hg]; rfl) | (rw [hg, if_neg (by simp_all)]; rfl)
  · skip
    have h16 : stepErr s = 0 := by simpa using h16
    rw [if_neg (by simp [h16])] at hg
    have hse := h16
    unfold stepErr at hse
    split at hse
    · cases hse
    refine W.skip ?_
    refine qs ?_
    refine W.seq ?_
    refine W.seq ?_
    refine W.region ?_
    refine pu (ev tab rfl) rfl ?_
    first | refine pu (ev tab rfl) rfl ?_ | refine pu (loadRow tab rfl rfl rfl rfl) rfl ?_ | refine pu (loadBox tab rfl rfl rfl rfl rfl) rfl ?_
    refine WO.nil ?_
    refine qs ?_
    refine W.block ?_
    refine W.seq ?_
    refine W.region ?_
    iterate 2 refine pu (ev tab rfl) rfl ?_
    refine WO.nil ?_
    refine qs ?_
    refine condK rfl (fun h20 => ?_) (fun h20 => ?_)
    · skip
      have h20 : s.op = 1 := by simpa using h20
      rw [if_pos h20] at hg hse
      have hv := exprErr_zero hse
      refine W.seq ?_
      refine W.region ?_
      iterate 2 refine pu (ev tab rfl) rfl ?_
      first | refine pu (ev tab rfl) rfl ?_ | refine pu (loadRow tab rfl rfl rfl rfl) rfl ?_ | refine pu (loadBox tab rfl rfl rfl rfl rfl) rfl ?_
      refine pu (puCall rfl rfl rfl (tnode_fn cols s.cond hv) rfl) rfl ?_
      iterate 5 refine pu (ev tab rfl) rfl ?_
      refine WO.nil ?_
      refine qs ?_
      refine W.seq ?_
      refine W.seq ?_
      apply regionB; (case hb => rfl)
      · skip
        iterate 3 refine pu (ev tab rfl) rfl ?_
        apply splitJ; (case hj => rfl); (case hl => rfl)
        · skip
          refine goG rfl rfl ?_
          refine pu (ev tab rfl) rfl ?_
          refine goG rfl rfl ?_
          refine pu (puCall rfl rfl rfl (fits_fn ..) rfl) rfl ?_
          refine goG rfl rfl ?_
          iterate 2 refine pu (ev tab rfl) rfl ?_
          refine WO.nil ?_
          refine qv1 rfl rfl rfl
        · skip
          refine skipT rfl rfl rfl rfl ?_
          refine skipT rfl rfl rfl rfl ?_
          refine skipT rfl rfl rfl rfl ?_
          refine pu (ev tab rfl) rfl ?_
          refine WO.nil ?_
          refine qv1 rfl rfl rfl
      refine qs ?_
      refine condK rfl (fun h35 => ?_) (fun h35 => ?_)
      · skip
        have h35 : (typ cols s.cond).2 = 0 ∧ fits (typ cols s.cond).1 1 = false := by revert h35; generalize fits (typ cols s.cond).1 1 = u; by_cases q : (typ cols s.cond).2 = 0 <;> cases u <;> simp [q]
        have hw : whereErr cols s.cond = 14 := by unfold whereErr; rw [if_pos h35]
        simp only [hw] at hg
        refine W.region ?_
        refine pu (ev tab rfl) rfl ?_
        refine WO.nil ?_
        refine qs ?_
        refine W.seq ?_
        refine W.region ?_
        iterate 2 refine pu (ev tab rfl) rfl ?_
        refine WO.nil ?_
        refine qs ?_
        refine condK rfl (fun h37 => ?_) (fun h37 => ?_)
        · skip
          rw [if_pos (by first | decide | simpa using h37)] at hg
          refine W.seq ?_
          refine W.region ?_
          iterate 3 refine pu (ev tab rfl) rfl ?_
          refine WO.nil ?_
          refine qs ?_
          try refine ownNilR (d := 6) rfl rfl ?_
          refine W.ret ?_
          refine qbRet ?_
          refine qsRet ?_
          refine QF.ret0 trivial rfl ?_
          first | (rw [hg]; rfl) | (rw [hg, if_neg (by simp_all)]; rfl)
        · skip
          rw [if_neg (by first | (exfalso; revert h37; decide) | simpa using h37)] at hg
          refine W.skip ?_
          refine qbN ?_
          refine qs ?_
          refine W.seq ?_
          refine W.region ?_
          refine pu (ev tab rfl) rfl ?_
          refine callR rfl rfl rfl (clone_fn cols (by omega)) (by rfl) rfl rfl ?_
          iterate 2 refine pu (ev tab rfl) rfl ?_
          refine WO.nil ?_
          refine qs ?_
          try refine ownNilR (d := 6) rfl rfl ?_
          refine W.ret ?_
          refine QF.ret0 trivial rfl ?_
          first | (rw [hg]; rfl) | (rw [hg, if_neg (by simp_all)]; rfl)
      · skip
        have h35 : ¬ ((typ cols s.cond).2 = 0 ∧ fits (typ cols s.cond).1 1 = false) := by revert h35; generalize fits (typ cols s.cond).1 1 = u; by_cases q : (typ cols s.cond).2 = 0 <;> cases u <;> simp [q]
        have hw : whereErr cols s.cond = (typ cols s.cond).2 := by unfold whereErr; rw [if_neg h35]
        simp only [hw] at hg
        refine W.skip ?_
        refine qs ?_
        refine W.seq ?_
        refine W.region ?_
        iterate 2 refine pu (ev tab rfl) rfl ?_
        refine WO.nil ?_
        refine qs ?_
        refine condK rfl (fun h37 => ?_) (fun h37 => ?_)
        · skip
          rw [if_pos (by first | decide | simpa using h37)] at hg
          refine W.seq ?_
          refine W.region ?_
          iterate 3 refine pu (ev tab rfl) rfl ?_
          refine WO.nil ?_
          refine qs ?_
          try refine ownNilR (d := 6) rfl rfl ?_
          refine W.ret ?_
          refine qbRet ?_
          refine qsRet ?_
          refine QF.ret0 trivial rfl ?_
          first | (rw [hg]; rfl) | (rw [hg, if_neg (by simp_all)]; rfl)
        · skip
          rw [if_neg (by first | (exfalso; revert h37; decide) | simpa using h37)] at hg
          refine W.skip ?_
          refine qbN ?_
          refine qs ?_
          refine W.seq ?_
          refine W.region ?_
          refine pu (ev tab rfl) rfl ?_
          refine callR rfl rfl rfl (clone_fn cols (by omega)) (by rfl) rfl rfl ?_
          iterate 2 refine pu (ev tab rfl) rfl ?_
          refine WO.nil ?_
          refine qs ?_
          try refine ownNilR (d := 6) rfl rfl ?_
          refine W.ret ?_
          refine QF.ret0 trivial rfl ?_
          first | (rw [hg]; rfl) | (rw [hg, if_neg (by simp_all)]; rfl)
    · skip
      have h20 : ¬ s.op = 1 := by simpa using h20
      rw [if_neg h20] at hg hse
      refine W.seq ?_
      refine W.region ?_
      iterate 2 refine pu (ev tab rfl) rfl ?_
      refine WO.nil ?_
      refine qs ?_
      refine condK rfl (fun h39 => ?_) (fun h39 => ?_)
      · skip
        have h39 : s.op = 2 := by simpa using h39
        rw [if_pos h39] at hg hse
        have hsel : selErr [] s.items = 0 := by
          split at hse
          · rename_i h1; exact absurd hse h1
          · exact hse
        refine W.seq ?_
        refine W.region ?_
        iterate 2 refine pu (ev tab rfl) rfl ?_
        first | refine pu (ev tab rfl) rfl ?_ | refine pu (loadRow tab rfl rfl rfl rfl) rfl ?_ | refine pu (loadBox tab rfl rfl rfl rfl rfl) rfl ?_
        refine pu (puCall rfl rfl rfl (selected_fn cols s.items (by omega) (selErr_valid _ _ hsel)) rfl) rfl ?_
        iterate 4 refine pu (ev tab rfl) rfl ?_
        refine WO.nil ?_
        refine qs ?_
        try refine ownNilR (d := 6) rfl rfl ?_
        refine W.ret ?_
        refine qbRet ?_
        refine qsRet ?_
        refine QF.ret0 trivial rfl ?_
        first | (rw [hg]; rfl) | (rw [hg, if_neg (by simp_all)]; rfl)
      · skip
        have h39 : ¬ s.op = 2 := by simpa using h39
        rw [if_neg h39] at hg hse
        refine W.seq ?_
        refine W.region ?_
        iterate 2 refine pu (ev tab rfl) rfl ?_
        refine WO.nil ?_
        refine qs ?_
        refine condK rfl (fun h47 => ?_) (fun h47 => ?_)
        · skip
          have h47 : s.op = 3 := by simpa using h47
          rw [if_pos h47] at hg hse
          refine W.seq ?_
          refine W.region ?_
          refine pu (ev tab rfl) rfl ?_
          first | refine pu (ev tab rfl) rfl ?_ | refine pu (loadRow tab rfl rfl rfl rfl) rfl ?_ | refine pu (loadBox tab rfl rfl rfl rfl rfl) rfl ?_
          refine pu (puCall rfl rfl rfl (grouped_fn cols s (by omega) (by omega)) rfl) rfl ?_
          iterate 4 refine pu (ev tab rfl) rfl ?_
          refine WO.nil ?_
          refine qs ?_
          try refine ownNilR (d := 6) rfl rfl ?_
          refine W.ret ?_
          refine qbRet ?_
          refine qsRet ?_
          refine QF.ret0 trivial rfl ?_
          first | (rw [hg]; rfl) | (rw [hg, if_neg (by simp_all)]; rfl)
        · skip
          have h47 : ¬ s.op = 3 := by simpa using h47
          rw [if_neg h47] at hg hse
          refine W.seq ?_
          refine W.region ?_
          iterate 2 refine pu (ev tab rfl) rfl ?_
          refine WO.nil ?_
          refine qs ?_
          refine condK rfl (fun h54 => ?_) (fun h54 => ?_)
          · skip
            have h54 : s.op = 4 := by simpa using h54
            rw [if_pos h54] at hg hse
            refine W.seq ?_
            refine W.region ?_
            refine pu (ev tab rfl) rfl ?_
            first | refine pu (ev tab rfl) rfl ?_ | refine pu (loadRow tab rfl rfl rfl rfl) rfl ?_ | refine pu (loadBox tab rfl rfl rfl rfl rfl) rfl ?_
            iterate 2 refine pu (ev tab rfl) rfl ?_
            refine WO.nil ?_
            refine qs ?_
            refine W.block ?_
            refine W.len (t := 57) rfl rfl (fun hlen => ?_)
            try simp only [List.length_map, Ex.kc_len] at hlen
            refine W.loopR (ι := {x : Nat // match x with | k => k ≤ s.sorts.length ∧ sortErr cols (s.sorts.drop k) = sortErr cols s.sorts})
              (fun x => match x.1 with | k => [(59, .d (.v (.int .i64 ((k : Nat) : Int))))]) [(1, _), (57, _), (58, _)]
              (fun x => match x.1 with | k => []) [] [] 0 (fun x => match x.1 with | k => s.sorts.length - k)
              [] ⟨0, ?_⟩ rfl ?_ ⟨rfl, rfl, rfl, rfl, rfl, rfl, trivial⟩ ?_ trivial rfl ?_
            · first | exact ⟨Nat.zero_le _, rfl⟩ | exact trivial | simp
            · repeat' first | exact trivial | refine ⟨rfl, ?_⟩ | refine ⟨step_nat (by assumption) (by assumption), ?_⟩
            · repeat' first | exact trivial | refine ⟨rfl, ?_⟩ | refine ⟨step_nat (by assumption) (by assumption), ?_⟩
            rintro ⟨k, hk, hI⟩
            show W _ _ _ _ _ ⟨[(59, .d (.v (.int .i64 ((k : Nat) : Int)))), (1, _), (57, _), (58, _)], [], [], 0⟩
            refine W.seq ?_
            refine W.region ?_
            refine pu (ev tab rfl) rfl ?_
            refine WO.nil ?_
            refine qs ?_
            refine W.seq ?_
            refine eachR (l := s.sorts) (k := k) rfl (by simp [Ex.kc_len, bytes_len]) hk (fun x hx hd hlt => ?_) (fun he hd => ?_)
            · skip
              rw [hd] at hI
              rw [show sortErr cols (x :: s.sorts.drop (k + 1)) = (!(cols.any fun c => decide (c.name = x.col)) || sortErr cols (s.sorts.drop (k + 1))) from rfl] at hI
              refine W.skip ?_
              refine qs ?_
              refine W.seq ?_
              refine W.block ?_
              refine W.seq ?_
              refine W.region ?_
              refine pu (indexAddr tab rfl rfl rfl rfl rfl rfl (Int.natCast_nonneg _) (idx_map hx) rfl) rfl ?_
              first | refine pu (ev tab rfl) rfl ?_ | refine pu (loadRow tab rfl rfl rfl rfl) rfl ?_ | refine pu (loadBox tab rfl rfl rfl rfl rfl) rfl ?_
              refine allocR tab rfl rfl rfl ?_
              refine storeR tab rfl rfl rfl rfl rfl rfl rfl rfl ?_
              refine WO.nil ?_
              refine qs ?_
              refine W.seq ?_
              refine W.region ?_
              iterate 2 refine pu (ev tab rfl) rfl ?_
              first | refine pu (ev tab rfl) rfl ?_ | refine pu (loadRow tab rfl rfl rfl rfl) rfl ?_ | refine pu (loadBox tab rfl rfl rfl rfl rfl) rfl ?_
              refine pu (puCall rfl rfl rfl (column_fn ..) rfl) rfl ?_
              refine pu (ev tab rfl) rfl ?_
              refine WO.nil ?_
              refine qs ?_
              refine condK rfl (fun h67 => ?_) (fun h67 => ?_)
              · skip
                have h67 : (cols.any fun c => decide (c.name = x.col)) = false := by rw [← idx_nonneg]; simp at h67 ⊢; omega
                rw [h67] at hI
                rw [if_pos (by rw [← hI]; rfl)] at hg
                refine W.seq ?_
                refine W.region ?_
                iterate 2 refine pu (ev tab rfl) rfl ?_
                refine WO.nil ?_
                refine qs ?_
                try refine ownNilR (d := 6) rfl rfl ?_
                refine W.ret ?_
                refine qbRet ?_
                refine qsRet ?_
                refine qlRet ?_
                refine qbRet ?_
                refine qbRet ?_
                refine qsRet ?_
                refine QF.ret0 trivial rfl ?_
                first | (rw [hg]; rfl) | (rw [hg, if_neg (by simp_all)]; rfl)
              · skip
                have h67 : (cols.any fun c => decide (c.name = x.col)) = true := by rw [← idx_nonneg]; simp at h67 ⊢; omega
                rw [h67] at hI
                refine W.skip ?_
                refine qbN ?_
                refine qs ?_
                refine W.region ?_
                iterate 2 refine pu (ev tab rfl) rfl ?_
                refine WO.nil ?_
                refine W.endR [] ⟨k + 1, ?_⟩ ?_ rfl ?_ ⟨rfl, rfl, rfl, rfl, rfl, rfl, trivial⟩ ?_ trivial rfl
                · exact ⟨hlt, hI⟩
                · dsimp only; omega
                · repeat' first | exact trivial | refine ⟨rfl, ?_⟩ | refine ⟨step_nat (by assumption) (by assumption), ?_⟩
                · repeat' first | exact trivial | refine ⟨rfl, ?_⟩ | refine ⟨step_nat (by assumption) (by assumption), ?_⟩
            · skip
              rw [hd] at hI
              rw [if_neg (by rw [← hI]; simp [sortErr])] at hg
              refine W.exit ?_
              refine qsExit ?_
              refine qlExit ?_
              refine qbExit ?_
              refine qbN ?_
              refine qs ?_
              refine W.seq ?_
              refine W.region ?_
              refine pu (ev tab rfl) rfl ?_
              refine callR rfl rfl rfl (clone_fn cols (by omega)) (by rfl) rfl rfl ?_
              iterate 2 refine pu (ev tab rfl) rfl ?_
              refine WO.nil ?_
              refine qs ?_
              try refine ownNilR (d := 6) rfl rfl ?_
              refine W.ret ?_
              refine QF.ret0 trivial rfl ?_
              first | (rw [hg]; rfl) | (rw [hg, if_neg (by simp_all)]; rfl)
          · skip
            have h54 : ¬ s.op = 4 := by simpa using h54
            rw [if_neg h54] at hg hse
            refine W.seq ?_
            refine W.region ?_
            iterate 2 refine pu (ev tab rfl) rfl ?_
            refine WO.nil ?_
            refine qs ?_
            refine condK rfl (fun h69 => ?_) (fun h69 => ?_)
            · skip
              have h69 : s.op = 9 := by simpa using h69
              rw [if_pos h69] at hg
              refine W.seq ?_
              refine W.region ?_
              refine pu (ev tab rfl) rfl ?_
              first | refine pu (ev tab rfl) rfl ?_ | refine pu (loadRow tab rfl rfl rfl rfl) rfl ?_ | refine pu (loadBox tab rfl rfl rfl rfl rfl) rfl ?_
              refine pu (puCall rfl rfl rfl (coalesced_fn cols s (by omega)) rfl) rfl ?_
              iterate 4 refine pu (ev tab rfl) rfl ?_
              refine WO.nil ?_
              refine qs ?_
              try refine ownNilR (d := 6) rfl rfl ?_
              refine W.ret ?_
              refine qbRet ?_
              refine qsRet ?_
              refine QF.ret0 trivial rfl ?_
              first | (rw [hg]; rfl) | (rw [hg, if_neg (by simp_all)]; rfl)
            · skip
              have h69 : ¬ s.op = 9 := by simpa using h69
              rw [if_neg h69] at hg
              refine W.seq ?_
              refine W.seq ?_
              refine W.region ?_
              iterate 2 refine pu (ev tab rfl) rfl ?_
              refine WO.nil ?_
              refine qs ?_
              refine condK rfl (fun h76 => ?_) (fun h76 => ?_)
              · skip
                have h76' : s.op = 6 ∨ s.op = 7 ∨ s.op = 8 := by simp_all
                first | rw [if_pos h76'] at hg | skip
                refine W.skip ?_
                refine qs ?_
                refine W.condT rfl ?_
                refine W.seq ?_
                refine W.region ?_
                iterate 2 refine pu (ev tab rfl) rfl ?_
                first | refine pu (ev tab rfl) rfl ?_ | refine pu (loadRow tab rfl rfl rfl rfl) rfl ?_ | refine pu (loadBox tab rfl rfl rfl rfl rfl) rfl ?_
                refine pu (puCall rfl rfl rfl (joined_fn d cols s hc ht) rfl) rfl ?_
                iterate 4 refine pu (ev tab rfl) rfl ?_
                refine WO.nil ?_
                refine qs ?_
                try refine ownNilR (d := 6) rfl rfl ?_
                refine W.ret ?_
                refine qbRet ?_
                refine qsRet ?_
                refine QF.ret0 trivial rfl ?_
                first | (rw [hg]; rfl) | (rw [hg, if_neg (by simp_all)]; rfl)
              · skip
                have h76a := h76
                refine W.seq ?_
                refine W.region ?_
                iterate 2 refine pu (ev tab rfl) rfl ?_
                refine WO.nil ?_
                refine qs ?_
                refine condK rfl (fun h76 => ?_) (fun h76 => ?_)
                · skip
                  have h76' : s.op = 6 ∨ s.op = 7 ∨ s.op = 8 := by simp_all
                  first | rw [if_pos h76'] at hg | skip
                  refine W.skip ?_
                  refine qs ?_
                  refine W.condT rfl ?_
                  refine W.seq ?_
                  refine W.region ?_
                  iterate 2 refine pu (ev tab rfl) rfl ?_
                  first | refine pu (ev tab rfl) rfl ?_ | refine pu (loadRow tab rfl rfl rfl rfl) rfl ?_ | refine pu (loadBox tab rfl rfl rfl rfl rfl) rfl ?_
                  refine pu (puCall rfl rfl rfl (joined_fn d cols s hc ht) rfl) rfl ?_
                  iterate 4 refine pu (ev tab rfl) rfl ?_
                  refine WO.nil ?_
                  refine qs ?_
                  try refine ownNilR (d := 6) rfl rfl ?_
                  refine W.ret ?_
                  refine qbRet ?_
                  refine qsRet ?_
                  refine QF.ret0 trivial rfl ?_
                  first | (rw [hg]; rfl) | (rw [hg, if_neg (by simp_all)]; rfl)
                · skip
                  have h76a := h76
                  refine W.region ?_
                  iterate 2 refine pu (ev tab rfl) rfl ?_
                  refine WO.nil ?_
                  refine qs ?_
                  refine condK rfl (fun h76 => ?_) (fun h76 => ?_)
                  · skip
                    have h76' : s.op = 6 ∨ s.op = 7 ∨ s.op = 8 := by simp_all
                    first | rw [if_pos h76'] at hg | skip
                    refine W.seq ?_
                    refine W.region ?_
                    iterate 2 refine pu (ev tab rfl) rfl ?_
                    first | refine pu (ev tab rfl) rfl ?_ | refine pu (loadRow tab rfl rfl rfl rfl) rfl ?_ | refine pu (loadBox tab rfl rfl rfl rfl rfl) rfl ?_
                    refine pu (puCall rfl rfl rfl (joined_fn d cols s hc ht) rfl) rfl ?_
                    iterate 4 refine pu (ev tab rfl) rfl ?_
                    refine WO.nil ?_
                    refine qs ?_
                    try refine ownNilR (d := 6) rfl rfl ?_
                    refine W.ret ?_
                    refine qbRet ?_
                    refine qsRet ?_
                    refine QF.ret0 trivial rfl ?_
                    first | (rw [hg]; rfl) | (rw [hg, if_neg (by simp_all)]; rfl)
                  · skip
                    have h76a := h76
                    refine W.skip ?_
                    refine qbN ?_
                    refine qs ?_
                    refine W.seq ?_
                    refine W.region ?_
                    refine pu (ev tab rfl) rfl ?_
                    refine callR rfl rfl rfl (clone_fn cols (by omega)) (by rfl) rfl rfl ?_
                    iterate 2 refine pu (ev tab rfl) rfl ?_
                    refine WO.nil ?_
                    refine qs ?_
                    try refine ownNilR (d := 6) rfl rfl ?_
                    refine W.ret ?_
                    refine QF.ret0 trivial rfl ?_
                    first | (rw [hg]; rfl) | (rw [hg, if_neg (by simp_all)]; rfl)

theorem selT_len (cols : List Col) : ∀ (l : List Itm) (out : List Col), (selT cols out l).1.length ≤ out.length + l.length
  | [], out => by simp [selT]
  | x :: r, out => by
    simp only [selT]
    split
    · simp
    · split
      · simp
      · have := selT_len cols r (out ++ [⟨x.name, (typ cols x.e).1⟩]); simp at this ⊢; omega
theorem aggT_len (cols : List Col) : ∀ (l : List Agr) (out : List Col), (aggT cols out l).1.length ≤ out.length + l.length
  | [], out => by simp [aggT]
  | x :: r, out => by
    simp only [aggT]
    split
    · have := aggT_len cols r (out ++ [⟨x.name, 2⟩]); simp at this ⊢; omega
    · split
      · simp
      · rename_i c _
        split
        · simp
        · have := aggT_len cols r (out ++ [⟨x.name, c.type⟩]); simp at this ⊢; omega

theorem stepCT_len (d : List Nmd) (cols : List Col) (s : Stp) (hf : fewS s) (hc : cols.length ≤ 1000) : (stepCT d cols s).1.length ≤ 1000 := by
  obtain ⟨h1, h2, h3, h4⟩ := hf
  have a1 := selT_len cols s.items []
  have a2 := takeT_len cols s.cols []
  have a3 := aggT_len cols s.aggs (takeT cols [] s.cols).1
  simp only [List.length_nil, Nat.zero_add] at a1 a2
  unfold stepCT
  split
  · simp
  split
  · split <;> simp; omega
  split
  · omega
  split
  · unfold groupT; split
    · simp
    · omega
  split
  · split <;> simp; omega
  split
  · unfold coalT; split
    · simp
    split
    · simp
    split
    · simp
    split
    · simp
    · simp; omega
  split
  · unfold joinedT
    split
    · simp
    · unfold joinT
      split
      · simp
      split
      · simp
      split
      · simp
      split
      · simp
      · unfold outT
        split
        · simp
        split
        · simp
        · simp at *; omega
  · exact hc

theorem tquery_fn (d : List Nmd) (q : Qry) (hf : ∀ s ∈ q.steps, fewS s) (ht : fewT d) : Does Try.prog 17 [.d (.sl (d.map Nmd.c)), .ag q.c]
    (.tup [.d (.sl ((queryCT d q).1.map Col.c)), .d (.v (.int .i64 (queryCT d q).2))]) 0 := by
  have hg : queryCT d q = queryCT d q := rfl
  conv at hg => rhs; unfold queryCT
  refine Does.of_W (n := 57) (ts := [4, 5]) Try.func17 (by kernel_rfl) rfl Try.ntmps17 Try.results17 rfl rfl fun C hC => ?_
  refine W.seq ?_
  refine W.region ?_
  refine boxR rfl rfl rfl ?_
  iterate 2 refine pu (ev tab rfl) rfl ?_
  refine WO.nil ?_
  refine qs ?_
  refine W.seq ?_
  refine W.seq ?_
  refine W.region ?_
  refine pu (ev tab rfl) rfl ?_
  refine pu (puCall rfl rfl rfl (checkAll_fn d) rfl) rfl ?_
  refine pu (ev tab rfl) rfl ?_
  refine WO.nil ?_
  refine qs ?_
  refine W.seq ?_
  refine W.region ?_
  iterate 2 refine pu (ev tab rfl) rfl ?_
  refine WO.nil ?_
  refine qs ?_
  refine condK rfl (fun h18 => ?_) (fun h18 => ?_)
  · skip
    rw [if_pos (by simpa using h18)] at hg
    refine W.seq ?_
    refine W.region ?_
    iterate 3 refine pu (ev tab rfl) rfl ?_
    refine WO.nil ?_
    refine qs ?_
    try refine ownNilR (d := 4) rfl rfl ?_
    refine W.ret ?_
    refine qsRet ?_
    refine QF.ret0 trivial rfl ?_
    rw [hg]; rfl
  · skip
    rw [if_neg (by simpa using h18)] at hg
    refine W.skip ?_
    refine qs ?_
    refine W.seq ?_
    refine W.seq ?_
    refine W.region ?_
    first | refine pu (ev tab rfl) rfl ?_ | refine pu (loadRow tab rfl rfl rfl rfl) rfl ?_ | refine pu (loadBox tab rfl rfl rfl rfl rfl) rfl ?_
    refine pu (puCall rfl rfl rfl (query_fn q (fun s hs => by have := (hf s hs).2.2.2; omega)) rfl) rfl ?_
    refine pu (ev tab rfl) rfl ?_
    refine WO.nil ?_
    refine qs ?_
    refine W.seq ?_
    refine W.region ?_
    iterate 2 refine pu (ev tab rfl) rfl ?_
    refine WO.nil ?_
    refine qs ?_
    refine condK rfl (fun h23 => ?_) (fun h23 => ?_)
    · skip
      rw [if_pos (by simpa using h23)] at hg
      refine W.seq ?_
      refine W.region ?_
      iterate 3 refine pu (ev tab rfl) rfl ?_
      refine WO.nil ?_
      refine qs ?_
      try refine ownNilR (d := 4) rfl rfl ?_
      refine W.ret ?_
      refine qsRet ?_
      refine QF.ret0 trivial rfl ?_
      rw [hg]; rfl
    · skip
      rw [if_neg (by simpa using h23)] at hg
      refine W.skip ?_
      refine qs ?_
      refine W.seq ?_
      obtain ⟨p, q', hpq⟩ := tcells2 (findT d q.from_)
      have hf' := find_fn d q.from_
      rw [hpq] at hf'
      refine W.region ?_
      iterate 2 refine pu (ev tab rfl) rfl ?_
      first | refine pu (ev tab rfl) rfl ?_ | refine pu (loadRow tab rfl rfl rfl rfl) rfl ?_ | refine pu (loadBox tab rfl rfl rfl rfl rfl) rfl ?_
      refine pu (puCall rfl rfl rfl hf' rfl) rfl ?_
      iterate 3 refine pu (ev tab rfl) rfl ?_
      refine allocR tab rfl rfl rfl ?_
      refine storeR tab rfl rfl rfl rfl rfl rfl rfl rfl ?_
      refine pu (ev tab rfl) rfl ?_
      refine WO.nil ?_
      refine qs ?_
      refine W.seq ?_
      refine W.seq ?_
      refine W.region ?_
      iterate 2 refine pu (ev tab rfl) rfl ?_
      refine WO.nil ?_
      refine qs ?_
      refine condK rfl (fun h33 => ?_) (fun h33 => ?_)
      · skip
        have hq : findT d q.from_ = none := by cases hq : findT d q.from_ with | none => rfl | some t => rw [hq] at h33; simp at h33
        rw [hq] at hg
        refine W.seq ?_
        refine W.region ?_
        iterate 2 refine pu (ev tab rfl) rfl ?_
        refine WO.nil ?_
        refine qs ?_
        try refine ownNilR (d := 4) rfl rfl ?_
        refine W.ret ?_
        refine qsRet ?_
        refine QF.ret0 trivial rfl ?_
        rw [hg]; rfl
      · skip
        obtain ⟨t, hq⟩ : ∃ t, findT d q.from_ = some t := by cases hq : findT d q.from_ with | none => rw [hq] at h33; simp at h33 | some t => exact ⟨t, rfl⟩
        rw [hq] at hg hpq
        simp only at hg
        have htc : t.cols.length ≤ 1000 := by obtain ⟨x, hx, rfl⟩ := findT_mem hq; exact ht x hx
        simp only [tcells, Tbl.c, List.cons.injEq, and_true] at hpq
        obtain ⟨rfl, rfl⟩ := hpq
        refine W.skip ?_
        refine qs ?_
        refine W.seq ?_
        refine W.region ?_
        refine pu (ev tab rfl) rfl ?_
        first | refine pu (ev tab rfl) rfl ?_ | refine pu (loadRow tab rfl rfl rfl rfl) rfl ?_ | refine pu (loadBox tab rfl rfl rfl rfl rfl) rfl ?_
        refine callR rfl rfl rfl (clone_fn t.cols (by omega)) (by rfl) rfl rfl ?_
        refine pu (ev tab rfl) rfl ?_
        refine WO.nil ?_
        refine qs ?_
        refine W.seq ?_
        refine W.seq ?_
        refine W.region ?_
        refine pu (ev tab rfl) rfl ?_
        first | refine pu (ev tab rfl) rfl ?_ | refine pu (loadRow tab rfl rfl rfl rfl) rfl ?_ | refine pu (loadBox tab rfl rfl rfl rfl rfl) rfl ?_
        iterate 2 refine pu (ev tab rfl) rfl ?_
        refine WO.nil ?_
        refine qs ?_
        refine W.block ?_
        refine W.len (t := 38) rfl rfl (fun hlen => ?_)
        try simp only [List.length_map, Ex.kc_len] at hlen
        refine W.loopR (ι := {x : Nat × List Col // match x with | (k, cols) => k ≤ q.steps.length ∧ stepsCT d cols (q.steps.drop k) = stepsCT d t.cols q.steps ∧ cols.length ≤ 1000})
          (fun x => match x.1 with | (k, cols) => [(10, .d (.sl (cols.map Col.c))), (40, .d (.v (.int .i64 ((k : Nat) : Int))))]) [(0, _), (38, _), (39, _)]
          (fun x => match x.1 with | (k, cols) => []) [] [] 0 (fun x => match x.1 with | (k, cols) => q.steps.length - k)
          [] ⟨(0, t.cols), ?_⟩ rfl ?_ ⟨rfl, rfl, rfl, rfl, rfl, rfl, trivial⟩ ?_ trivial rfl ?_
        · exact ⟨Nat.zero_le _, rfl, htc⟩
        · repeat' first | exact trivial | refine ⟨rfl, ?_⟩ | refine ⟨step_nat (by assumption) (by assumption), ?_⟩
        · repeat' first | exact trivial | refine ⟨rfl, ?_⟩ | refine ⟨step_nat (by assumption) (by assumption), ?_⟩
        rintro ⟨⟨k, cols⟩, hk, hI, hL⟩
        show W _ _ _ _ _ ⟨[(10, .d (.sl (cols.map Col.c))), (40, .d (.v (.int .i64 ((k : Nat) : Int)))), (0, _), (38, _), (39, _)], [], [], 0⟩
        refine W.seq ?_
        refine W.region ?_
        refine pu (ev tab rfl) rfl ?_
        refine WO.nil ?_
        refine qs ?_
        refine W.seq ?_
        refine eachR (l := q.steps) (k := k) rfl (by simp [Ex.kc_len, bytes_len]) hk (fun x hx hd hlt => ?_) (fun he hd => ?_)
        · skip
          rw [hd] at hI
          simp only [stepsCT] at hI
          have hfx := hf x (List.mem_of_getElem? hx)
          refine W.skip ?_
          refine qs ?_
          refine W.seq ?_
          refine W.block ?_
          refine W.seq ?_
          refine W.region ?_
          refine pu (indexAddr tab rfl rfl rfl rfl rfl rfl (Int.natCast_nonneg _) (idx_map hx) rfl) rfl ?_
          first | refine pu (ev tab rfl) rfl ?_ | refine pu (loadRow tab rfl rfl rfl rfl) rfl ?_ | refine pu (loadBox tab rfl rfl rfl rfl rfl) rfl ?_
          refine allocR tab rfl rfl rfl ?_
          refine storeR tab rfl rfl rfl rfl rfl rfl rfl rfl ?_
          refine WO.nil ?_
          refine qs ?_
          refine W.seq ?_
          refine W.region ?_
          iterate 2 refine pu (ev tab rfl) rfl ?_
          first | refine pu (ev tab rfl) rfl ?_ | refine pu (loadRow tab rfl rfl rfl rfl) rfl ?_ | refine pu (loadBox tab rfl rfl rfl rfl rfl) rfl ?_
          refine pu (puCall rfl rfl rfl (tstep_fn d cols x hfx ht hL) rfl) rfl ?_
          iterate 5 refine pu (ev tab rfl) rfl ?_
          refine WO.nil ?_
          refine qs ?_
          refine W.seq ?_
          refine W.seq ?_
          refine W.region ?_
          iterate 2 refine pu (ev tab rfl) rfl ?_
          refine WO.nil ?_
          refine qs ?_
          refine condK rfl (fun h52 => ?_) (fun h52 => ?_)
          · skip
            rw [if_pos (by simpa using h52)] at hI
            refine W.seq ?_
            refine W.region ?_
            iterate 3 refine pu (ev tab rfl) rfl ?_
            refine WO.nil ?_
            refine qs ?_
            try refine ownNilR (d := 4) rfl rfl ?_
            refine W.ret ?_
            refine qsRet ?_
            refine qbRet ?_
            refine qsRet ?_
            refine qlRet ?_
            refine qbRet ?_
            refine qsRet ?_
            refine QF.ret0 trivial rfl ?_
            rw [hg, ← hI]; rfl
          · skip
            rw [if_neg (by simpa using h52)] at hI
            refine W.skip ?_
            refine qs ?_
            refine W.region ?_
            iterate 2 refine pu (ev tab rfl) rfl ?_
            refine WO.nil ?_
            refine qbN ?_
            refine qs ?_
            refine W.region ?_
            iterate 2 refine pu (ev tab rfl) rfl ?_
            refine WO.nil ?_
            refine W.endR [] ⟨(k + 1, (stepCT d cols x).1), ?_⟩ ?_ rfl ?_ ⟨rfl, rfl, rfl, rfl, rfl, rfl, trivial⟩ ?_ trivial rfl
            · exact ⟨hlt, hI, stepCT_len d cols x hfx hL⟩
            · dsimp only; omega
            · repeat' first | exact trivial | refine ⟨rfl, ?_⟩ | refine ⟨step_nat (by assumption) (by assumption), ?_⟩
            · repeat' first | exact trivial | refine ⟨rfl, ?_⟩ | refine ⟨step_nat (by assumption) (by assumption), ?_⟩
        · skip
          rw [hd] at hI
          simp only [stepsCT] at hI
          refine W.exit ?_
          refine qsExit ?_
          refine qlExit ?_
          refine qbExit ?_
          refine qs ?_
          refine W.seq ?_
          refine W.region ?_
          iterate 3 refine pu (ev tab rfl) rfl ?_
          refine WO.nil ?_
          refine qs ?_
          try refine ownNilR (d := 4) rfl rfl ?_
          refine W.ret ?_
          refine QF.ret0 trivial rfl ?_
          rw [hg, ← hI]; rfl
end Go.Proofs.Ytmhjgeneogknpaa
namespace Go.Proofs.Ytmhjgeneogknpaa
open Go.Ab Go.Tb
set_option maxRecDepth 10000
attribute [local irreducible] W WO Pu QS QB QL QF QV QV1 CH QE
theorem fewCols_fn (l : List Col) : Does Try.prog 8 [.d (.sl (l.map Col.c))] (.d (.v (.bool (fewCols l)))) 0 := by
  refine Does.of_W (n := 24) (ts := [2]) Try.func8 (by kernel_rfl) rfl Try.ntmps8 Try.results8 rfl rfl fun C hC => ?_
  refine W.seq ?_
  refine W.region ?_
  refine pu (ev tab rfl) rfl ?_
  refine WO.nil ?_
  refine qs ?_
  refine W.seq ?_
  refine W.seq ?_
  refine W.region ?_
  refine pu (ev tab rfl) rfl ?_
  refine WO.nil ?_
  refine qs ?_
  refine W.block ?_
  refine W.len (t := 0) rfl rfl (fun hlen => ?_)
  try simp only [List.length_map, Ex.kc_len] at hlen
  refine W.loopR (ι := {x : Nat // match x with | k => k ≤ l.length ∧ (l.drop k).all (fun c => decide (c.name.size ≤ 300)) = l.all (fun c => decide (c.name.size ≤ 300))})
    (fun x => match x.1 with | k => [(3, .d (.v (.int .i64 ((k : Nat) : Int))))]) [(0, _)]
    (fun x => match x.1 with | k => []) [] [] 0 (fun x => match x.1 with | k => l.length - k)
    [] ⟨0, ?_⟩ rfl ?_ ⟨rfl, rfl, trivial⟩ ?_ trivial rfl ?_
  · first | exact ⟨Nat.zero_le _, rfl⟩ | exact trivial | simp
  · repeat' first | exact trivial | refine ⟨rfl, ?_⟩ | refine ⟨step_nat (by assumption) (by assumption), ?_⟩
  · repeat' first | exact trivial | refine ⟨rfl, ?_⟩ | refine ⟨step_nat (by assumption) (by assumption), ?_⟩
  rintro ⟨k, hk, hI⟩
  show W _ _ _ _ _ ⟨[(3, .d (.v (.int .i64 ((k : Nat) : Int)))), (0, _)], [], [], 0⟩
  refine W.seq ?_
  refine W.seq ?_
  apply regionB; (case hb => rfl)
  · skip
    iterate 5 refine pu (ev tab rfl) rfl ?_
    apply splitJ; (case hj => rfl); (case hl => rfl)
    · skip
      refine goG rfl rfl ?_
      refine pu (ev tab rfl) rfl ?_
      refine goG rfl rfl ?_
      iterate 2 refine pu (ev tab rfl) rfl ?_
      refine WO.nil ?_
      refine qv1 rfl rfl rfl
    · skip
      refine skipT rfl rfl rfl rfl ?_
      refine skipT rfl rfl rfl rfl ?_
      refine pu (ev tab rfl) rfl ?_
      refine WO.nil ?_
      refine qv1 rfl rfl rfl
  refine qs ?_
  refine condK rfl (fun h11 => ?_) (fun h11 => ?_)
  · skip
    have h11' : k < l.length ∧ k ≤ 40 := by simp [List.length_map] at h11; omega
    have hlt := h11'.1
    obtain ⟨x, hx, hd⟩ := exAt hlt
    rw [hd, List.all_cons] at hI
    refine W.skip ?_
    refine qs ?_
    refine W.seq ?_
    refine W.block ?_
    refine W.seq ?_
    refine W.region ?_
    iterate 2 refine pu (ev tab rfl) rfl ?_
    refine pu (indexAddr tab rfl rfl rfl rfl rfl rfl (Int.natCast_nonneg _) (idx_map hx) rfl) rfl ?_
    refine pu (ev tab rfl) rfl ?_
    first | refine pu (ev tab rfl) rfl ?_ | refine pu (loadRow tab rfl rfl rfl rfl) rfl ?_ | refine pu (loadBox tab rfl rfl rfl rfl rfl) rfl ?_
    iterate 2 refine pu (ev tab rfl) rfl ?_
    refine WO.nil ?_
    refine qs ?_
    refine condK rfl (fun h20 => ?_) (fun h20 => ?_)
    · skip
      have h20 : decide (x.name.size ≤ 300) = false := by simp at h20 ⊢; omega
      rw [h20, Bool.false_and] at hI
      refine W.seq ?_
      refine W.region ?_
      refine pu (ev tab rfl) rfl ?_
      refine WO.nil ?_
      refine qs ?_
      refine W.ret ?_
      refine qbRet ?_
      refine qsRet ?_
      refine qlRet ?_
      refine qbRet ?_
      refine qsRet ?_
      refine QF.ret0 trivial rfl ?_
      simp only [norm, oneA, fewCols]; rw [← hI]; rfl
    · skip
      have h20 : decide (x.name.size ≤ 300) = true := by simp at h20 ⊢; omega
      rw [h20, Bool.true_and] at hI
      refine W.skip ?_
      refine qbN ?_
      refine qs ?_
      refine W.region ?_
      iterate 3 refine pu (ev tab rfl) rfl ?_
      refine WO.nil ?_
      refine W.endR [] ⟨k + 1, ?_⟩ ?_ rfl ?_ ⟨rfl, rfl, trivial⟩ ?_ trivial rfl
      · exact ⟨hlt, hI⟩
      · dsimp only; omega
      · repeat' first | exact trivial | refine ⟨rfl, ?_⟩ | refine ⟨step_nat (by assumption) (by assumption), ?_⟩
      · repeat' first | exact trivial | refine ⟨rfl, ?_⟩ | refine ⟨step_nat (by assumption) (by assumption), ?_⟩
  · skip
    have h11' : k < l.length → ¬ k ≤ 40 := by simp [List.length_map] at h11; omega
    refine W.exit ?_
    refine qsExit ?_
    refine qlExit ?_
    refine qbExit ?_
    refine qs ?_
    refine W.seq ?_
    refine W.region ?_
    iterate 4 refine pu (ev tab rfl) rfl ?_
    refine WO.nil ?_
    refine qs ?_
    refine W.ret ?_
    refine QF.ret0 trivial rfl ?_
    simp only [norm, oneA, fewCols, List.length_map]
    by_cases hk2 : k < l.length
    · have := h11' hk2
      have e1 : decide ((l.length : Int) ≤ 40) = false := by simp; omega
      have e2 : decide (l.length ≤ 40) = false := by simp; omega
      rw [e1, e2, Bool.and_false]
    · rw [List.drop_of_length_le (by omega)] at hI
      rw [← hI]
      simp
      omega

theorem fewTable_fn (t : Tbl) : Does Try.prog 24 [.ag t.c] (.d (.v (.bool (fewTable t)))) 0 := by
  refine Does.of_W (n := 50) (ts := [2]) Try.func24 (by kernel_rfl) rfl Try.ntmps24 Try.results24 rfl rfl fun C hC => ?_
  refine W.seq ?_
  refine W.region ?_
  refine boxR rfl rfl rfl ?_
  refine pu (ev tab rfl) rfl ?_
  refine WO.nil ?_
  refine qs ?_
  refine W.seq ?_
  refine W.seq ?_
  apply regionB; (case hb => rfl)
  · skip
    refine pu (ev tab rfl) rfl ?_
    first | refine pu (ev tab rfl) rfl ?_ | refine pu (loadRow tab rfl rfl rfl rfl) rfl ?_ | refine pu (loadBox tab rfl rfl rfl rfl rfl) rfl ?_
    refine pu (puCall rfl rfl rfl (fewCols_fn ..) rfl) rfl ?_
    iterate 2 refine pu (ev tab rfl) rfl ?_
    apply splitJ; (case hj => rfl); (case hl => rfl)
    · skip
      refine skipT rfl rfl rfl rfl ?_
      refine skipT rfl rfl rfl rfl ?_
      refine skipT rfl rfl rfl rfl ?_
      refine skipT rfl rfl rfl rfl ?_
      refine pu (ev tab rfl) rfl ?_
      refine WO.nil ?_
      refine qv1 rfl rfl rfl
    · skip
      refine goG rfl rfl ?_
      refine pu (ev tab rfl) rfl ?_
      refine goG rfl rfl ?_
      first | refine pu (ev tab rfl) rfl ?_ | refine pu (loadRow tab rfl rfl rfl rfl) rfl ?_ | refine pu (loadBox tab rfl rfl rfl rfl rfl) rfl ?_
      refine goG rfl rfl ?_
      refine pu (ev tab rfl) rfl ?_
      refine goG rfl rfl ?_
      iterate 2 refine pu (ev tab rfl) rfl ?_
      refine WO.nil ?_
      refine qv1 rfl rfl rfl
  refine qs ?_
  refine condK rfl (fun h14 => ?_) (fun h14 => ?_)
  · skip
    have hg : fewTable t = false := by revert h14; unfold fewTable; simp only [List.length_map]; cases fewCols t.cols <;> simp; omega
    refine W.seq ?_
    refine W.region ?_
    refine pu (ev tab rfl) rfl ?_
    refine WO.nil ?_
    refine qs ?_
    refine W.ret ?_
    refine qsRet ?_
    refine QF.ret0 trivial rfl ?_
    rw [hg]; rfl
  · skip
    have hg : fewTable t = t.rows.all fewRow := by revert h14; unfold fewTable; simp only [List.length_map]; cases fewCols t.cols <;> simp; omega
    refine W.skip ?_
    refine qs ?_
    refine W.seq ?_
    refine W.seq ?_
    refine W.region ?_
    refine pu (ev tab rfl) rfl ?_
    refine WO.nil ?_
    refine qs ?_
    refine W.block ?_
    refine lenBox (g := 0) (j := 1) rfl rfl (fun hlen => ?_)
    rw [List.length_map] at hlen
    refine W.loopR (ι := {x : Nat // match x with | k => k ≤ t.rows.length ∧ (t.rows.drop k).all fewRow = t.rows.all fewRow})
      (fun x => match x.1 with | k => [(1, .ptr 0 0), (3, .d (.v (.int .i64 ((k : Nat) : Int))))]) []
      (fun x => match x.1 with | k => []) [(0, _)] [] 1 (fun x => match x.1 with | k => t.rows.length - k)
      [0] ⟨0, ?_⟩ rfl ?_ trivial ?_ ⟨rfl, rfl, trivial⟩ rfl ?_
    · first | exact ⟨Nat.zero_le _, rfl⟩ | exact trivial | simp
    · repeat' first | exact trivial | refine ⟨rfl, ?_⟩ | refine ⟨step_nat (by assumption) (by assumption), ?_⟩
    · repeat' first | exact trivial | refine ⟨rfl, ?_⟩ | refine ⟨step_nat (by assumption) (by assumption), ?_⟩
    rintro ⟨k, hk, hI⟩
    show W _ _ _ _ _ ⟨[(1, .ptr 0 0), (3, .d (.v (.int .i64 ((k : Nat) : Int))))], [(0, _)], [], 1⟩
    refine W.seq ?_
    refine W.seq ?_
    refine W.region ?_
    iterate 2 refine pu (ev tab rfl) rfl ?_
    first | refine pu (ev tab rfl) rfl ?_ | refine pu (loadRow tab rfl rfl rfl rfl) rfl ?_ | refine pu (loadBox tab rfl rfl rfl rfl rfl) rfl ?_
    iterate 2 refine pu (ev tab rfl) rfl ?_
    refine WO.nil ?_
    refine qs ?_
    refine eachR (l := t.rows) (k := k) rfl (by simp [Ex.kc_len, bytes_len]) hk (fun r hx hd hlt => ?_) (fun he hd => ?_)
    · skip
      rw [hd, List.all_cons] at hI
      refine W.skip ?_
      refine qs ?_
      refine W.seq ?_
      refine W.block ?_
      refine W.seq ?_
      refine W.seq ?_
      refine W.region ?_
      refine pu (ev tab rfl) rfl ?_
      first | refine pu (ev tab rfl) rfl ?_ | refine pu (loadRow tab rfl rfl rfl rfl) rfl ?_ | refine pu (loadBox tab rfl rfl rfl rfl rfl) rfl ?_
      refine pu (ev tab rfl) rfl ?_
      refine pu (indexAddr tab rfl rfl rfl rfl rfl rfl (Int.natCast_nonneg _) (idx_map hx) rfl) rfl ?_
      first | refine pu (ev tab rfl) rfl ?_ | refine pu (loadRow tab rfl rfl rfl rfl) rfl ?_ | refine pu (loadBox tab rfl rfl rfl rfl rfl) rfl ?_
      iterate 2 refine pu (ev tab rfl) rfl ?_
      refine WO.nil ?_
      refine qs ?_
      refine condK rfl (fun h28 => ?_) (fun h28 => ?_)
      · skip
        have h28 : fewRow r = false := by unfold fewRow; simp at h28; simp; omega
        rw [h28, Bool.false_and] at hI
        refine W.seq ?_
        refine W.region ?_
        refine pu (ev tab rfl) rfl ?_
        refine WO.nil ?_
        refine qs ?_
        refine W.ret ?_
        refine qsRet ?_
        refine qbRet ?_
        refine qsRet ?_
        refine qlRet ?_
        refine qbRet ?_
        refine qsRet ?_
        refine QF.ret0 trivial rfl ?_
        rw [hg, ← hI]; rfl
      · skip
        have h28n : r.length ≤ 40 := by simp at h28; omega
        have h28 : fewRow r = r.all (fun v => decide (v.s.size ≤ 300)) := by unfold fewRow; simp at h28; simp; omega
        rw [h28] at hI
        have hxr := hx
        refine W.skip ?_
        refine qs ?_
        refine W.seq ?_
        skip
        refine W.region ?_
        refine pu (ev tab rfl) rfl ?_
        refine WO.nil ?_
        refine qs ?_
        refine W.block ?_
        have hrl : r.length ≤ maxLen := by simp [maxLen]; omega
        refine W.loopR (ι := {x : Nat // match x with | j => j ≤ r.length ∧ (r.drop j).all (fun v => decide (v.s.size ≤ 300)) = r.all (fun v => decide (v.s.size ≤ 300))})
          (fun x => match x.1 with | j => [(1, .ptr 0 0), (4, .d (.v (.int .i64 ((j : Nat) : Int))))]) [(3, _)]
          (fun x => match x.1 with | j => []) [(0, _)] [] 1 (fun x => match x.1 with | j => r.length - j)
          [0] ⟨0, ?_⟩ rfl ?_ ⟨rfl, rfl, trivial⟩ ?_ ⟨rfl, rfl, trivial⟩ rfl ?_
        · first | exact ⟨Nat.zero_le _, rfl⟩ | exact trivial | simp
        · repeat' first | exact trivial | refine ⟨rfl, ?_⟩ | refine ⟨step_nat (by assumption) (by assumption), ?_⟩
        · repeat' first | exact trivial | refine ⟨rfl, ?_⟩ | refine ⟨step_nat (by assumption) (by assumption), ?_⟩
        rintro ⟨j, hk, hJ⟩
        show W _ _ _ _ _ ⟨[(1, .ptr 0 0), (4, .d (.v (.int .i64 ((j : Nat) : Int)))), (3, _)], [(0, _)], [], 1⟩
        refine W.seq ?_
        refine W.seq ?_
        refine W.region ?_
        iterate 2 refine pu (ev tab rfl) rfl ?_
        first | refine pu (ev tab rfl) rfl ?_ | refine pu (loadRow tab rfl rfl rfl rfl) rfl ?_ | refine pu (loadBox tab rfl rfl rfl rfl rfl) rfl ?_
        refine pu (ev tab rfl) rfl ?_
        refine pu (indexAddr tab rfl rfl rfl rfl rfl rfl (Int.natCast_nonneg _) (idx_map hxr) rfl) rfl ?_
        first | refine pu (ev tab rfl) rfl ?_ | refine pu (loadRow tab rfl rfl rfl rfl) rfl ?_ | refine pu (loadBox tab rfl rfl rfl rfl rfl) rfl ?_
        iterate 2 refine pu (ev tab rfl) rfl ?_
        refine WO.nil ?_
        refine qs ?_
        refine eachR (l := r) (k := j) rfl (by simp [Ex.kc_len, bytes_len]) hk (fun v hx hd hlt => ?_) (fun he hd => ?_)
        · skip
          rw [hd, List.all_cons] at hJ
          refine W.skip ?_
          refine qs ?_
          refine W.seq ?_
          refine W.block ?_
          refine W.seq ?_
          refine W.region ?_
          refine pu (ev tab rfl) rfl ?_
          first | refine pu (ev tab rfl) rfl ?_ | refine pu (loadRow tab rfl rfl rfl rfl) rfl ?_ | refine pu (loadBox tab rfl rfl rfl rfl rfl) rfl ?_
          refine pu (ev tab rfl) rfl ?_
          refine pu (indexAddr tab rfl rfl rfl rfl rfl rfl (Int.natCast_nonneg _) (idx_map hxr) rfl) rfl ?_
          first | refine pu (ev tab rfl) rfl ?_ | refine pu (loadRow tab rfl rfl rfl rfl) rfl ?_ | refine pu (loadBox tab rfl rfl rfl rfl rfl) rfl ?_
          refine pu (ev tab rfl) rfl ?_
          refine pu (indexAddr tab rfl rfl rfl rfl rfl rfl (Int.natCast_nonneg _) (idx_map hx) rfl) rfl ?_
          refine pu (ev tab rfl) rfl ?_
          first | refine pu (ev tab rfl) rfl ?_ | refine pu (loadRow tab rfl rfl rfl rfl) rfl ?_ | refine pu (loadBox tab rfl rfl rfl rfl rfl) rfl ?_
          iterate 2 refine pu (ev tab rfl) rfl ?_
          refine WO.nil ?_
          refine qs ?_
          refine condK rfl (fun h49 => ?_) (fun h49 => ?_)
          · skip
            have h49 : decide (v.s.size ≤ 300) = false := by simp at h49 ⊢; omega
            rw [h49, Bool.false_and] at hJ
            rw [← hJ, Bool.false_and] at hI
            refine W.seq ?_
            refine W.region ?_
            refine pu (ev tab rfl) rfl ?_
            refine WO.nil ?_
            refine qs ?_
            refine W.ret ?_
            refine qbRet ?_
            refine qsRet ?_
            refine qlRet ?_
            refine qbRet ?_
            refine qbRet ?_
            refine qsRet ?_
            refine qlRet ?_
            refine qbRet ?_
            refine qsRet ?_
            refine QF.ret0 trivial rfl ?_
            rw [hg, ← hI]; rfl
          · skip
            have h49 : decide (v.s.size ≤ 300) = true := by simp at h49 ⊢; omega
            rw [h49, Bool.true_and] at hJ
            refine W.skip ?_
            refine qbN ?_
            refine qs ?_
            refine W.region ?_
            iterate 3 refine pu (ev tab rfl) rfl ?_
            refine WO.nil ?_
            refine W.endR [0] ⟨j + 1, ?_⟩ ?_ rfl ?_ ⟨rfl, rfl, trivial⟩ ?_ ⟨rfl, rfl, trivial⟩ rfl
            · exact ⟨hlt, hJ⟩
            · dsimp only; omega
            · repeat' first | exact trivial | refine ⟨rfl, ?_⟩ | refine ⟨step_nat (by assumption) (by assumption), ?_⟩
            · repeat' first | exact trivial | refine ⟨rfl, ?_⟩ | refine ⟨step_nat (by assumption) (by assumption), ?_⟩
        · skip
          rw [hd, List.all_nil] at hJ
          rw [← hJ, Bool.true_and] at hI
          refine W.exit ?_
          refine qsExit ?_
          refine qlExit ?_
          refine qbExit ?_
          refine qbN ?_
          refine qs ?_
          refine W.region ?_
          iterate 3 refine pu (ev tab rfl) rfl ?_
          refine WO.nil ?_
          refine W.endR [0] ⟨k + 1, ?_⟩ ?_ rfl ?_ trivial ?_ ⟨rfl, rfl, trivial⟩ rfl
          · exact ⟨hlt, hI⟩
          · dsimp only; omega
          · repeat' first | exact trivial | refine ⟨rfl, ?_⟩ | refine ⟨step_nat (by assumption) (by assumption), ?_⟩
          · repeat' first | exact trivial | refine ⟨rfl, ?_⟩ | refine ⟨step_nat (by assumption) (by assumption), ?_⟩
    · skip
      rw [hd, List.all_nil] at hI
      refine W.exit ?_
      refine qsExit ?_
      refine qlExit ?_
      refine qbExit ?_
      refine qs ?_
      refine W.seq ?_
      refine W.region ?_
      refine pu (ev tab rfl) rfl ?_
      refine WO.nil ?_
      refine qs ?_
      refine W.ret ?_
      refine QF.ret0 trivial rfl ?_
      rw [hg, ← hI]; rfl

theorem fewData_fn (d : List Nmd) : Does Try.prog 13 [.d (.sl (d.map Nmd.c))] (.d (.v (.bool (fewData d)))) 0 := by
  refine Does.of_W (n := 29) (ts := [2]) Try.func13 (by kernel_rfl) rfl Try.ntmps13 Try.results13 rfl rfl fun C hC => ?_
  refine W.seq ?_
  refine W.region ?_
  refine pu (ev tab rfl) rfl ?_
  refine WO.nil ?_
  refine qs ?_
  refine W.seq ?_
  refine W.seq ?_
  refine W.region ?_
  iterate 3 refine pu (ev tab rfl) rfl ?_
  refine WO.nil ?_
  refine qs ?_
  refine condK rfl (fun h6 => ?_) (fun h6 => ?_)
  · skip
    have hg : fewData d = false := by unfold fewData; simp at h6; simp; omega
    refine W.seq ?_
    refine W.region ?_
    refine pu (ev tab rfl) rfl ?_
    refine WO.nil ?_
    refine qs ?_
    refine W.ret ?_
    refine qsRet ?_
    refine QF.ret0 trivial rfl ?_
    rw [hg]; rfl
  · skip
    have hg : fewData d = d.all fewNmd := by unfold fewData; simp at h6; simp; omega
    refine W.skip ?_
    refine qs ?_
    refine W.seq ?_
    refine W.seq ?_
    refine W.region ?_
    refine pu (ev tab rfl) rfl ?_
    refine WO.nil ?_
    refine qs ?_
    refine W.block ?_
    refine W.len (t := 0) rfl rfl (fun hlen => ?_)
    try simp only [List.length_map, Ex.kc_len] at hlen
    refine W.loopR (ι := {x : Nat // match x with | k => k ≤ d.length ∧ (d.drop k).all fewNmd = d.all fewNmd})
      (fun x => match x.1 with | k => [(3, .d (.v (.int .i64 ((k : Nat) : Int))))]) [(0, _)]
      (fun x => match x.1 with | k => []) [] [] 0 (fun x => match x.1 with | k => d.length - k)
      [] ⟨0, ?_⟩ rfl ?_ ⟨rfl, rfl, trivial⟩ ?_ trivial rfl ?_
    · first | exact ⟨Nat.zero_le _, rfl⟩ | exact trivial | simp
    · repeat' first | exact trivial | refine ⟨rfl, ?_⟩ | refine ⟨step_nat (by assumption) (by assumption), ?_⟩
    · repeat' first | exact trivial | refine ⟨rfl, ?_⟩ | refine ⟨step_nat (by assumption) (by assumption), ?_⟩
    rintro ⟨k, hk, hI⟩
    show W _ _ _ _ _ ⟨[(3, .d (.v (.int .i64 ((k : Nat) : Int)))), (0, _)], [], [], 0⟩
    refine W.seq ?_
    refine W.seq ?_
    refine W.region ?_
    iterate 4 refine pu (ev tab rfl) rfl ?_
    refine WO.nil ?_
    refine qs ?_
    refine eachR (l := d) (k := k) rfl (by simp [Ex.kc_len, bytes_len]) hk (fun x hx hd hlt => ?_) (fun he hd => ?_)
    · skip
      rw [hd, List.all_cons] at hI
      refine W.skip ?_
      refine qs ?_
      refine W.seq ?_
      refine W.block ?_
      refine W.seq ?_
      apply regionB; (case hb => rfl)
      · skip
        iterate 2 refine pu (ev tab rfl) rfl ?_
        refine pu (indexAddr tab rfl rfl rfl rfl rfl rfl (Int.natCast_nonneg _) (idx_map hx) rfl) rfl ?_
        refine pu (ev tab rfl) rfl ?_
        first | refine pu (ev tab rfl) rfl ?_ | refine pu (loadRow tab rfl rfl rfl rfl) rfl ?_ | refine pu (loadBox tab rfl rfl rfl rfl rfl) rfl ?_
        iterate 3 refine pu (ev tab rfl) rfl ?_
        apply splitJ; (case hj => rfl); (case hl => rfl)
        · skip
          refine skipT rfl rfl rfl rfl ?_
          refine skipT rfl rfl rfl rfl ?_
          refine skipT rfl rfl rfl rfl ?_
          refine skipT rfl rfl rfl rfl ?_
          refine skipT rfl rfl rfl rfl ?_
          refine skipT rfl rfl rfl rfl ?_
          refine skipT rfl rfl rfl rfl ?_
          refine pu (ev tab rfl) rfl ?_
          refine WO.nil ?_
          refine qv1 rfl rfl rfl
        · skip
          refine goG rfl rfl ?_
          refine pu (ev tab rfl) rfl ?_
          refine goG rfl rfl ?_
          refine pu (ev tab rfl) rfl ?_
          refine goG rfl rfl ?_
          refine pu (indexAddr tab rfl rfl rfl rfl rfl rfl (Int.natCast_nonneg _) (idx_map hx) rfl) rfl ?_
          refine goG rfl rfl ?_
          refine pu (ev tab rfl) rfl ?_
          refine goG rfl rfl ?_
          first | refine pu (ev tab rfl) rfl ?_ | refine pu (loadRow tab rfl rfl rfl rfl) rfl ?_ | refine pu (loadBox tab rfl rfl rfl rfl rfl) rfl ?_
          refine goG rfl rfl ?_
          refine pu (puCall rfl rfl rfl (fewTable_fn x.table) rfl) rfl ?_
          refine goG rfl rfl ?_
          iterate 2 refine pu (ev tab rfl) rfl ?_
          refine WO.nil ?_
          refine qv1 rfl rfl rfl
      refine qs ?_
      refine condK rfl (fun h28 => ?_) (fun h28 => ?_)
      · skip
        have h28 : fewNmd x = false := by revert h28; unfold fewNmd; cases fewTable x.table <;> simp; omega
        rw [h28, Bool.false_and] at hI
        refine W.seq ?_
        refine W.region ?_
        refine pu (ev tab rfl) rfl ?_
        refine WO.nil ?_
        refine qs ?_
        refine W.ret ?_
        refine qbRet ?_
        refine qsRet ?_
        refine qlRet ?_
        refine qbRet ?_
        refine qsRet ?_
        refine QF.ret0 trivial rfl ?_
        rw [hg, ← hI]; rfl
      · skip
        have h28 : fewNmd x = true := by revert h28; unfold fewNmd; cases fewTable x.table <;> simp; omega
        rw [h28, Bool.true_and] at hI
        refine W.skip ?_
        refine qbN ?_
        refine qs ?_
        refine W.region ?_
        iterate 3 refine pu (ev tab rfl) rfl ?_
        refine WO.nil ?_
        refine W.endR [] ⟨k + 1, ?_⟩ ?_ rfl ?_ ⟨rfl, rfl, trivial⟩ ?_ trivial rfl
        · exact ⟨hlt, hI⟩
        · dsimp only; omega
        · repeat' first | exact trivial | refine ⟨rfl, ?_⟩ | refine ⟨step_nat (by assumption) (by assumption), ?_⟩
        · repeat' first | exact trivial | refine ⟨rfl, ?_⟩ | refine ⟨step_nat (by assumption) (by assumption), ?_⟩
    · skip
      rw [hd, List.all_nil] at hI
      refine W.exit ?_
      refine qsExit ?_
      refine qlExit ?_
      refine qbExit ?_
      refine qs ?_
      refine W.seq ?_
      refine W.region ?_
      refine pu (ev tab rfl) rfl ?_
      refine WO.nil ?_
      refine qs ?_
      refine W.ret ?_
      refine QF.ret0 trivial rfl ?_
      rw [hg, ← hI]; rfl

theorem same_fn (a b : List Col) : Does Try.prog 18 [.d (.sl (a.map Col.c)), .d (.sl (b.map Col.c))] (.d (.v (.bool (decide (a = b))))) 0 := by
  refine Does.of_W (n := 26) (ts := [4]) Try.func18 (by kernel_rfl) rfl Try.ntmps18 Try.results18 rfl rfl fun C hC => ?_
  refine W.seq ?_
  refine W.region ?_
  refine pu (ev tab rfl) rfl ?_
  refine WO.nil ?_
  refine qs ?_
  refine W.seq ?_
  refine W.seq ?_
  refine W.region ?_
  iterate 5 refine pu (ev tab rfl) rfl ?_
  refine WO.nil ?_
  refine qs ?_
  refine condK rfl (fun h10 => ?_) (fun h10 => ?_)
  · skip
    have hg : decide (a = b) = false := by simp at h10 ⊢; rintro rfl; simp at h10
    refine W.seq ?_
    refine W.region ?_
    refine pu (ev tab rfl) rfl ?_
    refine WO.nil ?_
    refine qs ?_
    refine W.ret ?_
    refine qsRet ?_
    refine QF.ret0 trivial rfl ?_
    rw [hg]; rfl
  · skip
    have hl : a.length = b.length := by simp at h10; omega
    refine W.skip ?_
    refine qs ?_
    refine W.seq ?_
    refine W.seq ?_
    refine W.region ?_
    refine pu (ev tab rfl) rfl ?_
    refine WO.nil ?_
    refine qs ?_
    refine W.block ?_
    refine W.len (t := 0) rfl rfl (fun hlen => ?_)
    try simp only [List.length_map, Ex.kc_len] at hlen
    refine W.loopR (ι := {x : Nat // match x with | k => k ≤ a.length ∧ decide (a.drop k = b.drop k) = decide (a = b)})
      (fun x => match x.1 with | k => [(5, .d (.v (.int .i64 ((k : Nat) : Int))))]) [(0, _), (1, _)]
      (fun x => match x.1 with | k => []) [] [] 0 (fun x => match x.1 with | k => a.length - k)
      [] ⟨0, ?_⟩ rfl ?_ ⟨rfl, rfl, rfl, rfl, trivial⟩ ?_ trivial rfl ?_
    · first | exact ⟨Nat.zero_le _, rfl⟩ | exact trivial | simp
    · repeat' first | exact trivial | refine ⟨rfl, ?_⟩ | refine ⟨step_nat (by assumption) (by assumption), ?_⟩
    · repeat' first | exact trivial | refine ⟨rfl, ?_⟩ | refine ⟨step_nat (by assumption) (by assumption), ?_⟩
    rintro ⟨k, hk, hI⟩
    show W _ _ _ _ _ ⟨[(5, .d (.v (.int .i64 ((k : Nat) : Int)))), (0, _), (1, _)], [], [], 0⟩
    refine W.seq ?_
    refine W.seq ?_
    refine W.region ?_
    iterate 4 refine pu (ev tab rfl) rfl ?_
    refine WO.nil ?_
    refine qs ?_
    refine eachR (l := a) (k := k) rfl (by simp [Ex.kc_len, bytes_len]) hk (fun x hx hd hlt => ?_) (fun he hd => ?_)
    · skip
      obtain ⟨y, hy, hyd⟩ := exAt (l := b) (k := k) (by omega)
      rw [hd, hyd] at hI
      refine W.skip ?_
      refine qs ?_
      refine W.seq ?_
      refine W.block ?_
      refine W.seq ?_
      refine W.regionD tab (by kernel_rfl) ?_
      refine chPu (ev tab rfl) rfl ?_
      refine chPu (ev tab rfl) rfl ?_
      refine chPu (indexAddr tab rfl rfl rfl rfl rfl rfl (Int.natCast_nonneg _) (idx_map hx) rfl) rfl ?_
      first | refine chPu (ev tab rfl) rfl ?_ | refine chPu (loadRow tab rfl rfl rfl rfl) rfl ?_ | refine chPu (loadBox tab rfl rfl rfl rfl rfl) rfl ?_
      refine chPu (ev tab rfl) rfl ?_
      refine chPu (ev tab rfl) rfl ?_
      refine chPu (indexAddr tab rfl rfl rfl rfl rfl rfl (Int.natCast_nonneg _) (idx_map hy) rfl) rfl ?_
      first | refine chPu (ev tab rfl) rfl ?_ | refine chPu (loadRow tab rfl rfl rfl rfl) rfl ?_ | refine chPu (loadBox tab rfl rfl rfl rfl rfl) rfl ?_
      refine chPu (ev tab rfl) rfl ?_
      refine CH.nil ?_
      refine qs ?_
      refine condK rfl (fun h25 => ?_) (fun h25 => ?_)
      · skip
        have hxy : x ≠ y := by rintro rfl; simp at h25
        have hg : decide (a = b) = false := by rw [← hI]; simp [hxy]
        refine W.seq ?_
        refine W.region ?_
        refine pu (ev tab rfl) rfl ?_
        refine WO.nil ?_
        refine qs ?_
        refine W.ret ?_
        refine qbRet ?_
        refine qsRet ?_
        refine qlRet ?_
        refine qbRet ?_
        refine qsRet ?_
        refine QF.ret0 trivial rfl ?_
        rw [hg]; rfl
      · skip
        have hxy : x = y := by cases x; cases y; simp_all
        refine W.skip ?_
        refine qbN ?_
        refine qs ?_
        refine W.region ?_
        iterate 3 refine pu (ev tab rfl) rfl ?_
        refine WO.nil ?_
        refine W.endR [] ⟨k + 1, ?_⟩ ?_ rfl ?_ ⟨rfl, rfl, rfl, rfl, trivial⟩ ?_ trivial rfl
        · refine ⟨hlt, ?_⟩
          rw [← hI, hxy]
          simp
        · dsimp only; omega
        · repeat' first | exact trivial | refine ⟨rfl, ?_⟩ | refine ⟨step_nat (by assumption) (by assumption), ?_⟩
        · repeat' first | exact trivial | refine ⟨rfl, ?_⟩ | refine ⟨step_nat (by assumption) (by assumption), ?_⟩
    · skip
      rw [hd, dropEnd (l := b) (by omega)] at hI
      refine W.exit ?_
      refine qsExit ?_
      refine qlExit ?_
      refine qbExit ?_
      refine qs ?_
      refine W.seq ?_
      refine W.region ?_
      refine pu (ev tab rfl) rfl ?_
      refine WO.nil ?_
      refine qs ?_
      refine W.ret ?_
      refine QF.ret0 trivial rfl ?_
      rw [← hI]; rfl
end Go.Proofs.Ytmhjgeneogknpaa
namespace Go.Proofs.Ytmhjgeneogknpaa
open Go.Ab Go.Tb
set_option maxRecDepth 10000
attribute [local irreducible] W WO Pu QS QB QL QF QV QV1 CH QE
theorem fewStep_fn (s : Stp) : Does Try.prog 14 [.ag s.c] (.d (.v (.bool (fewStep s)))) 0 := by
  refine Does.of_W (n := 104) (ts := [2]) Try.func14 (by kernel_rfl) rfl Try.ntmps14 Try.results14 rfl rfl fun C hC => ?_
  refine W.seq ?_
  refine W.region ?_
  refine boxR rfl rfl rfl ?_
  refine pu (ev tab rfl) rfl ?_
  refine WO.nil ?_
  refine qs ?_
  refine W.seq ?_
  refine W.seq ?_
  refine lenBox (g := 0) (j := 7) rfl rfl (fun hl1 => ?_)
  refine lenBox (g := 0) (j := 8) rfl rfl (fun hl2 => ?_)
  refine lenBox (g := 0) (j := 9) rfl rfl (fun hl3 => ?_)
  simp only [List.length_map] at hl1 hl2 hl3
  apply regionB; (case hb => rfl)
  · skip
    refine pu (ev tab rfl) rfl ?_
    first | refine pu (ev tab rfl) rfl ?_ | refine pu (loadRow tab rfl rfl rfl rfl) rfl ?_ | refine pu (loadBox tab rfl rfl rfl rfl rfl) rfl ?_
    refine pu (puCall rfl rfl rfl (small_fn s.cond) rfl) rfl ?_
    iterate 2 refine pu (ev tab rfl) rfl ?_
    apply splitJ; (case hj => rfl); (case hl => rfl)
    · skip
      refine skipT rfl rfl rfl rfl ?_
      refine skipT rfl rfl rfl rfl ?_
      refine skipT rfl rfl rfl rfl ?_
      refine skipT rfl rfl rfl rfl ?_
      iterate 2 refine pu (ev tab rfl) rfl ?_
      refine skipT rfl rfl rfl rfl ?_
      refine skipT rfl rfl rfl rfl ?_
      refine skipT rfl rfl rfl rfl ?_
      refine skipT rfl rfl rfl rfl ?_
      iterate 2 refine pu (ev tab rfl) rfl ?_
      refine skipT rfl rfl rfl rfl ?_
      refine skipT rfl rfl rfl rfl ?_
      refine skipT rfl rfl rfl rfl ?_
      refine skipT rfl rfl rfl rfl ?_
      iterate 2 refine pu (ev tab rfl) rfl ?_
      refine skipT rfl rfl rfl rfl ?_
      refine skipT rfl rfl rfl rfl ?_
      refine skipT rfl rfl rfl rfl ?_
      refine skipT rfl rfl rfl rfl ?_
      iterate 2 refine pu (ev tab rfl) rfl ?_
      refine skipT rfl rfl rfl rfl ?_
      refine skipT rfl rfl rfl rfl ?_
      refine skipT rfl rfl rfl rfl ?_
      refine skipT rfl rfl rfl rfl ?_
      refine pu (ev tab rfl) rfl ?_
      refine WO.nil ?_
      refine qv1 rfl rfl rfl
    · skip
      refine goG rfl rfl ?_
      refine pu (ev tab rfl) rfl ?_
      refine goG rfl rfl ?_
      first | refine pu (ev tab rfl) rfl ?_ | refine pu (loadRow tab rfl rfl rfl rfl) rfl ?_ | refine pu (loadBox tab rfl rfl rfl rfl rfl) rfl ?_
      refine goG rfl rfl ?_
      refine pu (ev tab rfl) rfl ?_
      refine goG rfl rfl ?_
      iterate 3 refine pu (ev tab rfl) rfl ?_
      apply splitJ; (case hj => rfl); (case hl => rfl)
      · skip
        refine skipT rfl rfl rfl rfl ?_
        refine skipT rfl rfl rfl rfl ?_
        refine skipT rfl rfl rfl rfl ?_
        refine skipT rfl rfl rfl rfl ?_
        iterate 2 refine pu (ev tab rfl) rfl ?_
        refine skipT rfl rfl rfl rfl ?_
        refine skipT rfl rfl rfl rfl ?_
        refine skipT rfl rfl rfl rfl ?_
        refine skipT rfl rfl rfl rfl ?_
        iterate 2 refine pu (ev tab rfl) rfl ?_
        refine skipT rfl rfl rfl rfl ?_
        refine skipT rfl rfl rfl rfl ?_
        refine skipT rfl rfl rfl rfl ?_
        refine skipT rfl rfl rfl rfl ?_
        iterate 2 refine pu (ev tab rfl) rfl ?_
        refine skipT rfl rfl rfl rfl ?_
        refine skipT rfl rfl rfl rfl ?_
        refine skipT rfl rfl rfl rfl ?_
        refine skipT rfl rfl rfl rfl ?_
        refine pu (ev tab rfl) rfl ?_
        refine WO.nil ?_
        refine qv1 rfl rfl rfl
      · skip
        refine goG rfl rfl ?_
        refine pu (ev tab rfl) rfl ?_
        refine goG rfl rfl ?_
        first | refine pu (ev tab rfl) rfl ?_ | refine pu (loadRow tab rfl rfl rfl rfl) rfl ?_ | refine pu (loadBox tab rfl rfl rfl rfl rfl) rfl ?_
        refine goG rfl rfl ?_
        refine pu (ev tab rfl) rfl ?_
        refine goG rfl rfl ?_
        iterate 3 refine pu (ev tab rfl) rfl ?_
        apply splitJ; (case hj => rfl); (case hl => rfl)
        · skip
          refine skipT rfl rfl rfl rfl ?_
          refine skipT rfl rfl rfl rfl ?_
          refine skipT rfl rfl rfl rfl ?_
          refine skipT rfl rfl rfl rfl ?_
          iterate 2 refine pu (ev tab rfl) rfl ?_
          refine skipT rfl rfl rfl rfl ?_
          refine skipT rfl rfl rfl rfl ?_
          refine skipT rfl rfl rfl rfl ?_
          refine skipT rfl rfl rfl rfl ?_
          iterate 2 refine pu (ev tab rfl) rfl ?_
          refine skipT rfl rfl rfl rfl ?_
          refine skipT rfl rfl rfl rfl ?_
          refine skipT rfl rfl rfl rfl ?_
          refine skipT rfl rfl rfl rfl ?_
          refine pu (ev tab rfl) rfl ?_
          refine WO.nil ?_
          refine qv1 rfl rfl rfl
        · skip
          refine goG rfl rfl ?_
          refine pu (ev tab rfl) rfl ?_
          refine goG rfl rfl ?_
          first | refine pu (ev tab rfl) rfl ?_ | refine pu (loadRow tab rfl rfl rfl rfl) rfl ?_ | refine pu (loadBox tab rfl rfl rfl rfl rfl) rfl ?_
          refine goG rfl rfl ?_
          refine pu (ev tab rfl) rfl ?_
          refine goG rfl rfl ?_
          iterate 3 refine pu (ev tab rfl) rfl ?_
          apply splitJ; (case hj => rfl); (case hl => rfl)
          · skip
            refine skipT rfl rfl rfl rfl ?_
            refine skipT rfl rfl rfl rfl ?_
            refine skipT rfl rfl rfl rfl ?_
            refine skipT rfl rfl rfl rfl ?_
            iterate 2 refine pu (ev tab rfl) rfl ?_
            refine skipT rfl rfl rfl rfl ?_
            refine skipT rfl rfl rfl rfl ?_
            refine skipT rfl rfl rfl rfl ?_
            refine skipT rfl rfl rfl rfl ?_
            refine pu (ev tab rfl) rfl ?_
            refine WO.nil ?_
            refine qv1 rfl rfl rfl
          · skip
            refine goG rfl rfl ?_
            refine pu (ev tab rfl) rfl ?_
            refine goG rfl rfl ?_
            first | refine pu (ev tab rfl) rfl ?_ | refine pu (loadRow tab rfl rfl rfl rfl) rfl ?_ | refine pu (loadBox tab rfl rfl rfl rfl rfl) rfl ?_
            refine goG rfl rfl ?_
            refine pu (ev tab rfl) rfl ?_
            refine goG rfl rfl ?_
            iterate 3 refine pu (ev tab rfl) rfl ?_
            apply splitJ; (case hj => rfl); (case hl => rfl)
            · skip
              refine skipT rfl rfl rfl rfl ?_
              refine skipT rfl rfl rfl rfl ?_
              refine skipT rfl rfl rfl rfl ?_
              refine skipT rfl rfl rfl rfl ?_
              refine pu (ev tab rfl) rfl ?_
              refine WO.nil ?_
              refine qv1 rfl rfl rfl
            · skip
              refine goG rfl rfl ?_
              refine pu (ev tab rfl) rfl ?_
              refine goG rfl rfl ?_
              first | refine pu (ev tab rfl) rfl ?_ | refine pu (loadRow tab rfl rfl rfl rfl) rfl ?_ | refine pu (loadBox tab rfl rfl rfl rfl rfl) rfl ?_
              refine goG rfl rfl ?_
              refine pu (ev tab rfl) rfl ?_
              refine goG rfl rfl ?_
              iterate 2 refine pu (ev tab rfl) rfl ?_
              refine WO.nil ?_
              refine qv1 rfl rfl rfl
  refine qs ?_
  refine condK rfl (fun h39 => ?_) (fun h39 => ?_)
  · skip
    have hg : fewStep s = false := by
      revert h39; unfold fewStep; simp only [List.length_map]
      by_cases q1 : s.items.length ≤ 30 <;> by_cases q2 : s.cols.length ≤ 30 <;> by_cases q3 : s.aggs.length ≤ 30 <;> by_cases q4 : s.sorts.length ≤ 30 <;> by_cases q5 : s.table.size ≤ 300 <;> cases small s.cond <;> simp [q1, q2, q3, q4, q5] <;> omega
    refine W.seq ?_
    refine W.region ?_
    refine pu (ev tab rfl) rfl ?_
    refine WO.nil ?_
    refine qs ?_
    refine W.ret ?_
    refine qsRet ?_
    refine QF.ret0 trivial rfl ?_
    rw [hg]; rfl
  · skip
    have hg : fewStep s = (s.items.all fewItm && s.cols.all fewTxt && s.aggs.all fewAgr) := by
      revert h39; unfold fewStep; simp only [List.length_map]
      by_cases q1 : s.items.length ≤ 30 <;> by_cases q2 : s.cols.length ≤ 30 <;> by_cases q3 : s.aggs.length ≤ 30 <;> by_cases q4 : s.sorts.length ≤ 30 <;> by_cases q5 : s.table.size ≤ 300 <;> cases small s.cond <;> simp [q1, q2, q3, q4, q5] <;> omega
    refine W.skip ?_
    refine qs ?_
    refine W.seq ?_
    refine W.seq ?_
    refine W.region ?_
    refine pu (ev tab rfl) rfl ?_
    refine WO.nil ?_
    refine qs ?_
    refine W.block ?_
    have hlen := hl1
    refine W.loopR (ι := {x : Nat // match x with | k => k ≤ s.items.length ∧ (s.items.drop k).all fewItm = s.items.all fewItm})
      (fun x => match x.1 with | k => [(1, .ptr 0 0), (3, .d (.v (.int .i64 ((k : Nat) : Int))))]) []
      (fun x => match x.1 with | k => []) [(0, _)] [] 1 (fun x => match x.1 with | k => s.items.length - k)
      [0] ⟨0, ?_⟩ rfl ?_ trivial ?_ ⟨rfl, rfl, trivial⟩ rfl ?_
    · first | exact ⟨Nat.zero_le _, rfl⟩ | exact trivial | simp
    · repeat' first | exact trivial | refine ⟨rfl, ?_⟩ | refine ⟨step_nat (by assumption) (by assumption), ?_⟩
    · repeat' first | exact trivial | refine ⟨rfl, ?_⟩ | refine ⟨step_nat (by assumption) (by assumption), ?_⟩
    rintro ⟨k, hk, hI⟩
    show W _ _ _ _ _ ⟨[(1, .ptr 0 0), (3, .d (.v (.int .i64 ((k : Nat) : Int))))], [(0, _)], [], 1⟩
    refine W.seq ?_
    refine W.seq ?_
    refine W.region ?_
    iterate 2 refine pu (ev tab rfl) rfl ?_
    first | refine pu (ev tab rfl) rfl ?_ | refine pu (loadRow tab rfl rfl rfl rfl) rfl ?_ | refine pu (loadBox tab rfl rfl rfl rfl rfl) rfl ?_
    iterate 2 refine pu (ev tab rfl) rfl ?_
    refine WO.nil ?_
    refine qs ?_
    refine eachR (l := s.items) (k := k) rfl (by simp [Ex.kc_len, bytes_len]) hk (fun x hx hd hlt => ?_) (fun he hd => ?_)
    · skip
      rw [hd, List.all_cons] at hI
      refine W.skip ?_
      refine qs ?_
      refine W.seq ?_
      refine W.block ?_
      refine W.seq ?_
      apply regionB; (case hb => rfl)
      · skip
        refine pu (ev tab rfl) rfl ?_
        first | refine pu (ev tab rfl) rfl ?_ | refine pu (loadRow tab rfl rfl rfl rfl) rfl ?_ | refine pu (loadBox tab rfl rfl rfl rfl rfl) rfl ?_
        refine pu (ev tab rfl) rfl ?_
        refine pu (indexAddr tab rfl rfl rfl rfl rfl rfl (Int.natCast_nonneg _) (idx_map hx) rfl) rfl ?_
        refine pu (ev tab rfl) rfl ?_
        first | refine pu (ev tab rfl) rfl ?_ | refine pu (loadRow tab rfl rfl rfl rfl) rfl ?_ | refine pu (loadBox tab rfl rfl rfl rfl rfl) rfl ?_
        refine pu (puCall rfl rfl rfl (small_fn x.e) rfl) rfl ?_
        iterate 2 refine pu (ev tab rfl) rfl ?_
        apply splitJ; (case hj => rfl); (case hl => rfl)
        · skip
          refine skipT rfl rfl rfl rfl ?_
          refine skipT rfl rfl rfl rfl ?_
          refine skipT rfl rfl rfl rfl ?_
          refine skipT rfl rfl rfl rfl ?_
          refine skipT rfl rfl rfl rfl ?_
          refine skipT rfl rfl rfl rfl ?_
          refine skipT rfl rfl rfl rfl ?_
          refine skipT rfl rfl rfl rfl ?_
          refine pu (ev tab rfl) rfl ?_
          refine WO.nil ?_
          refine qv1 rfl rfl rfl
        · skip
          refine goG rfl rfl ?_
          refine pu (ev tab rfl) rfl ?_
          refine goG rfl rfl ?_
          first | refine pu (ev tab rfl) rfl ?_ | refine pu (loadRow tab rfl rfl rfl rfl) rfl ?_ | refine pu (loadBox tab rfl rfl rfl rfl rfl) rfl ?_
          refine goG rfl rfl ?_
          refine pu (ev tab rfl) rfl ?_
          refine goG rfl rfl ?_
          refine pu (indexAddr tab rfl rfl rfl rfl rfl rfl (Int.natCast_nonneg _) (idx_map hx) rfl) rfl ?_
          refine goG rfl rfl ?_
          refine pu (ev tab rfl) rfl ?_
          refine goG rfl rfl ?_
          first | refine pu (ev tab rfl) rfl ?_ | refine pu (loadRow tab rfl rfl rfl rfl) rfl ?_ | refine pu (loadBox tab rfl rfl rfl rfl rfl) rfl ?_
          refine goG rfl rfl ?_
          refine pu (ev tab rfl) rfl ?_
          refine goG rfl rfl ?_
          iterate 2 refine pu (ev tab rfl) rfl ?_
          refine WO.nil ?_
          refine qv1 rfl rfl rfl
      refine qs ?_
      refine condK rfl (fun h64 => ?_) (fun h64 => ?_)
      · skip
        have h64 : fewItm x = false := by revert h64; unfold fewItm; cases small x.e <;> simp; omega
        rw [h64, Bool.false_and] at hI
        rw [← hI, Bool.false_and, Bool.false_and] at hg
        refine W.seq ?_
        refine W.region ?_
        refine pu (ev tab rfl) rfl ?_
        refine WO.nil ?_
        refine qs ?_
        refine W.ret ?_
        refine qbRet ?_
        refine qsRet ?_
        refine qlRet ?_
        refine qbRet ?_
        refine qsRet ?_
        refine QF.ret0 trivial rfl ?_
        rw [hg]; rfl
      · skip
        have h64 : fewItm x = true := by revert h64; unfold fewItm; cases small x.e <;> simp; omega
        rw [h64, Bool.true_and] at hI
        refine W.skip ?_
        refine qbN ?_
        refine qs ?_
        refine W.region ?_
        iterate 3 refine pu (ev tab rfl) rfl ?_
        refine WO.nil ?_
        refine W.endR [0] ⟨k + 1, ?_⟩ ?_ rfl ?_ trivial ?_ ⟨rfl, rfl, trivial⟩ rfl
        · exact ⟨hlt, hI⟩
        · dsimp only; omega
        · repeat' first | exact trivial | refine ⟨rfl, ?_⟩ | refine ⟨step_nat (by assumption) (by assumption), ?_⟩
        · repeat' first | exact trivial | refine ⟨rfl, ?_⟩ | refine ⟨step_nat (by assumption) (by assumption), ?_⟩
    · skip
      rw [hd, List.all_nil] at hI
      rw [← hI, Bool.true_and] at hg
      refine W.exit ?_
      refine qsExit ?_
      refine qlExit ?_
      refine qbExit ?_
      refine qs ?_
      refine W.seq ?_
      refine W.seq ?_
      refine W.region ?_
      refine pu (ev tab rfl) rfl ?_
      refine WO.nil ?_
      refine qs ?_
      refine W.block ?_
      have hlen := hl2
      refine W.loopR (ι := {x : Nat // match x with | k => k ≤ s.cols.length ∧ (s.cols.drop k).all fewTxt = s.cols.all fewTxt})
        (fun x => match x.1 with | k => [(1, .ptr 0 0), (4, .d (.v (.int .i64 ((k : Nat) : Int))))]) []
        (fun x => match x.1 with | k => []) [(0, _)] [] 1 (fun x => match x.1 with | k => s.cols.length - k)
        [0] ⟨0, ?_⟩ rfl ?_ trivial ?_ ⟨rfl, rfl, trivial⟩ rfl ?_
      · first | exact ⟨Nat.zero_le _, rfl⟩ | exact trivial | simp
      · repeat' first | exact trivial | refine ⟨rfl, ?_⟩ | refine ⟨step_nat (by assumption) (by assumption), ?_⟩
      · repeat' first | exact trivial | refine ⟨rfl, ?_⟩ | refine ⟨step_nat (by assumption) (by assumption), ?_⟩
      rintro ⟨k, hk, hJ⟩
      show W _ _ _ _ _ ⟨[(1, .ptr 0 0), (4, .d (.v (.int .i64 ((k : Nat) : Int))))], [(0, _)], [], 1⟩
      refine W.seq ?_
      refine W.seq ?_
      refine W.region ?_
      iterate 2 refine pu (ev tab rfl) rfl ?_
      first | refine pu (ev tab rfl) rfl ?_ | refine pu (loadRow tab rfl rfl rfl rfl) rfl ?_ | refine pu (loadBox tab rfl rfl rfl rfl rfl) rfl ?_
      iterate 2 refine pu (ev tab rfl) rfl ?_
      refine WO.nil ?_
      refine qs ?_
      refine eachR (l := s.cols) (k := k) rfl (by simp [Ex.kc_len, bytes_len]) hk (fun x hx hd hlt => ?_) (fun he hd => ?_)
      · skip
        rw [hd, List.all_cons] at hJ
        refine W.skip ?_
        refine qs ?_
        refine W.seq ?_
        refine W.block ?_
        refine W.seq ?_
        refine W.region ?_
        refine pu (ev tab rfl) rfl ?_
        first | refine pu (ev tab rfl) rfl ?_ | refine pu (loadRow tab rfl rfl rfl rfl) rfl ?_ | refine pu (loadBox tab rfl rfl rfl rfl rfl) rfl ?_
        refine pu (ev tab rfl) rfl ?_
        refine pu (indexAddr tab rfl rfl rfl rfl rfl rfl (Int.natCast_nonneg _) (idx_map hx) rfl) rfl ?_
        first | refine pu (ev tab rfl) rfl ?_ | refine pu (loadRow tab rfl rfl rfl rfl) rfl ?_ | refine pu (loadBox tab rfl rfl rfl rfl rfl) rfl ?_
        iterate 2 refine pu (ev tab rfl) rfl ?_
        refine WO.nil ?_
        refine qs ?_
        refine condK rfl (fun h78 => ?_) (fun h78 => ?_)
        · skip
          have h78 : fewTxt x = false := by unfold fewTxt; simp at h78 ⊢; omega
          rw [h78, Bool.false_and] at hJ
          rw [← hJ, Bool.false_and] at hg
          refine W.seq ?_
          refine W.region ?_
          refine pu (ev tab rfl) rfl ?_
          refine WO.nil ?_
          refine qs ?_
          refine W.ret ?_
          refine qbRet ?_
          refine qsRet ?_
          refine qlRet ?_
          refine qbRet ?_
          refine qsRet ?_
          refine QF.ret0 trivial rfl ?_
          rw [hg]; rfl
        · skip
          have h78 : fewTxt x = true := by unfold fewTxt; simp at h78 ⊢; omega
          rw [h78, Bool.true_and] at hJ
          refine W.skip ?_
          refine qbN ?_
          refine qs ?_
          refine W.region ?_
          iterate 3 refine pu (ev tab rfl) rfl ?_
          refine WO.nil ?_
          refine W.endR [0] ⟨k + 1, ?_⟩ ?_ rfl ?_ trivial ?_ ⟨rfl, rfl, trivial⟩ rfl
          · exact ⟨hlt, hJ⟩
          · dsimp only; omega
          · repeat' first | exact trivial | refine ⟨rfl, ?_⟩ | refine ⟨step_nat (by assumption) (by assumption), ?_⟩
          · repeat' first | exact trivial | refine ⟨rfl, ?_⟩ | refine ⟨step_nat (by assumption) (by assumption), ?_⟩
      · skip
        rw [hd, List.all_nil] at hJ
        rw [← hJ, Bool.true_and] at hg
        refine W.exit ?_
        refine qsExit ?_
        refine qlExit ?_
        refine qbExit ?_
        refine qs ?_
        refine W.seq ?_
        refine W.seq ?_
        refine W.region ?_
        refine pu (ev tab rfl) rfl ?_
        refine WO.nil ?_
        refine qs ?_
        refine W.block ?_
        have hlen := hl3
        refine W.loopR (ι := {x : Nat // match x with | k => k ≤ s.aggs.length ∧ (s.aggs.drop k).all fewAgr = s.aggs.all fewAgr})
          (fun x => match x.1 with | k => [(1, .ptr 0 0), (5, .d (.v (.int .i64 ((k : Nat) : Int))))]) []
          (fun x => match x.1 with | k => []) [(0, _)] [] 1 (fun x => match x.1 with | k => s.aggs.length - k)
          [0] ⟨0, ?_⟩ rfl ?_ trivial ?_ ⟨rfl, rfl, trivial⟩ rfl ?_
        · first | exact ⟨Nat.zero_le _, rfl⟩ | exact trivial | simp
        · repeat' first | exact trivial | refine ⟨rfl, ?_⟩ | refine ⟨step_nat (by assumption) (by assumption), ?_⟩
        · repeat' first | exact trivial | refine ⟨rfl, ?_⟩ | refine ⟨step_nat (by assumption) (by assumption), ?_⟩
        rintro ⟨k, hk, hK⟩
        show W _ _ _ _ _ ⟨[(1, .ptr 0 0), (5, .d (.v (.int .i64 ((k : Nat) : Int))))], [(0, _)], [], 1⟩
        refine W.seq ?_
        refine W.seq ?_
        refine W.region ?_
        iterate 2 refine pu (ev tab rfl) rfl ?_
        first | refine pu (ev tab rfl) rfl ?_ | refine pu (loadRow tab rfl rfl rfl rfl) rfl ?_ | refine pu (loadBox tab rfl rfl rfl rfl rfl) rfl ?_
        iterate 2 refine pu (ev tab rfl) rfl ?_
        refine WO.nil ?_
        refine qs ?_
        refine eachR (l := s.aggs) (k := k) rfl (by simp [Ex.kc_len, bytes_len]) hk (fun x hx hd hlt => ?_) (fun he hd => ?_)
        · skip
          rw [hd, List.all_cons] at hK
          refine W.skip ?_
          refine qs ?_
          refine W.seq ?_
          refine W.block ?_
          refine W.seq ?_
          apply regionB; (case hb => rfl)
          · skip
            refine pu (ev tab rfl) rfl ?_
            first | refine pu (ev tab rfl) rfl ?_ | refine pu (loadRow tab rfl rfl rfl rfl) rfl ?_ | refine pu (loadBox tab rfl rfl rfl rfl rfl) rfl ?_
            refine pu (ev tab rfl) rfl ?_
            refine pu (indexAddr tab rfl rfl rfl rfl rfl rfl (Int.natCast_nonneg _) (idx_map hx) rfl) rfl ?_
            refine pu (ev tab rfl) rfl ?_
            first | refine pu (ev tab rfl) rfl ?_ | refine pu (loadRow tab rfl rfl rfl rfl) rfl ?_ | refine pu (loadBox tab rfl rfl rfl rfl rfl) rfl ?_
            iterate 3 refine pu (ev tab rfl) rfl ?_
            apply splitJ; (case hj => rfl); (case hl => rfl)
            · skip
              refine skipT rfl rfl rfl rfl ?_
              refine skipT rfl rfl rfl rfl ?_
              refine skipT rfl rfl rfl rfl ?_
              refine skipT rfl rfl rfl rfl ?_
              refine skipT rfl rfl rfl rfl ?_
              refine skipT rfl rfl rfl rfl ?_
              refine skipT rfl rfl rfl rfl ?_
              refine skipT rfl rfl rfl rfl ?_
              refine pu (ev tab rfl) rfl ?_
              refine WO.nil ?_
              refine qv1 rfl rfl rfl
            · skip
              refine goG rfl rfl ?_
              refine pu (ev tab rfl) rfl ?_
              refine goG rfl rfl ?_
              first | refine pu (ev tab rfl) rfl ?_ | refine pu (loadRow tab rfl rfl rfl rfl) rfl ?_ | refine pu (loadBox tab rfl rfl rfl rfl rfl) rfl ?_
              refine goG rfl rfl ?_
              refine pu (ev tab rfl) rfl ?_
              refine goG rfl rfl ?_
              refine pu (indexAddr tab rfl rfl rfl rfl rfl rfl (Int.natCast_nonneg _) (idx_map hx) rfl) rfl ?_
              refine goG rfl rfl ?_
              refine pu (ev tab rfl) rfl ?_
              refine goG rfl rfl ?_
              first | refine pu (ev tab rfl) rfl ?_ | refine pu (loadRow tab rfl rfl rfl rfl) rfl ?_ | refine pu (loadBox tab rfl rfl rfl rfl rfl) rfl ?_
              refine goG rfl rfl ?_
              refine pu (ev tab rfl) rfl ?_
              refine goG rfl rfl ?_
              iterate 2 refine pu (ev tab rfl) rfl ?_
              refine WO.nil ?_
              refine qv1 rfl rfl rfl
          refine qs ?_
          refine condK rfl (fun h103 => ?_) (fun h103 => ?_)
          · skip
            have h103 : fewAgr x = false := by revert h103; unfold fewAgr; by_cases q : x.col.size ≤ 300 <;> simp [q] <;> omega
            rw [h103, Bool.false_and] at hK
            rw [← hK] at hg
            refine W.seq ?_
            refine W.region ?_
            refine pu (ev tab rfl) rfl ?_
            refine WO.nil ?_
            refine qs ?_
            refine W.ret ?_
            refine qbRet ?_
            refine qsRet ?_
            refine qlRet ?_
            refine qbRet ?_
            refine qsRet ?_
            refine QF.ret0 trivial rfl ?_
            rw [hg]; rfl
          · skip
            have h103 : fewAgr x = true := by revert h103; unfold fewAgr; by_cases q : x.col.size ≤ 300 <;> simp [q] <;> omega
            rw [h103, Bool.true_and] at hK
            refine W.skip ?_
            refine qbN ?_
            refine qs ?_
            refine W.region ?_
            iterate 3 refine pu (ev tab rfl) rfl ?_
            refine WO.nil ?_
            refine W.endR [0] ⟨k + 1, ?_⟩ ?_ rfl ?_ trivial ?_ ⟨rfl, rfl, trivial⟩ rfl
            · exact ⟨hlt, hK⟩
            · dsimp only; omega
            · repeat' first | exact trivial | refine ⟨rfl, ?_⟩ | refine ⟨step_nat (by assumption) (by assumption), ?_⟩
            · repeat' first | exact trivial | refine ⟨rfl, ?_⟩ | refine ⟨step_nat (by assumption) (by assumption), ?_⟩
        · skip
          rw [hd, List.all_nil] at hK
          rw [← hK] at hg
          refine W.exit ?_
          refine qsExit ?_
          refine qlExit ?_
          refine qbExit ?_
          refine qs ?_
          refine W.seq ?_
          refine W.region ?_
          refine pu (ev tab rfl) rfl ?_
          refine WO.nil ?_
          refine qs ?_
          refine W.ret ?_
          refine QF.ret0 trivial rfl ?_
          rw [hg]; rfl
end Go.Proofs.Ytmhjgeneogknpaa
namespace Go.Proofs.Ytmhjgeneogknpaa
open Go.Ab Go.Tb
set_option maxRecDepth 10000
attribute [local irreducible] W WO Pu QS QB QL QF QV QV1 CH QE
def bK : ByteArray := B #[107]
def bZ : ByteArray := B #[122]
def bName : ByteArray := B #[110, 97, 109, 101]
def bN : ByteArray := B #[110]
def bA : ByteArray := B #[97]
def bSlices : ByteArray := B #[115, 108, 105, 99, 101, 115]
def v0 : Val := ⟨0, 0, B #[]⟩
def fieldE (s : ByteArray) : Ex := .mk 2 s v0 []
def wCols : List Col := [⟨bK, 2⟩, ⟨bName, 3⟩]
def wE1 : Ex := .mk 12 (B #[]) v0 [fieldE bK, .mk 1 (B #[]) ⟨3, 0, bA⟩ []]
def wE2 : Ex := .mk 4 (B #[]) v0 [fieldE bZ]
def wE3 : Ex := .mk 16 wMin v0 [.mk 1 (B #[]) v0 [], fieldE bK]
def e0 : Ex := .mk 0 (B #[]) v0 []
def wS1 : Stp := ⟨3, e0, [], [bName], [⟨wCount, B #[], bN⟩], [], 0, B #[]⟩
def wD : List Nmd := [⟨bSlices, ⟨wCols, []⟩⟩]
def wQ : Qry := ⟨bSlices, [wS1]⟩
def wS2 : Stp := ⟨3, e0, [], [], [⟨wSum, bName, bN⟩], [], 0, B #[]⟩
theorem w1 : exprT wCols wE1 = (0, 14) := by kernel_rfl
theorem w2 : exprT wCols wE2 = (0, 16) := by kernel_rfl
theorem w3 : exprT wCols wE3 = (2, 0) := by kernel_rfl
theorem w4 : queryCT wD wQ = ([⟨bName, 3⟩, ⟨bN, 2⟩], 0) := by kernel_rfl
theorem w5 : (stepCT [] wCols wS2).2 = 14 := by kernel_rfl

theorem field_fn (s : ByteArray) : Does Try.prog 16 [.d (.v (.string s))] (.ag [ci 2, cs s, ci 0, ci 0, cs (B #[]), .v (.slice none 0 0)]) 0 := by
  refine Does.of_V tab (n := 5) (rs := [.cell 2 29]) Try.func16 (by kernel_rfl) rfl Try.ntmps16 Try.results16 rfl fun C hC => ?_
  refine W.seq ?_
  refine W.region ?_
  refine allocR tab rfl rfl rfl ?_
  refine WO.nil ?_
  refine qs ?_
  refine W.seq ?_
  refine W.region ?_
  refine pu (ev tab rfl) rfl ?_
  refine pu (build tab rfl rfl rfl rfl) rfl ?_
  refine storeR tab rfl rfl rfl rfl rfl rfl rfl rfl ?_
  refine WO.nil ?_
  refine qs ?_
  refine W.ret ?_
  refine QV.ret0 tab trivial rfl ?_
  rfl

theorem few0 : fewS wS2 := ⟨by decide, by decide, by decide, by decide⟩
theorem few1 : ∀ s ∈ wQ.steps, fewS s := by
  intro s hs
  have : s = wS1 := by simpa [wQ] using hs
  subst this
  exact ⟨by decide, by decide, by decide, by decide⟩
theorem few2 : fewT wD := by
  intro x hx
  have : x = ⟨bSlices, ⟨wCols, []⟩⟩ := by simpa [wD] using hx
  subst this
  decide
theorem awake_fn : Does Try.prog 7 [] (.d (.v (.bool true))) 0 := by
  have a1 := texpr_fn wCols wE1
  have a2 := texpr_fn wCols wE2
  have a3 := texpr_fn wCols wE3
  have a4 := tquery_fn wD wQ few1 few2
  have a5 := tstep_fn [] wCols wS2 few0 (fun x hx => by cases hx) (by decide)
  rw [w1] at a1
  rw [w2] at a2
  rw [w3] at a3
  rw [w4] at a4
  rw [w5] at a5
  refine Does.of_W (n := 95) (ts := [0]) Try.func7 (by kernel_rfl) rfl Try.ntmps7 Try.results7 rfl rfl fun C hC => ?_
  refine W.seq ?_
  refine W.region ?_
  refine pu (ev tab rfl) rfl ?_
  refine WO.nil ?_
  refine qs ?_
  refine W.seq ?_
  refine W.region ?_
  refine pu (build tab rfl rfl rfl rfl) rfl ?_
  refine pu (build tab rfl rfl rfl rfl) rfl ?_
  refine pu (buildV tab rfl rfl rfl rfl rfl rfl rfl rfl rfl) rfl ?_
  refine pu (ev tab rfl) rfl ?_
  refine WO.nil ?_
  refine qs ?_
  refine W.seq ?_
  refine W.region ?_
  refine pu (ev tab rfl) rfl ?_
  refine pu (puCall rfl rfl rfl (field_fn ..) rfl) rfl ?_
  refine pu (build tab rfl rfl rfl rfl) rfl ?_
  refine pu (build tab rfl rfl rfl rfl) rfl ?_
  refine pu (buildV tab rfl rfl rfl rfl rfl rfl rfl rfl rfl) rfl ?_
  refine pu (build tab rfl rfl rfl rfl) rfl ?_
  refine pu (puCallN rfl rfl rfl a1 rfl) rfl ?_
  iterate 5 refine pu (ev tab rfl) rfl ?_
  refine WO.nil ?_
  refine qs ?_
  refine W.seq ?_
  refine W.region ?_
  refine pu (ev tab rfl) rfl ?_
  refine pu (puCall rfl rfl rfl (field_fn ..) rfl) rfl ?_
  refine pu (buildV tab rfl rfl rfl rfl rfl rfl rfl rfl rfl) rfl ?_
  refine pu (build tab rfl rfl rfl rfl) rfl ?_
  refine pu (puCallN rfl rfl rfl a2 rfl) rfl ?_
  iterate 5 refine pu (ev tab rfl) rfl ?_
  refine WO.nil ?_
  refine qs ?_
  refine W.seq ?_
  refine W.region ?_
  refine pu (ev tab rfl) rfl ?_
  refine pu (build tab rfl rfl rfl rfl) rfl ?_
  refine pu (puCall rfl rfl rfl (field_fn ..) rfl) rfl ?_
  refine pu (buildV tab rfl rfl rfl rfl rfl rfl rfl rfl rfl) rfl ?_
  refine pu (build tab rfl rfl rfl rfl) rfl ?_
  refine pu (puCallN rfl rfl rfl a3 rfl) rfl ?_
  iterate 5 refine pu (ev tab rfl) rfl ?_
  refine WO.nil ?_
  refine qs ?_
  refine W.seq ?_
  refine W.region ?_
  refine pu (buildV tab rfl rfl rfl rfl rfl rfl rfl rfl rfl) rfl ?_
  refine pu (build tab rfl rfl rfl rfl) rfl ?_
  refine pu (buildV tab rfl rfl rfl rfl rfl rfl rfl rfl rfl) rfl ?_
  refine pu (build tab rfl rfl rfl rfl) rfl ?_
  refine allocR tab rfl rfl rfl ?_
  refine storeR tab rfl rfl rfl rfl rfl rfl rfl rfl ?_
  refine WO.nil ?_
  refine qs ?_
  refine W.seq ?_
  refine W.region ?_
  refine pu (ev tab rfl) rfl ?_
  refine pu (build tab rfl rfl rfl rfl) rfl ?_
  refine pu (build tab rfl rfl rfl rfl) rfl ?_
  refine pu (buildV tab rfl rfl rfl rfl rfl rfl rfl rfl rfl) rfl ?_
  first | refine pu (ev tab rfl) rfl ?_ | refine pu (loadRow tab rfl rfl rfl rfl) rfl ?_ | refine pu (loadBox tab rfl rfl rfl rfl rfl) rfl ?_
  refine pu (buildV tab rfl rfl rfl rfl rfl rfl rfl rfl rfl) rfl ?_
  refine pu (build tab rfl rfl rfl rfl) rfl ?_
  refine pu (puCallN rfl rfl rfl a4 rfl) rfl ?_
  iterate 5 refine pu (ev tab rfl) rfl ?_
  refine WO.nil ?_
  refine qs ?_
  refine W.seq ?_
  refine W.region ?_
  refine pu (ev tab rfl) rfl ?_
  refine pu (build tab rfl rfl rfl rfl) rfl ?_
  refine pu (buildV tab rfl rfl rfl rfl rfl rfl rfl rfl rfl) rfl ?_
  refine pu (build tab rfl rfl rfl rfl) rfl ?_
  refine pu (puCallN rfl rfl rfl a5 rfl) rfl ?_
  iterate 5 refine pu (ev tab rfl) rfl ?_
  refine WO.nil ?_
  refine qs ?_
  refine W.seq ?_
  apply regionB; (case hb => rfl)
  · skip
    iterate 3 refine pu (ev tab rfl) rfl ?_
    apply splitJ; (case hj => rfl); (case hl => rfl)
    · skip
      refine goG rfl rfl ?_
      refine pu (ev tab rfl) rfl ?_
      refine goG rfl rfl ?_
      iterate 3 refine pu (ev tab rfl) rfl ?_
      apply splitJ; (case hj => rfl); (case hl => rfl)
      · skip
        refine goG rfl rfl ?_
        refine pu (ev tab rfl) rfl ?_
        refine goG rfl rfl ?_
        iterate 3 refine pu (ev tab rfl) rfl ?_
        apply splitJ; (case hj => rfl); (case hl => rfl)
        · skip
          refine goG rfl rfl ?_
          refine pu (ev tab rfl) rfl ?_
          refine goG rfl rfl ?_
          iterate 3 refine pu (ev tab rfl) rfl ?_
          apply splitJ; (case hj => rfl); (case hl => rfl)
          · skip
            refine goG rfl rfl ?_
            refine pu (ev tab rfl) rfl ?_
            refine goG rfl rfl ?_
            iterate 3 refine pu (ev tab rfl) rfl ?_
            apply splitJ; (case hj => rfl); (case hl => rfl)
            · skip
              refine goG rfl rfl ?_
              refine pu (ev tab rfl) rfl ?_
              refine goG rfl rfl ?_
              refine pu (build tab rfl rfl rfl rfl) rfl ?_
              refine goG rfl rfl ?_
              refine pu (build tab rfl rfl rfl rfl) rfl ?_
              refine goG rfl rfl ?_
              refine pu (buildV tab rfl rfl rfl rfl rfl rfl rfl rfl rfl) rfl ?_
              refine goG rfl rfl ?_
              refine pu (puCall rfl rfl rfl (same_fn [⟨bName, 3⟩, ⟨bN, 2⟩] [⟨bName, 3⟩, ⟨bN, 2⟩]) rfl) rfl ?_
              iterate 2 refine pu (ev tab rfl) rfl ?_
              apply splitJ; (case hj => rfl); (case hl => rfl)
              · skip
                refine goG rfl rfl ?_
                refine pu (ev tab rfl) rfl ?_
                refine goG rfl rfl ?_
                iterate 3 refine pu (ev tab rfl) rfl ?_
                refine WO.nil ?_
                refine qv1 rfl rfl rfl
              · skip
                refine skipT rfl rfl rfl rfl ?_
                refine skipT rfl rfl rfl rfl ?_
                iterate 2 refine pu (ev tab rfl) rfl ?_
                refine WO.nil ?_
                refine qv1 rfl rfl rfl
            · skip
              refine skipT rfl rfl rfl rfl ?_
              refine skipT rfl rfl rfl rfl ?_
              refine skipT rfl rfl rfl rfl ?_
              refine skipT rfl rfl rfl rfl ?_
              refine skipT rfl rfl rfl rfl ?_
              iterate 2 refine pu (ev tab rfl) rfl ?_
              refine skipT rfl rfl rfl rfl ?_
              refine skipT rfl rfl rfl rfl ?_
              iterate 2 refine pu (ev tab rfl) rfl ?_
              refine WO.nil ?_
              refine qv1 rfl rfl rfl
          · skip
            refine skipT rfl rfl rfl rfl ?_
            refine skipT rfl rfl rfl rfl ?_
            iterate 2 refine pu (ev tab rfl) rfl ?_
            refine skipT rfl rfl rfl rfl ?_
            refine skipT rfl rfl rfl rfl ?_
            refine skipT rfl rfl rfl rfl ?_
            refine skipT rfl rfl rfl rfl ?_
            refine skipT rfl rfl rfl rfl ?_
            iterate 2 refine pu (ev tab rfl) rfl ?_
            refine skipT rfl rfl rfl rfl ?_
            refine skipT rfl rfl rfl rfl ?_
            iterate 2 refine pu (ev tab rfl) rfl ?_
            refine WO.nil ?_
            refine qv1 rfl rfl rfl
        · skip
          refine skipT rfl rfl rfl rfl ?_
          refine skipT rfl rfl rfl rfl ?_
          iterate 2 refine pu (ev tab rfl) rfl ?_
          refine skipT rfl rfl rfl rfl ?_
          refine skipT rfl rfl rfl rfl ?_
          iterate 2 refine pu (ev tab rfl) rfl ?_
          refine skipT rfl rfl rfl rfl ?_
          refine skipT rfl rfl rfl rfl ?_
          refine skipT rfl rfl rfl rfl ?_
          refine skipT rfl rfl rfl rfl ?_
          refine skipT rfl rfl rfl rfl ?_
          iterate 2 refine pu (ev tab rfl) rfl ?_
          refine skipT rfl rfl rfl rfl ?_
          refine skipT rfl rfl rfl rfl ?_
          iterate 2 refine pu (ev tab rfl) rfl ?_
          refine WO.nil ?_
          refine qv1 rfl rfl rfl
      · skip
        refine skipT rfl rfl rfl rfl ?_
        refine skipT rfl rfl rfl rfl ?_
        iterate 2 refine pu (ev tab rfl) rfl ?_
        refine skipT rfl rfl rfl rfl ?_
        refine skipT rfl rfl rfl rfl ?_
        iterate 2 refine pu (ev tab rfl) rfl ?_
        refine skipT rfl rfl rfl rfl ?_
        refine skipT rfl rfl rfl rfl ?_
        iterate 2 refine pu (ev tab rfl) rfl ?_
        refine skipT rfl rfl rfl rfl ?_
        refine skipT rfl rfl rfl rfl ?_
        refine skipT rfl rfl rfl rfl ?_
        refine skipT rfl rfl rfl rfl ?_
        refine skipT rfl rfl rfl rfl ?_
        iterate 2 refine pu (ev tab rfl) rfl ?_
        refine skipT rfl rfl rfl rfl ?_
        refine skipT rfl rfl rfl rfl ?_
        iterate 2 refine pu (ev tab rfl) rfl ?_
        refine WO.nil ?_
        refine qv1 rfl rfl rfl
    · skip
      refine skipT rfl rfl rfl rfl ?_
      refine skipT rfl rfl rfl rfl ?_
      iterate 2 refine pu (ev tab rfl) rfl ?_
      refine skipT rfl rfl rfl rfl ?_
      refine skipT rfl rfl rfl rfl ?_
      iterate 2 refine pu (ev tab rfl) rfl ?_
      refine skipT rfl rfl rfl rfl ?_
      refine skipT rfl rfl rfl rfl ?_
      iterate 2 refine pu (ev tab rfl) rfl ?_
      refine skipT rfl rfl rfl rfl ?_
      refine skipT rfl rfl rfl rfl ?_
      iterate 2 refine pu (ev tab rfl) rfl ?_
      refine skipT rfl rfl rfl rfl ?_
      refine skipT rfl rfl rfl rfl ?_
      refine skipT rfl rfl rfl rfl ?_
      refine skipT rfl rfl rfl rfl ?_
      refine skipT rfl rfl rfl rfl ?_
      iterate 2 refine pu (ev tab rfl) rfl ?_
      refine skipT rfl rfl rfl rfl ?_
      refine skipT rfl rfl rfl rfl ?_
      iterate 2 refine pu (ev tab rfl) rfl ?_
      refine WO.nil ?_
      refine qv1 rfl rfl rfl
  refine qs ?_
  refine W.ret ?_
  refine QF.ret0 trivial rfl ?_
  rfl
end Go.Proofs.Ytmhjgeneogknpaa
namespace Go.Proofs.Ytmhjgeneogknpaa
open Go.Ab Go.Tb
set_option maxRecDepth 10000
attribute [local irreducible] W WO Pu QS QB QL QF QV QV1 CH QE
theorem exprs_fn (cols : List Col) (e : Ex) : Does Try.prog 3 [.d (.sl (cols.map Col.c)), .ag e.c] (.d (.v (.bool true))) 0 := by
  refine Does.of_W (n := 42) (ts := [4]) Try.func3 (by kernel_rfl) rfl Try.ntmps3 Try.results3 rfl rfl fun C hC => ?_
  refine W.seq ?_
  refine W.region ?_
  refine boxR rfl rfl rfl ?_
  refine pu (ev tab rfl) rfl ?_
  refine WO.nil ?_
  refine qs ?_
  refine W.seq ?_
  refine W.seq ?_
  apply regionB; (case hb => rfl)
  · skip
    refine pu (puCall rfl rfl rfl awake_fn rfl) rfl ?_
    iterate 2 refine pu (ev tab rfl) rfl ?_
    apply splitJ; (case hj => rfl); (case hl => rfl)
    · skip
      refine skipT rfl rfl rfl rfl ?_
      refine skipT rfl rfl rfl rfl ?_
      refine skipT rfl rfl rfl rfl ?_
      iterate 2 refine pu (ev tab rfl) rfl ?_
      refine skipT rfl rfl rfl rfl ?_
      refine skipT rfl rfl rfl rfl ?_
      refine skipT rfl rfl rfl rfl ?_
      refine pu (ev tab rfl) rfl ?_
      refine WO.nil ?_
      refine qv1 rfl rfl rfl
    · skip
      refine goG rfl rfl ?_
      refine pu (ev tab rfl) rfl ?_
      refine goG rfl rfl ?_
      refine pu (puCall rfl rfl rfl (fewCols_fn ..) rfl) rfl ?_
      refine goG rfl rfl ?_
      iterate 3 refine pu (ev tab rfl) rfl ?_
      apply splitJ; (case hj => rfl); (case hl => rfl)
      · skip
        refine skipT rfl rfl rfl rfl ?_
        refine skipT rfl rfl rfl rfl ?_
        refine skipT rfl rfl rfl rfl ?_
        refine pu (ev tab rfl) rfl ?_
        refine WO.nil ?_
        refine qv1 rfl rfl rfl
      · skip
        refine goG rfl rfl ?_
        first | refine pu (ev tab rfl) rfl ?_ | refine pu (loadRow tab rfl rfl rfl rfl) rfl ?_ | refine pu (loadBox tab rfl rfl rfl rfl rfl) rfl ?_
        refine goG rfl rfl ?_
        refine pu (puCall rfl rfl rfl (small_fn ..) rfl) rfl ?_
        refine goG rfl rfl ?_
        iterate 2 refine pu (ev tab rfl) rfl ?_
        refine WO.nil ?_
        refine qv1 rfl rfl rfl
  refine qs ?_
  refine condK rfl (fun h20 => ?_) (fun h20 => ?_)
  · skip
    refine W.seq ?_
    refine W.region ?_
    refine pu (puCall rfl rfl rfl awake_fn rfl) rfl ?_
    refine pu (ev tab rfl) rfl ?_
    refine WO.nil ?_
    refine qs ?_
    refine W.ret ?_
    refine qsRet ?_
    refine QF.ret0 trivial rfl ?_
    simp [norm, oneA]
  · skip
    refine W.skip ?_
    refine qs ?_
    refine W.seq ?_
    refine W.region ?_
    refine pu (ev tab rfl) rfl ?_
    first | refine pu (ev tab rfl) rfl ?_ | refine pu (loadRow tab rfl rfl rfl rfl) rfl ?_ | refine pu (loadBox tab rfl rfl rfl rfl rfl) rfl ?_
    refine pu (puCall rfl rfl rfl (texpr_fn ..) rfl) rfl ?_
    iterate 5 refine pu (ev tab rfl) rfl ?_
    refine WO.nil ?_
    refine qs ?_
    refine W.seq ?_
    refine W.region ?_
    refine pu (ev tab rfl) rfl ?_
    first | refine pu (ev tab rfl) rfl ?_ | refine pu (loadRow tab rfl rfl rfl rfl) rfl ?_ | refine pu (loadBox tab rfl rfl rfl rfl rfl) rfl ?_
    refine pu (puCall rfl rfl rfl (rtexpr_fn ..) rfl) rfl ?_
    iterate 5 refine pu (ev tab rfl) rfl ?_
    refine WO.nil ?_
    refine qs ?_
    refine W.seq ?_
    apply regionB; (case hb => rfl)
    · skip
      iterate 4 refine pu (ev tab rfl) rfl ?_
      apply splitJ; (case hj => rfl); (case hl => rfl)
      · skip
        refine goG rfl rfl ?_
        refine pu (ev tab rfl) rfl ?_
        refine goG rfl rfl ?_
        refine pu (ev tab rfl) rfl ?_
        refine goG rfl rfl ?_
        iterate 3 refine pu (ev tab rfl) rfl ?_
        refine WO.nil ?_
        refine qv1 rfl rfl rfl
      · skip
        refine skipT rfl rfl rfl rfl ?_
        refine skipT rfl rfl rfl rfl ?_
        refine skipT rfl rfl rfl rfl ?_
        iterate 2 refine pu (ev tab rfl) rfl ?_
        refine WO.nil ?_
        refine qv1 rfl rfl rfl
    refine qs ?_
    refine W.ret ?_
    refine QF.ret0 trivial rfl ?_
    simp [norm, oneA]
end Go.Proofs.Ytmhjgeneogknpaa
namespace Go.Proofs.Ytmhjgeneogknpaa
open Go.Ab Go.Tb
set_option maxRecDepth 10000
attribute [local irreducible] W WO Pu QS QB QL QF QV QV1 CH QE
theorem fewS_of {s : Stp} (h : fewStep s = true) : fewS s := by
  simp only [fewStep, Bool.and_eq_true, decide_eq_true_eq] at h
  obtain ⟨⟨⟨⟨⟨⟨⟨⟨_, h1⟩, h2⟩, h3⟩, h4⟩, _⟩, _⟩, _⟩, _⟩ := h
  exact ⟨by omega, by omega, by omega, by omega⟩
theorem fewT_of {d : List Nmd} (h : fewData d = true) : fewT d := by
  intro x hx
  simp only [fewData, Bool.and_eq_true, decide_eq_true_eq, List.all_eq_true] at h
  have := h.2 x hx
  simp only [fewNmd, fewTable, fewCols, Bool.and_eq_true, decide_eq_true_eq] at this
  have := this.2.1.1.2
  omega
theorem fewC_of {l : List Col} (h : fewCols l = true) : l.length ≤ 40 := by
  simp only [fewCols, Bool.and_eq_true, decide_eq_true_eq] at h
  exact h.2

/-- different names -/
theorem twice_drop {l : List Col} {k : Nat} {c : Col} (hd : l.drop k = c :: l.drop (k + 1)) : twice l k (l.drop k) = ((l.take k).any (fun x => decide (x.name = c.name)) || twice l (k + 1) (l.drop (k + 1))) := by
  rw [hd]; rfl
theorem twice_iff : ∀ (l r : List Col) (k : Nat), l.drop k = r → (twice l k r = false ↔ ∀ i j x y, k ≤ j → i < j → l[i]? = some x → l[j]? = some y → x.name ≠ y.name)
  | l, [], k, h => by
    simp only [twice, true_iff]
    intro i j x y hj _ _ hy
    have hlt := (List.getElem?_eq_some_iff.1 hy).1
    have := List.drop_eq_nil_iff.1 h
    omega
  | l, c :: r, k, h => by
    have hk : l[k]? = some c := by
      have : (l.drop k)[0]? = some c := by rw [h]; rfl
      simpa using this
    have hr : l.drop (k + 1) = r := by
      have : (l.drop k).drop 1 = r := by rw [h]; rfl
      rw [List.drop_drop] at this
      exact this
    have ih := twice_iff l r (k + 1) hr
    simp only [twice, Bool.or_eq_false_iff, ih]
    constructor
    · rintro ⟨h1, h2⟩ i j x y hj hij hx hy
      rcases Nat.lt_or_ge k j with hlt | hge
      · exact h2 i j x y hlt hij hx hy
      · have : j = k := by omega
        subst this
        rw [hk] at hy
        simp only [Option.some.injEq] at hy
        subst hy
        intro he
        have hmem : x ∈ l.take j := by
          rw [List.mem_iff_getElem?]
          exact ⟨i, by rw [List.getElem?_take, if_pos hij]; exact hx⟩
        have := List.any_eq_false.1 h1 x hmem
        simp [he] at this
    · intro h1
      refine ⟨?_, fun i j x y hj => h1 i j x y (by omega)⟩
      rw [List.any_eq_false]
      intro x hx
      obtain ⟨i, hi⟩ := List.mem_iff_getElem?.1 hx
      rw [List.getElem?_take] at hi
      split at hi
      · rename_i hlt
        have := h1 i k x c (Nat.le_refl _) hlt hi hk
        simpa using this
      · cases hi

theorem twice_nodup {l : List Col} : twice l 0 l = false ↔ (l.map Col.name).Nodup := by
  rw [twice_iff l l 0 rfl]
  constructor
  · intro h
    refine List.pairwise_iff_getElem.2 fun i j hi hj hij => ?_
    simp only [List.getElem_map]
    have hi' : i < l.length := by simpa using hi
    have hj' : j < l.length := by simpa using hj
    exact h i j _ _ (Nat.zero_le _) hij (by simp [hi']) (by simp [hj'])
  · intro h i j x y _ hij hx hy
    obtain ⟨hi, rfl⟩ := List.getElem?_eq_some_iff.1 hx
    obtain ⟨hj, rfl⟩ := List.getElem?_eq_some_iff.1 hy
    have := List.pairwise_iff_getElem.1 h i j (by simpa using hi) (by simpa using hj) hij
    simpa using this

theorem addErr_mem {ks : List ByteArray} {s : ByteArray} (h : addErr ks s = 0) (hk : ks.Nodup) : (ks ++ [s]).Nodup := by
  have hn : s ∉ ks := by
    intro hm
    unfold addErr at h
    split at h
    · cases h
    · rw [if_pos (by rw [List.any_eq_true]; exact ⟨s, hm, by simp⟩)] at h
      cases h
  rw [List.nodup_append]
  exact ⟨hk, by simp, fun a ha b hb => by simp only [List.mem_singleton] at hb; subst hb; rintro rfl; exact hn ha⟩
theorem allErr_nodup : ∀ (l ks : List ByteArray), allErr ks l = 0 → ks.Nodup → (ks ++ l).Nodup
  | [], ks, _, h => by simpa using h
  | s :: r, ks, h, hk => by
    simp only [allErr] at h
    split at h
    · rename_i h1; exact absurd h h1
    · rename_i h1
      have := allErr_nodup r (ks ++ [s]) h (addErr_mem (by omega) hk)
      simpa using this
theorem selErr_nodup : ∀ (l : List Itm) (ks : List ByteArray), selErr ks l = 0 → ks.Nodup → (ks ++ l.map Itm.name).Nodup
  | [], ks, _, h => by simpa using h
  | x :: r, ks, h, hk => by
    simp only [selErr] at h
    split at h
    · rename_i h1; exact absurd h h1
    split at h
    · rename_i h1; exact absurd h h1
    · rename_i h1
      have := selErr_nodup r (ks ++ [x.name]) h (addErr_mem (by omega) hk)
      simpa using this
theorem aggErr_nodup : ∀ (l : List Agr) (ks : List ByteArray), aggErr ks l = 0 → ks.Nodup → (ks ++ l.map Agr.name).Nodup
  | [], ks, _, h => by simpa using h
  | x :: r, ks, h, hk => by
    simp only [aggErr] at h
    split at h
    · cases h
    split at h
    · cases h
    split at h
    · rename_i h1; exact absurd h h1
    · rename_i h1
      have := aggErr_nodup r (ks ++ [x.name]) h (addErr_mem (by omega) hk)
      simpa using this

theorem selT_names (cols : List Col) : ∀ (l : List Itm) (out : List Col), ((selT cols out l).2 ≠ 0 → (selT cols out l).1 = []) ∧ ((selT cols out l).2 = 0 → (selT cols out l).1.map Col.name = out.map Col.name ++ l.map Itm.name)
  | [], out => by simp [selT]
  | x :: r, out => by
    simp only [selT]
    split
    · rename_i h; exact ⟨fun _ => rfl, fun h' => absurd h' h⟩
    split
    · exact ⟨fun _ => rfl, fun h' => by cases h'⟩
    · have := selT_names cols r (out ++ [⟨x.name, (typ cols x.e).1⟩])
      exact ⟨this.1, fun h => by rw [this.2 h]; simp⟩
theorem takeT_names (cols : List Col) : ∀ (l : List ByteArray) (out : List Col), ((takeT cols out l).2 ≠ 0 → (takeT cols out l).1 = []) ∧ ((takeT cols out l).2 = 0 → (takeT cols out l).1.map Col.name = out.map Col.name ++ l)
  | [], out => by simp [takeT]
  | x :: r, out => by
    simp only [takeT]
    split
    · exact ⟨fun _ => rfl, fun h' => by cases h'⟩
    · rename_i c hc
      have := takeT_names cols r (out ++ [c])
      have hn : c.name = x := by have := List.find?_some hc; simpa using this
      exact ⟨this.1, fun h => by rw [this.2 h]; simp [hn]⟩
theorem aggT_names (cols : List Col) : ∀ (l : List Agr) (out : List Col), ((aggT cols out l).2 ≠ 0 → (aggT cols out l).1 = []) ∧ ((aggT cols out l).2 = 0 → (aggT cols out l).1.map Col.name = out.map Col.name ++ l.map Agr.name)
  | [], out => by simp [aggT]
  | x :: r, out => by
    simp only [aggT]
    split
    · have := aggT_names cols r (out ++ [⟨x.name, 2⟩])
      exact ⟨this.1, fun h => by rw [this.2 h]; simp⟩
    · split
      · exact ⟨fun _ => rfl, fun h' => by cases h'⟩
      · rename_i c _
        split
        · exact ⟨fun _ => rfl, fun h' => by cases h'⟩
        · have := aggT_names cols r (out ++ [⟨x.name, c.type⟩])
          exact ⟨this.1, fun h => by rw [this.2 h]; simp⟩

theorem stepCT_good (d : List Nmd) (cols : List Col) (s : Stp) (hc : (cols.map Col.name).Nodup) : ((stepCT d cols s).2 ≠ 0 → (stepCT d cols s).1 = []) ∧ ((stepCT d cols s).1.map Col.name).Nodup := by
  have nn : ∀ {t : CT}, (t.2 ≠ 0 → t.1 = []) → (t.2 = 0 → (t.1.map Col.name).Nodup) → ((t.2 ≠ 0 → t.1 = []) ∧ (t.1.map Col.name).Nodup) := by
    intro t h1 h2
    refine ⟨h1, ?_⟩
    by_cases h : t.2 = 0
    · exact h2 h
    · rw [h1 h]; simp
  have bad : ∀ {e : Int}, ((([], e) : CT).2 ≠ 0 → (([], e) : CT).1 = []) ∧ ((([], e) : CT).1.map Col.name).Nodup := fun {e} => ⟨fun _ => rfl, by simp⟩
  have good : (((cols, 0) : CT).2 ≠ 0 → ((cols, 0) : CT).1 = []) ∧ (((cols, 0) : CT).1.map Col.name).Nodup := ⟨fun h => absurd rfl h, hc⟩
  unfold stepCT
  split
  · exact bad
  rename_i hse
  have hse : stepErr s = 0 := by simpa using hse
  unfold stepErr at hse
  split at hse
  · cases hse
  split
  · split
    · exact bad
    · exact good
  rename_i h1
  rw [if_neg h1] at hse
  split
  · rename_i h2
    rw [if_pos h2] at hse
    split at hse
    · rename_i h; exact absurd hse h
    have ht := selT_names cols s.items []
    refine nn ht.1 fun h => ?_
    rw [ht.2 h]
    exact selErr_nodup s.items [] hse (by simp)
  rename_i h2
  rw [if_neg h2] at hse
  split
  · rename_i h3
    rw [if_pos h3] at hse
    unfold groupErr at hse
    split at hse
    · cases hse
    split at hse
    · cases hse
    split at hse
    · rename_i h; exact absurd hse h
    rename_i hall
    have hall : allErr [] s.cols = 0 := by simpa using hall
    unfold groupT
    split
    · exact bad
    · rename_i ht
      have ht : (takeT cols [] s.cols).2 = 0 := by simpa using ht
      have hn := (takeT_names cols s.cols []).2 ht
      have ha := aggT_names cols s.aggs (takeT cols [] s.cols).1
      refine nn ha.1 fun h => ?_
      rw [ha.2 h, hn]
      exact aggErr_nodup s.aggs s.cols hse (by simpa using allErr_nodup s.cols [] hall (by simp))
  rename_i h3
  rw [if_neg h3] at hse
  split
  · split
    · exact bad
    · exact good
  rename_i h4
  rw [if_neg h4] at hse
  split
  · rename_i h9
    rw [if_neg (by omega), if_pos h9] at hse
    unfold columnsErr at hse
    split at hse
    · rename_i h; exact absurd hse h
    have hnd := allErr_nodup s.cols [] hse (by simp)
    unfold coalT
    split
    · exact bad
    rename_i hft
    split
    · exact bad
    split
    · exact bad
    split
    · exact bad
    rename_i ht _ _
    have ht : (takeT cols [] s.cols).2 = 0 := by simpa using ht
    have hn := (takeT_names cols s.cols []).2 ht
    refine ⟨fun h => absurd rfl h, ?_⟩
    simp only [List.map_append, hn]
    have hf : wFrom ∉ s.cols := by
      intro hm
      apply hft
      rw [Bool.or_eq_true]
      exact .inl (List.any_eq_true.2 ⟨_, hm, by simp⟩)
    have hto : wTo ∉ s.cols := by
      intro hm
      apply hft
      rw [Bool.or_eq_true]
      exact .inr (List.any_eq_true.2 ⟨_, hm, by simp⟩)
    have hne : wFrom ≠ wTo := by decide
    rw [List.nodup_append]
    refine ⟨by simpa using hnd, by simp [hne], fun a ha b hb => ?_⟩
    have ha : a ∈ s.cols := by simpa using ha
    simp only [List.map_cons, List.map_nil, List.mem_cons, List.not_mem_nil, or_false] at hb
    rintro rfl
    rcases hb with rfl | rfl
    · exact hf ha
    · exact hto ha
  split
  · unfold joinedT
    split
    · exact bad
    · unfold joinT
      split
      · exact bad
      split
      · exact bad
      split
      · exact bad
      split
      · exact bad
      · unfold outT
        split
        · exact bad
        split
        · exact bad
        · rename_i ht _
          exact ⟨fun h => absurd rfl h, twice_nodup.1 (by simpa using ht)⟩
  · exact good

theorem different_fn (d : List Nmd) (cols : List Col) (s : Stp) : Does Try.prog 6 [.d (.sl (d.map Nmd.c)), .d (.sl (cols.map Col.c)), .ag s.c] (.d (.v (.bool true))) 0 := by
  refine Does.of_W (n := 75) (ts := [6]) Try.func6 (by kernel_rfl) rfl Try.ntmps6 Try.results6 rfl rfl fun C hC => ?_
  refine W.seq ?_
  refine W.region ?_
  refine boxR rfl rfl rfl ?_
  refine pu (ev tab rfl) rfl ?_
  refine WO.nil ?_
  refine qs ?_
  refine W.seq ?_
  refine W.seq ?_
  apply regionB; (case hb => rfl)
  · skip
    refine pu (puCall rfl rfl rfl awake_fn rfl) rfl ?_
    iterate 2 refine pu (ev tab rfl) rfl ?_
    apply splitJ; (case hj => rfl); (case hl => rfl)
    · skip
      refine skipT rfl rfl rfl rfl ?_
      refine skipT rfl rfl rfl rfl ?_
      refine skipT rfl rfl rfl rfl ?_
      iterate 2 refine pu (ev tab rfl) rfl ?_
      refine skipT rfl rfl rfl rfl ?_
      refine skipT rfl rfl rfl rfl ?_
      refine skipT rfl rfl rfl rfl ?_
      iterate 2 refine pu (ev tab rfl) rfl ?_
      refine skipT rfl rfl rfl rfl ?_
      refine skipT rfl rfl rfl rfl ?_
      refine skipT rfl rfl rfl rfl ?_
      refine pu (ev tab rfl) rfl ?_
      refine WO.nil ?_
      refine qv1 rfl rfl rfl
    · skip
      refine goG rfl rfl ?_
      refine pu (ev tab rfl) rfl ?_
      refine goG rfl rfl ?_
      refine pu (puCall rfl rfl rfl (fewData_fn d) rfl) rfl ?_
      refine goG rfl rfl ?_
      iterate 3 refine pu (ev tab rfl) rfl ?_
      apply splitJ; (case hj => rfl); (case hl => rfl)
      · skip
        refine skipT rfl rfl rfl rfl ?_
        refine skipT rfl rfl rfl rfl ?_
        refine skipT rfl rfl rfl rfl ?_
        iterate 2 refine pu (ev tab rfl) rfl ?_
        refine skipT rfl rfl rfl rfl ?_
        refine skipT rfl rfl rfl rfl ?_
        refine skipT rfl rfl rfl rfl ?_
        refine pu (ev tab rfl) rfl ?_
        refine WO.nil ?_
        refine qv1 rfl rfl rfl
      · skip
        refine goG rfl rfl ?_
        refine pu (ev tab rfl) rfl ?_
        refine goG rfl rfl ?_
        refine pu (puCall rfl rfl rfl (fewCols_fn cols) rfl) rfl ?_
        refine goG rfl rfl ?_
        iterate 3 refine pu (ev tab rfl) rfl ?_
        apply splitJ; (case hj => rfl); (case hl => rfl)
        · skip
          refine skipT rfl rfl rfl rfl ?_
          refine skipT rfl rfl rfl rfl ?_
          refine skipT rfl rfl rfl rfl ?_
          refine pu (ev tab rfl) rfl ?_
          refine WO.nil ?_
          refine qv1 rfl rfl rfl
        · skip
          refine goG rfl rfl ?_
          first | refine pu (ev tab rfl) rfl ?_ | refine pu (loadRow tab rfl rfl rfl rfl) rfl ?_ | refine pu (loadBox tab rfl rfl rfl rfl rfl) rfl ?_
          refine goG rfl rfl ?_
          refine pu (puCall rfl rfl rfl (fewStep_fn s) rfl) rfl ?_
          refine goG rfl rfl ?_
          iterate 2 refine pu (ev tab rfl) rfl ?_
          refine WO.nil ?_
          refine qv1 rfl rfl rfl
  refine qs ?_
  refine condK rfl (fun h27 => ?_) (fun h27 => ?_)
  · skip
    refine W.seq ?_
    refine W.region ?_
    refine pu (puCall rfl rfl rfl awake_fn rfl) rfl ?_
    refine pu (ev tab rfl) rfl ?_
    refine WO.nil ?_
    refine qs ?_
    refine W.ret ?_
    refine qsRet ?_
    refine QF.ret0 trivial rfl ?_
    rfl
  · skip
    have hfew : fewData d = true ∧ fewCols cols = true ∧ fewStep s = true := by revert h27; cases fewData d <;> cases fewCols cols <;> cases fewStep s <;> simp
    have hfs := fewS_of hfew.2.2
    have hft := fewT_of hfew.1
    have hfc := fewC_of hfew.2.1
    have hfc' : cols.length ≤ 1000 := by omega
    refine W.skip ?_
    refine qs ?_
    refine W.seq ?_
    refine W.seq ?_
    refine W.region ?_
    refine pu (ev tab rfl) rfl ?_
    refine WO.nil ?_
    refine qs ?_
    refine W.block ?_
    refine W.len (t := 1) rfl rfl (fun hlen => ?_)
    try simp only [List.length_map, Ex.kc_len] at hlen
    refine W.loopR (ι := {x : Nat // match x with | k => k ≤ cols.length ∧ twice cols k (cols.drop k) = twice cols 0 cols})
      (fun x => match x.1 with | k => [(5, .ptr 0 0), (7, .d (.v (.int .i64 ((k : Nat) : Int))))]) [(0, _), (1, _)]
      (fun x => match x.1 with | k => []) [(0, _)] [] 1 (fun x => match x.1 with | k => cols.length - k)
      [0] ⟨0, ?_⟩ rfl ?_ ⟨rfl, rfl, rfl, rfl, trivial⟩ ?_ ⟨rfl, rfl, trivial⟩ rfl ?_
    · first | exact ⟨Nat.zero_le _, rfl⟩ | exact trivial | simp
    · repeat' first | exact trivial | refine ⟨rfl, ?_⟩ | refine ⟨step_nat (by assumption) (by assumption), ?_⟩
    · repeat' first | exact trivial | refine ⟨rfl, ?_⟩ | refine ⟨step_nat (by assumption) (by assumption), ?_⟩
    rintro ⟨k, hk, hI⟩
    show W _ _ _ _ _ ⟨[(5, .ptr 0 0), (7, .d (.v (.int .i64 ((k : Nat) : Int)))), (0, _), (1, _)], [(0, _)], [], 1⟩
    refine W.seq ?_
    refine W.seq ?_
    refine W.region ?_
    iterate 4 refine pu (ev tab rfl) rfl ?_
    refine WO.nil ?_
    refine qs ?_
    refine eachR (l := cols) (k := k) rfl (by simp [Ex.kc_len, bytes_len]) hk (fun c hx hd hlt => ?_) (fun he hd => ?_)
    · skip
      rw [hd] at hI
      simp only [twice] at hI
      refine W.skip ?_
      refine qs ?_
      refine W.seq ?_
      refine W.block ?_
      refine W.seq ?_
      refine W.regionD tab (by kernel_rfl) ?_
      refine chPu (ev tab rfl) rfl ?_
      refine chPu (ev tab rfl) rfl ?_
      refine chPu (slToM (fn := Col.c) tab rfl rfl rfl rfl rfl rfl (fun _ => rfl) (by omega)) rfl ?_
      refine chPu (ev tab rfl) rfl ?_
      refine chPu (ev tab rfl) rfl ?_
      refine chPu (indexAddr tab rfl rfl rfl rfl rfl rfl (Int.natCast_nonneg _) (idx_map hx) rfl) rfl ?_
      refine chPu (ev tab rfl) rfl ?_
      first | refine chPu (ev tab rfl) rfl ?_ | refine chPu (loadRow tab rfl rfl rfl rfl) rfl ?_ | refine chPu (loadBox tab rfl rfl rfl rfl rfl) rfl ?_
      refine chPu (puCall rfl rfl rfl (rfind_fn (cols.take k) c.name) rfl) rfl ?_
      refine chPu (ev tab rfl) rfl ?_
      refine CH.nil ?_
      refine qs ?_
      refine condK rfl (fun h44 => ?_) (fun h44 => ?_)
      · skip
        refine W.seq ?_
        refine W.region ?_
        refine pu (ev tab rfl) rfl ?_
        refine WO.nil ?_
        refine qs ?_
        refine W.ret ?_
        refine qbRet ?_
        refine qsRet ?_
        refine qlRet ?_
        refine qbRet ?_
        refine qsRet ?_
        refine QF.ret0 trivial rfl ?_
        rfl
      · skip
        have h44 : ((cols.take k).any fun y => decide (y.name = c.name)) = false := idx_nonneg.symm.trans h44
        rw [h44, Bool.false_or] at hI
        refine W.skip ?_
        refine qbN ?_
        refine qs ?_
        refine W.region ?_
        iterate 3 refine pu (ev tab rfl) rfl ?_
        refine WO.nil ?_
        refine W.endR [0] ⟨k + 1, ?_⟩ ?_ rfl ?_ ⟨rfl, rfl, rfl, rfl, trivial⟩ ?_ ⟨rfl, rfl, trivial⟩ rfl
        · exact ⟨hlt, hI⟩
        · dsimp only; omega
        · repeat' first | exact trivial | refine ⟨rfl, ?_⟩ | refine ⟨step_nat (by assumption) (by assumption), ?_⟩
        · repeat' first | exact trivial | refine ⟨rfl, ?_⟩ | refine ⟨step_nat (by assumption) (by assumption), ?_⟩
    · skip
      rw [hd] at hI
      simp only [twice] at hI
      have hgood := stepCT_good d cols s (twice_nodup.1 hI.symm)
      have hlo := stepCT_len d cols s hfs hfc'
      have htw := twice_nodup.2 hgood.2
      generalize hout : (stepCT d cols s).1 = out at hgood hlo htw
      refine W.exit ?_
      refine qsExit ?_
      refine qlExit ?_
      refine qbExit ?_
      refine qs ?_
      refine W.seq ?_
      have hst := tstep_fn d cols s hfs hft hfc'
      rw [hout] at hst
      refine W.region ?_
      iterate 2 refine pu (ev tab rfl) rfl ?_
      first | refine pu (ev tab rfl) rfl ?_ | refine pu (loadRow tab rfl rfl rfl rfl) rfl ?_ | refine pu (loadBox tab rfl rfl rfl rfl rfl) rfl ?_
      refine pu (puCall rfl rfl rfl hst rfl) rfl ?_
      iterate 5 refine pu (ev tab rfl) rfl ?_
      refine WO.nil ?_
      refine qs ?_
      refine W.seq ?_
      refine W.seq ?_
      refine W.region ?_
      refine pu (ev tab rfl) rfl ?_
      refine WO.nil ?_
      refine qs ?_
      refine W.block ?_
      have hlen : out.length ≤ maxLen := by simp [maxLen]; omega
      refine W.loopR (ι := {x : Nat // match x with | k => k ≤ out.length ∧ twice out k (out.drop k) = false})
        (fun x => match x.1 with | k => [(10, .d (.v (.int .i64 ((k : Nat) : Int))))]) [(8, _), (9, _)]
        (fun x => match x.1 with | k => []) [] [] 0 (fun x => match x.1 with | k => out.length - k)
        [] ⟨0, ?_⟩ rfl ?_ ⟨rfl, rfl, rfl, rfl, trivial⟩ ?_ trivial rfl ?_
      · exact ⟨Nat.zero_le _, htw⟩
      · repeat' first | exact trivial | refine ⟨rfl, ?_⟩ | refine ⟨step_nat (by assumption) (by assumption), ?_⟩
      · repeat' first | exact trivial | refine ⟨rfl, ?_⟩ | refine ⟨step_nat (by assumption) (by assumption), ?_⟩
      rintro ⟨k, hk, hJ⟩
      show W _ _ _ _ _ ⟨[(10, .d (.v (.int .i64 ((k : Nat) : Int)))), (8, _), (9, _)], [], [], 0⟩
      refine W.seq ?_
      refine W.seq ?_
      refine W.region ?_
      iterate 4 refine pu (ev tab rfl) rfl ?_
      refine WO.nil ?_
      refine qs ?_
      refine eachR (l := out) (k := k) rfl (by simp [Ex.kc_len, bytes_len]) hk (fun c hx hd hlt => ?_) (fun he hd => ?_)
      · skip
        rw [hd] at hJ
        simp only [twice, Bool.or_eq_false_iff] at hJ
        refine W.skip ?_
        refine qs ?_
        refine W.seq ?_
        refine W.block ?_
        refine W.seq ?_
        refine W.regionD tab (by kernel_rfl) ?_
        refine chPu (ev tab rfl) rfl ?_
        refine chPu (ev tab rfl) rfl ?_
        refine chPu (slToM (fn := Col.c) tab rfl rfl rfl rfl rfl rfl (fun _ => rfl) (by omega)) rfl ?_
        refine chPu (ev tab rfl) rfl ?_
        refine chPu (ev tab rfl) rfl ?_
        refine chPu (indexAddr tab rfl rfl rfl rfl rfl rfl (Int.natCast_nonneg _) (idx_map hx) rfl) rfl ?_
        refine chPu (ev tab rfl) rfl ?_
        first | refine chPu (ev tab rfl) rfl ?_ | refine chPu (loadRow tab rfl rfl rfl rfl) rfl ?_ | refine chPu (loadBox tab rfl rfl rfl rfl rfl) rfl ?_
        refine chPu (puCall rfl rfl rfl (rfind_fn (out.take k) c.name) rfl) rfl ?_
        refine chPu (ev tab rfl) rfl ?_
        refine CH.nil ?_
        refine qs ?_
        refine condK rfl (fun h67 => ?_) (fun h67 => ?_)
        · skip
          exfalso
          have h67 : ((out.take k).any fun y => decide (y.name = c.name)) = true := idx_nonneg.symm.trans h67
          rw [hJ.1] at h67
          cases h67
        · skip
          refine W.skip ?_
          refine qbN ?_
          refine qs ?_
          refine W.region ?_
          iterate 3 refine pu (ev tab rfl) rfl ?_
          refine WO.nil ?_
          refine W.endR [] ⟨k + 1, ?_⟩ ?_ rfl ?_ ⟨rfl, rfl, rfl, rfl, trivial⟩ ?_ trivial rfl
          · exact ⟨hlt, hJ.2⟩
          · dsimp only; omega
          · repeat' first | exact trivial | refine ⟨rfl, ?_⟩ | refine ⟨step_nat (by assumption) (by assumption), ?_⟩
          · repeat' first | exact trivial | refine ⟨rfl, ?_⟩ | refine ⟨step_nat (by assumption) (by assumption), ?_⟩
      · skip
        refine W.exit ?_
        refine qsExit ?_
        refine qlExit ?_
        refine qbExit ?_
        refine qs ?_
        refine W.seq ?_
        apply regionB; (case hb => rfl)
        · skip
          iterate 3 refine pu (ev tab rfl) rfl ?_
          apply splitJ; (case hj => rfl); (case hl => rfl)
          · skip
            refine skipT rfl rfl rfl rfl ?_
            refine skipT rfl rfl rfl rfl ?_
            refine skipT rfl rfl rfl rfl ?_
            iterate 2 refine pu (ev tab rfl) rfl ?_
            refine WO.nil ?_
            refine qv1 rfl rfl rfl
          · skip
            refine goG rfl rfl ?_
            refine pu (ev tab rfl) rfl ?_
            refine goG rfl rfl ?_
            refine pu (ev tab rfl) rfl ?_
            refine goG rfl rfl ?_
            iterate 3 refine pu (ev tab rfl) rfl ?_
            refine WO.nil ?_
            refine qv1 rfl rfl rfl
        refine qs ?_
        refine W.ret ?_
        refine QF.ret0 trivial rfl ?_
        simp only [norm, oneA, List.length_map]
        by_cases hx : (stepCT d cols s).2 = 0
        · simp [hx]
        · have h0 := hgood.1 hx
          subst h0
          simp [hx]
end Go.Proofs.Ytmhjgeneogknpaa
namespace Go.Proofs.Ytmhjgeneogknpaa
open Go.Ab Go.Tb
set_option maxRecDepth 10000
attribute [local irreducible] W WO Pu QS QB QL QF QV QV1 CH QE
/-- more columns found, the same type -/
theorem typL_ext {a b : List Col} : ∀ (l : List Ex) (ks : List Int), (∀ k ∈ l, (typ a k).2 = 0 → typ b k = typ a k) → (typL a l ks).1 = 0 → typL b l ks = typL a l ks
  | [], ks, _, _ => rfl
  | x :: r, ks, h, h0 => by
    simp only [typL] at h0 ⊢
    split at h0
    · rename_i h1; exact absurd h0 h1
    · rename_i h1
      have hx := h x (by simp) (by omega)
      rw [hx, if_neg h1, if_neg h1]
      exact typL_ext r _ (fun k hk => h k (by simp [hk])) h0

theorem typ_ext {a b : List Col} (hab : ∀ n c, findCol a n = some c → findCol b n = some c) : ∀ (e : Ex), (typ a e).2 = 0 → typ b e = typ a e := by
  refine Ex.ind fun e ih => ?_
  intro h
  rw [typ_eq] at h
  rw [typ_eq a, typ_eq b]
  split
  · rfl
  · rename_i h1
    rw [if_neg h1] at h
    split
    · rename_i h2
      rw [if_pos h2] at h
      cases hf : findCol a e.name with
      | none => rw [hf] at h; cases h
      | some c => rw [hab _ _ hf]
    · rename_i h2
      rw [if_neg h2] at h
      have hl : (typL a e.kids []).1 = 0 := by
        split at h
        · rename_i h3; exact absurd h h3
        · rename_i h3; simpa using h3
      rw [typL_ext e.kids [] ih hl]

theorem exprT_ext {a b : List Col} (hab : ∀ n c, findCol a n = some c → findCol b n = some c) {e : Ex} (h : (exprT a e).2 = 0) : exprT b e = exprT a e := by
  unfold exprT at h ⊢
  split
  · rfl
  · rename_i h1
    rw [if_neg h1] at h
    exact typ_ext hab e h

theorem nodup_get {l : List ByteArray} (hnd : l.Nodup) {i j : Nat} {g : ByteArray} (h1 : l[i]? = some g) (h2 : l[j]? = some g) : i = j := by
  obtain ⟨i1, e1⟩ := List.getElem?_eq_some_iff.1 h1
  obtain ⟨i2, e2⟩ := List.getElem?_eq_some_iff.1 h2
  have hpw := List.pairwise_iff_getElem.1 hnd
  rcases Nat.lt_trichotomy i j with hlt | heq | hgt
  · exact absurd (e1.trans e2.symm) (hpw i j i1 i2 hlt)
  · exact heq
  · exact absurd (e2.trans e1.symm) (hpw j i i2 i1 hgt)

theorem find_append {a b : List Col} {n : ByteArray} {c : Col} (h : findCol a n = some c) : findCol (a ++ b) n = some c := by
  unfold findCol at h ⊢
  rw [List.find?_append, h]
  rfl
theorem find_reverse {a : List Col} (hd : (a.map Col.name).Nodup) {n : ByteArray} {c : Col} (h : findCol a n = some c) : findCol a.reverse n = some c := by
  have hc := List.mem_of_find?_eq_some h
  have hn : c.name = n := by have := List.find?_some h; simpa using this
  cases hf : findCol a.reverse n with
  | none =>
    have := List.find?_eq_none.1 hf c (by simpa using hc)
    simp [hn] at this
  | some e =>
    have he := List.mem_of_find?_eq_some hf
    have hen : e.name = n := by have := List.find?_some hf; simpa using this
    have he' : e ∈ a := by simpa using he
    obtain ⟨i, hi⟩ := List.mem_iff_getElem?.1 hc
    obtain ⟨j, hj⟩ := List.mem_iff_getElem?.1 he'
    have hij : i = j := by
      have h1 : (a.map Col.name)[i]? = some n := by rw [List.getElem?_map, hi]; simp [hn]
      have h2 : (a.map Col.name)[j]? = some n := by rw [List.getElem?_map, hj]; simp [hen]
      exact nodup_get hd h1 h2
    subst hij
    rw [hi] at hj
    rw [← Option.some.inj hj]

@[reducible] def extra : List Col := [⟨B #[122, 122], 1⟩, ⟨B #[107], 1⟩]

theorem others_fn (cols : List Col) (e : Ex) : Does Try.prog 5 [.d (.sl (cols.map Col.c)), .ag e.c] (.d (.v (.bool true))) 0 := by
  refine Does.of_W (n := 94) (ts := [4]) Try.func5 (by kernel_rfl) rfl Try.ntmps5 Try.results5 rfl rfl fun C hC => ?_
  refine W.seq ?_
  refine W.region ?_
  refine boxR rfl rfl rfl ?_
  refine pu (ev tab rfl) rfl ?_
  refine WO.nil ?_
  refine qs ?_
  refine W.seq ?_
  refine W.seq ?_
  apply regionB; (case hb => rfl)
  · skip
    refine pu (puCall rfl rfl rfl awake_fn rfl) rfl ?_
    iterate 2 refine pu (ev tab rfl) rfl ?_
    apply splitJ; (case hj => rfl); (case hl => rfl)
    · skip
      refine skipT rfl rfl rfl rfl ?_
      refine skipT rfl rfl rfl rfl ?_
      refine skipT rfl rfl rfl rfl ?_
      iterate 2 refine pu (ev tab rfl) rfl ?_
      refine skipT rfl rfl rfl rfl ?_
      refine skipT rfl rfl rfl rfl ?_
      refine skipT rfl rfl rfl rfl ?_
      refine pu (ev tab rfl) rfl ?_
      refine WO.nil ?_
      refine qv1 rfl rfl rfl
    · skip
      refine goG rfl rfl ?_
      refine pu (ev tab rfl) rfl ?_
      refine goG rfl rfl ?_
      refine pu (puCall rfl rfl rfl (fewCols_fn cols) rfl) rfl ?_
      refine goG rfl rfl ?_
      iterate 3 refine pu (ev tab rfl) rfl ?_
      apply splitJ; (case hj => rfl); (case hl => rfl)
      · skip
        refine skipT rfl rfl rfl rfl ?_
        refine skipT rfl rfl rfl rfl ?_
        refine skipT rfl rfl rfl rfl ?_
        refine pu (ev tab rfl) rfl ?_
        refine WO.nil ?_
        refine qv1 rfl rfl rfl
      · skip
        refine goG rfl rfl ?_
        first | refine pu (ev tab rfl) rfl ?_ | refine pu (loadRow tab rfl rfl rfl rfl) rfl ?_ | refine pu (loadBox tab rfl rfl rfl rfl rfl) rfl ?_
        refine goG rfl rfl ?_
        refine pu (puCall rfl rfl rfl (small_fn ..) rfl) rfl ?_
        refine goG rfl rfl ?_
        iterate 2 refine pu (ev tab rfl) rfl ?_
        refine WO.nil ?_
        refine qv1 rfl rfl rfl
  refine qs ?_
  refine condK rfl (fun h25 => ?_) (fun h25 => ?_)
  · skip
    refine W.seq ?_
    refine W.region ?_
    refine pu (puCall rfl rfl rfl awake_fn rfl) rfl ?_
    refine pu (ev tab rfl) rfl ?_
    refine WO.nil ?_
    refine qs ?_
    refine W.ret ?_
    refine qsRet ?_
    refine QF.ret0 trivial rfl ?_
    rfl
  · skip
    have hfew : fewCols cols = true := by revert h25; cases fewCols cols <;> cases small e <;> simp
    have hfc := fewC_of hfew
    refine W.skip ?_
    refine qs ?_
    refine W.seq ?_
    refine W.region ?_
    refine pu (ev tab rfl) rfl ?_
    first | refine pu (ev tab rfl) rfl ?_ | refine pu (loadRow tab rfl rfl rfl rfl) rfl ?_ | refine pu (loadBox tab rfl rfl rfl rfl rfl) rfl ?_
    refine pu (puCall rfl rfl rfl (texpr_fn ..) rfl) rfl ?_
    iterate 5 refine pu (ev tab rfl) rfl ?_
    refine WO.nil ?_
    refine qs ?_
    refine W.seq ?_
    refine W.seq ?_
    refine W.region ?_
    iterate 2 refine pu (ev tab rfl) rfl ?_
    refine WO.nil ?_
    refine qs ?_
    refine condK rfl (fun h34 => ?_) (fun h34 => ?_)
    · skip
      refine W.seq ?_
      refine W.region ?_
      refine pu (ev tab rfl) rfl ?_
      refine WO.nil ?_
      refine qs ?_
      refine W.ret ?_
      refine qsRet ?_
      refine QF.ret0 trivial rfl ?_
      rfl
    · skip
      have h34 : (exprT cols e).2 = 0 := by simpa using h34
      refine W.skip ?_
      refine qs ?_
      refine W.seq ?_
      refine W.region ?_
      refine pu (ev tab rfl) rfl ?_
      refine WO.nil ?_
      refine qs ?_
      refine W.seq ?_
      refine W.seq ?_
      refine W.region ?_
      iterate 2 refine pu (ev tab rfl) rfl ?_
      refine pu (puI (ev tab rfl) (y := (cols.length : Int) - 1) (by rw [List.length_map, wrap64 (by omega)])) rfl ?_
      refine pu (ev tab rfl) rfl ?_
      refine WO.nil ?_
      refine qs ?_
      refine W.block ?_
      refine ownNilR (d := 7) rfl rfl ?_
      refine W.loopR (ι := {x : Nat × List Col // match x with | (m, out) => m ≤ cols.length ∧ (∀ i j x y, m ≤ j → i < j → cols[i]? = some x → cols[j]? = some y → x.name ≠ y.name) ∧ out = (cols.drop m).reverse})
        (fun x => match x.1 with | (m, out) => [(3, .ptr 0 0), (7, .own 1 (out.map Col.c)), (8, .d (.v (.int .i64 ((m : Int) - 1))))]) [(0, _), (5, _)]
        (fun x => match x.1 with | (m, out) => []) [(0, _)] [1] 2 (fun x => match x.1 with | (m, out) => m)
        [0, 1] ⟨(cols.length, []), ?_⟩ rfl ?_ ⟨rfl, rfl, rfl, rfl, trivial⟩ ?_ ⟨rfl, rfl, trivial⟩ rfl ?_
      · refine ⟨Nat.le_refl _, fun i j x y hj _ _ hy => ?_, by simp⟩
        have := (List.getElem?_eq_some_iff.1 hy).1
        omega
      · repeat' first | exact trivial | refine ⟨rfl, ?_⟩ | refine ⟨step_nat (by assumption) (by assumption), ?_⟩
      · repeat' first | exact trivial | refine ⟨rfl, ?_⟩ | refine ⟨step_nat (by assumption) (by assumption), ?_⟩
      rintro ⟨⟨m, out⟩, hk, hI, hL⟩
      show W _ _ _ _ _ ⟨[(3, .ptr 0 0), (7, .own 1 (out.map Col.c)), (8, .d (.v (.int .i64 ((m : Int) - 1)))), (0, _), (5, _)], [(0, _)], [1], 2⟩
      refine W.seq ?_
      refine W.seq ?_
      refine W.region ?_
      iterate 2 refine pu (ev tab rfl) rfl ?_
      refine WO.nil ?_
      refine qs ?_
      refine condK rfl (fun h39 => ?_) (fun h39 => ?_)
      · skip
        obtain ⟨i, rfl⟩ : ∃ i, m = i + 1 := ⟨m - 1, by simp at h39; omega⟩
        have hlt : i < cols.length := by omega
        obtain ⟨c, hx, hd⟩ := exAt (l := cols) (k := i) hlt
        have hcast : (((i + 1 : Nat) : Int) - 1) = (i : Int) := by omega
        refine W.skip ?_
        refine qs ?_
        refine W.seq ?_
        refine W.block ?_
        refine W.seq ?_
        refine W.seq ?_
        refine W.regionD tab (by kernel_rfl) ?_
        refine chPu (ev tab rfl) rfl ?_
        refine chPu (puI (ev tab rfl) hcast) rfl ?_
        refine chPu (slToM (fn := Col.c) tab rfl rfl rfl rfl rfl rfl (fun _ => rfl) (by omega)) rfl ?_
        refine chPu (ev tab rfl) rfl ?_
        refine chPu (puI (ev tab rfl) hcast) rfl ?_
        refine chPu (indexAddr tab rfl rfl rfl rfl rfl rfl (Int.natCast_nonneg _) (idx_map hx) rfl) rfl ?_
        refine chPu (ev tab rfl) rfl ?_
        first | refine chPu (ev tab rfl) rfl ?_ | refine chPu (loadRow tab rfl rfl rfl rfl) rfl ?_ | refine chPu (loadBox tab rfl rfl rfl rfl rfl) rfl ?_
        refine chPu (puCall rfl rfl rfl (rfind_fn (cols.take i) c.name) rfl) rfl ?_
        refine chPu (ev tab rfl) rfl ?_
        refine CH.nil ?_
        refine qs ?_
        refine condK rfl (fun h51 => ?_) (fun h51 => ?_)
        · skip
          refine W.seq ?_
          refine W.region ?_
          refine pu (ev tab rfl) rfl ?_
          refine WO.nil ?_
          refine qs ?_
          refine W.ret ?_
          refine qsRet ?_
          refine qbRet ?_
          refine qsRet ?_
          refine qlRet ?_
          refine qbRet ?_
          refine qsRet ?_
          refine QF.ret0 trivial rfl ?_
          rfl
        · skip
          have h51 : ((cols.take i).any fun y => decide (y.name = c.name)) = false := idx_nonneg.symm.trans h51
          refine W.skip ?_
          refine qs ?_
          refine W.region ?_
          iterate 2 refine pu (ev tab rfl) rfl ?_
          refine pu (puI (ev tab rfl) hcast) rfl ?_
          refine pu (indexAddr tab rfl rfl rfl rfl rfl rfl (Int.natCast_nonneg _) (idx_map hx) rfl) rfl ?_
          first | refine pu (ev tab rfl) rfl ?_ | refine pu (loadRow tab rfl rfl rfl rfl) rfl ?_ | refine pu (loadBox tab rfl rfl rfl rfl rfl) rfl ?_
          refine pu (buildV tab rfl rfl rfl rfl rfl rfl rfl rfl rfl) rfl ?_
          refine appendM (fn := Col.c) (a := c) tab rfl rfl rfl rfl rfl rfl rfl rfl rfl rfl (fun _ => rfl) (by show (out.length + 1) * 24 ≤ _; rw [hL, List.length_reverse, List.length_drop]; omega) ?_
          refine pu (ev tab rfl) rfl ?_
          refine WO.nil ?_
          refine qbN ?_
          refine qs ?_
          refine W.region ?_
          refine pu (ev tab rfl) rfl ?_
          refine pu (puI (ev tab rfl) (y := (i : Int) - 1) (by rw [hcast, wrap64 (by omega)])) rfl ?_
          refine pu (ev tab rfl) rfl ?_
          refine WO.nil ?_
          refine W.endR [0, 2] ⟨(i, out ++ [c]), ?_⟩ ?_ rfl ?_ ⟨rfl, rfl, rfl, rfl, trivial⟩ ?_ ⟨rfl, rfl, trivial⟩ rfl
          · refine ⟨by omega, fun a b x y hj hij hx' hy' => ?_, ?_⟩
            · rcases Nat.lt_or_ge i b with hlt' | hge
              · exact hI a b x y hlt' hij hx' hy'
              · have : b = i := by omega
                subst this
                rw [hx] at hy'
                simp only [Option.some.injEq] at hy'
                subst hy'
                have := List.any_eq_false.1 h51 x (by rw [List.mem_iff_getElem?]; exact ⟨a, by rw [List.getElem?_take, if_pos hij]; exact hx'⟩)
                simpa using this
            · rw [hL, hd, List.reverse_cons]
          · show i < i + 1; omega
          · repeat' first | exact trivial | refine ⟨rfl, ?_⟩ | refine ⟨step_nat (by assumption) (by assumption), ?_⟩
          · repeat' first | exact trivial | refine ⟨rfl, ?_⟩ | refine ⟨step_nat (by assumption) (by assumption), ?_⟩
      · skip
        have hm0 : m = 0 := by simp at h39; omega
        subst hm0
        have hout : out = cols.reverse := by rw [hL]; rfl
        have hnd : (cols.map Col.name).Nodup := twice_nodup.1 ((twice_iff cols cols 0 rfl).2 hI)
        have hb := exprT_ext (fun n c h => find_reverse hnd h) h34
        have hmr := exprT_ext (b := cols ++ extra) (fun n c h => find_append h) h34
        rw [← hout] at hb
        refine W.exit ?_
        refine qsExit ?_
        refine qlExit ?_
        refine qbExit ?_
        refine qs ?_
        refine W.seq ?_
        refine W.region ?_
        refine pu (ev tab rfl) rfl ?_
        first | refine pu (ev tab rfl) rfl ?_ | refine pu (loadRow tab rfl rfl rfl rfl) rfl ?_ | refine pu (loadBox tab rfl rfl rfl rfl rfl) rfl ?_
        refine pu (puCall rfl rfl rfl (texpr_fn out e) rfl) rfl ?_
        iterate 5 refine pu (ev tab rfl) rfl ?_
        refine WO.nil ?_
        refine qs ?_
        refine W.seq ?_
        refine W.region ?_
        refine buildO tab rfl rfl rfl rfl rfl rfl rfl rfl (by rfl) ?_
        refine pu (ev tab rfl) rfl ?_
        refine appendMs (l := []) (fn := Col.c) tab rfl rfl rfl rfl rfl rfl rfl rfl rfl rfl (fun _ => rfl) (by show (0 + cols.length) * 24 ≤ _; omega) ?_
        refine pu (build tab rfl rfl rfl rfl) rfl ?_
        refine pu (build tab rfl rfl rfl rfl) rfl ?_
        refine pu (buildV tab rfl rfl rfl rfl rfl rfl rfl rfl rfl) rfl ?_
        refine appendMs (l := cols) (l2 := extra) (fn := Col.c) tab rfl rfl rfl rfl rfl rfl rfl rfl rfl rfl (fun _ => rfl) (by show (cols.length + 2) * 24 ≤ _; omega) ?_
        refine pu (ev tab rfl) rfl ?_
        refine WO.nil ?_
        refine qs ?_
        refine W.seq ?_
        refine W.region ?_
        refine pu (ev tab rfl) rfl ?_
        first | refine pu (ev tab rfl) rfl ?_ | refine pu (loadRow tab rfl rfl rfl rfl) rfl ?_ | refine pu (loadBox tab rfl rfl rfl rfl rfl) rfl ?_
        refine pu (puCall rfl rfl rfl (texpr_fn (cols ++ extra) e) rfl) rfl ?_
        iterate 5 refine pu (ev tab rfl) rfl ?_
        refine WO.nil ?_
        refine qs ?_
        refine W.seq ?_
        apply regionB; (case hb => rfl)
        · skip
          iterate 4 refine pu (ev tab rfl) rfl ?_
          apply splitJ; (case hj => rfl); (case hl => rfl)
          · skip
            refine goG rfl rfl ?_
            refine pu (ev tab rfl) rfl ?_
            refine goG rfl rfl ?_
            iterate 3 refine pu (ev tab rfl) rfl ?_
            apply splitJ; (case hj => rfl); (case hl => rfl)
            · skip
              refine goG rfl rfl ?_
              refine pu (ev tab rfl) rfl ?_
              refine goG rfl rfl ?_
              refine pu (ev tab rfl) rfl ?_
              refine goG rfl rfl ?_
              iterate 3 refine pu (ev tab rfl) rfl ?_
              apply splitJ; (case hj => rfl); (case hl => rfl)
              · skip
                refine goG rfl rfl ?_
                refine pu (ev tab rfl) rfl ?_
                refine goG rfl rfl ?_
                iterate 3 refine pu (ev tab rfl) rfl ?_
                refine WO.nil ?_
                refine qv1 rfl rfl rfl
              · skip
                refine skipT rfl rfl rfl rfl ?_
                refine skipT rfl rfl rfl rfl ?_
                iterate 2 refine pu (ev tab rfl) rfl ?_
                refine WO.nil ?_
                refine qv1 rfl rfl rfl
            · skip
              refine skipT rfl rfl rfl rfl ?_
              refine skipT rfl rfl rfl rfl ?_
              refine skipT rfl rfl rfl rfl ?_
              iterate 2 refine pu (ev tab rfl) rfl ?_
              refine skipT rfl rfl rfl rfl ?_
              refine skipT rfl rfl rfl rfl ?_
              iterate 2 refine pu (ev tab rfl) rfl ?_
              refine WO.nil ?_
              refine qv1 rfl rfl rfl
          · skip
            refine skipT rfl rfl rfl rfl ?_
            refine skipT rfl rfl rfl rfl ?_
            iterate 2 refine pu (ev tab rfl) rfl ?_
            refine skipT rfl rfl rfl rfl ?_
            refine skipT rfl rfl rfl rfl ?_
            refine skipT rfl rfl rfl rfl ?_
            iterate 2 refine pu (ev tab rfl) rfl ?_
            refine skipT rfl rfl rfl rfl ?_
            refine skipT rfl rfl rfl rfl ?_
            iterate 2 refine pu (ev tab rfl) rfl ?_
            refine WO.nil ?_
            refine qv1 rfl rfl rfl
        refine qs ?_
        refine W.ret ?_
        refine QF.ret0 trivial rfl ?_
        simp only [norm, oneA, hb, hmr, h34]
        simp
end Go.Proofs.Ytmhjgeneogknpaa
/- Typed data out of a reading: tables, steps, queries. -/
namespace Go.Tb
open Go.Ab
section
variable {P : Program} {T : Tab P} {l : List D}
variable {ts ti tk tc tcs tv tr trs tt tn te teo tes tit titl ttl tag tagl tso tsol tb top tst tstl tq : Nat}
variable {o1 o2 o3 o4 o5 o6 o7 o8 p1 p2 p3 p4 p5 p6 p7 p8 q1 q2 q3 q4 q5 q6 q7 q8 r1 r2 r3 r4 r5 : Nat}
variable {n1 n2 n3 n4 n5 n6 n7 n8 m1 m2 m3 m4 m5 m6 m7 m8 k1 k2 k3 k4 k5 k6 k7 k8 j1 j2 j3 j4 j5 : String}

theorem conf_tbl (h : Conf T tt l) (ht : kdAt T tt = .st [(o1, tcs, n1), (o2, trs, n2)]) (hcs : kdAt T tcs = .slice tc) (hc : kdAt T tc = .st [(o3, ts, n3), (o4, tk, n4)]) (hs : kdAt T ts = .str) (hk : kdAt T tk = .int .i64)
    (hrs : kdAt T trs = .slice tr) (hr : kdAt T tr = .slice tv) (hv : kdAt T tv = .st [(o5, tk, n5), (o6, ti, n6), (o7, ts, n7)]) (hi : kdAt T ti = .int .i64) : ∃ x : Tbl, l = x.c := by
  obtain ⟨p, q, rfl, h1, h2⟩ := conf_st2 h ht
  obtain ⟨cols, rfl⟩ := conf_sl h1 hcs (fun x hx => conf_col hx hc hs hk)
  obtain ⟨rows, rfl⟩ := conf_sl (f := rc) h2 hrs (fun x hx => by
    obtain ⟨r, rfl⟩ := conf_sl hx hr (fun y hy => conf_val hy hv hk hi hs)
    exact ⟨r, rfl⟩)
  exact ⟨⟨cols, rows⟩, rfl⟩

theorem conf_nmd (h : Conf T tn l) (hn : kdAt T tn = .st [(p1, ts, m1), (p2, tt, m2)]) (ht : kdAt T tt = .st [(o1, tcs, n1), (o2, trs, n2)]) (hcs : kdAt T tcs = .slice tc) (hc : kdAt T tc = .st [(o3, ts, n3), (o4, tk, n4)]) (hs : kdAt T ts = .str)
    (hk : kdAt T tk = .int .i64) (hrs : kdAt T trs = .slice tr) (hr : kdAt T tr = .slice tv) (hv : kdAt T tv = .st [(o5, tk, n5), (o6, ti, n6), (o7, ts, n7)]) (hi : kdAt T ti = .int .i64) : ∃ x : Nmd, l = x.c := by
  obtain ⟨p, q, rfl, h1, h2⟩ := conf_st2 h hn
  obtain ⟨a, rfl⟩ := conf_str h1 hs
  obtain ⟨t, rfl⟩ := conf_tbl h2 ht hcs hc hs hk hrs hr hv hi
  exact ⟨⟨a, t⟩, rfl⟩

theorem conf_step (h : Conf T tst l) (hst : kdAt T tst = .st [(o1, top, n1), (o2, te, n2), (o3, titl, n3), (o4, ttl, n4), (o5, tagl, n5), (o6, tsol, n6), (o7, ti, n7), (o8, ts, n8)]) (hop : kdAt T top = .int .i64)
    (he : kdAt T te = .st [(p1, teo, m1), (p2, ts, m2), (p3, tv, m3), (p4, tes, m4)]) (heo : kdAt T teo = .int .i64) (hes : kdAt T tes = .slice te) (hv : kdAt T tv = .st [(p5, tk, m5), (p6, ti, m6), (p7, ts, m7)]) (hk : kdAt T tk = .int .i64)
    (hi : kdAt T ti = .int .i64) (hs : kdAt T ts = .str) (hitl : kdAt T titl = .slice tit) (hit : kdAt T tit = .st [(q1, te, k1), (q2, ts, k2)]) (httl : kdAt T ttl = .slice ts) (hagl : kdAt T tagl = .slice tag)
    (hag : kdAt T tag = .st [(q3, ts, k3), (q4, ts, k4), (q5, ts, k5)]) (hsol : kdAt T tsol = .slice tso) (hso : kdAt T tso = .st [(q6, ts, k6), (q7, tb, k7)]) (hb : kdAt T tb = .bool) : ∃ x : Stp, l = x.c := by
  obtain ⟨a, b, c, d, e, f, g, i, rfl, h1, h2, h3, h4, h5, h6, h7, h8⟩ := conf_st8 h hst
  obtain ⟨op, rfl⟩ := conf_int h1 hop
  obtain ⟨cond, rfl⟩ := conf_expr he heo hes hv hk hi hs _ h2
  obtain ⟨items, rfl⟩ := conf_sl (f := Itm.c) h3 hitl (fun x hx => by
    obtain ⟨p, q, rfl, g1, g2⟩ := conf_st2 hx hit
    obtain ⟨e, rfl⟩ := conf_expr he heo hes hv hk hi hs _ g1
    obtain ⟨s, rfl⟩ := conf_str g2 hs
    exact ⟨⟨e, s⟩, rfl⟩)
  obtain ⟨cols, rfl⟩ := conf_sl (f := sc) h4 httl (fun x hx => conf_str hx hs)
  obtain ⟨aggs, rfl⟩ := conf_sl (f := Agr.c) h5 hagl (fun x hx => by
    obtain ⟨p, q, r, rfl, g1, g2, g3⟩ := conf_st3 hx hag
    obtain ⟨u, rfl⟩ := conf_str g1 hs
    obtain ⟨v, rfl⟩ := conf_str g2 hs
    obtain ⟨w, rfl⟩ := conf_str g3 hs
    exact ⟨⟨u, v, w⟩, rfl⟩)
  obtain ⟨sorts, rfl⟩ := conf_sl (f := Srt.c) h6 hsol (fun x hx => by
    obtain ⟨p, q, rfl, g1, g2⟩ := conf_st2 hx hso
    obtain ⟨u, rfl⟩ := conf_str g1 hs
    obtain ⟨v, rfl⟩ := g2.toBool hb
    exact ⟨⟨u, v⟩, rfl⟩)
  obtain ⟨n, rfl⟩ := conf_int h7 hi
  obtain ⟨t, rfl⟩ := conf_str h8 hs
  exact ⟨⟨op, cond, items, cols, aggs, sorts, n, t⟩, rfl⟩

theorem conf_query (h : Conf T tq l) (hq : kdAt T tq = .st [(r1, ts, j1), (r2, tstl, j2)]) (hstl : kdAt T tstl = .slice tst)
    (hst : kdAt T tst = .st [(o1, top, n1), (o2, te, n2), (o3, titl, n3), (o4, ttl, n4), (o5, tagl, n5), (o6, tsol, n6), (o7, ti, n7), (o8, ts, n8)]) (hop : kdAt T top = .int .i64)
    (he : kdAt T te = .st [(p1, teo, m1), (p2, ts, m2), (p3, tv, m3), (p4, tes, m4)]) (heo : kdAt T teo = .int .i64) (hes : kdAt T tes = .slice te) (hv : kdAt T tv = .st [(p5, tk, m5), (p6, ti, m6), (p7, ts, m7)]) (hk : kdAt T tk = .int .i64)
    (hi : kdAt T ti = .int .i64) (hs : kdAt T ts = .str) (hitl : kdAt T titl = .slice tit) (hit : kdAt T tit = .st [(q1, te, k1), (q2, ts, k2)]) (httl : kdAt T ttl = .slice ts) (hagl : kdAt T tagl = .slice tag)
    (hag : kdAt T tag = .st [(q3, ts, k3), (q4, ts, k4), (q5, ts, k5)]) (hsol : kdAt T tsol = .slice tso) (hso : kdAt T tso = .st [(q6, ts, k6), (q7, tb, k7)]) (hb : kdAt T tb = .bool) : ∃ x : Qry, l = x.c := by
  obtain ⟨p, q, rfl, h1, h2⟩ := conf_st2 h hq
  obtain ⟨f, rfl⟩ := conf_str h1 hs
  obtain ⟨steps, rfl⟩ := conf_sl h2 hstl (fun x hx => conf_step hx hst hop he heo hes hv hk hi hs hitl hit httl hagl hag hsol hso hb)
  exact ⟨⟨f, steps⟩, rfl⟩
end
end Go.Tb
