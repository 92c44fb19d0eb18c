import Derived.Test.YtaifpecinbjgcaaQ5
namespace Go.Proofs.Ytaifpecinbjgcaa
open Go.Ab Go.Tb
set_option maxRecDepth 10000
attribute [local irreducible] W WO Pu QS QB QL QF QV QV1 CH QE
theorem ragg_fn (fn : ByteArray) (l : List Val) (hl : l.length ≤ 1000000) : Does Try.prog 19 [.d (.v (.string fn)), .d (.sl (l.map Val.c))] (.ag (aggV fn l).c) 0 := by
  refine Does.of_V tab (n := 91) (rs := [.cell 4 27]) Try.func19 (by kernel_rfl) rfl Try.ntmps19 Try.results19 rfl fun C hC hG => ?_
  refine W.seq ?_
  refine W.region ?_
  refine allocR tab rfl rfl rfl ?_
  refine WO.nil ?_
  refine qs ?_
  refine W.seq ?_
  refine W.block ?_
  refine W.seq ?_
  refine W.region ?_
  iterate 3 refine pu (ev tab rfl) rfl ?_
  refine WO.nil ?_
  refine qs ?_
  refine condK rfl (fun h7 => ?_) (fun h7 => ?_)
  · skip
    have h7 : fn = wCount := of_decide_eq_true h7
    refine W.seq ?_
    refine W.region ?_
    iterate 2 refine pu (ev tab rfl) rfl ?_
    refine pu (puCall rfl rfl rfl (rnumber_fn ..) rfl) rfl ?_
    refine storeR tab rfl rfl rfl rfl rfl rfl rfl rfl ?_
    refine WO.nil ?_
    refine qs ?_
    refine W.ret ?_
    refine qbRet ?_
    refine qsRet ?_
    refine QV.ret0 tab trivial rfl ?_
    rw [show aggV fn l = numV l.length by simp only [aggV, if_pos h7]]; simp only [List.length_map]; rfl
  · skip
    have h7 : fn ≠ wCount := of_decide_eq_false h7
    refine W.seq ?_
    refine W.region ?_
    iterate 3 refine pu (ev tab rfl) rfl ?_
    refine WO.nil ?_
    refine qs ?_
    refine condK rfl (fun h13 => ?_) (fun h13 => ?_)
    · skip
      have h13 : fn = wSum := of_decide_eq_true h13
      refine W.seq ?_
      refine W.region ?_
      refine pu (ev tab rfl) rfl ?_
      refine pu (puCall rfl rfl rfl (ragg_sum l hl) rfl) rfl ?_
      refine storeR tab rfl rfl rfl rfl rfl rfl rfl rfl ?_
      refine WO.nil ?_
      refine qs ?_
      refine W.ret ?_
      refine qbRet ?_
      refine qsRet ?_
      refine QV.ret0 tab trivial rfl ?_
      rw [show aggV fn l = sumV l by simp only [aggV, if_neg h7, if_pos h13]]; rfl
    · skip
      have h13 : fn ≠ wSum := of_decide_eq_false h13
      refine W.seq ?_
      apply regionB; (case hb => rfl)
      · skip
        iterate 3 refine pu (ev tab rfl) rfl ?_
        apply splitH; (case hj => rfl); (case hl => rfl)
        · intro g21
          refine goG rfl rfl ?_
          refine pu (ev tab rfl) rfl ?_
          refine goG rfl rfl ?_
          refine pu (ev tab rfl) rfl ?_
          refine goG rfl rfl ?_
          iterate 3 refine pu (ev tab rfl) rfl ?_
          refine WO.nil ?_
          refine qv1 rfl rfl rfl
        · intro g21
          refine skipT rfl rfl rfl rfl ?_
          refine skipT rfl rfl rfl rfl ?_
          refine skipT rfl rfl rfl rfl ?_
          iterate 2 refine pu (ev tab rfl) rfl ?_
          refine WO.nil ?_
          refine qv1 rfl rfl rfl
      refine qs ?_
      refine condK rfl (fun h18 => ?_) (fun h18 => ?_)
      · skip
        rw [bifAnd] at h18
        have h18 : fn = wFirst ∧ l ≠ [] := by simp at h18; exact ⟨h18.1, by rintro rfl; simp at h18⟩
        have hl0 : 1 ≤ l.length := by cases l with | nil => exact absurd rfl h18.2 | cons a r => simp
        refine W.seq ?_
        refine W.region ?_
        refine pu (ev tab rfl) rfl ?_
        refine pu (indexAddr tab rfl rfl rfl rfl rfl rfl (Int.le_refl _) (idx_map (l0 hl0)) rfl) rfl ?_
        first | refine pu (ev tab rfl) rfl ?_ | refine pu (loadRow tab rfl rfl rfl rfl) rfl ?_ | refine pu (loadBox tab rfl rfl rfl rfl rfl) rfl ?_
        refine storeR tab rfl rfl rfl rfl rfl rfl rfl rfl ?_
        refine WO.nil ?_
        refine qs ?_
        refine W.ret ?_
        refine qbRet ?_
        refine qsRet ?_
        refine QV.ret0 tab trivial rfl ?_
        rw [show aggV fn l = l.getD 0 nullV by simp only [aggV, if_neg h7, if_neg h13, if_pos h18]; cases l <;> rfl]; rfl
      · skip
        rw [bifAnd] at h18
        have h18 : ¬ (fn = wFirst ∧ l ≠ []) := by rintro ⟨h1, h2⟩; rw [h1] at h18; simp [wFirst] at h18; exact h2 h18
        refine W.seq ?_
        apply regionB; (case hb => rfl)
        · skip
          iterate 3 refine pu (ev tab rfl) rfl ?_
          apply splitH; (case hj => rfl); (case hl => rfl)
          · intro g32
            refine goG rfl rfl ?_
            refine pu (ev tab rfl) rfl ?_
            refine goG rfl rfl ?_
            iterate 3 refine pu (ev tab rfl) rfl ?_
            refine WO.nil ?_
            refine qv1 rfl rfl rfl
          · intro g32
            refine skipT rfl rfl rfl rfl ?_
            refine skipT rfl rfl rfl rfl ?_
            iterate 2 refine pu (ev tab rfl) rfl ?_
            refine WO.nil ?_
            refine qv1 rfl rfl rfl
        refine qs ?_
        refine condK rfl (fun h29 => ?_) (fun h29 => ?_)
        · skip
          rw [bifAnd] at h29
          have h29 : fn ≠ wMin ∧ fn ≠ wMax := by simpa [wMin, wMax] using h29
          refine W.seq ?_
          refine W.region ?_
          refine pu (build tab rfl rfl rfl rfl) rfl ?_
          refine storeR tab rfl rfl rfl rfl rfl rfl rfl rfl ?_
          refine WO.nil ?_
          refine qs ?_
          refine W.ret ?_
          refine qbRet ?_
          refine qsRet ?_
          refine QV.ret0 tab trivial rfl ?_
          rw [aggV_other h7 h13 h18 h29.1 h29.2]; rfl
        · skip
          rw [bifAnd] at h29
          have h29 : fn = wMin ∨ fn = wMax := by by_cases h1 : fn = wMin; exact .inl h1; exact .inr (by simp at h29; exact h29 h1)
          refine W.skip ?_
          refine qbN ?_
          refine qs ?_
          refine W.seq ?_
          refine W.region ?_
          refine pu (ev tab rfl) rfl ?_
          refine WO.nil ?_
          refine qs ?_
          refine W.seq ?_
          refine W.seq ?_
          refine W.region ?_
          refine pu (ev tab rfl) rfl ?_
          refine WO.nil ?_
          refine qs ?_
          refine W.block ?_
          refine W.len (t := 1) rfl rfl (fun hlen => ?_)
          try simp only [List.length_map, Ex.kc_len] at hlen
          refine W.loopR (ι := {x : Nat × Option Nat // match x with | (k, b) => k ≤ l.length ∧ BestAt fn l k b})
            (fun x => match x.1 with | (k, b) => [(4, .ptr 0 0), (5, .d (.v (.int .i64 (idx b)))), (6, .d (.v (.int .i64 ((k : Nat) : Int))))]) [(0, _), (1, _)]
            (fun x => match x.1 with | (k, b) => []) [(0, _)] [] 1 (fun x => match x.1 with | (k, b) => l.length - k)
            [0] ⟨(0, none), ?_⟩ rfl ?_ ⟨rfl, rfl, rfl, rfl, trivial⟩ ?_ ⟨rfl, rfl, trivial⟩ rfl ?_
          · exact ⟨Nat.zero_le _, ⟨(fun i hi => nomatch hi), rfl⟩⟩
          · repeat' first | exact trivial | refine ⟨rfl, ?_⟩ | refine ⟨step_nat (by assumption) (by assumption), ?_⟩
          · repeat' first | exact trivial | refine ⟨rfl, ?_⟩ | refine ⟨step_nat (by assumption) (by assumption), ?_⟩
          rintro ⟨⟨k, b⟩, hk, hI⟩
          show W _ _ _ _ _ ⟨[(4, .ptr 0 0), (5, .d (.v (.int .i64 (idx b)))), (6, .d (.v (.int .i64 ((k : Nat) : Int)))), (0, _), (1, _)], [(0, _)], [], 1⟩
          refine W.seq ?_
          refine W.seq ?_
          refine W.region ?_
          iterate 4 refine pu (ev tab rfl) rfl ?_
          refine WO.nil ?_
          refine qs ?_
          refine eachR (l := l) (k := k) rfl (by simp [Ex.kc_len, bytes_len]) hk (fun v hx hd hlt => ?_) (fun he hd => ?_)
          · skip
            refine W.skip ?_
            refine qs ?_
            refine W.seq ?_
            refine W.block ?_
            refine W.seq ?_
            refine W.seq ?_
            refine W.region ?_
            iterate 2 refine pu (ev tab rfl) rfl ?_
            refine pu (indexAddr tab rfl rfl rfl rfl rfl rfl (Int.natCast_nonneg _) (idx_map hx) rfl) rfl ?_
            refine pu (ev tab rfl) rfl ?_
            first | refine pu (ev tab rfl) rfl ?_ | refine pu (loadRow tab rfl rfl rfl rfl) rfl ?_ | refine pu (loadBox tab rfl rfl rfl rfl rfl) rfl ?_
            refine pu (ev tab rfl) rfl ?_
            refine WO.nil ?_
            refine qs ?_
            refine condK rfl (fun h48 => ?_) (fun h48 => ?_)
            · skip
              have h48 : v.kind = 0 := of_decide_eq_true h48
              let nx := b
              refine W.exit ?_
              refine qsExit ?_
              refine qbExit ?_
              refine qs ?_
              refine W.region ?_
              iterate 3 refine pu (ev tab rfl) rfl ?_
              refine WO.nil ?_
              refine W.endR [0] ⟨(k + 1, nx), ?_⟩ ?_ rfl ?_ ⟨rfl, rfl, rfl, rfl, trivial⟩ ?_ ⟨rfl, rfl, trivial⟩ rfl
              · first | exact ⟨hlt, hI.skip hx h48⟩ | exact ⟨hlt, hI.take hx h48 h82⟩ | exact ⟨hlt, hI.keep hx h48 h82.1 h82.2⟩
              · dsimp only; omega
              · repeat' first | exact trivial | refine ⟨rfl, ?_⟩ | refine ⟨step_nat (by assumption) (by assumption), ?_⟩
              · repeat' first | exact trivial | refine ⟨rfl, ?_⟩ | refine ⟨step_nat (by assumption) (by assumption), ?_⟩
            · skip
              have h48 : v.kind ≠ 0 := of_decide_eq_false h48
              refine W.skip ?_
              refine qs ?_
              refine W.seq ?_
              apply regionDB tab; (case hb => rfl); (case hB => kernel_rfl)
              · skip
                refine chPu (ev tab rfl) rfl ?_
                refine chPu (ev tab rfl) rfl ?_
                refine chPu (ev tab rfl) rfl ?_
                apply chSplitH; (case hj => rfl); (case hl => rfl)
                · intro g51
                  refine chSkip rfl rfl rfl rfl ?_
                  refine chSkip rfl rfl rfl rfl ?_
                  refine chSkip rfl rfl rfl rfl ?_
                  refine chSkipU rfl rfl rfl ?_
                  refine chSkipU rfl rfl rfl ?_
                  refine chSkipU rfl rfl rfl ?_
                  refine chSkipU rfl rfl rfl ?_
                  refine chSkipU rfl rfl rfl ?_
                  refine chSkipU rfl rfl rfl ?_
                  refine chSkipU rfl rfl rfl ?_
                  refine chSkipU rfl rfl rfl ?_
                  refine chSkipU rfl rfl rfl ?_
                  refine chSkipU rfl rfl rfl ?_
                  refine chSkip rfl rfl rfl rfl ?_
                  refine chPu (ev tab rfl) rfl ?_
                  refine chPu (ev tab rfl) rfl ?_
                  refine chSkip rfl rfl rfl rfl ?_
                  refine chSkip rfl rfl rfl rfl ?_
                  refine chSkip rfl rfl rfl rfl ?_
                  refine chSkipU rfl rfl rfl ?_
                  refine chSkipU rfl rfl rfl ?_
                  refine chSkipU rfl rfl rfl ?_
                  refine chSkipU rfl rfl rfl ?_
                  refine chSkipU rfl rfl rfl ?_
                  refine chSkipU rfl rfl rfl ?_
                  refine chSkipU rfl rfl rfl ?_
                  refine chSkipU rfl rfl rfl ?_
                  refine chSkipU rfl rfl rfl ?_
                  refine chSkipU rfl rfl rfl ?_
                  refine chSkip rfl rfl rfl rfl ?_
                  refine chPu (ev tab rfl) rfl ?_
                  refine CH.nil ?_
                  refine qv1 rfl rfl rfl
                · intro g51
                  refine chGo rfl rfl (ev tab rfl) rfl ?_
                  refine chGo rfl rfl (ev tab rfl) rfl ?_
                  refine chGo rfl rfl (ev tab rfl) rfl ?_
                  apply chSplitH; (case hj => rfl); (case hl => rfl)
                  · intro g54
                    refine chGo rfl rfl (ev tab rfl) rfl ?_
                    refine chGo rfl rfl (ev tab rfl) rfl ?_
                    refine chGo rfl rfl (indexAddr tab rfl rfl rfl rfl rfl rfl (Int.natCast_nonneg _) (idx_map hx) rfl) rfl ?_
                    first | refine chGo rfl rfl (ev tab rfl) rfl ?_ | refine chGo rfl rfl (loadRow tab rfl rfl rfl rfl) rfl ?_ | refine chGo rfl rfl (loadBox tab rfl rfl rfl rfl rfl) rfl ?_
                    refine chGo rfl rfl (ev tab rfl) rfl ?_
                    refine chGo rfl rfl (ev tab rfl) rfl ?_
                    refine chGo rfl rfl (indexAddr tab rfl rfl rfl rfl rfl rfl (by have := of_decide_eq_false g51; omega) (idx_map (getAt (of_decide_eq_false g51) hI.lt)) rfl) rfl ?_
                    first | refine chGo rfl rfl (ev tab rfl) rfl ?_ | refine chGo rfl rfl (loadRow tab rfl rfl rfl rfl) rfl ?_ | refine chGo rfl rfl (loadBox tab rfl rfl rfl rfl rfl) rfl ?_
                    refine chGo rfl rfl (puCall rfl rfl rfl (rorder_fn ..) rfl) rfl ?_
                    refine chGo rfl rfl (ev tab rfl) rfl ?_
                    refine chGo rfl rfl (ev tab rfl) rfl ?_
                    refine chPu (ev tab rfl) rfl ?_
                    refine chPu (ev tab rfl) rfl ?_
                    apply chSplitH; (case hj => rfl); (case hl => rfl)
                    · intro g67
                      refine chSkip rfl rfl rfl rfl ?_
                      refine chSkip rfl rfl rfl rfl ?_
                      refine chSkip rfl rfl rfl rfl ?_
                      refine chSkipU rfl rfl rfl ?_
                      refine chSkipU rfl rfl rfl ?_
                      refine chSkipU rfl rfl rfl ?_
                      refine chSkipU rfl rfl rfl ?_
                      refine chSkipU rfl rfl rfl ?_
                      refine chSkipU rfl rfl rfl ?_
                      refine chSkipU rfl rfl rfl ?_
                      refine chSkipU rfl rfl rfl ?_
                      refine chSkipU rfl rfl rfl ?_
                      refine chSkipU rfl rfl rfl ?_
                      refine chSkip rfl rfl rfl rfl ?_
                      refine chPu (ev tab rfl) rfl ?_
                      refine CH.nil ?_
                      refine qv1 rfl rfl rfl
                    · intro g67
                      refine chGo rfl rfl (ev tab rfl) rfl ?_
                      refine chGo rfl rfl (ev tab rfl) rfl ?_
                      refine chGo rfl rfl (ev tab rfl) rfl ?_
                      apply chSplitH; (case hj => rfl); (case hl => rfl)
                      · intro g70
                        refine chGo rfl rfl (ev tab rfl) rfl ?_
                        refine chGo rfl rfl (ev tab rfl) rfl ?_
                        refine chGo rfl rfl (indexAddr tab rfl rfl rfl rfl rfl rfl (Int.natCast_nonneg _) (idx_map hx) rfl) rfl ?_
                        first | refine chGo rfl rfl (ev tab rfl) rfl ?_ | refine chGo rfl rfl (loadRow tab rfl rfl rfl rfl) rfl ?_ | refine chGo rfl rfl (loadBox tab rfl rfl rfl rfl rfl) rfl ?_
                        refine chGo rfl rfl (ev tab rfl) rfl ?_
                        refine chGo rfl rfl (ev tab rfl) rfl ?_
                        refine chGo rfl rfl (indexAddr tab rfl rfl rfl rfl rfl rfl (by have := of_decide_eq_false g51; omega) (idx_map (getAt (of_decide_eq_false g51) hI.lt)) rfl) rfl ?_
                        first | refine chGo rfl rfl (ev tab rfl) rfl ?_ | refine chGo rfl rfl (loadRow tab rfl rfl rfl rfl) rfl ?_ | refine chGo rfl rfl (loadBox tab rfl rfl rfl rfl rfl) rfl ?_
                        refine chGo rfl rfl (puCall rfl rfl rfl (rorder_fn ..) rfl) rfl ?_
                        refine chGo rfl rfl (ev tab rfl) rfl ?_
                        refine chGo rfl rfl (ev tab rfl) rfl ?_
                        refine chPu (ev tab rfl) rfl ?_
                        refine CH.nil ?_
                        refine qv1 rfl rfl rfl
                      · intro g70
                        refine chSkip rfl rfl rfl rfl ?_
                        refine chSkip rfl rfl rfl rfl ?_
                        refine chSkip rfl rfl rfl rfl ?_
                        refine chSkip rfl rfl rfl rfl ?_
                        refine chSkip rfl rfl rfl rfl ?_
                        refine chSkip rfl rfl rfl rfl ?_
                        refine chSkip rfl rfl rfl rfl ?_
                        refine chSkip rfl rfl rfl rfl ?_
                        refine chSkip rfl rfl rfl rfl ?_
                        refine chSkip rfl rfl rfl rfl ?_
                        refine chGo rfl rfl (ev tab rfl) rfl ?_
                        refine chPu (ev tab rfl) rfl ?_
                        refine CH.nil ?_
                        refine qv1 rfl rfl rfl
                  · intro g54
                    refine chSkip rfl rfl rfl rfl ?_
                    refine chSkip rfl rfl rfl rfl ?_
                    refine chSkip rfl rfl rfl rfl ?_
                    refine chSkip rfl rfl rfl rfl ?_
                    refine chSkip rfl rfl rfl rfl ?_
                    refine chSkip rfl rfl rfl rfl ?_
                    refine chSkip rfl rfl rfl rfl ?_
                    refine chSkip rfl rfl rfl rfl ?_
                    refine chSkip rfl rfl rfl rfl ?_
                    refine chSkip rfl rfl rfl rfl ?_
                    refine chGo rfl rfl (ev tab rfl) rfl ?_
                    refine chPu (ev tab rfl) rfl ?_
                    refine chPu (ev tab rfl) rfl ?_
                    refine chGo rfl rfl (ev tab rfl) rfl ?_
                    refine chGo rfl rfl (ev tab rfl) rfl ?_
                    refine chGo rfl rfl (ev tab rfl) rfl ?_
                    apply chSplitH; (case hj => rfl); (case hl => rfl)
                    · intro g70
                      refine chGo rfl rfl (ev tab rfl) rfl ?_
                      refine chGo rfl rfl (ev tab rfl) rfl ?_
                      refine chGo rfl rfl (indexAddr tab rfl rfl rfl rfl rfl rfl (Int.natCast_nonneg _) (idx_map hx) rfl) rfl ?_
                      first | refine chGo rfl rfl (ev tab rfl) rfl ?_ | refine chGo rfl rfl (loadRow tab rfl rfl rfl rfl) rfl ?_ | refine chGo rfl rfl (loadBox tab rfl rfl rfl rfl rfl) rfl ?_
                      refine chGo rfl rfl (ev tab rfl) rfl ?_
                      refine chGo rfl rfl (ev tab rfl) rfl ?_
                      refine chGo rfl rfl (indexAddr tab rfl rfl rfl rfl rfl rfl (by have := of_decide_eq_false g51; omega) (idx_map (getAt (of_decide_eq_false g51) hI.lt)) rfl) rfl ?_
                      first | refine chGo rfl rfl (ev tab rfl) rfl ?_ | refine chGo rfl rfl (loadRow tab rfl rfl rfl rfl) rfl ?_ | refine chGo rfl rfl (loadBox tab rfl rfl rfl rfl rfl) rfl ?_
                      refine chGo rfl rfl (puCall rfl rfl rfl (rorder_fn ..) rfl) rfl ?_
                      refine chGo rfl rfl (ev tab rfl) rfl ?_
                      refine chGo rfl rfl (ev tab rfl) rfl ?_
                      refine chPu (ev tab rfl) rfl ?_
                      refine CH.nil ?_
                      refine qv1 rfl rfl rfl
                    · intro g70
                      refine chSkip rfl rfl rfl rfl ?_
                      refine chSkip rfl rfl rfl rfl ?_
                      refine chSkip rfl rfl rfl rfl ?_
                      refine chSkip rfl rfl rfl rfl ?_
                      refine chSkip rfl rfl rfl rfl ?_
                      refine chSkip rfl rfl rfl rfl ?_
                      refine chSkip rfl rfl rfl rfl ?_
                      refine chSkip rfl rfl rfl rfl ?_
                      refine chSkip rfl rfl rfl rfl ?_
                      refine chSkip rfl rfl rfl rfl ?_
                      refine chGo rfl rfl (ev tab rfl) rfl ?_
                      refine chPu (ev tab rfl) rfl ?_
                      refine CH.nil ?_
                      refine qv1 rfl rfl rfl
              refine qs ?_
              refine condK rfl (fun h82 => ?_) (fun h82 => ?_)
              · skip
                rw [agg_cond] at h82
                have h82 : idx b < 0 ∨ better fn v (l.getD (idx b).toNat nullV) = true := by rw [Bool.or_eq_true, decide_eq_true_eq] at h82; exact h82
                let nx := some k
                refine W.region ?_
                iterate 2 refine pu (ev tab rfl) rfl ?_
                refine WO.nil ?_
                refine qbN ?_
                refine qs ?_
                refine W.region ?_
                iterate 3 refine pu (ev tab rfl) rfl ?_
                refine WO.nil ?_
                refine W.endR [0] ⟨(k + 1, nx), ?_⟩ ?_ rfl ?_ ⟨rfl, rfl, rfl, rfl, trivial⟩ ?_ ⟨rfl, rfl, trivial⟩ rfl
                · first | exact ⟨hlt, hI.skip hx h48⟩ | exact ⟨hlt, hI.take hx h48 h82⟩ | exact ⟨hlt, hI.keep hx h48 h82.1 h82.2⟩
                · dsimp only; omega
                · repeat' first | exact trivial | refine ⟨rfl, ?_⟩ | refine ⟨step_nat (by assumption) (by assumption), ?_⟩
                · repeat' first | exact trivial | refine ⟨rfl, ?_⟩ | refine ⟨step_nat (by assumption) (by assumption), ?_⟩
              · skip
                rw [agg_cond, Bool.or_eq_false_iff] at h82
                have h82 : ¬ idx b < 0 ∧ better fn v (l.getD (idx b).toNat nullV) = false := ⟨of_decide_eq_false h82.1, h82.2⟩
                let nx := b
                refine W.skip ?_
                refine qbN ?_
                refine qs ?_
                refine W.region ?_
                iterate 3 refine pu (ev tab rfl) rfl ?_
                refine WO.nil ?_
                refine W.endR [0] ⟨(k + 1, nx), ?_⟩ ?_ rfl ?_ ⟨rfl, rfl, rfl, rfl, trivial⟩ ?_ ⟨rfl, rfl, trivial⟩ rfl
                · first | exact ⟨hlt, hI.skip hx h48⟩ | exact ⟨hlt, hI.take hx h48 h82⟩ | exact ⟨hlt, hI.keep hx h48 h82.1 h82.2⟩
                · dsimp only; omega
                · repeat' first | exact trivial | refine ⟨rfl, ?_⟩ | refine ⟨step_nat (by assumption) (by assumption), ?_⟩
                · repeat' first | exact trivial | refine ⟨rfl, ?_⟩ | refine ⟨step_nat (by assumption) (by assumption), ?_⟩
          · skip
            have hI2 := hI.eq
            rw [he, List.take_length] at hI2
            refine W.exit ?_
            refine qsExit ?_
            refine qlExit ?_
            refine qbExit ?_
            refine qs ?_
            refine W.seq ?_
            refine W.seq ?_
            refine W.region ?_
            iterate 2 refine pu (ev tab rfl) rfl ?_
            refine WO.nil ?_
            refine qs ?_
            refine condK rfl (fun h85 => ?_) (fun h85 => ?_)
            · skip
              have h85 : b = none := by cases b with | none => rfl | some i => exact absurd (of_decide_eq_true h85) (by simp [idx])
              refine W.seq ?_
              refine W.region ?_
              refine pu (build tab rfl rfl rfl rfl) rfl ?_
              refine storeR tab rfl rfl rfl rfl rfl rfl rfl rfl ?_
              refine WO.nil ?_
              refine qs ?_
              refine W.ret ?_
              refine qsRet ?_
              refine QV.ret0 tab trivial rfl ?_
              rw [aggV_best h29, hI2, h85]; rfl
            · skip
              have h85 : ¬ idx b < 0 := of_decide_eq_false h85
              refine W.skip ?_
              refine qs ?_
              refine W.seq ?_
              refine W.region ?_
              iterate 2 refine pu (ev tab rfl) rfl ?_
              refine pu (indexAddr tab rfl rfl rfl rfl rfl rfl (by omega) (idx_map (getAt h85 hI.lt)) rfl) rfl ?_
              first | refine pu (ev tab rfl) rfl ?_ | refine pu (loadRow tab rfl rfl rfl rfl) rfl ?_ | refine pu (loadBox tab rfl rfl rfl rfl rfl) rfl ?_
              refine storeR tab rfl rfl rfl rfl rfl rfl rfl rfl ?_
              refine WO.nil ?_
              refine qs ?_
              refine W.ret ?_
              refine QV.ret0 tab trivial rfl ?_
              rw [aggV_best h29, hI2]
              obtain ⟨i, rfl⟩ := idx_some h85
              rfl
end Go.Proofs.Ytaifpecinbjgcaa
namespace Go.Proofs.Ytaifpecinbjgcaa
open Go.Ab Go.Tb
set_option maxRecDepth 10000
attribute [local irreducible] W WO Pu QS QB QL QF QV QV1 CH QE
theorem texprN_fn (e : Ex) : Does Try.prog 11 [.d (.v (.slice none 0 0)), .ag e.c] (.tup [.d (.v (.int .i64 (exprT [] e).1)), .d (.v (.int .i64 (exprT [] e).2))]) 0 :=
  Does.nilAt (xs := []) (texpr_fn [] e)
theorem evalueN_fn (e : Ex) (hv : nodesErr e = 0) (ht : (typ [] e).2 = 0) : Does Try.prog 26 [.d (.v (.slice none 0 0)), .d (.v (.slice none 0 0)), .ag e.c] (.ag (evalV [] [] e).c) 0 :=
  Does.nilAt (xs := []) (Does.nilAt (xs := [.d (.sl [])]) (evalue_fn [] [] rfl e hv ht))
theorem efold_fn : ∀ (e : Ex), nodesErr e = 0 → Does Try.prog 39 [.ag e.c] (.ag (foldE e).c) 0 := by
  refine Ex.ind fun e ih => ?_
  intro hv
  have hkv := valid_kids (valid_node hv)
  have hq := foldE_eq e
  refine Does.of_V tab (n := 56) (rs := [.cell 2 30]) Try.func39 (by kernel_rfl) rfl Try.ntmps39 Try.results39 rfl fun C hC hG => ?_
  refine W.seq ?_
  refine W.region ?_
  refine boxR rfl rfl rfl ?_
  refine allocR tab rfl rfl rfl ?_
  refine WO.nil ?_
  refine qs ?_
  refine W.seq ?_
  refine W.seq ?_
  refine W.region ?_
  refine pu (ev tab rfl) rfl ?_
  first | refine pu (ev tab rfl) rfl ?_ | refine pu (loadRow tab rfl rfl rfl rfl) rfl ?_ | refine pu (loadBox tab rfl rfl rfl rfl rfl) rfl ?_
  iterate 2 refine pu (ev tab rfl) rfl ?_
  refine WO.nil ?_
  refine qs ?_
  refine condK rfl (fun h13 => ?_) (fun h13 => ?_)
  · skip
    have h13 : e.kids.length = 0 := by rw [Ex.kc_len] at h13; simpa using h13
    rw [if_pos h13] at hq
    refine W.seq ?_
    refine W.region ?_
    first | refine pu (ev tab rfl) rfl ?_ | refine pu (loadRow tab rfl rfl rfl rfl) rfl ?_ | refine pu (loadBox tab rfl rfl rfl rfl rfl) rfl ?_
    refine storeR tab rfl rfl rfl rfl rfl rfl rfl rfl ?_
    refine WO.nil ?_
    refine qs ?_
    try refine nilBox 1 5 rfl rfl rfl ?_
    refine W.ret ?_
    refine qsRet ?_
    refine QV.ret0 tab trivial rfl ?_
    rw [hq]; rfl
  · skip
    have h13 : ¬ e.kids.length = 0 := by rw [Ex.kc_len] at h13; simpa using h13
    rw [if_neg h13] at hq
    have hop := kids_op hv h13
    refine W.skip ?_
    refine qs ?_
    refine W.seq ?_
    refine W.region ?_
    refine pu (ev tab rfl) rfl ?_
    first | refine pu (ev tab rfl) rfl ?_ | refine pu (loadRow tab rfl rfl rfl rfl) rfl ?_ | refine pu (loadBox tab rfl rfl rfl rfl rfl) rfl ?_
    refine pu (ev tab rfl) rfl ?_
    first | refine pu (ev tab rfl) rfl ?_ | refine pu (loadRow tab rfl rfl rfl rfl) rfl ?_ | refine pu (loadBox tab rfl rfl rfl rfl rfl) rfl ?_
    refine pu (build tab rfl rfl rfl rfl) rfl ?_
    refine allocR tab rfl rfl rfl ?_
    refine storeR tab rfl rfl rfl rfl rfl rfl rfl rfl ?_
    refine WO.nil ?_
    refine qs ?_
    refine W.seq ?_
    refine W.region ?_
    refine pu (ev tab rfl) rfl ?_
    refine WO.nil ?_
    refine qs ?_
    refine W.seq ?_
    refine W.seq ?_
    refine W.region ?_
    refine pu (ev tab rfl) rfl ?_
    first | refine pu (ev tab rfl) rfl ?_ | refine pu (loadRow tab rfl rfl rfl rfl) rfl ?_ | refine pu (loadBox tab rfl rfl rfl rfl rfl) rfl ?_
    iterate 2 refine pu (ev tab rfl) rfl ?_
    refine WO.nil ?_
    refine qs ?_
    refine W.block ?_
    refine ownNilBox 2 5 rfl rfl rfl ?_
    refine W.len (t := 21) rfl rfl (fun hlen => ?_)
    try simp only [List.length_map, Ex.kc_len] at hlen
    refine W.loopR (ι := {x : Nat × List Ex // match x with | (k, ks) => k ≤ e.kids.length ∧ ks = (e.kids.take k).map foldE})
      (fun x => match x.1 with | (k, ks) => [(2, .ptr 1 0), (3, .ptr 2 0), (4, .d (.v (.bool (ks.all isC)))), (23, .d (.v (.int .i64 ((k : Nat) : Int))))]) [(21, _), (22, _)]
      (fun x => match x.1 with | (k, ks) => [(2, [.d (ci e.op), .d (cs e.name), .d (ci 0), .d (ci 0), .d (cs (B #[])), .own 3 (ks.map Ex.c)])]) [(0, _), (1, _)] [3] 4 (fun x => match x.1 with | (k, ks) => e.kids.length - k)
      [0, 1, 2, 3] ⟨(0, []), ?_⟩ rfl ?_ ⟨rfl, rfl, rfl, rfl, trivial⟩ ?_ ⟨rfl, rfl, rfl, rfl, trivial⟩ rfl ?_
    · exact ⟨Nat.zero_le _, rfl⟩
    · repeat' first | exact trivial | refine ⟨rfl, ?_⟩ | refine ⟨step_nat (by assumption) (by assumption), ?_⟩
    · repeat' first | exact trivial | refine ⟨rfl, ?_⟩ | refine ⟨step_nat (by assumption) (by assumption), ?_⟩
    rintro ⟨⟨k, ks⟩, hk, hI⟩
    show W _ _ _ _ _ ⟨[(2, .ptr 1 0), (3, .ptr 2 0), (4, .d (.v (.bool (ks.all isC)))), (23, .d (.v (.int .i64 ((k : Nat) : Int)))), (21, _), (22, _)], [(2, [.d (ci e.op), .d (cs e.name), .d (ci 0), .d (ci 0), .d (cs (B #[])), .own 3 (ks.map Ex.c)]), (0, _), (1, _)], [3], 4⟩
    refine W.seq ?_
    refine W.region ?_
    refine pu (ev tab rfl) rfl ?_
    refine WO.nil ?_
    refine qs ?_
    refine W.seq ?_
    refine eachR (l := e.kids) (k := k) rfl (by simp [Ex.kc_len, bytes_len]) hk (fun x hx hd hlt => ?_) (fun he hd => ?_)
    · skip
      have hmem := List.mem_of_getElem? hx
      have hkl : ks.length ≤ 2 := by rw [hI, List.length_map, List.length_take]; have := hkv.2.2.2.2.1; omega
      refine W.skip ?_
      refine qs ?_
      refine W.seq ?_
      refine W.block ?_
      refine W.seq ?_
      refine W.region ?_
      refine pu (indexAddr tab rfl rfl rfl rfl rfl rfl (Int.natCast_nonneg _) (Ex.kc_idx hx) rfl) rfl ?_
      first | refine pu (ev tab rfl) rfl ?_ | refine pu (loadRow tab rfl rfl rfl rfl) rfl ?_ | refine pu (loadBox tab rfl rfl rfl rfl rfl) rfl ?_
      refine allocR tab rfl rfl rfl ?_
      refine storeR tab rfl rfl rfl rfl rfl rfl rfl rfl ?_
      refine WO.nil ?_
      refine qs ?_
      refine W.seq ?_
      refine W.region ?_
      first | refine pu (ev tab rfl) rfl ?_ | refine pu (loadRow tab rfl rfl rfl rfl) rfl ?_ | refine pu (loadBox tab rfl rfl rfl rfl rfl) rfl ?_
      refine pu (puCall rfl rfl rfl (ih x hmem (valid_kid hv hmem)) rfl) rfl ?_
      refine allocR tab rfl rfl rfl ?_
      refine storeR tab rfl rfl rfl rfl rfl rfl rfl rfl ?_
      refine WO.nil ?_
      refine qs ?_
      refine W.seq ?_
      apply regionB; (case hb => rfl)
      · skip
        iterate 2 refine pu (ev tab rfl) rfl ?_
        apply splitJ; (case hj => rfl); (case hl => rfl)
        · skip
          refine goG rfl rfl ?_
          refine pu (ev tab rfl) rfl ?_
          refine goG rfl rfl ?_
          first | refine pu (ev tab rfl) rfl ?_ | refine pu (loadRow tab rfl rfl rfl rfl) rfl ?_ | refine pu (loadBox tab rfl rfl rfl rfl rfl) rfl ?_
          refine goG rfl rfl ?_
          iterate 3 refine pu (ev tab rfl) rfl ?_
          refine WO.nil ?_
          refine qv1 rfl rfl rfl
        · skip
          refine skipT rfl rfl rfl rfl ?_
          refine skipT rfl rfl rfl rfl ?_
          refine skipT rfl rfl rfl rfl ?_
          iterate 2 refine pu (ev tab rfl) rfl ?_
          refine WO.nil ?_
          refine qv1 rfl rfl rfl
      refine qs ?_
      refine W.region ?_
      refine pu (ev tab rfl) rfl ?_
      first | refine pu (ev tab rfl) rfl ?_ | refine pu (loadRow tab rfl rfl rfl rfl) rfl ?_ | refine pu (loadBox tab rfl rfl rfl rfl rfl) rfl ?_
      first | refine pu (ev tab rfl) rfl ?_ | refine pu (loadRow tab rfl rfl rfl rfl) rfl ?_ | refine pu (loadBox tab rfl rfl rfl rfl rfl) rfl ?_
      refine pu (buildV tab rfl rfl rfl rfl rfl rfl rfl rfl rfl) rfl ?_
      refine appendM tab rfl rfl rfl rfl rfl rfl rfl rfl rfl rfl (fun _ => rfl) (by show (ks.length + 1) * 80 ≤ _; omega) ?_
      refine pu (ev tab rfl) rfl ?_
      refine storeR tab rfl rfl rfl rfl rfl rfl rfl rfl ?_
      refine WO.nil ?_
      refine qbN ?_
      refine qs ?_
      refine W.region ?_
      iterate 2 refine pu (ev tab rfl) rfl ?_
      refine WO.nil ?_
      rw [bifAnd, show (ks.all isC && decide ((foldE x).op = 1)) = (ks ++ [foldE x]).all isC by simp [isC]]
      refine W.endR [0, 1, 2, 6] ⟨(k + 1, ks ++ [foldE x]), ?_⟩ ?_ rfl ?_ ⟨rfl, rfl, rfl, rfl, trivial⟩ ?_ ⟨rfl, rfl, rfl, rfl, trivial⟩ rfl
      · exact ⟨hlt, by rw [take_map_succ hx, hI]⟩
      · dsimp only; omega
      · repeat' first | exact trivial | refine ⟨rfl, ?_⟩ | refine ⟨step_nat (by assumption) (by assumption), ?_⟩
      · repeat' first | exact trivial | refine ⟨rfl, ?_⟩ | refine ⟨step_nat (by assumption) (by assumption), ?_⟩
    · skip
      have hI : ks = e.kids.map foldE := by rw [hI, take_map_end he]
      rw [← Ex.kcs_eq]
      refine W.exit ?_
      refine qsExit ?_
      refine qlExit ?_
      refine qbExit ?_
      refine qs ?_
      refine W.seq ?_
      refine W.seq ?_
      refine W.region ?_
      iterate 2 refine pu (ev tab rfl) rfl ?_
      refine WO.nil ?_
      refine qs ?_
      refine condK rfl (fun h43 => ?_) (fun h43 => ?_)
      · skip
        have h43 : ks.all isC = false := by simpa using h43
        refine W.seq ?_
        refine W.region ?_
        first | refine pu (ev tab rfl) rfl ?_ | refine pu (loadRow tab rfl rfl rfl rfl) rfl ?_ | refine pu (loadBox tab rfl rfl rfl rfl rfl) rfl ?_
        refine storeR tab rfl rfl rfl rfl rfl rfl rfl rfl ?_
        refine WO.nil ?_
        refine qs ?_
        try refine nilBox 1 5 rfl rfl rfl ?_
        refine W.ret ?_
        refine qsRet ?_
        refine QV.ret0 tab trivial rfl ?_
        rw [hq, ← hI, show foldN e ks = outE e ks by simp only [foldN, if_pos h43]]; rfl
      · skip
        have h43 : ¬ ks.all isC = false := by simpa using h43
        refine W.skip ?_
        refine qs ?_
        refine W.seq ?_
        refine W.seq ?_
        refine W.region ?_
        first | refine pu (ev tab rfl) rfl ?_ | refine pu (loadRow tab rfl rfl rfl rfl) rfl ?_ | refine pu (loadBox tab rfl rfl rfl rfl rfl) rfl ?_
        refine pu (puCall rfl rfl rfl (texprN_fn (outE e ks)) rfl) rfl ?_
        iterate 5 refine pu (ev tab rfl) rfl ?_
        refine WO.nil ?_
        refine qs ?_
        refine W.seq ?_
        refine W.region ?_
        iterate 2 refine pu (ev tab rfl) rfl ?_
        refine WO.nil ?_
        refine qs ?_
        refine condK rfl (fun h51 => ?_) (fun h51 => ?_)
        · skip
          have h51 : (exprT [] (outE e ks)).2 ≠ 0 := by simpa using h51
          refine W.seq ?_
          refine W.region ?_
          first | refine pu (ev tab rfl) rfl ?_ | refine pu (loadRow tab rfl rfl rfl rfl) rfl ?_ | refine pu (loadBox tab rfl rfl rfl rfl rfl) rfl ?_
          refine storeR tab rfl rfl rfl rfl rfl rfl rfl rfl ?_
          refine WO.nil ?_
          refine qs ?_
          try refine nilBox 1 5 rfl rfl rfl ?_
          refine W.ret ?_
          refine qsRet ?_
          refine QV.ret0 tab trivial rfl ?_
          rw [hq, ← hI, show foldN e ks = outE e ks by simp only [foldN, if_neg h43, if_pos h51]]; rfl
        · skip
          have h51 : (exprT [] (outE e ks)).2 = 0 := by simpa using h51
          have ho := exprT_ok h51
          refine W.skip ?_
          refine qs ?_
          refine W.seq ?_
          refine W.region ?_
          first | refine pu (ev tab rfl) rfl ?_ | refine pu (loadRow tab rfl rfl rfl rfl) rfl ?_ | refine pu (loadBox tab rfl rfl rfl rfl rfl) rfl ?_
          refine pu (puCall rfl rfl rfl (evalueN_fn (outE e ks) (exprErr_zero ho.1) ho.2) rfl) rfl ?_
          refine pu (build tab rfl rfl rfl rfl) rfl ?_
          refine storeR tab rfl rfl rfl rfl rfl rfl rfl rfl ?_
          refine WO.nil ?_
          refine qs ?_
          try refine nilBox 1 5 rfl rfl rfl ?_
          refine W.ret ?_
          refine QV.ret0 tab trivial rfl ?_
          rw [hq, ← hI, show foldN e ks = .mk 1 (B #[]) (evalV [] [] (outE e ks)) [] by simp only [foldN, if_neg h43]; rw [if_neg (by simpa using h51)]]
          rfl
theorem eFold_fn (e : Ex) : Does Try.prog 22 [.ag e.c] (.ag (foldX e).c) 0 := by
  refine Does.of_V tab (n := 9) (rs := [.cell 2 30]) Try.func22 (by kernel_rfl) rfl Try.ntmps22 Try.results22 rfl fun C hC hG => ?_
  refine W.seq ?_
  refine W.region ?_
  refine boxR rfl rfl rfl ?_
  refine allocR tab rfl rfl rfl ?_
  refine WO.nil ?_
  refine qs ?_
  refine W.seq ?_
  refine W.seq ?_
  refine W.region ?_
  first | refine pu (ev tab rfl) rfl ?_ | refine pu (loadRow tab rfl rfl rfl rfl) rfl ?_ | refine pu (loadBox tab rfl rfl rfl rfl rfl) rfl ?_
  refine pu (puCall rfl rfl rfl (expr_fn ..) rfl) rfl ?_
  refine pu (ev tab rfl) rfl ?_
  refine WO.nil ?_
  refine qs ?_
  refine condK rfl (fun h5 => ?_) (fun h5 => ?_)
  · skip
    have h5 : exprErr e ≠ 0 := by simpa using h5
    refine W.seq ?_
    refine W.region ?_
    first | refine pu (ev tab rfl) rfl ?_ | refine pu (loadRow tab rfl rfl rfl rfl) rfl ?_ | refine pu (loadBox tab rfl rfl rfl rfl rfl) rfl ?_
    refine storeR tab rfl rfl rfl rfl rfl rfl rfl rfl ?_
    refine WO.nil ?_
    refine qs ?_
    refine W.ret ?_
    refine qsRet ?_
    refine QV.ret0 tab trivial rfl ?_
    rw [show foldX e = e by simp only [foldX, if_pos h5]]; rfl
  · skip
    have h5 : ¬ exprErr e ≠ 0 := by simpa using h5
    refine W.skip ?_
    refine qs ?_
    refine W.seq ?_
    refine W.region ?_
    first | refine pu (ev tab rfl) rfl ?_ | refine pu (loadRow tab rfl rfl rfl rfl) rfl ?_ | refine pu (loadBox tab rfl rfl rfl rfl rfl) rfl ?_
    refine pu (puCall rfl rfl rfl (efold_fn e (exprErr_zero (by simpa using h5))) rfl) rfl ?_
    refine storeR tab rfl rfl rfl rfl rfl rfl rfl rfl ?_
    refine WO.nil ?_
    refine qs ?_
    refine W.ret ?_
    refine QV.ret0 tab trivial rfl ?_
    rw [show foldX e = foldE e by simp only [foldX, if_neg h5]]; rfl
theorem same_fn : ∀ (a b : Ex), Does Try.prog 24 [.ag a.c, .ag b.c] (.d (.v (.bool (sameE a b)))) 0 := by
  refine Ex.ind fun a ih => ?_
  intro b
  have hq := sameE_eq a b
  refine Does.of_W (n := 53) (ts := [4]) Try.func24 (by kernel_rfl) rfl Try.ntmps24 Try.results24 rfl rfl fun C hC hG => ?_
  refine W.seq ?_
  refine W.region ?_
  refine boxR rfl rfl rfl ?_
  refine boxR rfl rfl rfl ?_
  refine pu (ev tab rfl) rfl ?_
  refine WO.nil ?_
  refine qs ?_
  refine W.seq ?_
  refine W.seq ?_
  apply regionB; (case hb => rfl)
  · skip
    refine pu (ev tab rfl) rfl ?_
    first | refine pu (ev tab rfl) rfl ?_ | refine pu (loadRow tab rfl rfl rfl rfl) rfl ?_ | refine pu (loadBox tab rfl rfl rfl rfl rfl) rfl ?_
    refine pu (ev tab rfl) rfl ?_
    first | refine pu (ev tab rfl) rfl ?_ | refine pu (loadRow tab rfl rfl rfl rfl) rfl ?_ | refine pu (loadBox tab rfl rfl rfl rfl rfl) rfl ?_
    iterate 2 refine pu (ev tab rfl) rfl ?_
    apply splitJ; (case hj => rfl); (case hl => rfl)
    · skip
      refine skipT rfl rfl rfl rfl ?_
      refine skipT rfl rfl rfl rfl ?_
      refine skipT rfl rfl rfl rfl ?_
      refine skipT rfl rfl rfl rfl ?_
      refine skipT rfl rfl rfl rfl ?_
      iterate 2 refine pu (ev tab rfl) rfl ?_
      refine skipT rfl rfl rfl rfl ?_
      refine skipT rfl rfl rfl rfl ?_
      refine skipT rfl rfl rfl rfl ?_
      refine skipT rfl rfl rfl rfl ?_
      refine skipT rfl rfl rfl rfl ?_
      iterate 2 refine pu (ev tab rfl) rfl ?_
      refine skipT rfl rfl rfl rfl ?_
      refine skipT rfl rfl rfl rfl ?_
      refine skipT rfl rfl rfl rfl ?_
      refine skipT rfl rfl rfl rfl ?_
      refine skipT rfl rfl rfl rfl ?_
      refine skipT rfl rfl rfl rfl ?_
      refine skipT rfl rfl rfl rfl ?_
      refine pu (ev tab rfl) rfl ?_
      refine WO.nil ?_
      refine qv1 rfl rfl rfl
    · skip
      refine goG rfl rfl ?_
      refine pu (ev tab rfl) rfl ?_
      refine goG rfl rfl ?_
      first | refine pu (ev tab rfl) rfl ?_ | refine pu (loadRow tab rfl rfl rfl rfl) rfl ?_ | refine pu (loadBox tab rfl rfl rfl rfl rfl) rfl ?_
      refine goG rfl rfl ?_
      refine pu (ev tab rfl) rfl ?_
      refine goG rfl rfl ?_
      first | refine pu (ev tab rfl) rfl ?_ | refine pu (loadRow tab rfl rfl rfl rfl) rfl ?_ | refine pu (loadBox tab rfl rfl rfl rfl rfl) rfl ?_
      refine goG rfl rfl ?_
      iterate 3 refine pu (ev tab rfl) rfl ?_
      apply splitJ; (case hj => rfl); (case hl => rfl)
      · skip
        refine skipT rfl rfl rfl rfl ?_
        refine skipT rfl rfl rfl rfl ?_
        refine skipT rfl rfl rfl rfl ?_
        refine skipT rfl rfl rfl rfl ?_
        refine skipT rfl rfl rfl rfl ?_
        iterate 2 refine pu (ev tab rfl) rfl ?_
        refine skipT rfl rfl rfl rfl ?_
        refine skipT rfl rfl rfl rfl ?_
        refine skipT rfl rfl rfl rfl ?_
        refine skipT rfl rfl rfl rfl ?_
        refine skipT rfl rfl rfl rfl ?_
        refine skipT rfl rfl rfl rfl ?_
        refine skipT rfl rfl rfl rfl ?_
        refine pu (ev tab rfl) rfl ?_
        refine WO.nil ?_
        refine qv1 rfl rfl rfl
      · skip
        refine goG rfl rfl ?_
        refine pu (ev tab rfl) rfl ?_
        refine goG rfl rfl ?_
        first | refine pu (ev tab rfl) rfl ?_ | refine pu (loadRow tab rfl rfl rfl rfl) rfl ?_ | refine pu (loadBox tab rfl rfl rfl rfl rfl) rfl ?_
        refine goG rfl rfl ?_
        refine pu (ev tab rfl) rfl ?_
        refine goG rfl rfl ?_
        first | refine pu (ev tab rfl) rfl ?_ | refine pu (loadRow tab rfl rfl rfl rfl) rfl ?_ | refine pu (loadBox tab rfl rfl rfl rfl rfl) rfl ?_
        refine goG rfl rfl ?_
        iterate 3 refine pu (ev tab rfl) rfl ?_
        apply splitJ; (case hj => rfl); (case hl => rfl)
        · skip
          refine skipT rfl rfl rfl rfl ?_
          refine skipT rfl rfl rfl rfl ?_
          refine skipT rfl rfl rfl rfl ?_
          refine skipT rfl rfl rfl rfl ?_
          refine skipT rfl rfl rfl rfl ?_
          refine skipT rfl rfl rfl rfl ?_
          refine skipT rfl rfl rfl rfl ?_
          refine pu (ev tab rfl) rfl ?_
          refine WO.nil ?_
          refine qv1 rfl rfl rfl
        · skip
          refine goG rfl rfl ?_
          refine pu (ev tab rfl) rfl ?_
          refine goG rfl rfl ?_
          first | refine pu (ev tab rfl) rfl ?_ | refine pu (loadRow tab rfl rfl rfl rfl) rfl ?_ | refine pu (loadBox tab rfl rfl rfl rfl rfl) rfl ?_
          refine goG rfl rfl ?_
          refine pu (ev tab rfl) rfl ?_
          refine goG rfl rfl ?_
          refine pu (ev tab rfl) rfl ?_
          refine goG rfl rfl ?_
          first | refine pu (ev tab rfl) rfl ?_ | refine pu (loadRow tab rfl rfl rfl rfl) rfl ?_ | refine pu (loadBox tab rfl rfl rfl rfl rfl) rfl ?_
          refine goG rfl rfl ?_
          refine pu (ev tab rfl) rfl ?_
          refine goG rfl rfl ?_
          iterate 2 refine pu (ev tab rfl) rfl ?_
          refine WO.nil ?_
          refine qv1 rfl rfl rfl
  refine qs ?_
  refine condK rfl (fun h33 => ?_) (fun h33 => ?_)
  · skip
    rw [valEq, lenEq, same_cond] at h33
    refine W.seq ?_
    refine W.region ?_
    refine pu (ev tab rfl) rfl ?_
    refine WO.nil ?_
    refine qs ?_
    refine W.ret ?_
    refine qsRet ?_
    refine QF.ret0 trivial rfl ?_
    rw [hq, show (decide (a.op = b.op) && decide (a.name = b.name) && decide (a.v = b.v) && decide (a.kids.length = b.kids.length)) = false by rw [← Bool.not_eq_true', h33]]; rfl
  · skip
    rw [valEq, lenEq, same_cond, Bool.not_eq_false'] at h33
    have h33l : a.kids.length = b.kids.length := by simp only [Bool.and_eq_true, decide_eq_true_eq] at h33; exact h33.2
    refine W.skip ?_
    refine qs ?_
    refine W.seq ?_
    refine W.seq ?_
    refine W.region ?_
    refine pu (ev tab rfl) rfl ?_
    refine WO.nil ?_
    refine qs ?_
    refine W.block ?_
    refine lenBox (g := 0) (j := 5) rfl rfl (fun hlen => ?_)
    rw [Ex.kc_len] at hlen
    refine W.loopR (ι := {x : Nat // match x with | k => k ≤ a.kids.length ∧ sameL (a.kids.drop k) (b.kids.drop k) = sameL a.kids b.kids})
      (fun x => match x.1 with | k => [(2, .ptr 0 0), (3, .ptr 1 0), (5, .d (.v (.int .i64 ((k : Nat) : Int))))]) []
      (fun x => match x.1 with | k => []) [(0, _), (1, _)] [] 2 (fun x => match x.1 with | k => a.kids.length - k)
      [0, 1] ⟨0, ?_⟩ rfl ?_ trivial ?_ ⟨rfl, rfl, rfl, rfl, trivial⟩ rfl ?_
    · first | exact ⟨Nat.zero_le _, rfl⟩ | exact trivial | simp
    · repeat' first | exact trivial | refine ⟨rfl, ?_⟩ | refine ⟨step_nat (by assumption) (by assumption), ?_⟩
    · repeat' first | exact trivial | refine ⟨rfl, ?_⟩ | refine ⟨step_nat (by assumption) (by assumption), ?_⟩
    rintro ⟨k, hk, hI⟩
    show W _ _ _ _ _ ⟨[(2, .ptr 0 0), (3, .ptr 1 0), (5, .d (.v (.int .i64 ((k : Nat) : Int))))], [(0, _), (1, _)], [], 2⟩
    refine W.seq ?_
    refine W.seq ?_
    refine W.region ?_
    iterate 2 refine pu (ev tab rfl) rfl ?_
    first | refine pu (ev tab rfl) rfl ?_ | refine pu (loadRow tab rfl rfl rfl rfl) rfl ?_ | refine pu (loadBox tab rfl rfl rfl rfl rfl) rfl ?_
    iterate 2 refine pu (ev tab rfl) rfl ?_
    refine WO.nil ?_
    refine qs ?_
    refine eachR (l := a.kids) (k := k) rfl (by simp [Ex.kc_len, bytes_len]) hk (fun x hx hd hlt => ?_) (fun he hd => ?_)
    · skip
      obtain ⟨y, hy, hyd⟩ := exAt (l := b.kids) (k := k) (by omega)
      rw [hd, hyd] at hI
      simp only [sameL, List.headD_cons, List.tail_cons] at hI
      refine W.skip ?_
      refine qs ?_
      refine W.seq ?_
      refine W.block ?_
      refine W.seq ?_
      refine W.regionD tab (by kernel_rfl) ?_
      refine chPu (ev tab rfl) rfl ?_
      first | refine chPu (ev tab rfl) rfl ?_ | refine chPu (loadRow tab rfl rfl rfl rfl) rfl ?_ | refine chPu (loadBox tab rfl rfl rfl rfl rfl) rfl ?_
      refine chPu (ev tab rfl) rfl ?_
      refine chPu (indexAddr tab rfl rfl rfl rfl rfl rfl (Int.natCast_nonneg _) (Ex.kc_idx hx) rfl) rfl ?_
      first | refine chPu (ev tab rfl) rfl ?_ | refine chPu (loadRow tab rfl rfl rfl rfl) rfl ?_ | refine chPu (loadBox tab rfl rfl rfl rfl rfl) rfl ?_
      refine chPu (ev tab rfl) rfl ?_
      first | refine chPu (ev tab rfl) rfl ?_ | refine chPu (loadRow tab rfl rfl rfl rfl) rfl ?_ | refine chPu (loadBox tab rfl rfl rfl rfl rfl) rfl ?_
      refine chPu (ev tab rfl) rfl ?_
      refine chPu (indexAddr tab rfl rfl rfl rfl rfl rfl (Int.natCast_nonneg _) (Ex.kc_idx hy) rfl) rfl ?_
      first | refine chPu (ev tab rfl) rfl ?_ | refine chPu (loadRow tab rfl rfl rfl rfl) rfl ?_ | refine chPu (loadBox tab rfl rfl rfl rfl rfl) rfl ?_
      refine chPu (puCall rfl rfl rfl (ih x (List.mem_of_getElem? hx) y) rfl) rfl ?_
      refine chPu (ev tab rfl) rfl ?_
      refine CH.nil ?_
      refine qs ?_
      refine condK rfl (fun h52 => ?_) (fun h52 => ?_)
      · skip
        have h52 : sameE x y = false := by simpa using h52
        refine W.seq ?_
        refine W.region ?_
        refine pu (ev tab rfl) rfl ?_
        refine WO.nil ?_
        refine qs ?_
        refine W.ret ?_
        refine qbRet ?_
        refine qsRet ?_
        refine qlRet ?_
        refine qbRet ?_
        refine qsRet ?_
        refine QF.ret0 trivial rfl ?_
        rw [hq, ← hI, h52, Bool.false_and, Bool.and_false]; rfl
      · skip
        have h52 : sameE x y = true := by simpa using h52
        rw [h52, Bool.true_and] at hI
        refine W.skip ?_
        refine qbN ?_
        refine qs ?_
        refine W.region ?_
        iterate 3 refine pu (ev tab rfl) rfl ?_
        refine WO.nil ?_
        refine W.endR [0, 1] ⟨k + 1, ?_⟩ ?_ rfl ?_ trivial ?_ ⟨rfl, rfl, rfl, rfl, trivial⟩ rfl
        · exact ⟨hlt, hI⟩
        · dsimp only; omega
        · repeat' first | exact trivial | refine ⟨rfl, ?_⟩ | refine ⟨step_nat (by assumption) (by assumption), ?_⟩
        · repeat' first | exact trivial | refine ⟨rfl, ?_⟩ | refine ⟨step_nat (by assumption) (by assumption), ?_⟩
    · skip
      rw [hd] at hI
      refine W.exit ?_
      refine qsExit ?_
      refine qlExit ?_
      refine qbExit ?_
      refine qs ?_
      refine W.seq ?_
      refine W.region ?_
      refine pu (ev tab rfl) rfl ?_
      refine WO.nil ?_
      refine qs ?_
      refine W.ret ?_
      refine QF.ret0 trivial rfl ?_
      rw [hq, ← hI, h33]; rfl
theorem texts_fn : ∀ (e : Ex), Does Try.prog 21 [.ag e.c] (.d (.v (.bool (textsE e)))) 0 := by
  refine Ex.ind fun e ih => ?_
  have hq := textsE_eq e
  refine Does.of_W (n := 23) (ts := [2]) Try.func21 (by kernel_rfl) rfl Try.ntmps21 Try.results21 rfl rfl fun C hC hG => ?_
  refine W.seq ?_
  refine W.region ?_
  refine boxR rfl rfl rfl ?_
  refine pu (ev tab rfl) rfl ?_
  refine WO.nil ?_
  refine qs ?_
  refine W.seq ?_
  refine W.seq ?_
  refine W.region ?_
  refine pu (ev tab rfl) rfl ?_
  refine WO.nil ?_
  refine qs ?_
  refine W.block ?_
  refine lenBox (g := 0) (j := 5) rfl rfl (fun hlen => ?_)
  rw [Ex.kc_len] at hlen
  refine W.loopR (ι := {x : Nat // match x with | k => k ≤ e.kids.length ∧ textsL (e.kids.drop k) = textsL e.kids})
    (fun x => match x.1 with | k => [(1, .ptr 0 0), (3, .d (.v (.int .i64 ((k : Nat) : Int))))]) []
    (fun x => match x.1 with | k => []) [(0, _)] [] 1 (fun x => match x.1 with | k => e.kids.length - k)
    [0] ⟨0, ?_⟩ rfl ?_ trivial ?_ ⟨rfl, rfl, trivial⟩ rfl ?_
  · first | exact ⟨Nat.zero_le _, rfl⟩ | exact trivial | simp
  · repeat' first | exact trivial | refine ⟨rfl, ?_⟩ | refine ⟨step_nat (by assumption) (by assumption), ?_⟩
  · repeat' first | exact trivial | refine ⟨rfl, ?_⟩ | refine ⟨step_nat (by assumption) (by assumption), ?_⟩
  rintro ⟨k, hk, hI⟩
  show W _ _ _ _ _ ⟨[(1, .ptr 0 0), (3, .d (.v (.int .i64 ((k : Nat) : Int))))], [(0, _)], [], 1⟩
  refine W.seq ?_
  refine W.seq ?_
  refine W.region ?_
  iterate 2 refine pu (ev tab rfl) rfl ?_
  first | refine pu (ev tab rfl) rfl ?_ | refine pu (loadRow tab rfl rfl rfl rfl) rfl ?_ | refine pu (loadBox tab rfl rfl rfl rfl rfl) rfl ?_
  iterate 2 refine pu (ev tab rfl) rfl ?_
  refine WO.nil ?_
  refine qs ?_
  refine eachR (l := e.kids) (k := k) rfl (by simp [Ex.kc_len, bytes_len]) hk (fun x hx hd hlt => ?_) (fun he hd => ?_)
  · skip
    rw [hd] at hI
    simp only [textsL] at hI
    refine W.skip ?_
    refine qs ?_
    refine W.seq ?_
    refine W.block ?_
    refine W.seq ?_
    refine W.region ?_
    refine pu (ev tab rfl) rfl ?_
    first | refine pu (ev tab rfl) rfl ?_ | refine pu (loadRow tab rfl rfl rfl rfl) rfl ?_ | refine pu (loadBox tab rfl rfl rfl rfl rfl) rfl ?_
    refine pu (ev tab rfl) rfl ?_
    refine pu (indexAddr tab rfl rfl rfl rfl rfl rfl (Int.natCast_nonneg _) (Ex.kc_idx hx) rfl) rfl ?_
    first | refine pu (ev tab rfl) rfl ?_ | refine pu (loadRow tab rfl rfl rfl rfl) rfl ?_ | refine pu (loadBox tab rfl rfl rfl rfl rfl) rfl ?_
    refine pu (puCall rfl rfl rfl (ih x (List.mem_of_getElem? hx)) rfl) rfl ?_
    refine pu (ev tab rfl) rfl ?_
    refine WO.nil ?_
    refine qs ?_
    refine condK rfl (fun h17 => ?_) (fun h17 => ?_)
    · skip
      have h17 : textsE x = false := by simpa using h17
      refine W.seq ?_
      refine W.region ?_
      refine pu (ev tab rfl) rfl ?_
      refine WO.nil ?_
      refine qs ?_
      refine W.ret ?_
      refine qbRet ?_
      refine qsRet ?_
      refine qlRet ?_
      refine qbRet ?_
      refine qsRet ?_
      refine QF.ret0 trivial rfl ?_
      rw [hq, ← hI, h17]; rfl
    · skip
      have h17 : textsE x = true := by simpa using h17
      rw [h17, Bool.true_and] at hI
      refine W.skip ?_
      refine qbN ?_
      refine qs ?_
      refine W.region ?_
      iterate 3 refine pu (ev tab rfl) rfl ?_
      refine WO.nil ?_
      refine W.endR [0] ⟨k + 1, ?_⟩ ?_ rfl ?_ trivial ?_ ⟨rfl, rfl, trivial⟩ rfl
      · exact ⟨hlt, hI⟩
      · dsimp only; omega
      · repeat' first | exact trivial | refine ⟨rfl, ?_⟩ | refine ⟨step_nat (by assumption) (by assumption), ?_⟩
      · repeat' first | exact trivial | refine ⟨rfl, ?_⟩ | refine ⟨step_nat (by assumption) (by assumption), ?_⟩
  · skip
    rw [hd] at hI
    refine W.exit ?_
    refine qsExit ?_
    refine qlExit ?_
    refine qbExit ?_
    refine qs ?_
    refine W.seq ?_
    refine W.region ?_
    iterate 2 refine pu (ev tab rfl) rfl ?_
    first | refine pu (ev tab rfl) rfl ?_ | refine pu (loadRow tab rfl rfl rfl rfl) rfl ?_ | refine pu (loadBox tab rfl rfl rfl rfl rfl) rfl ?_
    iterate 3 refine pu (ev tab rfl) rfl ?_
    refine WO.nil ?_
    refine qs ?_
    refine W.ret ?_
    refine QF.ret0 trivial rfl ?_
    rw [hq, ← hI]; rfl
theorem few_fn (cols : List Col) (row : List Val) (e : Ex) : Does Try.prog 8 [.d (.sl (cols.map Col.c)), .d (.sl (row.map Val.c)), .ag e.c] (.d (.v (.bool (fewE cols row e)))) 0 := by
  refine Does.of_W (n := 36) (ts := [6]) Try.func8 (by kernel_rfl) rfl Try.ntmps8 Try.results8 rfl rfl fun C hC hG => ?_
  refine W.seq ?_
  refine W.region ?_
  refine boxR rfl rfl rfl ?_
  refine pu (ev tab rfl) rfl ?_
  refine WO.nil ?_
  refine qs ?_
  refine W.seq ?_
  refine W.seq ?_
  apply regionB; (case hb => rfl)
  · skip
    iterate 4 refine pu (ev tab rfl) rfl ?_
    apply splitJ; (case hj => rfl); (case hl => rfl)
    · skip
      refine skipT rfl rfl rfl rfl ?_
      refine skipT rfl rfl rfl rfl ?_
      refine skipT rfl rfl rfl rfl ?_
      iterate 2 refine pu (ev tab rfl) rfl ?_
      refine skipT rfl rfl rfl rfl ?_
      refine skipT rfl rfl rfl rfl ?_
      refine skipT rfl rfl rfl rfl ?_
      refine pu (ev tab rfl) rfl ?_
      refine WO.nil ?_
      refine qv1 rfl rfl rfl
    · skip
      refine goG rfl rfl ?_
      refine pu (ev tab rfl) rfl ?_
      refine goG rfl rfl ?_
      refine pu (ev tab rfl) rfl ?_
      refine goG rfl rfl ?_
      iterate 3 refine pu (ev tab rfl) rfl ?_
      apply splitJ; (case hj => rfl); (case hl => rfl)
      · skip
        refine skipT rfl rfl rfl rfl ?_
        refine skipT rfl rfl rfl rfl ?_
        refine skipT rfl rfl rfl rfl ?_
        refine pu (ev tab rfl) rfl ?_
        refine WO.nil ?_
        refine qv1 rfl rfl rfl
      · skip
        refine goG rfl rfl ?_
        first | refine pu (ev tab rfl) rfl ?_ | refine pu (loadRow tab rfl rfl rfl rfl) rfl ?_ | refine pu (loadBox tab rfl rfl rfl rfl rfl) rfl ?_
        refine goG rfl rfl ?_
        refine pu (puCall rfl rfl rfl (count_fn e 200 (by decide) (by decide)) rfl) rfl ?_
        refine goG rfl rfl ?_
        iterate 2 refine pu (ev tab rfl) rfl ?_
        refine WO.nil ?_
        refine qv1 rfl rfl rfl
  refine qs ?_
  refine condK rfl (fun h20 => ?_) (fun h20 => ?_)
  · skip
    simp only [bifOr, List.length_map] at h20
    refine W.seq ?_
    refine W.region ?_
    refine pu (ev tab rfl) rfl ?_
    refine WO.nil ?_
    refine qs ?_
    refine W.ret ?_
    refine qsRet ?_
    refine QF.ret0 trivial rfl ?_
    rw [show fewE cols row e = false by simp only [fewE, h20]; rfl]; rfl
  · skip
    simp only [bifOr, List.length_map] at h20
    refine W.skip ?_
    refine qs ?_
    refine W.seq ?_
    refine W.seq ?_
    refine W.region ?_
    refine pu (ev tab rfl) rfl ?_
    refine WO.nil ?_
    refine qs ?_
    refine W.block ?_
    refine W.len (t := 1) rfl rfl (fun hlen => ?_)
    try simp only [List.length_map, Ex.kc_len] at hlen
    refine W.loopR (ι := {x : Nat // match x with | k => k ≤ row.length ∧ fewV (row.drop k) = fewV row})
      (fun x => match x.1 with | k => [(5, .ptr 0 0), (7, .d (.v (.int .i64 ((k : Nat) : Int))))]) [(1, _)]
      (fun x => match x.1 with | k => []) [(0, _)] [] 1 (fun x => match x.1 with | k => row.length - k)
      [0] ⟨0, ?_⟩ rfl ?_ ⟨rfl, rfl, trivial⟩ ?_ ⟨rfl, rfl, trivial⟩ rfl ?_
    · first | exact ⟨Nat.zero_le _, rfl⟩ | exact trivial | simp
    · repeat' first | exact trivial | refine ⟨rfl, ?_⟩ | refine ⟨step_nat (by assumption) (by assumption), ?_⟩
    · repeat' first | exact trivial | refine ⟨rfl, ?_⟩ | refine ⟨step_nat (by assumption) (by assumption), ?_⟩
    rintro ⟨k, hk, hI⟩
    show W _ _ _ _ _ ⟨[(5, .ptr 0 0), (7, .d (.v (.int .i64 ((k : Nat) : Int)))), (1, _)], [(0, _)], [], 1⟩
    refine W.seq ?_
    refine W.seq ?_
    refine W.region ?_
    iterate 4 refine pu (ev tab rfl) rfl ?_
    refine WO.nil ?_
    refine qs ?_
    refine eachR (l := row) (k := k) rfl (by simp [Ex.kc_len, bytes_len]) hk (fun v hx hd hlt => ?_) (fun he hd => ?_)
    · skip
      rw [hd] at hI
      simp only [fewV, List.all_cons] at hI
      refine W.skip ?_
      refine qs ?_
      refine W.seq ?_
      refine W.block ?_
      refine W.seq ?_
      refine W.region ?_
      iterate 2 refine pu (ev tab rfl) rfl ?_
      refine pu (indexAddr tab rfl rfl rfl rfl rfl rfl (Int.natCast_nonneg _) (idx_map hx) rfl) rfl ?_
      refine pu (ev tab rfl) rfl ?_
      first | refine pu (ev tab rfl) rfl ?_ | refine pu (loadRow tab rfl rfl rfl rfl) rfl ?_ | refine pu (loadBox tab rfl rfl rfl rfl rfl) rfl ?_
      iterate 2 refine pu (ev tab rfl) rfl ?_
      refine WO.nil ?_
      refine qs ?_
      refine condK rfl (fun h33 => ?_) (fun h33 => ?_)
      · skip
        rw [h33] at hI
        refine W.seq ?_
        refine W.region ?_
        refine pu (ev tab rfl) rfl ?_
        refine WO.nil ?_
        refine qs ?_
        refine W.ret ?_
        refine qbRet ?_
        refine qsRet ?_
        refine qlRet ?_
        refine qbRet ?_
        refine qsRet ?_
        refine QF.ret0 trivial rfl ?_
        rw [show fewE cols row e = false by simp only [fewE, h20, fewV, ← hI]; rfl]; rfl
      · skip
        rw [h33] at hI
        refine W.skip ?_
        refine qbN ?_
        refine qs ?_
        refine W.region ?_
        iterate 3 refine pu (ev tab rfl) rfl ?_
        refine WO.nil ?_
        refine W.endR [0] ⟨k + 1, ?_⟩ ?_ rfl ?_ ⟨rfl, rfl, trivial⟩ ?_ ⟨rfl, rfl, trivial⟩ rfl
        · exact ⟨hlt, hI⟩
        · dsimp only; omega
        · repeat' first | exact trivial | refine ⟨rfl, ?_⟩ | refine ⟨step_nat (by assumption) (by assumption), ?_⟩
        · repeat' first | exact trivial | refine ⟨rfl, ?_⟩ | refine ⟨step_nat (by assumption) (by assumption), ?_⟩
    · skip
      rw [hd] at hI
      refine W.exit ?_
      refine qsExit ?_
      refine qlExit ?_
      refine qbExit ?_
      refine qs ?_
      refine W.seq ?_
      refine W.region ?_
      first | refine pu (ev tab rfl) rfl ?_ | refine pu (loadRow tab rfl rfl rfl rfl) rfl ?_ | refine pu (loadBox tab rfl rfl rfl rfl rfl) rfl ?_
      refine pu (puCall rfl rfl rfl (texts_fn ..) rfl) rfl ?_
      refine pu (ev tab rfl) rfl ?_
      refine WO.nil ?_
      refine qs ?_
      refine W.ret ?_
      refine QF.ret0 trivial rfl ?_
      rw [show fewE cols row e = textsE e by simp only [fewE, h20, ← hI]; rfl]; rfl
def bK : ByteArray := B #[107]
def lCols : List Col := [⟨bK, 2⟩]
def lRow : List Val := [numV 7]
def lK : Ex := .mk 2 bK nullV []
def lN (n : Int) : Ex := .mk 1 (B #[]) (numV n) []
def l2 (op : Int) (a b : Ex) : Ex := .mk op (B #[]) nullV [a, b]
theorem e1 : exprV lCols lRow (l2 8 lK (lN (-2))) = numV (-3) := by kernel_rfl
theorem e2 : exprV lCols lRow (l2 9 lK (lN (-2))) = numV 1 := by kernel_rfl
theorem e3 : decide (exprV lCols lRow (l2 12 lK (lN 8)) = truthV true) = true := by kernel_rfl
theorem e4 : aggV wSum [numV 1000000000000000, numV 1, numV (-1)] = numV 1000000000000000 := by kernel_rfl
theorem e5 : foldX (l2 5 lK (l2 7 (lN 2) (lN 3))) = l2 5 lK (lN 6) := by kernel_rfl
theorem lives_fn : Does Try.prog 9 [] (.d (.v (.bool true))) 0 := by
  have a1 := eexpr_fn lCols lRow (l2 8 lK (lN (-2)))
  have a2 := eexpr_fn lCols lRow (l2 9 lK (lN (-2)))
  have a3 := econd_fn lCols lRow (l2 12 lK (lN 8))
  have a4 := eagg_fn wSum [numV 1000000000000000, numV 1, numV (-1)] (by decide)
  have a5 := eFold_fn (l2 5 lK (l2 7 (lN 2) (lN 3)))
  have a6 := same_fn (l2 5 lK (lN 6)) (l2 5 lK (lN 6))
  rw [e1] at a1
  rw [e2] at a2
  rw [e3] at a3
  rw [e4] at a4
  rw [e5] at a5
  rw [sameE_self] at a6
  refine Does.of_W (n := 58) (ts := [0]) Try.func9 (by kernel_rfl) rfl Try.ntmps9 Try.results9 rfl rfl fun C hC hG => ?_
  refine W.seq ?_
  refine W.region ?_
  refine pu (ev tab rfl) rfl ?_
  refine WO.nil ?_
  refine qs ?_
  refine W.seq ?_
  refine W.region ?_
  refine pu (build tab rfl rfl rfl rfl) rfl ?_
  refine pu (buildV tab rfl rfl rfl rfl rfl rfl rfl rfl rfl) rfl ?_
  refine pu (puCall rfl rfl rfl (rnumber_fn ..) rfl) rfl ?_
  refine pu (buildV tab rfl rfl rfl rfl rfl rfl rfl rfl rfl) rfl ?_
  iterate 2 refine pu (ev tab rfl) rfl ?_
  refine WO.nil ?_
  refine qs ?_
  refine W.seq ?_
  refine W.region ?_
  refine pu (build tab rfl rfl rfl rfl) rfl ?_
  refine allocR tab rfl rfl rfl ?_
  refine storeR tab rfl rfl rfl rfl rfl rfl rfl rfl ?_
  refine WO.nil ?_
  refine qs ?_
  refine W.seq ?_
  refine nilBox 0 5 rfl rfl rfl ?_
  refine W.regionE tab 7 1 (by kernel_rfl) rfl rfl ?_
  first | refine cePu rfl (ev tab rfl) rfl ?_ | refine cePu rfl (loadRow tab rfl rfl rfl rfl) rfl ?_ | refine cePu rfl (loadBox tab rfl rfl rfl rfl rfl) rfl ?_
  refine cePu rfl (puCall rfl rfl rfl (lnumber_fn ..) rfl) rfl ?_
  refine cePu rfl (puCall rfl rfl rfl (lnumber_fn ..) rfl) rfl ?_
  refine cePu rfl (puCall rfl rfl rfl (two_fn ..) rfl) rfl ?_
  refine cePu rfl (puCall rfl rfl rfl (two_fn 5 lK (l2 7 (lN 2) (lN 3))) rfl) rfl ?_
  refine cePu rfl (puCallN rfl rfl rfl a5 rfl) rfl ?_
  refine ceAlloc 0 rfl rfl rfl rfl rfl rfl ?_
  refine CE.nil ?_
  refine storeR tab rfl rfl rfl rfl rfl rfl rfl rfl ?_
  refine WO.nil ?_
  refine qs ?_
  refine W.seq ?_
  apply regionDB tab; (case hb => rfl); (case hB => kernel_rfl)
  · skip
    refine chPu (ev tab rfl) rfl ?_
    refine chPu (ev tab rfl) rfl ?_
    first | refine chPu (ev tab rfl) rfl ?_ | refine chPu (loadRow tab rfl rfl rfl rfl) rfl ?_ | refine chPu (loadBox tab rfl rfl rfl rfl rfl) rfl ?_
    refine chPu (puCall rfl rfl rfl (lnumber_fn ..) rfl) rfl ?_
    refine chPu (puCall rfl rfl rfl (two_fn 8 lK (lN (-2))) rfl) rfl ?_
    refine chPu (puCallN rfl rfl rfl a1 rfl) rfl ?_
    refine chPu (puCall rfl rfl rfl (rnumber_fn ..) rfl) rfl ?_
    refine chPu (ev tab rfl) rfl ?_
    refine chPu (ev tab rfl) rfl ?_
    apply chSplitJ; (case hj => rfl); (case hl => rfl)
    · skip
      refine chGo rfl rfl (ev tab rfl) rfl ?_
      refine chGo rfl rfl (ev tab rfl) rfl ?_
      first | refine chGo rfl rfl (ev tab rfl) rfl ?_ | refine chGo rfl rfl (loadRow tab rfl rfl rfl rfl) rfl ?_ | refine chGo rfl rfl (loadBox tab rfl rfl rfl rfl rfl) rfl ?_
      refine chGo rfl rfl (puCall rfl rfl rfl (lnumber_fn ..) rfl) rfl ?_
      refine chGo rfl rfl (puCall rfl rfl rfl (two_fn 9 lK (lN (-2))) rfl) rfl ?_
      refine chGo rfl rfl (puCallN rfl rfl rfl a2 rfl) rfl ?_
      refine chGo rfl rfl (puCall rfl rfl rfl (rnumber_fn ..) rfl) rfl ?_
      refine chGo rfl rfl (ev tab rfl) rfl ?_
      refine chPu (ev tab rfl) rfl ?_
      refine chPu (ev tab rfl) rfl ?_
      apply chSplitJ; (case hj => rfl); (case hl => rfl)
      · skip
        refine chGo rfl rfl (ev tab rfl) rfl ?_
        refine chGo rfl rfl (ev tab rfl) rfl ?_
        first | refine chGo rfl rfl (ev tab rfl) rfl ?_ | refine chGo rfl rfl (loadRow tab rfl rfl rfl rfl) rfl ?_ | refine chGo rfl rfl (loadBox tab rfl rfl rfl rfl rfl) rfl ?_
        refine chGo rfl rfl (puCall rfl rfl rfl (lnumber_fn ..) rfl) rfl ?_
        refine chGo rfl rfl (puCall rfl rfl rfl (two_fn 12 lK (lN 8)) rfl) rfl ?_
        refine chGo rfl rfl (puCallN rfl rfl rfl a3 rfl) rfl ?_
        refine chPu (ev tab rfl) rfl ?_
        refine chPu (ev tab rfl) rfl ?_
        apply chSplitJ; (case hj => rfl); (case hl => rfl)
        · skip
          refine chGo rfl rfl (puCall rfl rfl rfl (rnumber_fn ..) rfl) rfl ?_
          refine chGo rfl rfl (puCall rfl rfl rfl (rnumber_fn ..) rfl) rfl ?_
          refine chGo rfl rfl (puCall rfl rfl rfl (rnumber_fn ..) rfl) rfl ?_
          refine chGo rfl rfl (buildV tab rfl rfl rfl rfl rfl rfl rfl rfl rfl) rfl ?_
          refine chGo rfl rfl (puCallN rfl rfl rfl a4 rfl) rfl ?_
          refine chGo rfl rfl (puCall rfl rfl rfl (rnumber_fn ..) rfl) rfl ?_
          refine chGo rfl rfl (ev tab rfl) rfl ?_
          refine chPu (ev tab rfl) rfl ?_
          refine chPu (ev tab rfl) rfl ?_
          apply chSplitJ; (case hj => rfl); (case hl => rfl)
          · skip
            first | refine chGo rfl rfl (ev tab rfl) rfl ?_ | refine chGo rfl rfl (loadRow tab rfl rfl rfl rfl) rfl ?_ | refine chGo rfl rfl (loadBox tab rfl rfl rfl rfl rfl) rfl ?_
            first | refine chGo rfl rfl (ev tab rfl) rfl ?_ | refine chGo rfl rfl (loadRow tab rfl rfl rfl rfl) rfl ?_ | refine chGo rfl rfl (loadBox tab rfl rfl rfl rfl rfl) rfl ?_
            refine chGo rfl rfl (puCall rfl rfl rfl (lnumber_fn ..) rfl) rfl ?_
            refine chGo rfl rfl (puCall rfl rfl rfl (two_fn 5 lK (lN 6)) rfl) rfl ?_
            refine chGo rfl rfl (puCallN rfl rfl rfl a6 rfl) rfl ?_
            refine chPu (ev tab rfl) rfl ?_
            refine chPu (ev tab rfl) rfl ?_
            refine CH.nil ?_
            refine qv1 rfl rfl rfl
          · skip
            refine chSkip rfl rfl rfl rfl ?_
            refine chSkip rfl rfl rfl rfl ?_
            refine chSkip rfl rfl rfl rfl ?_
            refine chSkip rfl rfl rfl rfl ?_
            refine chSkip rfl rfl rfl rfl ?_
            refine chPu (ev tab rfl) rfl ?_
            refine chPu (ev tab rfl) rfl ?_
            refine CH.nil ?_
            refine qv1 rfl rfl rfl
        · skip
          refine chSkip rfl rfl rfl rfl ?_
          refine chSkip rfl rfl rfl rfl ?_
          refine chSkip rfl rfl rfl rfl ?_
          refine chSkip rfl rfl rfl rfl ?_
          refine chSkip rfl rfl rfl rfl ?_
          refine chSkip rfl rfl rfl rfl ?_
          refine chSkip rfl rfl rfl rfl ?_
          refine chPu (ev tab rfl) rfl ?_
          refine chPu (ev tab rfl) rfl ?_
          refine chSkip rfl rfl rfl rfl ?_
          refine chSkip rfl rfl rfl rfl ?_
          refine chSkip rfl rfl rfl rfl ?_
          refine chSkip rfl rfl rfl rfl ?_
          refine chSkip rfl rfl rfl rfl ?_
          refine chPu (ev tab rfl) rfl ?_
          refine chPu (ev tab rfl) rfl ?_
          refine CH.nil ?_
          refine qv1 rfl rfl rfl
      · skip
        refine chSkip rfl rfl rfl rfl ?_
        refine chSkip rfl rfl rfl rfl ?_
        refine chSkip rfl rfl rfl rfl ?_
        refine chSkip rfl rfl rfl rfl ?_
        refine chSkip rfl rfl rfl rfl ?_
        refine chSkip rfl rfl rfl rfl ?_
        refine chPu (ev tab rfl) rfl ?_
        refine chPu (ev tab rfl) rfl ?_
        refine chSkip rfl rfl rfl rfl ?_
        refine chSkip rfl rfl rfl rfl ?_
        refine chSkip rfl rfl rfl rfl ?_
        refine chSkip rfl rfl rfl rfl ?_
        refine chSkip rfl rfl rfl rfl ?_
        refine chSkip rfl rfl rfl rfl ?_
        refine chSkip rfl rfl rfl rfl ?_
        refine chPu (ev tab rfl) rfl ?_
        refine chPu (ev tab rfl) rfl ?_
        refine chSkip rfl rfl rfl rfl ?_
        refine chSkip rfl rfl rfl rfl ?_
        refine chSkip rfl rfl rfl rfl ?_
        refine chSkip rfl rfl rfl rfl ?_
        refine chSkip rfl rfl rfl rfl ?_
        refine chPu (ev tab rfl) rfl ?_
        refine chPu (ev tab rfl) rfl ?_
        refine CH.nil ?_
        refine qv1 rfl rfl rfl
    · skip
      refine chSkip rfl rfl rfl rfl ?_
      refine chSkip rfl rfl rfl rfl ?_
      refine chSkip rfl rfl rfl rfl ?_
      refine chSkip rfl rfl rfl rfl ?_
      refine chSkip rfl rfl rfl rfl ?_
      refine chSkip rfl rfl rfl rfl ?_
      refine chSkip rfl rfl rfl rfl ?_
      refine chSkip rfl rfl rfl rfl ?_
      refine chPu (ev tab rfl) rfl ?_
      refine chPu (ev tab rfl) rfl ?_
      refine chSkip rfl rfl rfl rfl ?_
      refine chSkip rfl rfl rfl rfl ?_
      refine chSkip rfl rfl rfl rfl ?_
      refine chSkip rfl rfl rfl rfl ?_
      refine chSkip rfl rfl rfl rfl ?_
      refine chSkip rfl rfl rfl rfl ?_
      refine chPu (ev tab rfl) rfl ?_
      refine chPu (ev tab rfl) rfl ?_
      refine chSkip rfl rfl rfl rfl ?_
      refine chSkip rfl rfl rfl rfl ?_
      refine chSkip rfl rfl rfl rfl ?_
      refine chSkip rfl rfl rfl rfl ?_
      refine chSkip rfl rfl rfl rfl ?_
      refine chSkip rfl rfl rfl rfl ?_
      refine chSkip rfl rfl rfl rfl ?_
      refine chPu (ev tab rfl) rfl ?_
      refine chPu (ev tab rfl) rfl ?_
      refine chSkip rfl rfl rfl rfl ?_
      refine chSkip rfl rfl rfl rfl ?_
      refine chSkip rfl rfl rfl rfl ?_
      refine chSkip rfl rfl rfl rfl ?_
      refine chSkip rfl rfl rfl rfl ?_
      refine chPu (ev tab rfl) rfl ?_
      refine chPu (ev tab rfl) rfl ?_
      refine CH.nil ?_
      refine qv1 rfl rfl rfl
  refine qs ?_
  refine W.ret ?_
  refine QF.ret0 trivial rfl ?_
  rfl
end Go.Proofs.Ytaifpecinbjgcaa
namespace Go.Proofs.Ytaifpecinbjgcaa
open Go.Ab Go.Tb
set_option maxRecDepth 10000
attribute [local irreducible] W WO Pu QS QB QL QF QV QV1 CH QE
theorem types_fn (cols : List Col) (row : List Val) (e : Ex) : Does Try.prog 3 [.d (.sl (cols.map Col.c)), .d (.sl (row.map Val.c)), .ag e.c] (.d (.v (.bool true))) 0 := by
  refine Does.of_W (n := 52) (ts := [6]) Try.func3 (by kernel_rfl) rfl Try.ntmps3 Try.results3 rfl rfl fun C hC hG => ?_
  refine W.seq ?_
  refine W.region ?_
  refine boxR rfl rfl rfl ?_
  refine pu (ev tab rfl) rfl ?_
  refine WO.nil ?_
  refine qs ?_
  refine W.seq ?_
  refine W.seq ?_
  refine W.region ?_
  iterate 2 refine pu (ev tab rfl) rfl ?_
  first | refine pu (ev tab rfl) rfl ?_ | refine pu (loadRow tab rfl rfl rfl rfl) rfl ?_ | refine pu (loadBox tab rfl rfl rfl rfl rfl) rfl ?_
  refine pu (puCall rfl rfl rfl (few_fn ..) rfl) rfl ?_
  refine pu (ev tab rfl) rfl ?_
  refine WO.nil ?_
  refine qs ?_
  refine condK rfl (fun h14 => ?_) (fun h14 => ?_)
  · skip
    refine W.seq ?_
    refine W.region ?_
    refine pu (puCall rfl rfl rfl (lives_fn ..) rfl) rfl ?_
    refine pu (ev tab rfl) rfl ?_
    refine WO.nil ?_
    refine qs ?_
    refine W.ret ?_
    refine qsRet ?_
    refine QF.ret0 trivial rfl ?_
    rfl
  · skip
    refine W.skip ?_
    refine qs ?_
    refine W.seq ?_
    refine W.region ?_
    iterate 2 refine pu (ev tab rfl) rfl ?_
    first | refine pu (ev tab rfl) rfl ?_ | refine pu (loadRow tab rfl rfl rfl rfl) rfl ?_ | refine pu (loadBox tab rfl rfl rfl rfl rfl) rfl ?_
    refine pu (puCall rfl rfl rfl (eexpr_fn ..) rfl) rfl ?_
    refine allocR tab rfl rfl rfl ?_
    refine storeR tab rfl rfl rfl rfl rfl rfl rfl rfl ?_
    refine WO.nil ?_
    refine qs ?_
    refine W.seq ?_
    refine W.region ?_
    refine pu (ev tab rfl) rfl ?_
    first | refine pu (ev tab rfl) rfl ?_ | refine pu (loadRow tab rfl rfl rfl rfl) rfl ?_ | refine pu (loadBox tab rfl rfl rfl rfl rfl) rfl ?_
    refine pu (puCall rfl rfl rfl (texpr_fn ..) rfl) rfl ?_
    iterate 5 refine pu (ev tab rfl) rfl ?_
    refine WO.nil ?_
    refine qs ?_
    refine W.seq ?_
    refine W.seq ?_
    refine W.region ?_
    iterate 2 refine pu (ev tab rfl) rfl ?_
    refine WO.nil ?_
    refine qs ?_
    refine condK rfl (fun h27 => ?_) (fun h27 => ?_)
    · skip
      have h27 : (exprT cols e).2 ≠ 0 := by simpa using h27
      rw [exprV_bad h27]
      refine W.seq ?_
      apply regionB; (case hb => rfl)
      · skip
        first | refine pu (ev tab rfl) rfl ?_ | refine pu (loadRow tab rfl rfl rfl rfl) rfl ?_ | refine pu (loadBox tab rfl rfl rfl rfl rfl) rfl ?_
        refine pu (build tab rfl rfl rfl rfl) rfl ?_
        iterate 2 refine pu (ev tab rfl) rfl ?_
        apply splitJ; (case hj => rfl); (case hl => rfl)
        · skip
          refine goG rfl rfl ?_
          refine pu (puCall rfl rfl rfl (lives_fn ..) rfl) rfl ?_
          iterate 2 refine pu (ev tab rfl) rfl ?_
          refine WO.nil ?_
          refine qv1 rfl rfl rfl
        · skip
          refine skipT rfl rfl rfl rfl ?_
          iterate 2 refine pu (ev tab rfl) rfl ?_
          refine WO.nil ?_
          refine qv1 rfl rfl rfl
      refine qs ?_
      refine W.ret ?_
      refine qsRet ?_
      refine QF.ret0 trivial rfl ?_
      rfl
    · skip
      have h27 : (exprT cols e).2 = 0 := by simpa using h27
      have hv := exprV_ok (row := row) h27
      have hk := valErr_kind hv
      refine W.skip ?_
      refine qs ?_
      refine W.seq ?_
      apply regionB; (case hb => rfl)
      · skip
        refine pu (ev tab rfl) rfl ?_
        first | refine pu (ev tab rfl) rfl ?_ | refine pu (loadRow tab rfl rfl rfl rfl) rfl ?_ | refine pu (loadBox tab rfl rfl rfl rfl rfl) rfl ?_
        iterate 2 refine pu (ev tab rfl) rfl ?_
        apply splitJ; (case hj => rfl); (case hl => rfl)
        · skip
          refine skipT rfl rfl rfl rfl ?_
          refine skipT rfl rfl rfl rfl ?_
          refine skipT rfl rfl rfl rfl ?_
          refine skipT rfl rfl rfl rfl ?_
          iterate 2 refine pu (ev tab rfl) rfl ?_
          refine goG rfl rfl ?_
          refine pu (ev tab rfl) rfl ?_
          refine goG rfl rfl ?_
          first | refine pu (ev tab rfl) rfl ?_ | refine pu (loadRow tab rfl rfl rfl rfl) rfl ?_ | refine pu (loadBox tab rfl rfl rfl rfl rfl) rfl ?_
          refine goG rfl rfl ?_
          refine pu (puCall rfl rfl rfl (value_fn ..) rfl) rfl ?_
          refine goG rfl rfl ?_
          iterate 3 refine pu (ev tab rfl) rfl ?_
          apply splitJ; (case hj => rfl); (case hl => rfl)
          · skip
            refine goG rfl rfl ?_
            refine pu (puCall rfl rfl rfl (lives_fn ..) rfl) rfl ?_
            iterate 2 refine pu (ev tab rfl) rfl ?_
            refine WO.nil ?_
            refine qv1 rfl rfl rfl
          · skip
            refine skipT rfl rfl rfl rfl ?_
            iterate 2 refine pu (ev tab rfl) rfl ?_
            refine WO.nil ?_
            refine qv1 rfl rfl rfl
        · skip
          refine goG rfl rfl ?_
          refine pu (ev tab rfl) rfl ?_
          refine goG rfl rfl ?_
          first | refine pu (ev tab rfl) rfl ?_ | refine pu (loadRow tab rfl rfl rfl rfl) rfl ?_ | refine pu (loadBox tab rfl rfl rfl rfl rfl) rfl ?_
          refine goG rfl rfl ?_
          refine pu (ev tab rfl) rfl ?_
          refine goG rfl rfl ?_
          iterate 3 refine pu (ev tab rfl) rfl ?_
          apply splitJ; (case hj => rfl); (case hl => rfl)
          · skip
            refine goG rfl rfl ?_
            refine pu (ev tab rfl) rfl ?_
            refine goG rfl rfl ?_
            first | refine pu (ev tab rfl) rfl ?_ | refine pu (loadRow tab rfl rfl rfl rfl) rfl ?_ | refine pu (loadBox tab rfl rfl rfl rfl rfl) rfl ?_
            refine goG rfl rfl ?_
            refine pu (puCall rfl rfl rfl (value_fn ..) rfl) rfl ?_
            refine goG rfl rfl ?_
            iterate 3 refine pu (ev tab rfl) rfl ?_
            apply splitJ; (case hj => rfl); (case hl => rfl)
            · skip
              refine goG rfl rfl ?_
              refine pu (puCall rfl rfl rfl (lives_fn ..) rfl) rfl ?_
              iterate 2 refine pu (ev tab rfl) rfl ?_
              refine WO.nil ?_
              refine qv1 rfl rfl rfl
            · skip
              refine skipT rfl rfl rfl rfl ?_
              iterate 2 refine pu (ev tab rfl) rfl ?_
              refine WO.nil ?_
              refine qv1 rfl rfl rfl
          · skip
            refine skipT rfl rfl rfl rfl ?_
            refine skipT rfl rfl rfl rfl ?_
            refine skipT rfl rfl rfl rfl ?_
            refine skipT rfl rfl rfl rfl ?_
            iterate 2 refine pu (ev tab rfl) rfl ?_
            refine skipT rfl rfl rfl rfl ?_
            iterate 2 refine pu (ev tab rfl) rfl ?_
            refine WO.nil ?_
            refine qv1 rfl rfl rfl
      refine qs ?_
      refine W.ret ?_
      refine QF.ret0 trivial rfl ?_
      rw [hv]; simp only [norm, oneA, boolA]; rcases hk with hk | hk <;> simp [hk]
theorem aggs_fn (fn : ByteArray) (l : List Val) : Does Try.prog 6 [.d (.v (.string fn)), .d (.sl (l.map Val.c))] (.d (.v (.bool true))) 0 := by
  refine Does.of_W (n := 33) (ts := [4]) Try.func6 (by kernel_rfl) rfl Try.ntmps6 Try.results6 rfl rfl fun C hC hG => ?_
  refine W.seq ?_
  refine W.region ?_
  refine pu (ev tab rfl) rfl ?_
  refine WO.nil ?_
  refine qs ?_
  refine W.seq ?_
  refine W.seq ?_
  refine W.region ?_
  iterate 3 refine pu (ev tab rfl) rfl ?_
  refine WO.nil ?_
  refine qs ?_
  refine condK rfl (fun h9 => ?_) (fun h9 => ?_)
  · skip
    refine W.seq ?_
    refine W.region ?_
    refine pu (puCall rfl rfl rfl (lives_fn ..) rfl) rfl ?_
    refine pu (ev tab rfl) rfl ?_
    refine WO.nil ?_
    refine qs ?_
    refine W.ret ?_
    refine qsRet ?_
    refine QF.ret0 trivial rfl ?_
    rfl
  · skip
    have h9 : l.length ≤ 60 := by simp at h9; omega
    have hlen : [wCount, wSum, wMin, wMax, wFirst, fn].length ≤ maxLen := by simp [maxLen]
    refine W.skip ?_
    refine qs ?_
    refine W.seq ?_
    refine W.region ?_
    refine pu (ev tab rfl) rfl ?_
    refine pu (buildV tab rfl rfl rfl rfl rfl rfl rfl rfl rfl) rfl ?_
    refine pu (ev tab rfl) rfl ?_
    refine WO.nil ?_
    refine qs ?_
    refine W.seq ?_
    refine W.seq ?_
    refine W.region ?_
    refine pu (ev tab rfl) rfl ?_
    refine WO.nil ?_
    refine qs ?_
    refine W.block ?_
    refine W.loopR (ι := {x : Nat // match x with | k => k ≤ [wCount, wSum, wMin, wMax, wFirst, fn].length ∧ True})
      (fun x => match x.1 with | k => [(6, .d (.v (.int .i64 ((k : Nat) : Int))))]) [(1, _), (5, _)]
      (fun x => match x.1 with | k => []) [] [] 0 (fun x => match x.1 with | k => [wCount, wSum, wMin, wMax, wFirst, fn].length - k)
      [] ⟨0, ?_⟩ rfl ?_ ⟨rfl, rfl, rfl, rfl, trivial⟩ ?_ trivial rfl ?_
    · exact ⟨Nat.zero_le _, trivial⟩
    · repeat' first | exact trivial | refine ⟨rfl, ?_⟩ | refine ⟨step_nat (by assumption) (by assumption), ?_⟩
    · repeat' first | exact trivial | refine ⟨rfl, ?_⟩ | refine ⟨step_nat (by assumption) (by assumption), ?_⟩
    rintro ⟨k, hk, hI⟩
    show W _ _ _ _ _ ⟨[(6, .d (.v (.int .i64 ((k : Nat) : Int)))), (1, _), (5, _)], [], [], 0⟩
    refine W.seq ?_
    refine W.seq ?_
    refine W.region ?_
    iterate 4 refine pu (ev tab rfl) rfl ?_
    refine WO.nil ?_
    refine qs ?_
    refine eachR (l := [wCount, wSum, wMin, wMax, wFirst, fn]) (k := k) rfl (by rfl) hk (fun s hx hd hlt => ?_) (fun he hd => ?_)
    · skip
      refine W.skip ?_
      refine qs ?_
      refine W.seq ?_
      refine W.block ?_
      refine W.seq ?_
      refine W.regionD tab (by kernel_rfl) ?_
      refine chPu (ev tab rfl) rfl ?_
      refine chPu (ev tab rfl) rfl ?_
      refine chPu (indexAddr tab rfl rfl rfl rfl rfl rfl (Int.natCast_nonneg _) (idx_map (f := sc) hx) rfl) rfl ?_
      first | refine chPu (ev tab rfl) rfl ?_ | refine chPu (loadRow tab rfl rfl rfl rfl) rfl ?_ | refine chPu (loadBox tab rfl rfl rfl rfl rfl) rfl ?_
      refine chPu (ev tab rfl) rfl ?_
      refine chPu (puCall rfl rfl rfl (eagg_fn s l (by omega)) rfl) rfl ?_
      refine chPu (ev tab rfl) rfl ?_
      refine chPu (ev tab rfl) rfl ?_
      refine chPu (indexAddr tab rfl rfl rfl rfl rfl rfl (Int.natCast_nonneg _) (idx_map (f := sc) hx) rfl) rfl ?_
      first | refine chPu (ev tab rfl) rfl ?_ | refine chPu (loadRow tab rfl rfl rfl rfl) rfl ?_ | refine chPu (loadBox tab rfl rfl rfl rfl rfl) rfl ?_
      refine chPu (ev tab rfl) rfl ?_
      refine chPu (puCall rfl rfl rfl (ragg_fn s l (by omega)) rfl) rfl ?_
      refine chPu (ev tab rfl) rfl ?_
      refine CH.nil ?_
      refine qs ?_
      refine condK rfl (fun h31 => ?_) (fun h31 => ?_)
      · skip
        exfalso; rw [valEq] at h31; simp at h31
      · skip
        refine W.skip ?_
        refine qbN ?_
        refine qs ?_
        refine W.region ?_
        iterate 3 refine pu (ev tab rfl) rfl ?_
        refine WO.nil ?_
        refine W.endR [] ⟨k + 1, ?_⟩ ?_ rfl ?_ ⟨rfl, rfl, rfl, rfl, trivial⟩ ?_ trivial rfl
        · exact ⟨hlt, trivial⟩
        · dsimp only; omega
        · repeat' first | exact trivial | refine ⟨rfl, ?_⟩ | refine ⟨step_nat (by assumption) (by assumption), ?_⟩
        · repeat' first | exact trivial | refine ⟨rfl, ?_⟩ | refine ⟨step_nat (by assumption) (by assumption), ?_⟩
    · skip
      refine W.exit ?_
      refine qsExit ?_
      refine qlExit ?_
      refine qbExit ?_
      refine qs ?_
      refine W.seq ?_
      refine W.region ?_
      refine pu (puCall rfl rfl rfl (lives_fn ..) rfl) rfl ?_
      refine pu (ev tab rfl) rfl ?_
      refine WO.nil ?_
      refine qs ?_
      refine W.ret ?_
      refine QF.ret0 trivial rfl ?_
      rfl
theorem divides_fn (a b : Int) : Does Try.prog 5 [.d (.v (.int .i64 a)), .d (.v (.int .i64 b))] (.d (.v (.bool true))) 0 := by
  refine Does.of_W (n := 128) (ts := [4]) Try.func5 (by kernel_rfl) rfl Try.ntmps5 Try.results5 rfl rfl fun C hC hG => ?_
  refine W.seq ?_
  refine W.region ?_
  refine pu (ev tab rfl) rfl ?_
  refine WO.nil ?_
  refine qs ?_
  refine W.seq ?_
  refine W.seq ?_
  apply regionB; (case hb => rfl)
  · skip
    iterate 3 refine pu (ev tab rfl) rfl ?_
    apply splitJ; (case hj => rfl); (case hl => rfl)
    · skip
      refine skipT rfl rfl rfl rfl ?_
      refine skipT rfl rfl rfl rfl ?_
      iterate 2 refine pu (ev tab rfl) rfl ?_
      refine skipT rfl rfl rfl rfl ?_
      refine skipT rfl rfl rfl rfl ?_
      iterate 2 refine pu (ev tab rfl) rfl ?_
      refine skipT rfl rfl rfl rfl ?_
      refine skipT rfl rfl rfl rfl ?_
      refine pu (ev tab rfl) rfl ?_
      refine WO.nil ?_
      refine qv1 rfl rfl rfl
    · skip
      refine goG rfl rfl ?_
      refine pu (ev tab rfl) rfl ?_
      refine goG rfl rfl ?_
      iterate 3 refine pu (ev tab rfl) rfl ?_
      apply splitJ; (case hj => rfl); (case hl => rfl)
      · skip
        refine skipT rfl rfl rfl rfl ?_
        refine skipT rfl rfl rfl rfl ?_
        iterate 2 refine pu (ev tab rfl) rfl ?_
        refine skipT rfl rfl rfl rfl ?_
        refine skipT rfl rfl rfl rfl ?_
        refine pu (ev tab rfl) rfl ?_
        refine WO.nil ?_
        refine qv1 rfl rfl rfl
      · skip
        refine goG rfl rfl ?_
        refine pu (ev tab rfl) rfl ?_
        refine goG rfl rfl ?_
        iterate 3 refine pu (ev tab rfl) rfl ?_
        apply splitJ; (case hj => rfl); (case hl => rfl)
        · skip
          refine skipT rfl rfl rfl rfl ?_
          refine skipT rfl rfl rfl rfl ?_
          refine pu (ev tab rfl) rfl ?_
          refine WO.nil ?_
          refine qv1 rfl rfl rfl
        · skip
          refine goG rfl rfl ?_
          refine pu (ev tab rfl) rfl ?_
          refine goG rfl rfl ?_
          iterate 2 refine pu (ev tab rfl) rfl ?_
          refine WO.nil ?_
          refine qv1 rfl rfl rfl
  refine qs ?_
  refine condK rfl (fun h21 => ?_) (fun h21 => ?_)
  · skip
    refine W.seq ?_
    refine W.region ?_
    refine pu (puCall rfl rfl rfl (lives_fn ..) rfl) rfl ?_
    refine pu (ev tab rfl) rfl ?_
    refine WO.nil ?_
    refine qs ?_
    refine W.ret ?_
    refine qsRet ?_
    refine QF.ret0 trivial rfl ?_
    rfl
  · skip
    have hr : inR a = true ∧ inR b = true := by rw [inR_iff, inR_iff]; simp only [bifOr] at h21; simp at h21; omega
    have d1 := Does.nilAt (xs := []) (Does.nilAt (xs := [.d (.sl [])]) (eexpr_fn [] [] (twoE 8 (numE a) (numE b))))
    have d2 := Does.nilAt (xs := []) (Does.nilAt (xs := [.d (.sl [])]) (eexpr_fn [] [] (twoE 9 (numE a) (numE b))))
    rw [div_expr (.inl rfl) hr.1 hr.2] at d1
    rw [div_expr (.inr rfl) hr.1 hr.2] at d2
    refine W.skip ?_
    refine qs ?_
    refine W.seq ?_
    refine W.region ?_
    refine pu (ev tab rfl) rfl ?_
    refine pu (puCall rfl rfl rfl (lnumber_fn ..) rfl) rfl ?_
    refine pu (ev tab rfl) rfl ?_
    refine pu (puCall rfl rfl rfl (lnumber_fn ..) rfl) rfl ?_
    refine pu (puCall rfl rfl rfl (two_fn ..) rfl) rfl ?_
    refine pu (puCall rfl rfl rfl d1 rfl) rfl ?_
    refine pu (ev tab rfl) rfl ?_
    refine pu (puCall rfl rfl rfl (lnumber_fn ..) rfl) rfl ?_
    refine pu (ev tab rfl) rfl ?_
    refine pu (puCall rfl rfl rfl (lnumber_fn ..) rfl) rfl ?_
    refine pu (puCall rfl rfl rfl (two_fn ..) rfl) rfl ?_
    refine pu (puCall rfl rfl rfl d2 rfl) rfl ?_
    refine allocR tab rfl rfl rfl ?_
    refine allocR tab rfl rfl rfl ?_
    refine storeR tab rfl rfl rfl rfl rfl rfl rfl rfl ?_
    refine storeR tab rfl rfl rfl rfl rfl rfl rfl rfl ?_
    refine WO.nil ?_
    refine qs ?_
    refine W.seq ?_
    refine W.seq ?_
    refine W.region ?_
    iterate 2 refine pu (ev tab rfl) rfl ?_
    refine WO.nil ?_
    refine qs ?_
    refine condK rfl (fun h36 => ?_) (fun h36 => ?_)
    · skip
      have h36 : b = 0 := of_decide_eq_true h36
      refine W.seq ?_
      apply regionB; (case hb => rfl)
      · skip
        first | refine pu (ev tab rfl) rfl ?_ | refine pu (loadRow tab rfl rfl rfl rfl) rfl ?_ | refine pu (loadBox tab rfl rfl rfl rfl rfl) rfl ?_
        refine pu (build tab rfl rfl rfl rfl) rfl ?_
        iterate 2 refine pu (ev tab rfl) rfl ?_
        apply splitJ; (case hj => rfl); (case hl => rfl)
        · skip
          refine goG rfl rfl ?_
          first | refine pu (ev tab rfl) rfl ?_ | refine pu (loadRow tab rfl rfl rfl rfl) rfl ?_ | refine pu (loadBox tab rfl rfl rfl rfl rfl) rfl ?_
          refine goG rfl rfl ?_
          refine pu (build tab rfl rfl rfl rfl) rfl ?_
          refine goG rfl rfl ?_
          iterate 3 refine pu (ev tab rfl) rfl ?_
          apply splitJ; (case hj => rfl); (case hl => rfl)
          · skip
            refine goG rfl rfl ?_
            refine pu (puCall rfl rfl rfl (lives_fn ..) rfl) rfl ?_
            iterate 2 refine pu (ev tab rfl) rfl ?_
            refine WO.nil ?_
            refine qv1 rfl rfl rfl
          · skip
            refine skipT rfl rfl rfl rfl ?_
            iterate 2 refine pu (ev tab rfl) rfl ?_
            refine WO.nil ?_
            refine qv1 rfl rfl rfl
        · skip
          refine skipT rfl rfl rfl rfl ?_
          refine skipT rfl rfl rfl rfl ?_
          refine skipT rfl rfl rfl rfl ?_
          iterate 2 refine pu (ev tab rfl) rfl ?_
          refine skipT rfl rfl rfl rfl ?_
          iterate 2 refine pu (ev tab rfl) rfl ?_
          refine WO.nil ?_
          refine qv1 rfl rfl rfl
      refine qs ?_
      refine W.ret ?_
      refine qsRet ?_
      refine QF.ret0 trivial rfl ?_
      subst h36; simp only [show arithV 8 a 0 = nullV by simp [arithV], show arithV 9 a 0 = nullV by simp [arithV]]; rfl
    · skip
      have h36 : b ≠ 0 := of_decide_eq_false h36
      obtain ⟨e1, e2, f1, f2, f3, f4, f5⟩ := div_facts2 hr.1 hr.2 h36
      have ha := inR_iff.1 hr.1
      have hb := inR_iff.1 hr.2
      refine W.skip ?_
      refine qs ?_
      refine W.seq ?_
      refine W.seq ?_
      apply regionB; (case hb => rfl)
      · skip
        refine pu (ev tab rfl) rfl ?_
        first | refine pu (ev tab rfl) rfl ?_ | refine pu (loadRow tab rfl rfl rfl rfl) rfl ?_ | refine pu (loadBox tab rfl rfl rfl rfl rfl) rfl ?_
        iterate 2 refine pu (ev tab rfl) rfl ?_
        apply splitJ; (case hj => rfl); (case hl => rfl)
        · skip
          refine skipT rfl rfl rfl rfl ?_
          refine skipT rfl rfl rfl rfl ?_
          refine skipT rfl rfl rfl rfl ?_
          iterate 2 refine pu (ev tab rfl) rfl ?_
          refine skipT rfl rfl rfl rfl ?_
          refine skipT rfl rfl rfl rfl ?_
          refine skipT rfl rfl rfl rfl ?_
          iterate 2 refine pu (ev tab rfl) rfl ?_
          refine skipT rfl rfl rfl rfl ?_
          refine skipT rfl rfl rfl rfl ?_
          refine skipT rfl rfl rfl rfl ?_
          iterate 2 refine pu (ev tab rfl) rfl ?_
          refine skipT rfl rfl rfl rfl ?_
          refine skipT rfl rfl rfl rfl ?_
          refine skipT rfl rfl rfl rfl ?_
          iterate 2 refine pu (ev tab rfl) rfl ?_
          refine skipT rfl rfl rfl rfl ?_
          refine skipT rfl rfl rfl rfl ?_
          refine skipT rfl rfl rfl rfl ?_
          refine pu (ev tab rfl) rfl ?_
          refine WO.nil ?_
          refine qv1 rfl rfl rfl
        · skip
          refine goG rfl rfl ?_
          refine pu (ev tab rfl) rfl ?_
          refine goG rfl rfl ?_
          first | refine pu (ev tab rfl) rfl ?_ | refine pu (loadRow tab rfl rfl rfl rfl) rfl ?_ | refine pu (loadBox tab rfl rfl rfl rfl rfl) rfl ?_
          refine goG rfl rfl ?_
          iterate 3 refine pu (ev tab rfl) rfl ?_
          apply splitJ; (case hj => rfl); (case hl => rfl)
          · skip
            refine skipT rfl rfl rfl rfl ?_
            refine skipT rfl rfl rfl rfl ?_
            refine skipT rfl rfl rfl rfl ?_
            iterate 2 refine pu (ev tab rfl) rfl ?_
            refine skipT rfl rfl rfl rfl ?_
            refine skipT rfl rfl rfl rfl ?_
            refine skipT rfl rfl rfl rfl ?_
            iterate 2 refine pu (ev tab rfl) rfl ?_
            refine skipT rfl rfl rfl rfl ?_
            refine skipT rfl rfl rfl rfl ?_
            refine skipT rfl rfl rfl rfl ?_
            iterate 2 refine pu (ev tab rfl) rfl ?_
            refine skipT rfl rfl rfl rfl ?_
            refine skipT rfl rfl rfl rfl ?_
            refine skipT rfl rfl rfl rfl ?_
            refine pu (ev tab rfl) rfl ?_
            refine WO.nil ?_
            refine qv1 rfl rfl rfl
          · skip
            refine goG rfl rfl ?_
            refine pu (ev tab rfl) rfl ?_
            refine goG rfl rfl ?_
            first | refine pu (ev tab rfl) rfl ?_ | refine pu (loadRow tab rfl rfl rfl rfl) rfl ?_ | refine pu (loadBox tab rfl rfl rfl rfl rfl) rfl ?_
            refine goG rfl rfl ?_
            iterate 3 refine pu (ev tab rfl) rfl ?_
            apply splitJ; (case hj => rfl); (case hl => rfl)
            · skip
              refine skipT rfl rfl rfl rfl ?_
              refine skipT rfl rfl rfl rfl ?_
              refine skipT rfl rfl rfl rfl ?_
              iterate 2 refine pu (ev tab rfl) rfl ?_
              refine skipT rfl rfl rfl rfl ?_
              refine skipT rfl rfl rfl rfl ?_
              refine skipT rfl rfl rfl rfl ?_
              iterate 2 refine pu (ev tab rfl) rfl ?_
              refine skipT rfl rfl rfl rfl ?_
              refine skipT rfl rfl rfl rfl ?_
              refine skipT rfl rfl rfl rfl ?_
              refine pu (ev tab rfl) rfl ?_
              refine WO.nil ?_
              refine qv1 rfl rfl rfl
            · skip
              refine goG rfl rfl ?_
              refine pu (ev tab rfl) rfl ?_
              refine goG rfl rfl ?_
              first | refine pu (ev tab rfl) rfl ?_ | refine pu (loadRow tab rfl rfl rfl rfl) rfl ?_ | refine pu (loadBox tab rfl rfl rfl rfl rfl) rfl ?_
              refine goG rfl rfl ?_
              iterate 3 refine pu (ev tab rfl) rfl ?_
              apply splitJ; (case hj => rfl); (case hl => rfl)
              · skip
                refine skipT rfl rfl rfl rfl ?_
                refine skipT rfl rfl rfl rfl ?_
                refine skipT rfl rfl rfl rfl ?_
                iterate 2 refine pu (ev tab rfl) rfl ?_
                refine skipT rfl rfl rfl rfl ?_
                refine skipT rfl rfl rfl rfl ?_
                refine skipT rfl rfl rfl rfl ?_
                refine pu (ev tab rfl) rfl ?_
                refine WO.nil ?_
                refine qv1 rfl rfl rfl
              · skip
                refine goG rfl rfl ?_
                refine pu (ev tab rfl) rfl ?_
                refine goG rfl rfl ?_
                first | refine pu (ev tab rfl) rfl ?_ | refine pu (loadRow tab rfl rfl rfl rfl) rfl ?_ | refine pu (loadBox tab rfl rfl rfl rfl rfl) rfl ?_
                refine goG rfl rfl ?_
                iterate 3 refine pu (ev tab rfl) rfl ?_
                apply splitJ; (case hj => rfl); (case hl => rfl)
                · skip
                  refine skipT rfl rfl rfl rfl ?_
                  refine skipT rfl rfl rfl rfl ?_
                  refine skipT rfl rfl rfl rfl ?_
                  refine pu (ev tab rfl) rfl ?_
                  refine WO.nil ?_
                  refine qv1 rfl rfl rfl
                · skip
                  refine goG rfl rfl ?_
                  refine pu (ev tab rfl) rfl ?_
                  refine goG rfl rfl ?_
                  first | refine pu (ev tab rfl) rfl ?_ | refine pu (loadRow tab rfl rfl rfl rfl) rfl ?_ | refine pu (loadBox tab rfl rfl rfl rfl rfl) rfl ?_
                  refine goG rfl rfl ?_
                  iterate 2 refine pu (ev tab rfl) rfl ?_
                  refine WO.nil ?_
                  refine qv1 rfl rfl rfl
      refine qs ?_
      refine condK rfl (fun h75 => ?_) (fun h75 => ?_)
      · skip
        exfalso; simp only [bifOr, e1, e2] at h75; simp at h75; omega
      · skip
        refine W.skip ?_
        refine qs ?_
        refine W.seq ?_
        apply regionB; (case hb => rfl)
        · skip
          refine pu (ev tab rfl) rfl ?_
          first | refine pu (ev tab rfl) rfl ?_ | refine pu (loadRow tab rfl rfl rfl rfl) rfl ?_ | refine pu (loadBox tab rfl rfl rfl rfl rfl) rfl ?_
          iterate 3 refine pu (ev tab rfl) rfl ?_
          apply splitJ; (case hj => rfl); (case hl => rfl)
          · skip
            refine goG rfl rfl ?_
            refine pu (ev tab rfl) rfl ?_
            refine goG rfl rfl ?_
            first | refine pu (ev tab rfl) rfl ?_ | refine pu (loadRow tab rfl rfl rfl rfl) rfl ?_ | refine pu (loadBox tab rfl rfl rfl rfl rfl) rfl ?_
            refine goG rfl rfl ?_
            refine pu (ev tab rfl) rfl ?_
            refine goG rfl rfl ?_
            refine pu (ev tab rfl) rfl ?_
            refine goG rfl rfl ?_
            iterate 3 refine pu (ev tab rfl) rfl ?_
            apply splitJ; (case hj => rfl); (case hl => rfl)
            · skip
              refine skipT rfl rfl rfl rfl ?_
              refine skipT rfl rfl rfl rfl ?_
              refine skipT rfl rfl rfl rfl ?_
              refine skipT rfl rfl rfl rfl ?_
              refine skipT rfl rfl rfl rfl ?_
              refine skipU rfl rfl rfl ?_
              refine skipU rfl rfl rfl ?_
              refine skipU rfl rfl rfl ?_
              refine skipU rfl rfl rfl ?_
              refine skipU rfl rfl rfl ?_
              refine skipT rfl rfl rfl rfl ?_
              iterate 2 refine pu (ev tab rfl) rfl ?_
              refine WO.nil ?_
              refine qv1 rfl rfl rfl
            · skip
              refine goG rfl rfl ?_
              refine pu (ev tab rfl) rfl ?_
              refine goG rfl rfl ?_
              first | refine pu (ev tab rfl) rfl ?_ | refine pu (loadRow tab rfl rfl rfl rfl) rfl ?_ | refine pu (loadBox tab rfl rfl rfl rfl rfl) rfl ?_
              refine goG rfl rfl ?_
              refine pu (ev tab rfl) rfl ?_
              refine goG rfl rfl ?_
              refine pu (ev tab rfl) rfl ?_
              refine goG rfl rfl ?_
              refine pu (ev tab rfl) rfl ?_
              apply splitJ; (case hj => rfl); (case hl => rfl)
              · skip
                refine goG rfl rfl ?_
                refine pu (ev tab rfl) rfl ?_
                refine goG rfl rfl ?_
                first | refine pu (ev tab rfl) rfl ?_ | refine pu (loadRow tab rfl rfl rfl rfl) rfl ?_ | refine pu (loadBox tab rfl rfl rfl rfl rfl) rfl ?_
                refine goG rfl rfl ?_
                refine pu (ev tab rfl) rfl ?_
                refine goG rfl rfl ?_
                refine pu (ev tab rfl) rfl ?_
                refine goG rfl rfl ?_
                refine pu (ev tab rfl) rfl ?_
                refine goG rfl rfl ?_
                iterate 3 refine pu (ev tab rfl) rfl ?_
                refine WO.nil ?_
                refine qv1 rfl rfl rfl
              · skip
                refine skipT rfl rfl rfl rfl ?_
                refine skipT rfl rfl rfl rfl ?_
                refine skipT rfl rfl rfl rfl ?_
                refine skipT rfl rfl rfl rfl ?_
                refine skipT rfl rfl rfl rfl ?_
                refine goG rfl rfl ?_
                iterate 3 refine pu (ev tab rfl) rfl ?_
                refine WO.nil ?_
                refine qv1 rfl rfl rfl
          · skip
            refine skipT rfl rfl rfl rfl ?_
            refine skipT rfl rfl rfl rfl ?_
            refine skipT rfl rfl rfl rfl ?_
            refine skipT rfl rfl rfl rfl ?_
            refine skipT rfl rfl rfl rfl ?_
            iterate 2 refine pu (ev tab rfl) rfl ?_
            refine goG rfl rfl ?_
            refine pu (ev tab rfl) rfl ?_
            refine goG rfl rfl ?_
            first | refine pu (ev tab rfl) rfl ?_ | refine pu (loadRow tab rfl rfl rfl rfl) rfl ?_ | refine pu (loadBox tab rfl rfl rfl rfl rfl) rfl ?_
            refine goG rfl rfl ?_
            refine pu (ev tab rfl) rfl ?_
            refine goG rfl rfl ?_
            refine pu (ev tab rfl) rfl ?_
            refine goG rfl rfl ?_
            refine pu (ev tab rfl) rfl ?_
            apply splitJ; (case hj => rfl); (case hl => rfl)
            · skip
              refine goG rfl rfl ?_
              refine pu (ev tab rfl) rfl ?_
              refine goG rfl rfl ?_
              first | refine pu (ev tab rfl) rfl ?_ | refine pu (loadRow tab rfl rfl rfl rfl) rfl ?_ | refine pu (loadBox tab rfl rfl rfl rfl rfl) rfl ?_
              refine goG rfl rfl ?_
              refine pu (ev tab rfl) rfl ?_
              refine goG rfl rfl ?_
              refine pu (ev tab rfl) rfl ?_
              refine goG rfl rfl ?_
              refine pu (ev tab rfl) rfl ?_
              refine goG rfl rfl ?_
              iterate 3 refine pu (ev tab rfl) rfl ?_
              refine WO.nil ?_
              refine qv1 rfl rfl rfl
            · skip
              refine skipT rfl rfl rfl rfl ?_
              refine skipT rfl rfl rfl rfl ?_
              refine skipT rfl rfl rfl rfl ?_
              refine skipT rfl rfl rfl rfl ?_
              refine skipT rfl rfl rfl rfl ?_
              refine goG rfl rfl ?_
              iterate 3 refine pu (ev tab rfl) rfl ?_
              refine WO.nil ?_
              refine qv1 rfl rfl rfl
        refine qs ?_
        refine W.seq ?_
        apply regionB; (case hb => rfl)
        · skip
          refine pu (ev tab rfl) rfl ?_
          first | refine pu (ev tab rfl) rfl ?_ | refine pu (loadRow tab rfl rfl rfl rfl) rfl ?_ | refine pu (loadBox tab rfl rfl rfl rfl rfl) rfl ?_
          iterate 4 refine pu (ev tab rfl) rfl ?_
          first | refine pu (ev tab rfl) rfl ?_ | refine pu (loadRow tab rfl rfl rfl rfl) rfl ?_ | refine pu (loadBox tab rfl rfl rfl rfl rfl) rfl ?_
          iterate 3 refine pu (ev tab rfl) rfl ?_
          apply splitJ; (case hj => rfl); (case hl => rfl)
          · skip
            refine goG rfl rfl ?_
            iterate 3 refine pu (ev tab rfl) rfl ?_
            apply splitJ; (case hj => rfl); (case hl => rfl)
            · skip
              refine goG rfl rfl ?_
              refine pu (ev tab rfl) rfl ?_
              refine goG rfl rfl ?_
              first | refine pu (ev tab rfl) rfl ?_ | refine pu (loadRow tab rfl rfl rfl rfl) rfl ?_ | refine pu (loadBox tab rfl rfl rfl rfl rfl) rfl ?_
              refine goG rfl rfl ?_
              refine pu (ev tab rfl) rfl ?_
              refine goG rfl rfl ?_
              refine pu (ev tab rfl) rfl ?_
              apply splitJ; (case hj => rfl); (case hl => rfl)
              · skip
                refine skipT rfl rfl rfl rfl ?_
                refine skipT rfl rfl rfl rfl ?_
                refine skipT rfl rfl rfl rfl ?_
                refine skipT rfl rfl rfl rfl ?_
                refine skipT rfl rfl rfl rfl ?_
                refine skipT rfl rfl rfl rfl ?_
                refine goG rfl rfl ?_
                iterate 3 refine pu (ev tab rfl) rfl ?_
                refine goG rfl rfl ?_
                refine pu (puCall rfl rfl rfl (lives_fn ..) rfl) rfl ?_
                iterate 2 refine pu (ev tab rfl) rfl ?_
                refine WO.nil ?_
                refine qv1 rfl rfl rfl
              · skip
                refine goG rfl rfl ?_
                refine pu (ev tab rfl) rfl ?_
                refine goG rfl rfl ?_
                first | refine pu (ev tab rfl) rfl ?_ | refine pu (loadRow tab rfl rfl rfl rfl) rfl ?_ | refine pu (loadBox tab rfl rfl rfl rfl rfl) rfl ?_
                refine goG rfl rfl ?_
                refine pu (ev tab rfl) rfl ?_
                refine goG rfl rfl ?_
                refine pu (ev tab rfl) rfl ?_
                refine goG rfl rfl ?_
                refine pu (ev tab rfl) rfl ?_
                refine goG rfl rfl ?_
                refine pu (ev tab rfl) rfl ?_
                refine goG rfl rfl ?_
                iterate 3 refine pu (ev tab rfl) rfl ?_
                apply splitJ; (case hj => rfl); (case hl => rfl)
                · skip
                  refine goG rfl rfl ?_
                  refine pu (puCall rfl rfl rfl (lives_fn ..) rfl) rfl ?_
                  iterate 2 refine pu (ev tab rfl) rfl ?_
                  refine WO.nil ?_
                  refine qv1 rfl rfl rfl
                · skip
                  refine skipT rfl rfl rfl rfl ?_
                  iterate 2 refine pu (ev tab rfl) rfl ?_
                  refine WO.nil ?_
                  refine qv1 rfl rfl rfl
            · skip
              refine skipT rfl rfl rfl rfl ?_
              refine skipT rfl rfl rfl rfl ?_
              refine skipT rfl rfl rfl rfl ?_
              refine skipT rfl rfl rfl rfl ?_
              refine skipU rfl rfl rfl ?_
              refine skipU rfl rfl rfl ?_
              refine skipU rfl rfl rfl ?_
              refine skipU rfl rfl rfl ?_
              refine skipU rfl rfl rfl ?_
              refine skipU rfl rfl rfl ?_
              refine skipT rfl rfl rfl rfl ?_
              iterate 2 refine pu (ev tab rfl) rfl ?_
              refine skipT rfl rfl rfl rfl ?_
              iterate 2 refine pu (ev tab rfl) rfl ?_
              refine WO.nil ?_
              refine qv1 rfl rfl rfl
          · skip
            refine skipT rfl rfl rfl rfl ?_
            iterate 2 refine pu (ev tab rfl) rfl ?_
            refine skipT rfl rfl rfl rfl ?_
            refine skipT rfl rfl rfl rfl ?_
            refine skipT rfl rfl rfl rfl ?_
            refine skipT rfl rfl rfl rfl ?_
            refine skipU rfl rfl rfl ?_
            refine skipU rfl rfl rfl ?_
            refine skipU rfl rfl rfl ?_
            refine skipU rfl rfl rfl ?_
            refine skipU rfl rfl rfl ?_
            refine skipU rfl rfl rfl ?_
            refine skipT rfl rfl rfl rfl ?_
            iterate 2 refine pu (ev tab rfl) rfl ?_
            refine skipT rfl rfl rfl rfl ?_
            iterate 2 refine pu (ev tab rfl) rfl ?_
            refine WO.nil ?_
            refine qv1 rfl rfl rfl
        refine qs ?_
        refine W.ret ?_
        refine QF.ret0 trivial rfl ?_
        clear d1 d2 h75 h21 e1 e2
        generalize (arithV 8 a b).n = q at *
        generalize (arithV 9 a b).n = m at *
        rw [f1]
        have w1 : IntKind.i64.wrap (a - m) = a - m := wrap64 (by omega)
        have w2 : IntKind.i64.wrap (0 - m) = 0 - m := wrap64 (by omega)
        simp only [norm, oneA, boolA, bifAnd, bifOr, w1, w2]
        rcases f4 with f4 | f4
        · simp [f4.1, show 0 - m < b by omega]
          grind
        · simp [show ¬ m < b by omega, f4.1, show b < 0 - m by omega]
          grind
theorem sums_fn (n last : Int) : Does Try.prog 7 [.d (.v (.int .i64 n)), .d (.v (.int .i64 last))] (.d (.v (.bool true))) 0 := by
  refine Does.of_W (n := 61) (ts := [4]) Try.func7 (by kernel_rfl) rfl Try.ntmps7 Try.results7 rfl rfl fun C hC hG => ?_
  refine W.seq ?_
  refine W.region ?_
  refine pu (ev tab rfl) rfl ?_
  refine WO.nil ?_
  refine qs ?_
  refine W.seq ?_
  refine W.seq ?_
  apply regionB; (case hb => rfl)
  · skip
    iterate 3 refine pu (ev tab rfl) rfl ?_
    apply splitJ; (case hj => rfl); (case hl => rfl)
    · skip
      refine skipT rfl rfl rfl rfl ?_
      refine skipT rfl rfl rfl rfl ?_
      iterate 2 refine pu (ev tab rfl) rfl ?_
      refine skipT rfl rfl rfl rfl ?_
      refine skipT rfl rfl rfl rfl ?_
      iterate 2 refine pu (ev tab rfl) rfl ?_
      refine skipT rfl rfl rfl rfl ?_
      refine skipT rfl rfl rfl rfl ?_
      refine pu (ev tab rfl) rfl ?_
      refine WO.nil ?_
      refine qv1 rfl rfl rfl
    · skip
      refine goG rfl rfl ?_
      refine pu (ev tab rfl) rfl ?_
      refine goG rfl rfl ?_
      iterate 3 refine pu (ev tab rfl) rfl ?_
      apply splitJ; (case hj => rfl); (case hl => rfl)
      · skip
        refine skipT rfl rfl rfl rfl ?_
        refine skipT rfl rfl rfl rfl ?_
        iterate 2 refine pu (ev tab rfl) rfl ?_
        refine skipT rfl rfl rfl rfl ?_
        refine skipT rfl rfl rfl rfl ?_
        refine pu (ev tab rfl) rfl ?_
        refine WO.nil ?_
        refine qv1 rfl rfl rfl
      · skip
        refine goG rfl rfl ?_
        refine pu (ev tab rfl) rfl ?_
        refine goG rfl rfl ?_
        iterate 3 refine pu (ev tab rfl) rfl ?_
        apply splitJ; (case hj => rfl); (case hl => rfl)
        · skip
          refine skipT rfl rfl rfl rfl ?_
          refine skipT rfl rfl rfl rfl ?_
          refine pu (ev tab rfl) rfl ?_
          refine WO.nil ?_
          refine qv1 rfl rfl rfl
        · skip
          refine goG rfl rfl ?_
          refine pu (ev tab rfl) rfl ?_
          refine goG rfl rfl ?_
          iterate 2 refine pu (ev tab rfl) rfl ?_
          refine WO.nil ?_
          refine qv1 rfl rfl rfl
  refine qs ?_
  refine condK rfl (fun h20 => ?_) (fun h20 => ?_)
  · skip
    refine W.seq ?_
    refine W.region ?_
    refine pu (puCall rfl rfl rfl (lives_fn ..) rfl) rfl ?_
    refine pu (ev tab rfl) rfl ?_
    refine WO.nil ?_
    refine qs ?_
    refine W.ret ?_
    refine qsRet ?_
    refine QF.ret0 trivial rfl ?_
    rfl
  · skip
    have hr : (0 ≤ n ∧ n ≤ 10000) ∧ inR last = true := by rw [inR_iff]; simp only [bifOr] at h20; simp at h20; omega
    obtain ⟨m, rfl⟩ : ∃ m : Nat, n = m := ⟨n.toNat, by omega⟩
    have hm : m ≤ 10000 := by omega
    have hlen : (sumL m).length ≤ maxLen := by rw [sumL_len]; simp only [maxLen]; omega
    have hsl := sumL_len m
    refine W.skip ?_
    refine qs ?_
    refine W.seq ?_
    refine W.region ?_
    refine pu (ev tab rfl) rfl ?_
    refine WO.nil ?_
    refine qs ?_
    refine W.seq ?_
    refine W.seq ?_
    refine W.region ?_
    refine pu (ev tab rfl) rfl ?_
    refine WO.nil ?_
    refine qs ?_
    refine W.block ?_
    refine ownNilR (d := 5) rfl rfl ?_
    refine W.loopR (ι := {x : Nat × List Val // match x with | (k, vs) => k ≤ (sumL m).length ∧ vs = (sumL m).take k})
      (fun x => match x.1 with | (k, vs) => [(5, .own 0 (vs.map Val.c)), (6, .d (.v (.int .i64 ((k : Nat) : Int))))]) [(0, _), (1, _)]
      (fun x => match x.1 with | (k, vs) => []) [] [0] 1 (fun x => match x.1 with | (k, vs) => (sumL m).length - k)
      [0] ⟨(0, []), ?_⟩ rfl ?_ ⟨rfl, rfl, rfl, rfl, trivial⟩ ?_ trivial rfl ?_
    · exact ⟨Nat.zero_le _, rfl⟩
    · repeat' first | exact trivial | refine ⟨rfl, ?_⟩ | refine ⟨step_nat (by assumption) (by assumption), ?_⟩
    · repeat' first | exact trivial | refine ⟨rfl, ?_⟩ | refine ⟨step_nat (by assumption) (by assumption), ?_⟩
    rintro ⟨⟨k, vs⟩, hk, hI⟩
    show W _ _ _ _ _ ⟨[(5, .own 0 (vs.map Val.c)), (6, .d (.v (.int .i64 ((k : Nat) : Int)))), (0, _), (1, _)], [], [0], 1⟩
    refine W.seq ?_
    refine W.seq ?_
    refine W.region ?_
    iterate 4 refine pu (ev tab rfl) rfl ?_
    refine WO.nil ?_
    refine qs ?_
    refine eachR (l := sumL m) (k := k) rfl (by rw [wrap64 (by omega), hsl, Bool.eq_iff_iff]; simp) hk (fun v hx hd hlt => ?_) (fun he hd => ?_)
    · skip
      have hvl : vs.length ≤ 20000 := by rw [hI, List.length_take]; omega
      refine W.skip ?_
      refine qs ?_
      refine W.seq ?_
      refine W.block ?_
      refine W.seq ?_
      refine W.region ?_
      iterate 3 refine pu (ev tab rfl) rfl ?_
      refine WO.nil ?_
      refine qs ?_
      refine condK rfl (fun h30 => ?_) (fun h30 => ?_)
      · skip
        have h30 : v = numV 1000000000000000 := sumL_lo hx (by simpa using h30)
        subst h30
        let nx := numV 1000000000000000
        refine W.region ?_
        refine pu (ev tab rfl) rfl ?_
        refine pu (puCall rfl rfl rfl (rnumber_fn ..) rfl) rfl ?_
        refine pu (buildV tab rfl rfl rfl rfl rfl rfl rfl rfl rfl) rfl ?_
        refine appendM (a := numV 1000000000000000) tab rfl rfl rfl rfl rfl rfl rfl rfl rfl rfl (fun _ => rfl) (by show (vs.length + 1) * 32 ≤ _; omega) ?_
        refine pu (ev tab rfl) rfl ?_
        refine WO.nil ?_
        refine qbN ?_
        refine qs ?_
        refine W.region ?_
        iterate 3 refine pu (ev tab rfl) rfl ?_
        refine WO.nil ?_
        refine W.endR [1] ⟨(k + 1, vs ++ [nx]), ?_⟩ ?_ rfl ?_ ⟨rfl, rfl, rfl, rfl, trivial⟩ ?_ trivial rfl
        · exact ⟨hlt, by rw [take_succ_at hx, hI]⟩
        · dsimp only; omega
        · repeat' first | exact trivial | refine ⟨rfl, ?_⟩ | refine ⟨step_nat (by assumption) (by assumption), ?_⟩
        · repeat' first | exact trivial | refine ⟨rfl, ?_⟩ | refine ⟨step_nat (by assumption) (by assumption), ?_⟩
      · skip
        have h30 : v = numV (-1000000000000000) := sumL_hi hx (by simpa using h30)
        subst h30
        let nx := numV (-1000000000000000)
        refine W.region ?_
        refine pu (ev tab rfl) rfl ?_
        refine pu (puCall rfl rfl rfl (rnumber_fn ..) rfl) rfl ?_
        refine pu (buildV tab rfl rfl rfl rfl rfl rfl rfl rfl rfl) rfl ?_
        refine appendM (a := numV (-1000000000000000)) tab rfl rfl rfl rfl rfl rfl rfl rfl rfl rfl (fun _ => rfl) (by show (vs.length + 1) * 32 ≤ _; omega) ?_
        refine pu (ev tab rfl) rfl ?_
        refine WO.nil ?_
        refine qbN ?_
        refine qs ?_
        refine W.region ?_
        iterate 3 refine pu (ev tab rfl) rfl ?_
        refine WO.nil ?_
        refine W.endR [1] ⟨(k + 1, vs ++ [nx]), ?_⟩ ?_ rfl ?_ ⟨rfl, rfl, rfl, rfl, trivial⟩ ?_ trivial rfl
        · exact ⟨hlt, by rw [take_succ_at hx, hI]⟩
        · dsimp only; omega
        · repeat' first | exact trivial | refine ⟨rfl, ?_⟩ | refine ⟨step_nat (by assumption) (by assumption), ?_⟩
        · repeat' first | exact trivial | refine ⟨rfl, ?_⟩ | refine ⟨step_nat (by assumption) (by assumption), ?_⟩
    · skip
      have hI : vs = sumL m := by rw [hI, he, List.take_length]
      have hvl : vs.length ≤ 20000 := by rw [hI]; omega
      refine W.exit ?_
      refine qsExit ?_
      refine qlExit ?_
      refine qbExit ?_
      refine qs ?_
      refine W.seq ?_
      refine W.region ?_
      iterate 2 refine pu (ev tab rfl) rfl ?_
      refine pu (puCall rfl rfl rfl (rnumber_fn ..) rfl) rfl ?_
      refine pu (buildV tab rfl rfl rfl rfl rfl rfl rfl rfl rfl) rfl ?_
      refine appendM (a := numV last) tab rfl rfl rfl rfl rfl rfl rfl rfl rfl rfl (fun _ => rfl) (by show (vs.length + 1) * 32 ≤ _; omega) ?_
      refine pu (ev tab rfl) rfl ?_
      refine WO.nil ?_
      refine qs ?_
      refine W.seq ?_
      apply regionB; (case hb => rfl)
      · skip
        refine pu (ev tab rfl) rfl ?_
        refine pu (puCall rfl rfl rfl (eagg_fn wSum (vs ++ [numV last]) (by simp; omega)) rfl) rfl ?_
        refine pu (ev tab rfl) rfl ?_
        refine pu (puCall rfl rfl rfl (rnumber_fn ..) rfl) rfl ?_
        iterate 2 refine pu (ev tab rfl) rfl ?_
        apply splitJ; (case hj => rfl); (case hl => rfl)
        · skip
          refine goG rfl rfl ?_
          refine pu (ev tab rfl) rfl ?_
          refine goG rfl rfl ?_
          refine pu (puCall rfl rfl rfl (eagg_fn wCount (vs ++ [numV last]) (by simp; omega)) rfl) rfl ?_
          refine goG rfl rfl ?_
          refine pu (ev tab rfl) rfl ?_
          refine goG rfl rfl ?_
          refine pu (ev tab rfl) rfl ?_
          refine goG rfl rfl ?_
          refine pu (ev tab rfl) rfl ?_
          refine goG rfl rfl ?_
          refine pu (puCall rfl rfl rfl (rnumber_fn ..) rfl) rfl ?_
          refine goG rfl rfl ?_
          iterate 3 refine pu (ev tab rfl) rfl ?_
          apply splitJ; (case hj => rfl); (case hl => rfl)
          · skip
            refine goG rfl rfl ?_
            refine pu (puCall rfl rfl rfl (lives_fn ..) rfl) rfl ?_
            iterate 2 refine pu (ev tab rfl) rfl ?_
            refine WO.nil ?_
            refine qv1 rfl rfl rfl
          · skip
            refine skipT rfl rfl rfl rfl ?_
            iterate 2 refine pu (ev tab rfl) rfl ?_
            refine WO.nil ?_
            refine qv1 rfl rfl rfl
        · skip
          refine skipT rfl rfl rfl rfl ?_
          refine skipT rfl rfl rfl rfl ?_
          refine skipT rfl rfl rfl rfl ?_
          refine skipT rfl rfl rfl rfl ?_
          refine skipT rfl rfl rfl rfl ?_
          refine skipT rfl rfl rfl rfl ?_
          refine skipT rfl rfl rfl rfl ?_
          iterate 2 refine pu (ev tab rfl) rfl ?_
          refine skipT rfl rfl rfl rfl ?_
          iterate 2 refine pu (ev tab rfl) rfl ?_
          refine WO.nil ?_
          refine qv1 rfl rfl rfl
      refine qs ?_
      refine W.ret ?_
      refine QF.ret0 trivial rfl ?_
      have s1 : aggV wSum (vs ++ [numV last]) = numV last := hI ▸ sums hr.2
      have s2 : aggV wCount (vs ++ [numV last]) = numV (IntKind.i64.wrap (IntKind.i64.wrap (2 * (m : Int)) + 1)) := by
        have w1 : IntKind.i64.wrap (2 * (m : Int)) = 2 * (m : Int) := wrap64 (by omega)
        have w2 : IntKind.i64.wrap (2 * (m : Int) + 1) = 2 * (m : Int) + 1 := wrap64 (by omega)
        rw [counts, w1, w2, List.length_append, hI, hsl]
        rfl
      rw [s1, s2, valEq, valEq]
      simp [norm, oneA]
theorem logic_fn (cols : List Col) (row : List Val) (a b : Ex) : Does Try.prog 4 [.d (.sl (cols.map Col.c)), .d (.sl (row.map Val.c)), .ag a.c, .ag b.c] (.d (.v (.bool true))) 0 := by
  refine Does.of_W (n := 124) (ts := [8]) Try.func4 (by kernel_rfl) rfl Try.ntmps4 Try.results4 rfl rfl fun C hC hG => ?_
  refine W.seq ?_
  refine W.region ?_
  refine boxR rfl rfl rfl ?_
  refine boxR rfl rfl rfl ?_
  refine pu (ev tab rfl) rfl ?_
  refine WO.nil ?_
  refine qs ?_
  refine W.seq ?_
  refine W.seq ?_
  apply regionB; (case hb => rfl)
  · skip
    iterate 2 refine pu (ev tab rfl) rfl ?_
    first | refine pu (ev tab rfl) rfl ?_ | refine pu (loadRow tab rfl rfl rfl rfl) rfl ?_ | refine pu (loadBox tab rfl rfl rfl rfl rfl) rfl ?_
    refine pu (puCall rfl rfl rfl (few_fn ..) rfl) rfl ?_
    iterate 2 refine pu (ev tab rfl) rfl ?_
    apply splitJ; (case hj => rfl); (case hl => rfl)
    · skip
      refine skipT rfl rfl rfl rfl ?_
      refine skipT rfl rfl rfl rfl ?_
      refine skipT rfl rfl rfl rfl ?_
      refine skipT rfl rfl rfl rfl ?_
      refine skipT rfl rfl rfl rfl ?_
      iterate 2 refine pu (ev tab rfl) rfl ?_
      refine skipT rfl rfl rfl rfl ?_
      refine skipT rfl rfl rfl rfl ?_
      refine skipT rfl rfl rfl rfl ?_
      iterate 2 refine pu (ev tab rfl) rfl ?_
      refine skipT rfl rfl rfl rfl ?_
      refine skipT rfl rfl rfl rfl ?_
      refine skipT rfl rfl rfl rfl ?_
      refine pu (ev tab rfl) rfl ?_
      refine WO.nil ?_
      refine qv1 rfl rfl rfl
    · skip
      refine goG rfl rfl ?_
      refine pu (ev tab rfl) rfl ?_
      refine goG rfl rfl ?_
      refine pu (ev tab rfl) rfl ?_
      refine goG rfl rfl ?_
      first | refine pu (ev tab rfl) rfl ?_ | refine pu (loadRow tab rfl rfl rfl rfl) rfl ?_ | refine pu (loadBox tab rfl rfl rfl rfl rfl) rfl ?_
      refine goG rfl rfl ?_
      refine pu (puCall rfl rfl rfl (few_fn ..) rfl) rfl ?_
      refine goG rfl rfl ?_
      iterate 3 refine pu (ev tab rfl) rfl ?_
      apply splitJ; (case hj => rfl); (case hl => rfl)
      · skip
        refine skipT rfl rfl rfl rfl ?_
        refine skipT rfl rfl rfl rfl ?_
        refine skipT rfl rfl rfl rfl ?_
        iterate 2 refine pu (ev tab rfl) rfl ?_
        refine skipT rfl rfl rfl rfl ?_
        refine skipT rfl rfl rfl rfl ?_
        refine skipT rfl rfl rfl rfl ?_
        refine pu (ev tab rfl) rfl ?_
        refine WO.nil ?_
        refine qv1 rfl rfl rfl
      · skip
        refine goG rfl rfl ?_
        first | refine pu (ev tab rfl) rfl ?_ | refine pu (loadRow tab rfl rfl rfl rfl) rfl ?_ | refine pu (loadBox tab rfl rfl rfl rfl rfl) rfl ?_
        refine goG rfl rfl ?_
        refine pu (puCall rfl rfl rfl (count_fn a 90 (by decide) (by decide)) rfl) rfl ?_
        refine goG rfl rfl ?_
        iterate 3 refine pu (ev tab rfl) rfl ?_
        apply splitJ; (case hj => rfl); (case hl => rfl)
        · skip
          refine skipT rfl rfl rfl rfl ?_
          refine skipT rfl rfl rfl rfl ?_
          refine skipT rfl rfl rfl rfl ?_
          refine pu (ev tab rfl) rfl ?_
          refine WO.nil ?_
          refine qv1 rfl rfl rfl
        · skip
          refine goG rfl rfl ?_
          first | refine pu (ev tab rfl) rfl ?_ | refine pu (loadRow tab rfl rfl rfl rfl) rfl ?_ | refine pu (loadBox tab rfl rfl rfl rfl rfl) rfl ?_
          refine goG rfl rfl ?_
          refine pu (puCall rfl rfl rfl (count_fn b 90 (by decide) (by decide)) rfl) rfl ?_
          refine goG rfl rfl ?_
          iterate 2 refine pu (ev tab rfl) rfl ?_
          refine WO.nil ?_
          refine qv1 rfl rfl rfl
  refine qs ?_
  refine condK rfl (fun h36 => ?_) (fun h36 => ?_)
  · skip
    refine W.seq ?_
    refine W.region ?_
    refine pu (puCall rfl rfl rfl (lives_fn ..) rfl) rfl ?_
    refine pu (ev tab rfl) rfl ?_
    refine WO.nil ?_
    refine qs ?_
    refine W.ret ?_
    refine qsRet ?_
    refine QF.ret0 trivial rfl ?_
    rfl
  · skip
    refine W.skip ?_
    refine qs ?_
    refine W.seq ?_
    refine W.region ?_
    refine pu (ev tab rfl) rfl ?_
    first | refine pu (ev tab rfl) rfl ?_ | refine pu (loadRow tab rfl rfl rfl rfl) rfl ?_ | refine pu (loadBox tab rfl rfl rfl rfl rfl) rfl ?_
    first | refine pu (ev tab rfl) rfl ?_ | refine pu (loadRow tab rfl rfl rfl rfl) rfl ?_ | refine pu (loadBox tab rfl rfl rfl rfl rfl) rfl ?_
    refine pu (puCall rfl rfl rfl (two_fn 14 a b) rfl) rfl ?_
    refine pu (puCall rfl rfl rfl (lnot_fn (twoE 14 a b)) rfl) rfl ?_
    refine pu (puCall rfl rfl rfl (rtexpr_fn cols (notE (twoE 14 a b))) rfl) rfl ?_
    iterate 5 refine pu (ev tab rfl) rfl ?_
    refine WO.nil ?_
    refine qs ?_
    refine W.seq ?_
    refine W.regionD tab (by kernel_rfl) ?_
    refine chPu (ev tab rfl) rfl ?_
    first | refine chPu (ev tab rfl) rfl ?_ | refine chPu (loadRow tab rfl rfl rfl rfl) rfl ?_ | refine chPu (loadBox tab rfl rfl rfl rfl rfl) rfl ?_
    refine chPu (puCall rfl rfl rfl (lnot_fn a) rfl) rfl ?_
    first | refine chPu (ev tab rfl) rfl ?_ | refine chPu (loadRow tab rfl rfl rfl rfl) rfl ?_ | refine chPu (loadBox tab rfl rfl rfl rfl rfl) rfl ?_
    refine chPu (puCall rfl rfl rfl (lnot_fn b) rfl) rfl ?_
    refine chPu (puCall rfl rfl rfl (two_fn 15 (notE a) (notE b)) rfl) rfl ?_
    refine chPu (puCall rfl rfl rfl (rtexpr_fn cols (twoE 15 (notE a) (notE b))) rfl) rfl ?_
    refine chPu (ev tab rfl) rfl ?_
    refine chPu (ev tab rfl) rfl ?_
    refine chPu (ev tab rfl) rfl ?_
    refine chPu (ev tab rfl) rfl ?_
    refine chPu (ev tab rfl) rfl ?_
    refine CH.nil ?_
    refine qs ?_
    refine W.seq ?_
    refine W.seq ?_
    apply regionB; (case hb => rfl)
    · skip
      iterate 3 refine pu (ev tab rfl) rfl ?_
      apply splitJ; (case hj => rfl); (case hl => rfl)
      · skip
        refine goG rfl rfl ?_
        refine pu (ev tab rfl) rfl ?_
        refine goG rfl rfl ?_
        iterate 2 refine pu (ev tab rfl) rfl ?_
        refine WO.nil ?_
        refine qv1 rfl rfl rfl
      · skip
        refine skipT rfl rfl rfl rfl ?_
        refine skipT rfl rfl rfl rfl ?_
        refine pu (ev tab rfl) rfl ?_
        refine WO.nil ?_
        refine qv1 rfl rfl rfl
    refine qs ?_
    refine condK rfl (fun h62 => ?_) (fun h62 => ?_)
    · skip
      have hmg := morgan cols row (a := a) (b := b) (by simp only [bifAnd] at h62; simp at h62; exact h62.1) (by simp only [bifAnd] at h62; simp at h62; exact h62.2)
      refine W.seq ?_
      refine W.seq ?_
      refine W.regionD tab (by kernel_rfl) ?_
      refine chPu (ev tab rfl) rfl ?_
      refine chPu (ev tab rfl) rfl ?_
      first | refine chPu (ev tab rfl) rfl ?_ | refine chPu (loadRow tab rfl rfl rfl rfl) rfl ?_ | refine chPu (loadBox tab rfl rfl rfl rfl rfl) rfl ?_
      first | refine chPu (ev tab rfl) rfl ?_ | refine chPu (loadRow tab rfl rfl rfl rfl) rfl ?_ | refine chPu (loadBox tab rfl rfl rfl rfl rfl) rfl ?_
      refine chPu (puCall rfl rfl rfl (two_fn 14 a b) rfl) rfl ?_
      refine chPu (puCall rfl rfl rfl (lnot_fn (twoE 14 a b)) rfl) rfl ?_
      refine chPu (puCall rfl rfl rfl (eexpr_fn cols row (notE (twoE 14 a b))) rfl) rfl ?_
      refine chPu (ev tab rfl) rfl ?_
      refine chPu (ev tab rfl) rfl ?_
      first | refine chPu (ev tab rfl) rfl ?_ | refine chPu (loadRow tab rfl rfl rfl rfl) rfl ?_ | refine chPu (loadBox tab rfl rfl rfl rfl rfl) rfl ?_
      refine chPu (puCall rfl rfl rfl (lnot_fn a) rfl) rfl ?_
      first | refine chPu (ev tab rfl) rfl ?_ | refine chPu (loadRow tab rfl rfl rfl rfl) rfl ?_ | refine chPu (loadBox tab rfl rfl rfl rfl rfl) rfl ?_
      refine chPu (puCall rfl rfl rfl (lnot_fn b) rfl) rfl ?_
      refine chPu (puCall rfl rfl rfl (two_fn 15 (notE a) (notE b)) rfl) rfl ?_
      refine chPu (puCall rfl rfl rfl (eexpr_fn cols row (twoE 15 (notE a) (notE b))) rfl) rfl ?_
      refine chPu (ev tab rfl) rfl ?_
      refine CH.nil ?_
      refine qs ?_
      refine condK rfl (fun h78 => ?_) (fun h78 => ?_)
      · skip
        exfalso; rw [hmg.1, valEq] at h78; simp at h78
      · skip
        refine W.skip ?_
        refine qs ?_
        refine W.seq ?_
        refine W.regionD tab (by kernel_rfl) ?_
        refine chPu (ev tab rfl) rfl ?_
        refine chPu (ev tab rfl) rfl ?_
        first | refine chPu (ev tab rfl) rfl ?_ | refine chPu (loadRow tab rfl rfl rfl rfl) rfl ?_ | refine chPu (loadBox tab rfl rfl rfl rfl rfl) rfl ?_
        first | refine chPu (ev tab rfl) rfl ?_ | refine chPu (loadRow tab rfl rfl rfl rfl) rfl ?_ | refine chPu (loadBox tab rfl rfl rfl rfl rfl) rfl ?_
        refine chPu (puCall rfl rfl rfl (two_fn 15 a b) rfl) rfl ?_
        refine chPu (puCall rfl rfl rfl (lnot_fn (twoE 15 a b)) rfl) rfl ?_
        refine chPu (puCall rfl rfl rfl (eexpr_fn cols row (notE (twoE 15 a b))) rfl) rfl ?_
        refine chPu (ev tab rfl) rfl ?_
        refine chPu (ev tab rfl) rfl ?_
        first | refine chPu (ev tab rfl) rfl ?_ | refine chPu (loadRow tab rfl rfl rfl rfl) rfl ?_ | refine chPu (loadBox tab rfl rfl rfl rfl rfl) rfl ?_
        refine chPu (puCall rfl rfl rfl (lnot_fn a) rfl) rfl ?_
        first | refine chPu (ev tab rfl) rfl ?_ | refine chPu (loadRow tab rfl rfl rfl rfl) rfl ?_ | refine chPu (loadBox tab rfl rfl rfl rfl rfl) rfl ?_
        refine chPu (puCall rfl rfl rfl (lnot_fn b) rfl) rfl ?_
        refine chPu (puCall rfl rfl rfl (two_fn 14 (notE a) (notE b)) rfl) rfl ?_
        refine chPu (puCall rfl rfl rfl (eexpr_fn cols row (twoE 14 (notE a) (notE b))) rfl) rfl ?_
        refine chPu (ev tab rfl) rfl ?_
        refine CH.nil ?_
        refine qs ?_
        refine condK rfl (fun h94 => ?_) (fun h94 => ?_)
        · skip
          exfalso; rw [hmg.2, valEq] at h94; simp at h94
        · skip
          refine W.skip ?_
          refine qs ?_
          refine W.seq ?_
          refine W.region ?_
          refine pu (buildV tab rfl rfl rfl rfl rfl rfl rfl rfl rfl) rfl ?_
          refine pu (ev tab rfl) rfl ?_
          refine WO.nil ?_
          refine qs ?_
          refine W.seq ?_
          refine W.seq ?_
          refine W.region ?_
          refine pu (ev tab rfl) rfl ?_
          refine WO.nil ?_
          refine qs ?_
          refine W.block ?_
          have hlen : [(14 : Int), 15, 5, 7, 10].length ≤ maxLen := by simp [maxLen]
          refine W.loopR (ι := {x : Nat // match x with | k => k ≤ [(14 : Int), 15, 5, 7, 10].length ∧ True})
            (fun x => match x.1 with | k => [(6, .ptr 0 0), (7, .ptr 1 0), (14, .d (.v (.int .i64 ((k : Nat) : Int))))]) [(0, _), (1, _), (13, _)]
            (fun x => match x.1 with | k => []) [(0, _), (1, _)] [] 2 (fun x => match x.1 with | k => [(14 : Int), 15, 5, 7, 10].length - k)
            [0, 1] ⟨0, ?_⟩ rfl ?_ ⟨rfl, rfl, rfl, rfl, rfl, rfl, trivial⟩ ?_ ⟨rfl, rfl, rfl, rfl, trivial⟩ rfl ?_
          · exact ⟨Nat.zero_le _, trivial⟩
          · repeat' first | exact trivial | refine ⟨rfl, ?_⟩ | refine ⟨step_nat (by assumption) (by assumption), ?_⟩
          · repeat' first | exact trivial | refine ⟨rfl, ?_⟩ | refine ⟨step_nat (by assumption) (by assumption), ?_⟩
          rintro ⟨k, hk, hI⟩
          show W _ _ _ _ _ ⟨[(6, .ptr 0 0), (7, .ptr 1 0), (14, .d (.v (.int .i64 ((k : Nat) : Int)))), (0, _), (1, _), (13, _)], [(0, _), (1, _)], [], 2⟩
          refine W.seq ?_
          refine W.seq ?_
          refine W.region ?_
          iterate 4 refine pu (ev tab rfl) rfl ?_
          refine WO.nil ?_
          refine qs ?_
          refine eachR (l := [(14 : Int), 15, 5, 7, 10]) (k := k) rfl (by rfl) hk (fun x hx hd hlt => ?_) (fun he hd => ?_)
          · skip
            have hxo : x = 14 ∨ x = 15 ∨ x = 5 ∨ x = 7 ∨ x = 10 := by have := List.mem_of_getElem? hx; simpa using this
            refine W.skip ?_
            refine qs ?_
            refine W.seq ?_
            refine W.block ?_
            refine W.seq ?_
            refine W.regionD tab (by kernel_rfl) ?_
            refine chPu (ev tab rfl) rfl ?_
            refine chPu (ev tab rfl) rfl ?_
            refine chPu (ev tab rfl) rfl ?_
            refine chPu (ev tab rfl) rfl ?_
            refine chPu (indexAddr tab rfl rfl rfl rfl rfl rfl (Int.natCast_nonneg _) (idx_map (f := ic) hx) rfl) rfl ?_
            first | refine chPu (ev tab rfl) rfl ?_ | refine chPu (loadRow tab rfl rfl rfl rfl) rfl ?_ | refine chPu (loadBox tab rfl rfl rfl rfl rfl) rfl ?_
            first | refine chPu (ev tab rfl) rfl ?_ | refine chPu (loadRow tab rfl rfl rfl rfl) rfl ?_ | refine chPu (loadBox tab rfl rfl rfl rfl rfl) rfl ?_
            first | refine chPu (ev tab rfl) rfl ?_ | refine chPu (loadRow tab rfl rfl rfl rfl) rfl ?_ | refine chPu (loadBox tab rfl rfl rfl rfl rfl) rfl ?_
            refine chPu (puCall rfl rfl rfl (two_fn x a b) rfl) rfl ?_
            refine chPu (puCall rfl rfl rfl (eexpr_fn cols row (twoE x a b)) rfl) rfl ?_
            refine chPu (ev tab rfl) rfl ?_
            refine chPu (ev tab rfl) rfl ?_
            refine chPu (ev tab rfl) rfl ?_
            refine chPu (ev tab rfl) rfl ?_
            refine chPu (indexAddr tab rfl rfl rfl rfl rfl rfl (Int.natCast_nonneg _) (idx_map (f := ic) hx) rfl) rfl ?_
            first | refine chPu (ev tab rfl) rfl ?_ | refine chPu (loadRow tab rfl rfl rfl rfl) rfl ?_ | refine chPu (loadBox tab rfl rfl rfl rfl rfl) rfl ?_
            first | refine chPu (ev tab rfl) rfl ?_ | refine chPu (loadRow tab rfl rfl rfl rfl) rfl ?_ | refine chPu (loadBox tab rfl rfl rfl rfl rfl) rfl ?_
            first | refine chPu (ev tab rfl) rfl ?_ | refine chPu (loadRow tab rfl rfl rfl rfl) rfl ?_ | refine chPu (loadBox tab rfl rfl rfl rfl rfl) rfl ?_
            refine chPu (puCall rfl rfl rfl (two_fn x b a) rfl) rfl ?_
            refine chPu (puCall rfl rfl rfl (eexpr_fn cols row (twoE x b a)) rfl) rfl ?_
            refine chPu (ev tab rfl) rfl ?_
            refine CH.nil ?_
            refine qs ?_
            refine condK rfl (fun h122 => ?_) (fun h122 => ?_)
            · skip
              exfalso; rw [exprV_comm cols row hxo, valEq] at h122; simp at h122
            · skip
              refine W.skip ?_
              refine qbN ?_
              refine qs ?_
              refine W.region ?_
              iterate 3 refine pu (ev tab rfl) rfl ?_
              refine WO.nil ?_
              refine W.endR [0, 1] ⟨k + 1, ?_⟩ ?_ rfl ?_ ⟨rfl, rfl, rfl, rfl, rfl, rfl, trivial⟩ ?_ ⟨rfl, rfl, rfl, rfl, trivial⟩ rfl
              · exact ⟨hlt, trivial⟩
              · dsimp only; omega
              · repeat' first | exact trivial | refine ⟨rfl, ?_⟩ | refine ⟨step_nat (by assumption) (by assumption), ?_⟩
              · repeat' first | exact trivial | refine ⟨rfl, ?_⟩ | refine ⟨step_nat (by assumption) (by assumption), ?_⟩
          · skip
            refine W.exit ?_
            refine qsExit ?_
            refine qlExit ?_
            refine qbExit ?_
            refine qs ?_
            refine W.seq ?_
            refine W.region ?_
            refine pu (puCall rfl rfl rfl (lives_fn ..) rfl) rfl ?_
            refine pu (ev tab rfl) rfl ?_
            refine WO.nil ?_
            refine qs ?_
            refine W.ret ?_
            refine QF.ret0 trivial rfl ?_
            rfl
    · skip
      refine W.skip ?_
      refine qs ?_
      refine W.seq ?_
      refine W.region ?_
      refine pu (buildV tab rfl rfl rfl rfl rfl rfl rfl rfl rfl) rfl ?_
      refine pu (ev tab rfl) rfl ?_
      refine WO.nil ?_
      refine qs ?_
      refine W.seq ?_
      refine W.seq ?_
      refine W.region ?_
      refine pu (ev tab rfl) rfl ?_
      refine WO.nil ?_
      refine qs ?_
      refine W.block ?_
      have hlen : [(14 : Int), 15, 5, 7, 10].length ≤ maxLen := by simp [maxLen]
      refine W.loopR (ι := {x : Nat // match x with | k => k ≤ [(14 : Int), 15, 5, 7, 10].length ∧ True})
        (fun x => match x.1 with | k => [(6, .ptr 0 0), (7, .ptr 1 0), (14, .d (.v (.int .i64 ((k : Nat) : Int))))]) [(0, _), (1, _), (13, _)]
        (fun x => match x.1 with | k => []) [(0, _), (1, _)] [] 2 (fun x => match x.1 with | k => [(14 : Int), 15, 5, 7, 10].length - k)
        [0, 1] ⟨0, ?_⟩ rfl ?_ ⟨rfl, rfl, rfl, rfl, rfl, rfl, trivial⟩ ?_ ⟨rfl, rfl, rfl, rfl, trivial⟩ rfl ?_
      · exact ⟨Nat.zero_le _, trivial⟩
      · repeat' first | exact trivial | refine ⟨rfl, ?_⟩ | refine ⟨step_nat (by assumption) (by assumption), ?_⟩
      · repeat' first | exact trivial | refine ⟨rfl, ?_⟩ | refine ⟨step_nat (by assumption) (by assumption), ?_⟩
      rintro ⟨k, hk, hI⟩
      show W _ _ _ _ _ ⟨[(6, .ptr 0 0), (7, .ptr 1 0), (14, .d (.v (.int .i64 ((k : Nat) : Int)))), (0, _), (1, _), (13, _)], [(0, _), (1, _)], [], 2⟩
      refine W.seq ?_
      refine W.seq ?_
      refine W.region ?_
      iterate 4 refine pu (ev tab rfl) rfl ?_
      refine WO.nil ?_
      refine qs ?_
      refine eachR (l := [(14 : Int), 15, 5, 7, 10]) (k := k) rfl (by rfl) hk (fun x hx hd hlt => ?_) (fun he hd => ?_)
      · skip
        have hxo : x = 14 ∨ x = 15 ∨ x = 5 ∨ x = 7 ∨ x = 10 := by have := List.mem_of_getElem? hx; simpa using this
        refine W.skip ?_
        refine qs ?_
        refine W.seq ?_
        refine W.block ?_
        refine W.seq ?_
        refine W.regionD tab (by kernel_rfl) ?_
        refine chPu (ev tab rfl) rfl ?_
        refine chPu (ev tab rfl) rfl ?_
        refine chPu (ev tab rfl) rfl ?_
        refine chPu (ev tab rfl) rfl ?_
        refine chPu (indexAddr tab rfl rfl rfl rfl rfl rfl (Int.natCast_nonneg _) (idx_map (f := ic) hx) rfl) rfl ?_
        first | refine chPu (ev tab rfl) rfl ?_ | refine chPu (loadRow tab rfl rfl rfl rfl) rfl ?_ | refine chPu (loadBox tab rfl rfl rfl rfl rfl) rfl ?_
        first | refine chPu (ev tab rfl) rfl ?_ | refine chPu (loadRow tab rfl rfl rfl rfl) rfl ?_ | refine chPu (loadBox tab rfl rfl rfl rfl rfl) rfl ?_
        first | refine chPu (ev tab rfl) rfl ?_ | refine chPu (loadRow tab rfl rfl rfl rfl) rfl ?_ | refine chPu (loadBox tab rfl rfl rfl rfl rfl) rfl ?_
        refine chPu (puCall rfl rfl rfl (two_fn x a b) rfl) rfl ?_
        refine chPu (puCall rfl rfl rfl (eexpr_fn cols row (twoE x a b)) rfl) rfl ?_
        refine chPu (ev tab rfl) rfl ?_
        refine chPu (ev tab rfl) rfl ?_
        refine chPu (ev tab rfl) rfl ?_
        refine chPu (ev tab rfl) rfl ?_
        refine chPu (indexAddr tab rfl rfl rfl rfl rfl rfl (Int.natCast_nonneg _) (idx_map (f := ic) hx) rfl) rfl ?_
        first | refine chPu (ev tab rfl) rfl ?_ | refine chPu (loadRow tab rfl rfl rfl rfl) rfl ?_ | refine chPu (loadBox tab rfl rfl rfl rfl rfl) rfl ?_
        first | refine chPu (ev tab rfl) rfl ?_ | refine chPu (loadRow tab rfl rfl rfl rfl) rfl ?_ | refine chPu (loadBox tab rfl rfl rfl rfl rfl) rfl ?_
        first | refine chPu (ev tab rfl) rfl ?_ | refine chPu (loadRow tab rfl rfl rfl rfl) rfl ?_ | refine chPu (loadBox tab rfl rfl rfl rfl rfl) rfl ?_
        refine chPu (puCall rfl rfl rfl (two_fn x b a) rfl) rfl ?_
        refine chPu (puCall rfl rfl rfl (eexpr_fn cols row (twoE x b a)) rfl) rfl ?_
        refine chPu (ev tab rfl) rfl ?_
        refine CH.nil ?_
        refine qs ?_
        refine condK rfl (fun h122 => ?_) (fun h122 => ?_)
        · skip
          exfalso; rw [exprV_comm cols row hxo, valEq] at h122; simp at h122
        · skip
          refine W.skip ?_
          refine qbN ?_
          refine qs ?_
          refine W.region ?_
          iterate 3 refine pu (ev tab rfl) rfl ?_
          refine WO.nil ?_
          refine W.endR [0, 1] ⟨k + 1, ?_⟩ ?_ rfl ?_ ⟨rfl, rfl, rfl, rfl, rfl, rfl, trivial⟩ ?_ ⟨rfl, rfl, rfl, rfl, trivial⟩ rfl
          · exact ⟨hlt, trivial⟩
          · dsimp only; omega
          · repeat' first | exact trivial | refine ⟨rfl, ?_⟩ | refine ⟨step_nat (by assumption) (by assumption), ?_⟩
          · repeat' first | exact trivial | refine ⟨rfl, ?_⟩ | refine ⟨step_nat (by assumption) (by assumption), ?_⟩
      · skip
        refine W.exit ?_
        refine qsExit ?_
        refine qlExit ?_
        refine qbExit ?_
        refine qs ?_
        refine W.seq ?_
        refine W.region ?_
        refine pu (puCall rfl rfl rfl (lives_fn ..) rfl) rfl ?_
        refine pu (ev tab rfl) rfl ?_
        refine WO.nil ?_
        refine qs ?_
        refine W.ret ?_
        refine QF.ret0 trivial rfl ?_
        rfl
end Go.Proofs.Ytaifpecinbjgcaa
