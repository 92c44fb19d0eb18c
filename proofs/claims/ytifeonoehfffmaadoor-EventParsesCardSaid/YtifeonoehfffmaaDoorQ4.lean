import Derived.Test.YtifeonoehfffmaaDoorQ3
namespace Go.Proofs.YtifeonoehfffmaaDoor
open Go.Ab Go.Tb
set_option maxRecDepth 10000
attribute [local irreducible] W WO Pu QS QB QL QF QV QV1 CH QE
theorem joinW_fn {es : List (List D)} (l : List ByteArray) (sep : ByteArray) (he : es = l.map sc) (hl : l.length ≤ 100000) (hb : (joinB l sep).size ≤ 1000000) : Does Tryd.prog 29 [.d (.sl es), .d (.v (.string sep))] (.d (.v (.string (joinB l sep)))) 0 := by
  subst he
  exact join_fn l sep hl hb
theorem rjoinW_fn {es : List (List D)} (l : List ByteArray) (sep : ByteArray) (he : es = l.map sc) (hl : l.length ≤ 100000) (hb : (joinB l sep).size ≤ 1000000) : Does Tryd.prog 32 [.d (.sl es), .d (.v (.string sep))] (.d (.v (.string (joinB l sep)))) 0 := by
  subst he
  exact rjoin_fn l sep hl hb
theorem int_of {n : Int} (h : inR n = true) : -9223372036854775808 ≤ n ∧ n ≤ 9223372036854775807 := by have := inR_iff.1 h; omega
theorem etext_fn (e : Ev) : Does Tryd.prog 13 [.ag e.c] (.d (.v (.string (textE e)))) 0 := by
  refine Does.of_W (n := 67) (ts := [2]) Tryd.func13 (by kernel_rfl) rfl Tryd.ntmps13 Tryd.results13 rfl rfl fun C hC hG => ?_
  refine W.seq ?_
  refine W.region ?_
  refine boxR rfl rfl rfl ?_
  refine pu (ev tab rfl) rfl ?_
  refine WO.nil ?_
  refine qs ?_
  refine W.seq ?_
  refine W.seq ?_
  refine W.region ?_
  first | refine pu (ev tab rfl) rfl ?_ | refine pu (loadRow tab rfl rfl rfl rfl) rfl ?_ | refine pu (loadBox tab rfl rfl rfl rfl rfl) rfl ?_
  refine pu (puCall rfl rfl rfl (echeck_fn ..) rfl) rfl ?_
  refine pu (ev tab rfl) rfl ?_
  refine WO.nil ?_
  refine qs ?_
  refine condK rfl (fun h8 => ?_) (fun h8 => ?_)
  · skip
    have hg : textE e = B #[] := by unfold textE; rw [if_neg (by simpa using h8)]
    refine W.seq ?_
    refine W.region ?_
    refine pu (ev tab rfl) rfl ?_
    refine WO.nil ?_
    refine qs ?_
    refine W.ret ?_
    refine qsRet ?_
    refine QF.ret0 trivial rfl ?_
    rw [hg]; rfl
  · skip
    have hc : checkE e = 0 := by simpa using h8
    have g := good_of hc
    obtain ⟨w1, w2, w3⟩ := g.wordsSize
    have hg : textE e = joinB (wordsE e) wSpace := by unfold textE; rw [if_pos hc]
    refine W.skip ?_
    refine qs ?_
    refine W.seq ?_
    refine W.region ?_
    refine pu (ev tab rfl) rfl ?_
    first | refine pu (ev tab rfl) rfl ?_ | refine pu (loadRow tab rfl rfl rfl rfl) rfl ?_ | refine pu (loadBox tab rfl rfl rfl rfl rfl) rfl ?_
    refine pu (puCall rfl rfl rfl (formOf_fn ..) rfl) rfl ?_
    iterate 3 refine pu (ev tab rfl) rfl ?_
    refine allocR tab rfl rfl rfl ?_
    refine storeR tab rfl rfl rfl rfl rfl rfl rfl rfl ?_
    refine pu (ev tab rfl) rfl ?_
    refine WO.nil ?_
    refine qs ?_
    refine W.seq ?_
    refine W.regionD tab (by kernel_rfl) ?_
    refine chPu (ev tab rfl) rfl ?_
    first | refine chPu (ev tab rfl) rfl ?_ | refine chPu (loadRow tab rfl rfl rfl rfl) rfl ?_ | refine chPu (loadBox tab rfl rfl rfl rfl rfl) rfl ?_
    refine chPu (puCall rfl rfl rfl (text_fn e.time (int_of g.timeIn).1 (int_of g.timeIn).2) rfl) rfl ?_
    refine chPu (ev tab rfl) rfl ?_
    first | refine chPu (ev tab rfl) rfl ?_ | refine chPu (loadRow tab rfl rfl rfl rfl) rfl ?_ | refine chPu (loadBox tab rfl rfl rfl rfl rfl) rfl ?_
    refine chPu (buildFl tab rfl rfl rfl rfl rfl rfl rfl rfl rfl) rfl ?_
    refine chPu (ev tab rfl) rfl ?_
    refine CH.nil ?_
    refine qs ?_
    refine W.seq ?_
    refine W.seq ?_
    refine W.region ?_
    refine pu (ev tab rfl) rfl ?_
    first | refine pu (ev tab rfl) rfl ?_ | refine pu (loadRow tab rfl rfl rfl rfl) rfl ?_ | refine pu (loadBox tab rfl rfl rfl rfl rfl) rfl ?_
    refine WO.nil ?_
    refine qs ?_
    refine condK rfl (fun h22 => ?_) (fun h22 => ?_)
    · skip
      refine W.region ?_
      iterate 2 refine pu (ev tab rfl) rfl ?_
      first | refine pu (ev tab rfl) rfl ?_ | refine pu (loadRow tab rfl rfl rfl rfl) rfl ?_ | refine pu (loadBox tab rfl rfl rfl rfl rfl) rfl ?_
      refine pu (buildV tab rfl rfl rfl rfl rfl rfl rfl rfl rfl) rfl ?_
      first | refine appendFl tab rfl rfl rfl rfl rfl rfl rfl rfl rfl rfl rfl rfl (lensB_mem rfl) (Nat.le_of_ble_eq_true rfl) ?_ | refine appendO tab rfl rfl rfl rfl rfl rfl rfl rfl rfl rfl rfl rfl rfl rfl ?_
      refine pu (ev tab rfl) rfl ?_
      refine WO.nil ?_
      refine qs ?_
      refine W.seq ?_
      refine W.seq ?_
      refine W.region ?_
      refine pu (ev tab rfl) rfl ?_
      first | refine pu (ev tab rfl) rfl ?_ | refine pu (loadRow tab rfl rfl rfl rfl) rfl ?_ | refine pu (loadBox tab rfl rfl rfl rfl rfl) rfl ?_
      refine WO.nil ?_
      refine qs ?_
      refine condK rfl (fun h29 => ?_) (fun h29 => ?_)
      · skip
        refine W.region ?_
        iterate 2 refine pu (ev tab rfl) rfl ?_
        first | refine pu (ev tab rfl) rfl ?_ | refine pu (loadRow tab rfl rfl rfl rfl) rfl ?_ | refine pu (loadBox tab rfl rfl rfl rfl rfl) rfl ?_
        refine pu (puCall rfl rfl rfl (text_fn e.n (int_of g.nIn).1 (int_of g.nIn).2) rfl) rfl ?_
        refine pu (buildV tab rfl rfl rfl rfl rfl rfl rfl rfl rfl) rfl ?_
        first | refine appendFl tab rfl rfl rfl rfl rfl rfl rfl rfl rfl rfl rfl rfl (lensB_mem rfl) (Nat.le_of_ble_eq_true rfl) ?_ | refine appendO tab rfl rfl rfl rfl rfl rfl rfl rfl rfl rfl rfl rfl rfl rfl ?_
        refine pu (ev tab rfl) rfl ?_
        refine WO.nil ?_
        refine qs ?_
        refine W.seq ?_
        refine W.seq ?_
        refine W.region ?_
        first | refine pu (ev tab rfl) rfl ?_ | refine pu (loadRow tab rfl rfl rfl rfl) rfl ?_ | refine pu (loadBox tab rfl rfl rfl rfl rfl) rfl ?_
        refine pu (ev tab rfl) rfl ?_
        first | refine pu (ev tab rfl) rfl ?_ | refine pu (loadRow tab rfl rfl rfl rfl) rfl ?_ | refine pu (loadBox tab rfl rfl rfl rfl rfl) rfl ?_
        refine pu (puCall rfl rfl rfl (shows_fn ..) rfl) rfl ?_
        refine WO.nil ?_
        refine qs ?_
        refine condK rfl (fun h39 => ?_) (fun h39 => ?_)
        · skip
          refine W.region ?_
          iterate 2 refine pu (ev tab rfl) rfl ?_
          first | refine pu (ev tab rfl) rfl ?_ | refine pu (loadRow tab rfl rfl rfl rfl) rfl ?_ | refine pu (loadBox tab rfl rfl rfl rfl rfl) rfl ?_
          refine pu (puCall rfl rfl rfl (text_fn e.m (int_of g.mIn).1 (int_of g.mIn).2) rfl) rfl ?_
          refine pu (buildV tab rfl rfl rfl rfl rfl rfl rfl rfl rfl) rfl ?_
          first | refine appendFl tab rfl rfl rfl rfl rfl rfl rfl rfl rfl rfl rfl rfl (lensB_mem rfl) (Nat.le_of_ble_eq_true rfl) ?_ | refine appendO tab rfl rfl rfl rfl rfl rfl rfl rfl rfl rfl rfl rfl rfl rfl ?_
          refine pu (ev tab rfl) rfl ?_
          refine WO.nil ?_
          refine qs ?_
          refine W.seq ?_
          refine W.seq ?_
          apply regionB; (case hb => rfl)
          · skip
            refine pu (ev tab rfl) rfl ?_
            first | refine pu (ev tab rfl) rfl ?_ | refine pu (loadRow tab rfl rfl rfl rfl) rfl ?_ | refine pu (loadBox tab rfl rfl rfl rfl rfl) rfl ?_
            refine pu (ev tab rfl) rfl ?_
            apply splitJ; (case hj => rfl); (case hl => rfl)
            · skip
              refine goG rfl rfl ?_
              refine pu (ev tab rfl) rfl ?_
              refine goG rfl rfl ?_
              first | refine pu (ev tab rfl) rfl ?_ | refine pu (loadRow tab rfl rfl rfl rfl) rfl ?_ | refine pu (loadBox tab rfl rfl rfl rfl rfl) rfl ?_
              refine goG rfl rfl ?_
              refine pu (ev tab rfl) rfl ?_
              refine goG rfl rfl ?_
              iterate 2 refine pu (ev tab rfl) rfl ?_
              refine WO.nil ?_
              refine qv1 rfl rfl rfl
            · skip
              refine skipT rfl rfl rfl rfl ?_
              refine skipT rfl rfl rfl rfl ?_
              refine skipT rfl rfl rfl rfl ?_
              refine skipT rfl rfl rfl rfl ?_
              refine pu (ev tab rfl) rfl ?_
              refine WO.nil ?_
              refine qv1 rfl rfl rfl
          refine qs ?_
          refine condK rfl (fun h53 => ?_) (fun h53 => ?_)
          · skip
            refine W.region ?_
            refine pu (ev tab rfl) rfl ?_
            refine pu (buildV tab rfl rfl rfl rfl rfl rfl rfl rfl rfl) rfl ?_
            first | refine appendFl tab rfl rfl rfl rfl rfl rfl rfl rfl rfl rfl rfl rfl (lensB_mem rfl) (Nat.le_of_ble_eq_true rfl) ?_ | refine appendO tab rfl rfl rfl rfl rfl rfl rfl rfl rfl rfl rfl rfl rfl rfl ?_
            refine pu (ev tab rfl) rfl ?_
            refine WO.nil ?_
            refine qs ?_
            refine W.seq ?_
            refine W.region ?_
            refine pu (ev tab rfl) rfl ?_
            try refine unfl 65 rfl rfl ?_
            refine pu (puCall rfl rfl rfl (joinW_fn (wordsE e) wSpace (by unfold wordsE wordsF stackW showsB; simp_all [sc, wSemi, wStop]) (by omega) w3) rfl) rfl ?_
            refine pu (ev tab rfl) rfl ?_
            refine WO.nil ?_
            refine qs ?_
            refine W.ret ?_
            refine QF.ret0 trivial rfl ?_
            rw [hg]; rfl
          · skip
            refine W.seq ?_
            refine W.region ?_
            refine pu (ev tab rfl) rfl ?_
            first | refine pu (ev tab rfl) rfl ?_ | refine pu (loadRow tab rfl rfl rfl rfl) rfl ?_ | refine pu (loadBox tab rfl rfl rfl rfl rfl) rfl ?_
            refine WO.nil ?_
            refine qs ?_
            refine condK rfl (fun h58 => ?_) (fun h58 => ?_)
            · skip
              refine W.region ?_
              iterate 2 refine pu (ev tab rfl) rfl ?_
              first | refine pu (ev tab rfl) rfl ?_ | refine pu (loadRow tab rfl rfl rfl rfl) rfl ?_ | refine pu (loadBox tab rfl rfl rfl rfl rfl) rfl ?_
              refine pu (puCall rfl rfl rfl (join_fn e.stack wSemi (by have := (frames_ok g.frames).1; omega) (by have := g.stackSize; omega)) rfl) rfl ?_
              refine pu (buildV tab rfl rfl rfl rfl rfl rfl rfl rfl rfl) rfl ?_
              first | refine appendFl tab rfl rfl rfl rfl rfl rfl rfl rfl rfl rfl rfl rfl (lensB_mem rfl) (Nat.le_of_ble_eq_true rfl) ?_ | refine appendO tab rfl rfl rfl rfl rfl rfl rfl rfl rfl rfl rfl rfl rfl rfl ?_
              refine pu (ev tab rfl) rfl ?_
              refine WO.nil ?_
              refine qs ?_
              refine W.seq ?_
              refine W.region ?_
              refine pu (ev tab rfl) rfl ?_
              try refine unfl 65 rfl rfl ?_
              refine pu (puCall rfl rfl rfl (joinW_fn (wordsE e) wSpace (by unfold wordsE wordsF stackW showsB; simp_all [sc, wSemi, wStop]) (by omega) w3) rfl) rfl ?_
              refine pu (ev tab rfl) rfl ?_
              refine WO.nil ?_
              refine qs ?_
              refine W.ret ?_
              refine QF.ret0 trivial rfl ?_
              rw [hg]; rfl
            · skip
              refine W.skip ?_
              refine qs ?_
              refine W.seq ?_
              refine W.region ?_
              refine pu (ev tab rfl) rfl ?_
              try refine unfl 65 rfl rfl ?_
              refine pu (puCall rfl rfl rfl (joinW_fn (wordsE e) wSpace (by unfold wordsE wordsF stackW showsB; simp_all [sc, wSemi, wStop]) (by omega) w3) rfl) rfl ?_
              refine pu (ev tab rfl) rfl ?_
              refine WO.nil ?_
              refine qs ?_
              refine W.ret ?_
              refine QF.ret0 trivial rfl ?_
              rw [hg]; rfl
        · skip
          refine W.skip ?_
          refine qs ?_
          refine W.seq ?_
          refine W.seq ?_
          apply regionB; (case hb => rfl)
          · skip
            refine pu (ev tab rfl) rfl ?_
            first | refine pu (ev tab rfl) rfl ?_ | refine pu (loadRow tab rfl rfl rfl rfl) rfl ?_ | refine pu (loadBox tab rfl rfl rfl rfl rfl) rfl ?_
            refine pu (ev tab rfl) rfl ?_
            apply splitJ; (case hj => rfl); (case hl => rfl)
            · skip
              refine goG rfl rfl ?_
              refine pu (ev tab rfl) rfl ?_
              refine goG rfl rfl ?_
              first | refine pu (ev tab rfl) rfl ?_ | refine pu (loadRow tab rfl rfl rfl rfl) rfl ?_ | refine pu (loadBox tab rfl rfl rfl rfl rfl) rfl ?_
              refine goG rfl rfl ?_
              refine pu (ev tab rfl) rfl ?_
              refine goG rfl rfl ?_
              iterate 2 refine pu (ev tab rfl) rfl ?_
              refine WO.nil ?_
              refine qv1 rfl rfl rfl
            · skip
              refine skipT rfl rfl rfl rfl ?_
              refine skipT rfl rfl rfl rfl ?_
              refine skipT rfl rfl rfl rfl ?_
              refine skipT rfl rfl rfl rfl ?_
              refine pu (ev tab rfl) rfl ?_
              refine WO.nil ?_
              refine qv1 rfl rfl rfl
          refine qs ?_
          refine condK rfl (fun h53 => ?_) (fun h53 => ?_)
          · skip
            refine W.region ?_
            refine pu (ev tab rfl) rfl ?_
            refine pu (buildV tab rfl rfl rfl rfl rfl rfl rfl rfl rfl) rfl ?_
            first | refine appendFl tab rfl rfl rfl rfl rfl rfl rfl rfl rfl rfl rfl rfl (lensB_mem rfl) (Nat.le_of_ble_eq_true rfl) ?_ | refine appendO tab rfl rfl rfl rfl rfl rfl rfl rfl rfl rfl rfl rfl rfl rfl ?_
            refine pu (ev tab rfl) rfl ?_
            refine WO.nil ?_
            refine qs ?_
            refine W.seq ?_
            refine W.region ?_
            refine pu (ev tab rfl) rfl ?_
            try refine unfl 65 rfl rfl ?_
            refine pu (puCall rfl rfl rfl (joinW_fn (wordsE e) wSpace (by unfold wordsE wordsF stackW showsB; simp_all [sc, wSemi, wStop]) (by omega) w3) rfl) rfl ?_
            refine pu (ev tab rfl) rfl ?_
            refine WO.nil ?_
            refine qs ?_
            refine W.ret ?_
            refine QF.ret0 trivial rfl ?_
            rw [hg]; rfl
          · skip
            refine W.seq ?_
            refine W.region ?_
            refine pu (ev tab rfl) rfl ?_
            first | refine pu (ev tab rfl) rfl ?_ | refine pu (loadRow tab rfl rfl rfl rfl) rfl ?_ | refine pu (loadBox tab rfl rfl rfl rfl rfl) rfl ?_
            refine WO.nil ?_
            refine qs ?_
            refine condK rfl (fun h58 => ?_) (fun h58 => ?_)
            · skip
              refine W.region ?_
              iterate 2 refine pu (ev tab rfl) rfl ?_
              first | refine pu (ev tab rfl) rfl ?_ | refine pu (loadRow tab rfl rfl rfl rfl) rfl ?_ | refine pu (loadBox tab rfl rfl rfl rfl rfl) rfl ?_
              refine pu (puCall rfl rfl rfl (join_fn e.stack wSemi (by have := (frames_ok g.frames).1; omega) (by have := g.stackSize; omega)) rfl) rfl ?_
              refine pu (buildV tab rfl rfl rfl rfl rfl rfl rfl rfl rfl) rfl ?_
              first | refine appendFl tab rfl rfl rfl rfl rfl rfl rfl rfl rfl rfl rfl rfl (lensB_mem rfl) (Nat.le_of_ble_eq_true rfl) ?_ | refine appendO tab rfl rfl rfl rfl rfl rfl rfl rfl rfl rfl rfl rfl rfl rfl ?_
              refine pu (ev tab rfl) rfl ?_
              refine WO.nil ?_
              refine qs ?_
              refine W.seq ?_
              refine W.region ?_
              refine pu (ev tab rfl) rfl ?_
              try refine unfl 65 rfl rfl ?_
              refine pu (puCall rfl rfl rfl (joinW_fn (wordsE e) wSpace (by unfold wordsE wordsF stackW showsB; simp_all [sc, wSemi, wStop]) (by omega) w3) rfl) rfl ?_
              refine pu (ev tab rfl) rfl ?_
              refine WO.nil ?_
              refine qs ?_
              refine W.ret ?_
              refine QF.ret0 trivial rfl ?_
              rw [hg]; rfl
            · skip
              refine W.skip ?_
              refine qs ?_
              refine W.seq ?_
              refine W.region ?_
              refine pu (ev tab rfl) rfl ?_
              try refine unfl 65 rfl rfl ?_
              refine pu (puCall rfl rfl rfl (joinW_fn (wordsE e) wSpace (by unfold wordsE wordsF stackW showsB; simp_all [sc, wSemi, wStop]) (by omega) w3) rfl) rfl ?_
              refine pu (ev tab rfl) rfl ?_
              refine WO.nil ?_
              refine qs ?_
              refine W.ret ?_
              refine QF.ret0 trivial rfl ?_
              rw [hg]; rfl
      · skip
        refine W.skip ?_
        refine qs ?_
        refine W.seq ?_
        refine W.seq ?_
        refine W.region ?_
        first | refine pu (ev tab rfl) rfl ?_ | refine pu (loadRow tab rfl rfl rfl rfl) rfl ?_ | refine pu (loadBox tab rfl rfl rfl rfl rfl) rfl ?_
        refine pu (ev tab rfl) rfl ?_
        first | refine pu (ev tab rfl) rfl ?_ | refine pu (loadRow tab rfl rfl rfl rfl) rfl ?_ | refine pu (loadBox tab rfl rfl rfl rfl rfl) rfl ?_
        refine pu (puCall rfl rfl rfl (shows_fn ..) rfl) rfl ?_
        refine WO.nil ?_
        refine qs ?_
        refine condK rfl (fun h39 => ?_) (fun h39 => ?_)
        · skip
          refine W.region ?_
          iterate 2 refine pu (ev tab rfl) rfl ?_
          first | refine pu (ev tab rfl) rfl ?_ | refine pu (loadRow tab rfl rfl rfl rfl) rfl ?_ | refine pu (loadBox tab rfl rfl rfl rfl rfl) rfl ?_
          refine pu (puCall rfl rfl rfl (text_fn e.m (int_of g.mIn).1 (int_of g.mIn).2) rfl) rfl ?_
          refine pu (buildV tab rfl rfl rfl rfl rfl rfl rfl rfl rfl) rfl ?_
          first | refine appendFl tab rfl rfl rfl rfl rfl rfl rfl rfl rfl rfl rfl rfl (lensB_mem rfl) (Nat.le_of_ble_eq_true rfl) ?_ | refine appendO tab rfl rfl rfl rfl rfl rfl rfl rfl rfl rfl rfl rfl rfl rfl ?_
          refine pu (ev tab rfl) rfl ?_
          refine WO.nil ?_
          refine qs ?_
          refine W.seq ?_
          refine W.seq ?_
          apply regionB; (case hb => rfl)
          · skip
            refine pu (ev tab rfl) rfl ?_
            first | refine pu (ev tab rfl) rfl ?_ | refine pu (loadRow tab rfl rfl rfl rfl) rfl ?_ | refine pu (loadBox tab rfl rfl rfl rfl rfl) rfl ?_
            refine pu (ev tab rfl) rfl ?_
            apply splitJ; (case hj => rfl); (case hl => rfl)
            · skip
              refine goG rfl rfl ?_
              refine pu (ev tab rfl) rfl ?_
              refine goG rfl rfl ?_
              first | refine pu (ev tab rfl) rfl ?_ | refine pu (loadRow tab rfl rfl rfl rfl) rfl ?_ | refine pu (loadBox tab rfl rfl rfl rfl rfl) rfl ?_
              refine goG rfl rfl ?_
              refine pu (ev tab rfl) rfl ?_
              refine goG rfl rfl ?_
              iterate 2 refine pu (ev tab rfl) rfl ?_
              refine WO.nil ?_
              refine qv1 rfl rfl rfl
            · skip
              refine skipT rfl rfl rfl rfl ?_
              refine skipT rfl rfl rfl rfl ?_
              refine skipT rfl rfl rfl rfl ?_
              refine skipT rfl rfl rfl rfl ?_
              refine pu (ev tab rfl) rfl ?_
              refine WO.nil ?_
              refine qv1 rfl rfl rfl
          refine qs ?_
          refine condK rfl (fun h53 => ?_) (fun h53 => ?_)
          · skip
            refine W.region ?_
            refine pu (ev tab rfl) rfl ?_
            refine pu (buildV tab rfl rfl rfl rfl rfl rfl rfl rfl rfl) rfl ?_
            first | refine appendFl tab rfl rfl rfl rfl rfl rfl rfl rfl rfl rfl rfl rfl (lensB_mem rfl) (Nat.le_of_ble_eq_true rfl) ?_ | refine appendO tab rfl rfl rfl rfl rfl rfl rfl rfl rfl rfl rfl rfl rfl rfl ?_
            refine pu (ev tab rfl) rfl ?_
            refine WO.nil ?_
            refine qs ?_
            refine W.seq ?_
            refine W.region ?_
            refine pu (ev tab rfl) rfl ?_
            try refine unfl 65 rfl rfl ?_
            refine pu (puCall rfl rfl rfl (joinW_fn (wordsE e) wSpace (by unfold wordsE wordsF stackW showsB; simp_all [sc, wSemi, wStop]) (by omega) w3) rfl) rfl ?_
            refine pu (ev tab rfl) rfl ?_
            refine WO.nil ?_
            refine qs ?_
            refine W.ret ?_
            refine QF.ret0 trivial rfl ?_
            rw [hg]; rfl
          · skip
            refine W.seq ?_
            refine W.region ?_
            refine pu (ev tab rfl) rfl ?_
            first | refine pu (ev tab rfl) rfl ?_ | refine pu (loadRow tab rfl rfl rfl rfl) rfl ?_ | refine pu (loadBox tab rfl rfl rfl rfl rfl) rfl ?_
            refine WO.nil ?_
            refine qs ?_
            refine condK rfl (fun h58 => ?_) (fun h58 => ?_)
            · skip
              refine W.region ?_
              iterate 2 refine pu (ev tab rfl) rfl ?_
              first | refine pu (ev tab rfl) rfl ?_ | refine pu (loadRow tab rfl rfl rfl rfl) rfl ?_ | refine pu (loadBox tab rfl rfl rfl rfl rfl) rfl ?_
              refine pu (puCall rfl rfl rfl (join_fn e.stack wSemi (by have := (frames_ok g.frames).1; omega) (by have := g.stackSize; omega)) rfl) rfl ?_
              refine pu (buildV tab rfl rfl rfl rfl rfl rfl rfl rfl rfl) rfl ?_
              first | refine appendFl tab rfl rfl rfl rfl rfl rfl rfl rfl rfl rfl rfl rfl (lensB_mem rfl) (Nat.le_of_ble_eq_true rfl) ?_ | refine appendO tab rfl rfl rfl rfl rfl rfl rfl rfl rfl rfl rfl rfl rfl rfl ?_
              refine pu (ev tab rfl) rfl ?_
              refine WO.nil ?_
              refine qs ?_
              refine W.seq ?_
              refine W.region ?_
              refine pu (ev tab rfl) rfl ?_
              try refine unfl 65 rfl rfl ?_
              refine pu (puCall rfl rfl rfl (joinW_fn (wordsE e) wSpace (by unfold wordsE wordsF stackW showsB; simp_all [sc, wSemi, wStop]) (by omega) w3) rfl) rfl ?_
              refine pu (ev tab rfl) rfl ?_
              refine WO.nil ?_
              refine qs ?_
              refine W.ret ?_
              refine QF.ret0 trivial rfl ?_
              rw [hg]; rfl
            · skip
              refine W.skip ?_
              refine qs ?_
              refine W.seq ?_
              refine W.region ?_
              refine pu (ev tab rfl) rfl ?_
              try refine unfl 65 rfl rfl ?_
              refine pu (puCall rfl rfl rfl (joinW_fn (wordsE e) wSpace (by unfold wordsE wordsF stackW showsB; simp_all [sc, wSemi, wStop]) (by omega) w3) rfl) rfl ?_
              refine pu (ev tab rfl) rfl ?_
              refine WO.nil ?_
              refine qs ?_
              refine W.ret ?_
              refine QF.ret0 trivial rfl ?_
              rw [hg]; rfl
        · skip
          refine W.skip ?_
          refine qs ?_
          refine W.seq ?_
          refine W.seq ?_
          apply regionB; (case hb => rfl)
          · skip
            refine pu (ev tab rfl) rfl ?_
            first | refine pu (ev tab rfl) rfl ?_ | refine pu (loadRow tab rfl rfl rfl rfl) rfl ?_ | refine pu (loadBox tab rfl rfl rfl rfl rfl) rfl ?_
            refine pu (ev tab rfl) rfl ?_
            apply splitJ; (case hj => rfl); (case hl => rfl)
            · skip
              refine goG rfl rfl ?_
              refine pu (ev tab rfl) rfl ?_
              refine goG rfl rfl ?_
              first | refine pu (ev tab rfl) rfl ?_ | refine pu (loadRow tab rfl rfl rfl rfl) rfl ?_ | refine pu (loadBox tab rfl rfl rfl rfl rfl) rfl ?_
              refine goG rfl rfl ?_
              refine pu (ev tab rfl) rfl ?_
              refine goG rfl rfl ?_
              iterate 2 refine pu (ev tab rfl) rfl ?_
              refine WO.nil ?_
              refine qv1 rfl rfl rfl
            · skip
              refine skipT rfl rfl rfl rfl ?_
              refine skipT rfl rfl rfl rfl ?_
              refine skipT rfl rfl rfl rfl ?_
              refine skipT rfl rfl rfl rfl ?_
              refine pu (ev tab rfl) rfl ?_
              refine WO.nil ?_
              refine qv1 rfl rfl rfl
          refine qs ?_
          refine condK rfl (fun h53 => ?_) (fun h53 => ?_)
          · skip
            refine W.region ?_
            refine pu (ev tab rfl) rfl ?_
            refine pu (buildV tab rfl rfl rfl rfl rfl rfl rfl rfl rfl) rfl ?_
            first | refine appendFl tab rfl rfl rfl rfl rfl rfl rfl rfl rfl rfl rfl rfl (lensB_mem rfl) (Nat.le_of_ble_eq_true rfl) ?_ | refine appendO tab rfl rfl rfl rfl rfl rfl rfl rfl rfl rfl rfl rfl rfl rfl ?_
            refine pu (ev tab rfl) rfl ?_
            refine WO.nil ?_
            refine qs ?_
            refine W.seq ?_
            refine W.region ?_
            refine pu (ev tab rfl) rfl ?_
            try refine unfl 65 rfl rfl ?_
            refine pu (puCall rfl rfl rfl (joinW_fn (wordsE e) wSpace (by unfold wordsE wordsF stackW showsB; simp_all [sc, wSemi, wStop]) (by omega) w3) rfl) rfl ?_
            refine pu (ev tab rfl) rfl ?_
            refine WO.nil ?_
            refine qs ?_
            refine W.ret ?_
            refine QF.ret0 trivial rfl ?_
            rw [hg]; rfl
          · skip
            refine W.seq ?_
            refine W.region ?_
            refine pu (ev tab rfl) rfl ?_
            first | refine pu (ev tab rfl) rfl ?_ | refine pu (loadRow tab rfl rfl rfl rfl) rfl ?_ | refine pu (loadBox tab rfl rfl rfl rfl rfl) rfl ?_
            refine WO.nil ?_
            refine qs ?_
            refine condK rfl (fun h58 => ?_) (fun h58 => ?_)
            · skip
              refine W.region ?_
              iterate 2 refine pu (ev tab rfl) rfl ?_
              first | refine pu (ev tab rfl) rfl ?_ | refine pu (loadRow tab rfl rfl rfl rfl) rfl ?_ | refine pu (loadBox tab rfl rfl rfl rfl rfl) rfl ?_
              refine pu (puCall rfl rfl rfl (join_fn e.stack wSemi (by have := (frames_ok g.frames).1; omega) (by have := g.stackSize; omega)) rfl) rfl ?_
              refine pu (buildV tab rfl rfl rfl rfl rfl rfl rfl rfl rfl) rfl ?_
              first | refine appendFl tab rfl rfl rfl rfl rfl rfl rfl rfl rfl rfl rfl rfl (lensB_mem rfl) (Nat.le_of_ble_eq_true rfl) ?_ | refine appendO tab rfl rfl rfl rfl rfl rfl rfl rfl rfl rfl rfl rfl rfl rfl ?_
              refine pu (ev tab rfl) rfl ?_
              refine WO.nil ?_
              refine qs ?_
              refine W.seq ?_
              refine W.region ?_
              refine pu (ev tab rfl) rfl ?_
              try refine unfl 65 rfl rfl ?_
              refine pu (puCall rfl rfl rfl (joinW_fn (wordsE e) wSpace (by unfold wordsE wordsF stackW showsB; simp_all [sc, wSemi, wStop]) (by omega) w3) rfl) rfl ?_
              refine pu (ev tab rfl) rfl ?_
              refine WO.nil ?_
              refine qs ?_
              refine W.ret ?_
              refine QF.ret0 trivial rfl ?_
              rw [hg]; rfl
            · skip
              refine W.skip ?_
              refine qs ?_
              refine W.seq ?_
              refine W.region ?_
              refine pu (ev tab rfl) rfl ?_
              try refine unfl 65 rfl rfl ?_
              refine pu (puCall rfl rfl rfl (joinW_fn (wordsE e) wSpace (by unfold wordsE wordsF stackW showsB; simp_all [sc, wSemi, wStop]) (by omega) w3) rfl) rfl ?_
              refine pu (ev tab rfl) rfl ?_
              refine WO.nil ?_
              refine qs ?_
              refine W.ret ?_
              refine QF.ret0 trivial rfl ?_
              rw [hg]; rfl
    · skip
      refine W.skip ?_
      refine qs ?_
      refine W.seq ?_
      refine W.seq ?_
      refine W.region ?_
      refine pu (ev tab rfl) rfl ?_
      first | refine pu (ev tab rfl) rfl ?_ | refine pu (loadRow tab rfl rfl rfl rfl) rfl ?_ | refine pu (loadBox tab rfl rfl rfl rfl rfl) rfl ?_
      refine WO.nil ?_
      refine qs ?_
      refine condK rfl (fun h29 => ?_) (fun h29 => ?_)
      · skip
        refine W.region ?_
        iterate 2 refine pu (ev tab rfl) rfl ?_
        first | refine pu (ev tab rfl) rfl ?_ | refine pu (loadRow tab rfl rfl rfl rfl) rfl ?_ | refine pu (loadBox tab rfl rfl rfl rfl rfl) rfl ?_
        refine pu (puCall rfl rfl rfl (text_fn e.n (int_of g.nIn).1 (int_of g.nIn).2) rfl) rfl ?_
        refine pu (buildV tab rfl rfl rfl rfl rfl rfl rfl rfl rfl) rfl ?_
        first | refine appendFl tab rfl rfl rfl rfl rfl rfl rfl rfl rfl rfl rfl rfl (lensB_mem rfl) (Nat.le_of_ble_eq_true rfl) ?_ | refine appendO tab rfl rfl rfl rfl rfl rfl rfl rfl rfl rfl rfl rfl rfl rfl ?_
        refine pu (ev tab rfl) rfl ?_
        refine WO.nil ?_
        refine qs ?_
        refine W.seq ?_
        refine W.seq ?_
        refine W.region ?_
        first | refine pu (ev tab rfl) rfl ?_ | refine pu (loadRow tab rfl rfl rfl rfl) rfl ?_ | refine pu (loadBox tab rfl rfl rfl rfl rfl) rfl ?_
        refine pu (ev tab rfl) rfl ?_
        first | refine pu (ev tab rfl) rfl ?_ | refine pu (loadRow tab rfl rfl rfl rfl) rfl ?_ | refine pu (loadBox tab rfl rfl rfl rfl rfl) rfl ?_
        refine pu (puCall rfl rfl rfl (shows_fn ..) rfl) rfl ?_
        refine WO.nil ?_
        refine qs ?_
        refine condK rfl (fun h39 => ?_) (fun h39 => ?_)
        · skip
          refine W.region ?_
          iterate 2 refine pu (ev tab rfl) rfl ?_
          first | refine pu (ev tab rfl) rfl ?_ | refine pu (loadRow tab rfl rfl rfl rfl) rfl ?_ | refine pu (loadBox tab rfl rfl rfl rfl rfl) rfl ?_
          refine pu (puCall rfl rfl rfl (text_fn e.m (int_of g.mIn).1 (int_of g.mIn).2) rfl) rfl ?_
          refine pu (buildV tab rfl rfl rfl rfl rfl rfl rfl rfl rfl) rfl ?_
          first | refine appendFl tab rfl rfl rfl rfl rfl rfl rfl rfl rfl rfl rfl rfl (lensB_mem rfl) (Nat.le_of_ble_eq_true rfl) ?_ | refine appendO tab rfl rfl rfl rfl rfl rfl rfl rfl rfl rfl rfl rfl rfl rfl ?_
          refine pu (ev tab rfl) rfl ?_
          refine WO.nil ?_
          refine qs ?_
          refine W.seq ?_
          refine W.seq ?_
          apply regionB; (case hb => rfl)
          · skip
            refine pu (ev tab rfl) rfl ?_
            first | refine pu (ev tab rfl) rfl ?_ | refine pu (loadRow tab rfl rfl rfl rfl) rfl ?_ | refine pu (loadBox tab rfl rfl rfl rfl rfl) rfl ?_
            refine pu (ev tab rfl) rfl ?_
            apply splitJ; (case hj => rfl); (case hl => rfl)
            · skip
              refine goG rfl rfl ?_
              refine pu (ev tab rfl) rfl ?_
              refine goG rfl rfl ?_
              first | refine pu (ev tab rfl) rfl ?_ | refine pu (loadRow tab rfl rfl rfl rfl) rfl ?_ | refine pu (loadBox tab rfl rfl rfl rfl rfl) rfl ?_
              refine goG rfl rfl ?_
              refine pu (ev tab rfl) rfl ?_
              refine goG rfl rfl ?_
              iterate 2 refine pu (ev tab rfl) rfl ?_
              refine WO.nil ?_
              refine qv1 rfl rfl rfl
            · skip
              refine skipT rfl rfl rfl rfl ?_
              refine skipT rfl rfl rfl rfl ?_
              refine skipT rfl rfl rfl rfl ?_
              refine skipT rfl rfl rfl rfl ?_
              refine pu (ev tab rfl) rfl ?_
              refine WO.nil ?_
              refine qv1 rfl rfl rfl
          refine qs ?_
          refine condK rfl (fun h53 => ?_) (fun h53 => ?_)
          · skip
            refine W.region ?_
            refine pu (ev tab rfl) rfl ?_
            refine pu (buildV tab rfl rfl rfl rfl rfl rfl rfl rfl rfl) rfl ?_
            first | refine appendFl tab rfl rfl rfl rfl rfl rfl rfl rfl rfl rfl rfl rfl (lensB_mem rfl) (Nat.le_of_ble_eq_true rfl) ?_ | refine appendO tab rfl rfl rfl rfl rfl rfl rfl rfl rfl rfl rfl rfl rfl rfl ?_
            refine pu (ev tab rfl) rfl ?_
            refine WO.nil ?_
            refine qs ?_
            refine W.seq ?_
            refine W.region ?_
            refine pu (ev tab rfl) rfl ?_
            try refine unfl 65 rfl rfl ?_
            refine pu (puCall rfl rfl rfl (joinW_fn (wordsE e) wSpace (by unfold wordsE wordsF stackW showsB; simp_all [sc, wSemi, wStop]) (by omega) w3) rfl) rfl ?_
            refine pu (ev tab rfl) rfl ?_
            refine WO.nil ?_
            refine qs ?_
            refine W.ret ?_
            refine QF.ret0 trivial rfl ?_
            rw [hg]; rfl
          · skip
            refine W.seq ?_
            refine W.region ?_
            refine pu (ev tab rfl) rfl ?_
            first | refine pu (ev tab rfl) rfl ?_ | refine pu (loadRow tab rfl rfl rfl rfl) rfl ?_ | refine pu (loadBox tab rfl rfl rfl rfl rfl) rfl ?_
            refine WO.nil ?_
            refine qs ?_
            refine condK rfl (fun h58 => ?_) (fun h58 => ?_)
            · skip
              refine W.region ?_
              iterate 2 refine pu (ev tab rfl) rfl ?_
              first | refine pu (ev tab rfl) rfl ?_ | refine pu (loadRow tab rfl rfl rfl rfl) rfl ?_ | refine pu (loadBox tab rfl rfl rfl rfl rfl) rfl ?_
              refine pu (puCall rfl rfl rfl (join_fn e.stack wSemi (by have := (frames_ok g.frames).1; omega) (by have := g.stackSize; omega)) rfl) rfl ?_
              refine pu (buildV tab rfl rfl rfl rfl rfl rfl rfl rfl rfl) rfl ?_
              first | refine appendFl tab rfl rfl rfl rfl rfl rfl rfl rfl rfl rfl rfl rfl (lensB_mem rfl) (Nat.le_of_ble_eq_true rfl) ?_ | refine appendO tab rfl rfl rfl rfl rfl rfl rfl rfl rfl rfl rfl rfl rfl rfl ?_
              refine pu (ev tab rfl) rfl ?_
              refine WO.nil ?_
              refine qs ?_
              refine W.seq ?_
              refine W.region ?_
              refine pu (ev tab rfl) rfl ?_
              try refine unfl 65 rfl rfl ?_
              refine pu (puCall rfl rfl rfl (joinW_fn (wordsE e) wSpace (by unfold wordsE wordsF stackW showsB; simp_all [sc, wSemi, wStop]) (by omega) w3) rfl) rfl ?_
              refine pu (ev tab rfl) rfl ?_
              refine WO.nil ?_
              refine qs ?_
              refine W.ret ?_
              refine QF.ret0 trivial rfl ?_
              rw [hg]; rfl
            · skip
              refine W.skip ?_
              refine qs ?_
              refine W.seq ?_
              refine W.region ?_
              refine pu (ev tab rfl) rfl ?_
              try refine unfl 65 rfl rfl ?_
              refine pu (puCall rfl rfl rfl (joinW_fn (wordsE e) wSpace (by unfold wordsE wordsF stackW showsB; simp_all [sc, wSemi, wStop]) (by omega) w3) rfl) rfl ?_
              refine pu (ev tab rfl) rfl ?_
              refine WO.nil ?_
              refine qs ?_
              refine W.ret ?_
              refine QF.ret0 trivial rfl ?_
              rw [hg]; rfl
        · skip
          refine W.skip ?_
          refine qs ?_
          refine W.seq ?_
          refine W.seq ?_
          apply regionB; (case hb => rfl)
          · skip
            refine pu (ev tab rfl) rfl ?_
            first | refine pu (ev tab rfl) rfl ?_ | refine pu (loadRow tab rfl rfl rfl rfl) rfl ?_ | refine pu (loadBox tab rfl rfl rfl rfl rfl) rfl ?_
            refine pu (ev tab rfl) rfl ?_
            apply splitJ; (case hj => rfl); (case hl => rfl)
            · skip
              refine goG rfl rfl ?_
              refine pu (ev tab rfl) rfl ?_
              refine goG rfl rfl ?_
              first | refine pu (ev tab rfl) rfl ?_ | refine pu (loadRow tab rfl rfl rfl rfl) rfl ?_ | refine pu (loadBox tab rfl rfl rfl rfl rfl) rfl ?_
              refine goG rfl rfl ?_
              refine pu (ev tab rfl) rfl ?_
              refine goG rfl rfl ?_
              iterate 2 refine pu (ev tab rfl) rfl ?_
              refine WO.nil ?_
              refine qv1 rfl rfl rfl
            · skip
              refine skipT rfl rfl rfl rfl ?_
              refine skipT rfl rfl rfl rfl ?_
              refine skipT rfl rfl rfl rfl ?_
              refine skipT rfl rfl rfl rfl ?_
              refine pu (ev tab rfl) rfl ?_
              refine WO.nil ?_
              refine qv1 rfl rfl rfl
          refine qs ?_
          refine condK rfl (fun h53 => ?_) (fun h53 => ?_)
          · skip
            refine W.region ?_
            refine pu (ev tab rfl) rfl ?_
            refine pu (buildV tab rfl rfl rfl rfl rfl rfl rfl rfl rfl) rfl ?_
            first | refine appendFl tab rfl rfl rfl rfl rfl rfl rfl rfl rfl rfl rfl rfl (lensB_mem rfl) (Nat.le_of_ble_eq_true rfl) ?_ | refine appendO tab rfl rfl rfl rfl rfl rfl rfl rfl rfl rfl rfl rfl rfl rfl ?_
            refine pu (ev tab rfl) rfl ?_
            refine WO.nil ?_
            refine qs ?_
            refine W.seq ?_
            refine W.region ?_
            refine pu (ev tab rfl) rfl ?_
            try refine unfl 65 rfl rfl ?_
            refine pu (puCall rfl rfl rfl (joinW_fn (wordsE e) wSpace (by unfold wordsE wordsF stackW showsB; simp_all [sc, wSemi, wStop]) (by omega) w3) rfl) rfl ?_
            refine pu (ev tab rfl) rfl ?_
            refine WO.nil ?_
            refine qs ?_
            refine W.ret ?_
            refine QF.ret0 trivial rfl ?_
            rw [hg]; rfl
          · skip
            refine W.seq ?_
            refine W.region ?_
            refine pu (ev tab rfl) rfl ?_
            first | refine pu (ev tab rfl) rfl ?_ | refine pu (loadRow tab rfl rfl rfl rfl) rfl ?_ | refine pu (loadBox tab rfl rfl rfl rfl rfl) rfl ?_
            refine WO.nil ?_
            refine qs ?_
            refine condK rfl (fun h58 => ?_) (fun h58 => ?_)
            · skip
              refine W.region ?_
              iterate 2 refine pu (ev tab rfl) rfl ?_
              first | refine pu (ev tab rfl) rfl ?_ | refine pu (loadRow tab rfl rfl rfl rfl) rfl ?_ | refine pu (loadBox tab rfl rfl rfl rfl rfl) rfl ?_
              refine pu (puCall rfl rfl rfl (join_fn e.stack wSemi (by have := (frames_ok g.frames).1; omega) (by have := g.stackSize; omega)) rfl) rfl ?_
              refine pu (buildV tab rfl rfl rfl rfl rfl rfl rfl rfl rfl) rfl ?_
              first | refine appendFl tab rfl rfl rfl rfl rfl rfl rfl rfl rfl rfl rfl rfl (lensB_mem rfl) (Nat.le_of_ble_eq_true rfl) ?_ | refine appendO tab rfl rfl rfl rfl rfl rfl rfl rfl rfl rfl rfl rfl rfl rfl ?_
              refine pu (ev tab rfl) rfl ?_
              refine WO.nil ?_
              refine qs ?_
              refine W.seq ?_
              refine W.region ?_
              refine pu (ev tab rfl) rfl ?_
              try refine unfl 65 rfl rfl ?_
              refine pu (puCall rfl rfl rfl (joinW_fn (wordsE e) wSpace (by unfold wordsE wordsF stackW showsB; simp_all [sc, wSemi, wStop]) (by omega) w3) rfl) rfl ?_
              refine pu (ev tab rfl) rfl ?_
              refine WO.nil ?_
              refine qs ?_
              refine W.ret ?_
              refine QF.ret0 trivial rfl ?_
              rw [hg]; rfl
            · skip
              refine W.skip ?_
              refine qs ?_
              refine W.seq ?_
              refine W.region ?_
              refine pu (ev tab rfl) rfl ?_
              try refine unfl 65 rfl rfl ?_
              refine pu (puCall rfl rfl rfl (joinW_fn (wordsE e) wSpace (by unfold wordsE wordsF stackW showsB; simp_all [sc, wSemi, wStop]) (by omega) w3) rfl) rfl ?_
              refine pu (ev tab rfl) rfl ?_
              refine WO.nil ?_
              refine qs ?_
              refine W.ret ?_
              refine QF.ret0 trivial rfl ?_
              rw [hg]; rfl
      · skip
        refine W.skip ?_
        refine qs ?_
        refine W.seq ?_
        refine W.seq ?_
        refine W.region ?_
        first | refine pu (ev tab rfl) rfl ?_ | refine pu (loadRow tab rfl rfl rfl rfl) rfl ?_ | refine pu (loadBox tab rfl rfl rfl rfl rfl) rfl ?_
        refine pu (ev tab rfl) rfl ?_
        first | refine pu (ev tab rfl) rfl ?_ | refine pu (loadRow tab rfl rfl rfl rfl) rfl ?_ | refine pu (loadBox tab rfl rfl rfl rfl rfl) rfl ?_
        refine pu (puCall rfl rfl rfl (shows_fn ..) rfl) rfl ?_
        refine WO.nil ?_
        refine qs ?_
        refine condK rfl (fun h39 => ?_) (fun h39 => ?_)
        · skip
          refine W.region ?_
          iterate 2 refine pu (ev tab rfl) rfl ?_
          first | refine pu (ev tab rfl) rfl ?_ | refine pu (loadRow tab rfl rfl rfl rfl) rfl ?_ | refine pu (loadBox tab rfl rfl rfl rfl rfl) rfl ?_
          refine pu (puCall rfl rfl rfl (text_fn e.m (int_of g.mIn).1 (int_of g.mIn).2) rfl) rfl ?_
          refine pu (buildV tab rfl rfl rfl rfl rfl rfl rfl rfl rfl) rfl ?_
          first | refine appendFl tab rfl rfl rfl rfl rfl rfl rfl rfl rfl rfl rfl rfl (lensB_mem rfl) (Nat.le_of_ble_eq_true rfl) ?_ | refine appendO tab rfl rfl rfl rfl rfl rfl rfl rfl rfl rfl rfl rfl rfl rfl ?_
          refine pu (ev tab rfl) rfl ?_
          refine WO.nil ?_
          refine qs ?_
          refine W.seq ?_
          refine W.seq ?_
          apply regionB; (case hb => rfl)
          · skip
            refine pu (ev tab rfl) rfl ?_
            first | refine pu (ev tab rfl) rfl ?_ | refine pu (loadRow tab rfl rfl rfl rfl) rfl ?_ | refine pu (loadBox tab rfl rfl rfl rfl rfl) rfl ?_
            refine pu (ev tab rfl) rfl ?_
            apply splitJ; (case hj => rfl); (case hl => rfl)
            · skip
              refine goG rfl rfl ?_
              refine pu (ev tab rfl) rfl ?_
              refine goG rfl rfl ?_
              first | refine pu (ev tab rfl) rfl ?_ | refine pu (loadRow tab rfl rfl rfl rfl) rfl ?_ | refine pu (loadBox tab rfl rfl rfl rfl rfl) rfl ?_
              refine goG rfl rfl ?_
              refine pu (ev tab rfl) rfl ?_
              refine goG rfl rfl ?_
              iterate 2 refine pu (ev tab rfl) rfl ?_
              refine WO.nil ?_
              refine qv1 rfl rfl rfl
            · skip
              refine skipT rfl rfl rfl rfl ?_
              refine skipT rfl rfl rfl rfl ?_
              refine skipT rfl rfl rfl rfl ?_
              refine skipT rfl rfl rfl rfl ?_
              refine pu (ev tab rfl) rfl ?_
              refine WO.nil ?_
              refine qv1 rfl rfl rfl
          refine qs ?_
          refine condK rfl (fun h53 => ?_) (fun h53 => ?_)
          · skip
            refine W.region ?_
            refine pu (ev tab rfl) rfl ?_
            refine pu (buildV tab rfl rfl rfl rfl rfl rfl rfl rfl rfl) rfl ?_
            first | refine appendFl tab rfl rfl rfl rfl rfl rfl rfl rfl rfl rfl rfl rfl (lensB_mem rfl) (Nat.le_of_ble_eq_true rfl) ?_ | refine appendO tab rfl rfl rfl rfl rfl rfl rfl rfl rfl rfl rfl rfl rfl rfl ?_
            refine pu (ev tab rfl) rfl ?_
            refine WO.nil ?_
            refine qs ?_
            refine W.seq ?_
            refine W.region ?_
            refine pu (ev tab rfl) rfl ?_
            try refine unfl 65 rfl rfl ?_
            refine pu (puCall rfl rfl rfl (joinW_fn (wordsE e) wSpace (by unfold wordsE wordsF stackW showsB; simp_all [sc, wSemi, wStop]) (by omega) w3) rfl) rfl ?_
            refine pu (ev tab rfl) rfl ?_
            refine WO.nil ?_
            refine qs ?_
            refine W.ret ?_
            refine QF.ret0 trivial rfl ?_
            rw [hg]; rfl
          · skip
            refine W.seq ?_
            refine W.region ?_
            refine pu (ev tab rfl) rfl ?_
            first | refine pu (ev tab rfl) rfl ?_ | refine pu (loadRow tab rfl rfl rfl rfl) rfl ?_ | refine pu (loadBox tab rfl rfl rfl rfl rfl) rfl ?_
            refine WO.nil ?_
            refine qs ?_
            refine condK rfl (fun h58 => ?_) (fun h58 => ?_)
            · skip
              refine W.region ?_
              iterate 2 refine pu (ev tab rfl) rfl ?_
              first | refine pu (ev tab rfl) rfl ?_ | refine pu (loadRow tab rfl rfl rfl rfl) rfl ?_ | refine pu (loadBox tab rfl rfl rfl rfl rfl) rfl ?_
              refine pu (puCall rfl rfl rfl (join_fn e.stack wSemi (by have := (frames_ok g.frames).1; omega) (by have := g.stackSize; omega)) rfl) rfl ?_
              refine pu (buildV tab rfl rfl rfl rfl rfl rfl rfl rfl rfl) rfl ?_
              first | refine appendFl tab rfl rfl rfl rfl rfl rfl rfl rfl rfl rfl rfl rfl (lensB_mem rfl) (Nat.le_of_ble_eq_true rfl) ?_ | refine appendO tab rfl rfl rfl rfl rfl rfl rfl rfl rfl rfl rfl rfl rfl rfl ?_
              refine pu (ev tab rfl) rfl ?_
              refine WO.nil ?_
              refine qs ?_
              refine W.seq ?_
              refine W.region ?_
              refine pu (ev tab rfl) rfl ?_
              try refine unfl 65 rfl rfl ?_
              refine pu (puCall rfl rfl rfl (joinW_fn (wordsE e) wSpace (by unfold wordsE wordsF stackW showsB; simp_all [sc, wSemi, wStop]) (by omega) w3) rfl) rfl ?_
              refine pu (ev tab rfl) rfl ?_
              refine WO.nil ?_
              refine qs ?_
              refine W.ret ?_
              refine QF.ret0 trivial rfl ?_
              rw [hg]; rfl
            · skip
              refine W.skip ?_
              refine qs ?_
              refine W.seq ?_
              refine W.region ?_
              refine pu (ev tab rfl) rfl ?_
              try refine unfl 65 rfl rfl ?_
              refine pu (puCall rfl rfl rfl (joinW_fn (wordsE e) wSpace (by unfold wordsE wordsF stackW showsB; simp_all [sc, wSemi, wStop]) (by omega) w3) rfl) rfl ?_
              refine pu (ev tab rfl) rfl ?_
              refine WO.nil ?_
              refine qs ?_
              refine W.ret ?_
              refine QF.ret0 trivial rfl ?_
              rw [hg]; rfl
        · skip
          refine W.skip ?_
          refine qs ?_
          refine W.seq ?_
          refine W.seq ?_
          apply regionB; (case hb => rfl)
          · skip
            refine pu (ev tab rfl) rfl ?_
            first | refine pu (ev tab rfl) rfl ?_ | refine pu (loadRow tab rfl rfl rfl rfl) rfl ?_ | refine pu (loadBox tab rfl rfl rfl rfl rfl) rfl ?_
            refine pu (ev tab rfl) rfl ?_
            apply splitJ; (case hj => rfl); (case hl => rfl)
            · skip
              refine goG rfl rfl ?_
              refine pu (ev tab rfl) rfl ?_
              refine goG rfl rfl ?_
              first | refine pu (ev tab rfl) rfl ?_ | refine pu (loadRow tab rfl rfl rfl rfl) rfl ?_ | refine pu (loadBox tab rfl rfl rfl rfl rfl) rfl ?_
              refine goG rfl rfl ?_
              refine pu (ev tab rfl) rfl ?_
              refine goG rfl rfl ?_
              iterate 2 refine pu (ev tab rfl) rfl ?_
              refine WO.nil ?_
              refine qv1 rfl rfl rfl
            · skip
              refine skipT rfl rfl rfl rfl ?_
              refine skipT rfl rfl rfl rfl ?_
              refine skipT rfl rfl rfl rfl ?_
              refine skipT rfl rfl rfl rfl ?_
              refine pu (ev tab rfl) rfl ?_
              refine WO.nil ?_
              refine qv1 rfl rfl rfl
          refine qs ?_
          refine condK rfl (fun h53 => ?_) (fun h53 => ?_)
          · skip
            refine W.region ?_
            refine pu (ev tab rfl) rfl ?_
            refine pu (buildV tab rfl rfl rfl rfl rfl rfl rfl rfl rfl) rfl ?_
            first | refine appendFl tab rfl rfl rfl rfl rfl rfl rfl rfl rfl rfl rfl rfl (lensB_mem rfl) (Nat.le_of_ble_eq_true rfl) ?_ | refine appendO tab rfl rfl rfl rfl rfl rfl rfl rfl rfl rfl rfl rfl rfl rfl ?_
            refine pu (ev tab rfl) rfl ?_
            refine WO.nil ?_
            refine qs ?_
            refine W.seq ?_
            refine W.region ?_
            refine pu (ev tab rfl) rfl ?_
            try refine unfl 65 rfl rfl ?_
            refine pu (puCall rfl rfl rfl (joinW_fn (wordsE e) wSpace (by unfold wordsE wordsF stackW showsB; simp_all [sc, wSemi, wStop]) (by omega) w3) rfl) rfl ?_
            refine pu (ev tab rfl) rfl ?_
            refine WO.nil ?_
            refine qs ?_
            refine W.ret ?_
            refine QF.ret0 trivial rfl ?_
            rw [hg]; rfl
          · skip
            refine W.seq ?_
            refine W.region ?_
            refine pu (ev tab rfl) rfl ?_
            first | refine pu (ev tab rfl) rfl ?_ | refine pu (loadRow tab rfl rfl rfl rfl) rfl ?_ | refine pu (loadBox tab rfl rfl rfl rfl rfl) rfl ?_
            refine WO.nil ?_
            refine qs ?_
            refine condK rfl (fun h58 => ?_) (fun h58 => ?_)
            · skip
              refine W.region ?_
              iterate 2 refine pu (ev tab rfl) rfl ?_
              first | refine pu (ev tab rfl) rfl ?_ | refine pu (loadRow tab rfl rfl rfl rfl) rfl ?_ | refine pu (loadBox tab rfl rfl rfl rfl rfl) rfl ?_
              refine pu (puCall rfl rfl rfl (join_fn e.stack wSemi (by have := (frames_ok g.frames).1; omega) (by have := g.stackSize; omega)) rfl) rfl ?_
              refine pu (buildV tab rfl rfl rfl rfl rfl rfl rfl rfl rfl) rfl ?_
              first | refine appendFl tab rfl rfl rfl rfl rfl rfl rfl rfl rfl rfl rfl rfl (lensB_mem rfl) (Nat.le_of_ble_eq_true rfl) ?_ | refine appendO tab rfl rfl rfl rfl rfl rfl rfl rfl rfl rfl rfl rfl rfl rfl ?_
              refine pu (ev tab rfl) rfl ?_
              refine WO.nil ?_
              refine qs ?_
              refine W.seq ?_
              refine W.region ?_
              refine pu (ev tab rfl) rfl ?_
              try refine unfl 65 rfl rfl ?_
              refine pu (puCall rfl rfl rfl (joinW_fn (wordsE e) wSpace (by unfold wordsE wordsF stackW showsB; simp_all [sc, wSemi, wStop]) (by omega) w3) rfl) rfl ?_
              refine pu (ev tab rfl) rfl ?_
              refine WO.nil ?_
              refine qs ?_
              refine W.ret ?_
              refine QF.ret0 trivial rfl ?_
              rw [hg]; rfl
            · skip
              refine W.skip ?_
              refine qs ?_
              refine W.seq ?_
              refine W.region ?_
              refine pu (ev tab rfl) rfl ?_
              try refine unfl 65 rfl rfl ?_
              refine pu (puCall rfl rfl rfl (joinW_fn (wordsE e) wSpace (by unfold wordsE wordsF stackW showsB; simp_all [sc, wSemi, wStop]) (by omega) w3) rfl) rfl ?_
              refine pu (ev tab rfl) rfl ?_
              refine WO.nil ?_
              refine qs ?_
              refine W.ret ?_
              refine QF.ret0 trivial rfl ?_
              rw [hg]; rfl
end Go.Proofs.YtifeonoehfffmaaDoor
namespace Go.Proofs.YtifeonoehfffmaaDoor
open Go.Ab Go.Tb
set_option maxRecDepth 10000
attribute [local irreducible] W WO Pu QS QB QL QF QV QV1 CH QE
theorem uses_eq {k : Int} (h : 1 ≤ k ∧ k < 13) : usesName k = (frmOf k).name ∧ usesN k = (frmOf k).n ∧ usesM k = (frmOf k).m ∧ usesStack k = (frmOf k).stack ∧ ((frmOf k).word = wStop ↔ k = 9) := by
  rcases kinds h.1 h.2 with h | h | h | h | h | h | h | h | h | h | h | h <;> subst h <;> decide
theorem rtextE_fn (e : Ev) : Does Tryd.prog 14 [.ag e.c] (.d (.v (.string (textE e)))) 0 := by
  refine Does.of_W (n := 75) (ts := [2]) Tryd.func14 (by kernel_rfl) rfl Tryd.ntmps14 Tryd.results14 rfl rfl fun C hC hG => ?_
  refine W.seq ?_
  refine W.region ?_
  refine boxR rfl rfl rfl ?_
  refine pu (ev tab rfl) rfl ?_
  refine WO.nil ?_
  refine qs ?_
  refine W.seq ?_
  refine W.seq ?_
  refine W.region ?_
  first | refine pu (ev tab rfl) rfl ?_ | refine pu (loadRow tab rfl rfl rfl rfl) rfl ?_ | refine pu (loadBox tab rfl rfl rfl rfl rfl) rfl ?_
  refine pu (puCall rfl rfl rfl (rcheck_fn ..) rfl) rfl ?_
  refine pu (ev tab rfl) rfl ?_
  refine WO.nil ?_
  refine qs ?_
  refine condK rfl (fun h10 => ?_) (fun h10 => ?_)
  · skip
    have hg : textE e = B #[] := by unfold textE; rw [if_neg (by simpa using h10)]
    refine W.seq ?_
    refine W.region ?_
    refine pu (ev tab rfl) rfl ?_
    refine WO.nil ?_
    refine qs ?_
    refine W.ret ?_
    refine qsRet ?_
    refine QF.ret0 trivial rfl ?_
    rw [hg]; rfl
  · skip
    have hc : checkE e = 0 := by simpa using h10
    have g := good_of hc
    obtain ⟨w1, w2, w3⟩ := g.wordsSize
    have hg : textE e = joinB (wordsE e) wSpace := by unfold textE; rw [if_pos hc]
    obtain ⟨u1, u2, u3, u4, u5⟩ := uses_eq g.kind
    have hk1 : 0 ≤ e.kind := by have := g.kind.1; omega
    have hk2 : e.kind < 13 := g.kind.2
    refine W.skip ?_
    refine qs ?_
    refine W.seq ?_
    refine W.region ?_
    refine pu (ev tab rfl) rfl ?_
    first | refine pu (ev tab rfl) rfl ?_ | refine pu (loadRow tab rfl rfl rfl rfl) rfl ?_ | refine pu (loadBox tab rfl rfl rfl rfl rfl) rfl ?_
    refine pu (puCall rfl rfl rfl (uses_fn2 ..) rfl) rfl ?_
    iterate 9 refine pu (ev tab rfl) rfl ?_
    refine WO.nil ?_
    refine qs ?_
    refine W.seq ?_
    refine W.regionD tab (by kernel_rfl) ?_
    refine chPu (ev tab rfl) rfl ?_
    first | refine chPu (ev tab rfl) rfl ?_ | refine chPu (loadRow tab rfl rfl rfl rfl) rfl ?_ | refine chPu (loadBox tab rfl rfl rfl rfl rfl) rfl ?_
    refine chPu (puCall rfl rfl rfl (rtext_fn _ e.time (Nat.lt_succ_self _) (int_of g.timeIn).1 (int_of g.timeIn).2) rfl) rfl ?_
    refine chPu (ev tab rfl) rfl ?_
    first | refine chPu (ev tab rfl) rfl ?_ | refine chPu (loadRow tab rfl rfl rfl rfl) rfl ?_ | refine chPu (loadBox tab rfl rfl rfl rfl rfl) rfl ?_
    refine chPu (puCall rfl rfl rfl (rword_fn e.kind hk1 hk2) rfl) rfl ?_
    refine chPu (buildFl tab rfl rfl rfl rfl rfl rfl rfl rfl rfl) rfl ?_
    refine chPu (ev tab rfl) rfl ?_
    refine CH.nil ?_
    refine qs ?_
    refine W.seq ?_
    refine W.seq ?_
    refine W.region ?_
    refine pu (ev tab rfl) rfl ?_
    refine WO.nil ?_
    refine qs ?_
    refine condK rfl (fun h26 => ?_) (fun h26 => ?_)
    · skip
      refine W.region ?_
      iterate 2 refine pu (ev tab rfl) rfl ?_
      first | refine pu (ev tab rfl) rfl ?_ | refine pu (loadRow tab rfl rfl rfl rfl) rfl ?_ | refine pu (loadBox tab rfl rfl rfl rfl rfl) rfl ?_
      refine pu (buildV tab rfl rfl rfl rfl rfl rfl rfl rfl rfl) rfl ?_
      first | refine appendFl tab rfl rfl rfl rfl rfl rfl rfl rfl rfl rfl rfl rfl (lensB_mem rfl) (Nat.le_of_ble_eq_true rfl) ?_ | refine appendO tab rfl rfl rfl rfl rfl rfl rfl rfl rfl rfl rfl rfl rfl rfl ?_
      refine pu (ev tab rfl) rfl ?_
      refine WO.nil ?_
      refine qs ?_
      refine W.seq ?_
      refine W.seq ?_
      refine W.region ?_
      refine pu (ev tab rfl) rfl ?_
      refine WO.nil ?_
      refine qs ?_
      refine condK rfl (fun h32 => ?_) (fun h32 => ?_)
      · skip
        refine W.region ?_
        iterate 2 refine pu (ev tab rfl) rfl ?_
        first | refine pu (ev tab rfl) rfl ?_ | refine pu (loadRow tab rfl rfl rfl rfl) rfl ?_ | refine pu (loadBox tab rfl rfl rfl rfl rfl) rfl ?_
        refine pu (puCall rfl rfl rfl (rtext_fn _ e.n (Nat.lt_succ_self _) (int_of g.nIn).1 (int_of g.nIn).2) rfl) rfl ?_
        refine pu (buildV tab rfl rfl rfl rfl rfl rfl rfl rfl rfl) rfl ?_
        first | refine appendFl tab rfl rfl rfl rfl rfl rfl rfl rfl rfl rfl rfl rfl (lensB_mem rfl) (Nat.le_of_ble_eq_true rfl) ?_ | refine appendO tab rfl rfl rfl rfl rfl rfl rfl rfl rfl rfl rfl rfl rfl rfl ?_
        refine pu (ev tab rfl) rfl ?_
        refine WO.nil ?_
        refine qs ?_
        refine W.seq ?_
        refine W.seq ?_
        apply regionB; (case hb => rfl)
        · skip
          iterate 2 refine pu (ev tab rfl) rfl ?_
          apply splitJ; (case hj => rfl); (case hl => rfl)
          · skip
            refine goG rfl rfl ?_
            refine pu (ev tab rfl) rfl ?_
            refine goG rfl rfl ?_
            first | refine pu (ev tab rfl) rfl ?_ | refine pu (loadRow tab rfl rfl rfl rfl) rfl ?_ | refine pu (loadBox tab rfl rfl rfl rfl rfl) rfl ?_
            refine goG rfl rfl ?_
            refine pu (ev tab rfl) rfl ?_
            refine goG rfl rfl ?_
            refine pu (ev tab rfl) rfl ?_
            apply splitJ; (case hj => rfl); (case hl => rfl)
            · skip
              refine skipT rfl rfl rfl rfl ?_
              refine skipT rfl rfl rfl rfl ?_
              refine skipT rfl rfl rfl rfl ?_
              refine goG rfl rfl ?_
              iterate 2 refine pu (ev tab rfl) rfl ?_
              refine WO.nil ?_
              refine qv1 rfl rfl rfl
            · skip
              refine goG rfl rfl ?_
              refine pu (ev tab rfl) rfl ?_
              refine goG rfl rfl ?_
              first | refine pu (ev tab rfl) rfl ?_ | refine pu (loadRow tab rfl rfl rfl rfl) rfl ?_ | refine pu (loadBox tab rfl rfl rfl rfl rfl) rfl ?_
              refine goG rfl rfl ?_
              refine pu (ev tab rfl) rfl ?_
              refine goG rfl rfl ?_
              iterate 2 refine pu (ev tab rfl) rfl ?_
              refine WO.nil ?_
              refine qv1 rfl rfl rfl
          · skip
            refine skipT rfl rfl rfl rfl ?_
            refine skipT rfl rfl rfl rfl ?_
            refine skipT rfl rfl rfl rfl ?_
            refine skipT rfl rfl rfl rfl ?_
            refine skipU rfl rfl rfl ?_
            refine skipU rfl rfl rfl ?_
            refine skipU rfl rfl rfl ?_
            refine skipT rfl rfl rfl rfl ?_
            refine pu (ev tab rfl) rfl ?_
            refine WO.nil ?_
            refine qv1 rfl rfl rfl
        refine qs ?_
        refine condK rfl (fun h49 => ?_) (fun h49 => ?_)
        · skip
          refine W.region ?_
          iterate 2 refine pu (ev tab rfl) rfl ?_
          first | refine pu (ev tab rfl) rfl ?_ | refine pu (loadRow tab rfl rfl rfl rfl) rfl ?_ | refine pu (loadBox tab rfl rfl rfl rfl rfl) rfl ?_
          refine pu (puCall rfl rfl rfl (rtext_fn _ e.m (Nat.lt_succ_self _) (int_of g.mIn).1 (int_of g.mIn).2) rfl) rfl ?_
          refine pu (buildV tab rfl rfl rfl rfl rfl rfl rfl rfl rfl) rfl ?_
          first | refine appendFl tab rfl rfl rfl rfl rfl rfl rfl rfl rfl rfl rfl rfl (lensB_mem rfl) (Nat.le_of_ble_eq_true rfl) ?_ | refine appendO tab rfl rfl rfl rfl rfl rfl rfl rfl rfl rfl rfl rfl rfl rfl ?_
          refine pu (ev tab rfl) rfl ?_
          refine WO.nil ?_
          refine qs ?_
          refine W.seq ?_
          refine W.seq ?_
          apply regionB; (case hb => rfl)
          · skip
            iterate 2 refine pu (ev tab rfl) rfl ?_
            apply splitJ; (case hj => rfl); (case hl => rfl)
            · skip
              refine goG rfl rfl ?_
              refine pu (ev tab rfl) rfl ?_
              refine goG rfl rfl ?_
              first | refine pu (ev tab rfl) rfl ?_ | refine pu (loadRow tab rfl rfl rfl rfl) rfl ?_ | refine pu (loadBox tab rfl rfl rfl rfl rfl) rfl ?_
              refine goG rfl rfl ?_
              refine pu (ev tab rfl) rfl ?_
              refine goG rfl rfl ?_
              iterate 2 refine pu (ev tab rfl) rfl ?_
              refine WO.nil ?_
              refine qv1 rfl rfl rfl
            · skip
              refine skipT rfl rfl rfl rfl ?_
              refine skipT rfl rfl rfl rfl ?_
              refine skipT rfl rfl rfl rfl ?_
              refine skipT rfl rfl rfl rfl ?_
              refine pu (ev tab rfl) rfl ?_
              refine WO.nil ?_
              refine qv1 rfl rfl rfl
          refine qs ?_
          refine condK rfl (fun h62 => ?_) (fun h62 => ?_)
          · skip
            refine W.region ?_
            refine pu (ev tab rfl) rfl ?_
            refine pu (buildV tab rfl rfl rfl rfl rfl rfl rfl rfl rfl) rfl ?_
            first | refine appendFl tab rfl rfl rfl rfl rfl rfl rfl rfl rfl rfl rfl rfl (lensB_mem rfl) (Nat.le_of_ble_eq_true rfl) ?_ | refine appendO tab rfl rfl rfl rfl rfl rfl rfl rfl rfl rfl rfl rfl rfl rfl ?_
            refine pu (ev tab rfl) rfl ?_
            refine WO.nil ?_
            refine qs ?_
            refine W.seq ?_
            refine W.region ?_
            refine pu (ev tab rfl) rfl ?_
            try refine unfl 73 rfl rfl ?_
            refine pu (puCall rfl rfl rfl (rjoinW_fn (wordsE e) wSpace (by unfold wordsE wordsF stackW showsB; rw [← u1, ← u2, ← u3, ← u4]; simp_all [sc, wSemi, wStop] <;> (intro q; exact (h49 q).1)) (by omega) w3) rfl) rfl ?_
            refine pu (ev tab rfl) rfl ?_
            refine WO.nil ?_
            refine qs ?_
            refine W.ret ?_
            refine QF.ret0 trivial rfl ?_
            rw [hg]; rfl
          · skip
            refine W.seq ?_
            refine W.region ?_
            refine pu (ev tab rfl) rfl ?_
            refine WO.nil ?_
            refine qs ?_
            refine condK rfl (fun h66 => ?_) (fun h66 => ?_)
            · skip
              refine W.region ?_
              iterate 2 refine pu (ev tab rfl) rfl ?_
              first | refine pu (ev tab rfl) rfl ?_ | refine pu (loadRow tab rfl rfl rfl rfl) rfl ?_ | refine pu (loadBox tab rfl rfl rfl rfl rfl) rfl ?_
              refine pu (puCall rfl rfl rfl (rjoin_fn e.stack wSemi (by have := (frames_ok g.frames).1; omega) (by have := g.stackSize; omega)) rfl) rfl ?_
              refine pu (buildV tab rfl rfl rfl rfl rfl rfl rfl rfl rfl) rfl ?_
              first | refine appendFl tab rfl rfl rfl rfl rfl rfl rfl rfl rfl rfl rfl rfl (lensB_mem rfl) (Nat.le_of_ble_eq_true rfl) ?_ | refine appendO tab rfl rfl rfl rfl rfl rfl rfl rfl rfl rfl rfl rfl rfl rfl ?_
              refine pu (ev tab rfl) rfl ?_
              refine WO.nil ?_
              refine qs ?_
              refine W.seq ?_
              refine W.region ?_
              refine pu (ev tab rfl) rfl ?_
              try refine unfl 73 rfl rfl ?_
              refine pu (puCall rfl rfl rfl (rjoinW_fn (wordsE e) wSpace (by unfold wordsE wordsF stackW showsB; rw [← u1, ← u2, ← u3, ← u4]; simp_all [sc, wSemi, wStop] <;> (intro q; exact (h49 q).1)) (by omega) w3) rfl) rfl ?_
              refine pu (ev tab rfl) rfl ?_
              refine WO.nil ?_
              refine qs ?_
              refine W.ret ?_
              refine QF.ret0 trivial rfl ?_
              rw [hg]; rfl
            · skip
              refine W.skip ?_
              refine qs ?_
              refine W.seq ?_
              refine W.region ?_
              refine pu (ev tab rfl) rfl ?_
              try refine unfl 73 rfl rfl ?_
              refine pu (puCall rfl rfl rfl (rjoinW_fn (wordsE e) wSpace (by unfold wordsE wordsF stackW showsB; rw [← u1, ← u2, ← u3, ← u4]; simp_all [sc, wSemi, wStop] <;> (intro q; exact (h49 q).1)) (by omega) w3) rfl) rfl ?_
              refine pu (ev tab rfl) rfl ?_
              refine WO.nil ?_
              refine qs ?_
              refine W.ret ?_
              refine QF.ret0 trivial rfl ?_
              rw [hg]; rfl
        · skip
          refine W.skip ?_
          refine qs ?_
          refine W.seq ?_
          refine W.seq ?_
          apply regionB; (case hb => rfl)
          · skip
            iterate 2 refine pu (ev tab rfl) rfl ?_
            apply splitJ; (case hj => rfl); (case hl => rfl)
            · skip
              refine goG rfl rfl ?_
              refine pu (ev tab rfl) rfl ?_
              refine goG rfl rfl ?_
              first | refine pu (ev tab rfl) rfl ?_ | refine pu (loadRow tab rfl rfl rfl rfl) rfl ?_ | refine pu (loadBox tab rfl rfl rfl rfl rfl) rfl ?_
              refine goG rfl rfl ?_
              refine pu (ev tab rfl) rfl ?_
              refine goG rfl rfl ?_
              iterate 2 refine pu (ev tab rfl) rfl ?_
              refine WO.nil ?_
              refine qv1 rfl rfl rfl
            · skip
              refine skipT rfl rfl rfl rfl ?_
              refine skipT rfl rfl rfl rfl ?_
              refine skipT rfl rfl rfl rfl ?_
              refine skipT rfl rfl rfl rfl ?_
              refine pu (ev tab rfl) rfl ?_
              refine WO.nil ?_
              refine qv1 rfl rfl rfl
          refine qs ?_
          refine condK rfl (fun h62 => ?_) (fun h62 => ?_)
          · skip
            refine W.region ?_
            refine pu (ev tab rfl) rfl ?_
            refine pu (buildV tab rfl rfl rfl rfl rfl rfl rfl rfl rfl) rfl ?_
            first | refine appendFl tab rfl rfl rfl rfl rfl rfl rfl rfl rfl rfl rfl rfl (lensB_mem rfl) (Nat.le_of_ble_eq_true rfl) ?_ | refine appendO tab rfl rfl rfl rfl rfl rfl rfl rfl rfl rfl rfl rfl rfl rfl ?_
            refine pu (ev tab rfl) rfl ?_
            refine WO.nil ?_
            refine qs ?_
            refine W.seq ?_
            refine W.region ?_
            refine pu (ev tab rfl) rfl ?_
            try refine unfl 73 rfl rfl ?_
            refine pu (puCall rfl rfl rfl (rjoinW_fn (wordsE e) wSpace (by unfold wordsE wordsF stackW showsB; rw [← u1, ← u2, ← u3, ← u4]; simp_all [sc, wSemi, wStop] <;> (intro q; exact (h49 q).1)) (by omega) w3) rfl) rfl ?_
            refine pu (ev tab rfl) rfl ?_
            refine WO.nil ?_
            refine qs ?_
            refine W.ret ?_
            refine QF.ret0 trivial rfl ?_
            rw [hg]; rfl
          · skip
            refine W.seq ?_
            refine W.region ?_
            refine pu (ev tab rfl) rfl ?_
            refine WO.nil ?_
            refine qs ?_
            refine condK rfl (fun h66 => ?_) (fun h66 => ?_)
            · skip
              refine W.region ?_
              iterate 2 refine pu (ev tab rfl) rfl ?_
              first | refine pu (ev tab rfl) rfl ?_ | refine pu (loadRow tab rfl rfl rfl rfl) rfl ?_ | refine pu (loadBox tab rfl rfl rfl rfl rfl) rfl ?_
              refine pu (puCall rfl rfl rfl (rjoin_fn e.stack wSemi (by have := (frames_ok g.frames).1; omega) (by have := g.stackSize; omega)) rfl) rfl ?_
              refine pu (buildV tab rfl rfl rfl rfl rfl rfl rfl rfl rfl) rfl ?_
              first | refine appendFl tab rfl rfl rfl rfl rfl rfl rfl rfl rfl rfl rfl rfl (lensB_mem rfl) (Nat.le_of_ble_eq_true rfl) ?_ | refine appendO tab rfl rfl rfl rfl rfl rfl rfl rfl rfl rfl rfl rfl rfl rfl ?_
              refine pu (ev tab rfl) rfl ?_
              refine WO.nil ?_
              refine qs ?_
              refine W.seq ?_
              refine W.region ?_
              refine pu (ev tab rfl) rfl ?_
              try refine unfl 73 rfl rfl ?_
              refine pu (puCall rfl rfl rfl (rjoinW_fn (wordsE e) wSpace (by unfold wordsE wordsF stackW showsB; rw [← u1, ← u2, ← u3, ← u4]; simp_all [sc, wSemi, wStop] <;> (intro q; exact (h49 q).1)) (by omega) w3) rfl) rfl ?_
              refine pu (ev tab rfl) rfl ?_
              refine WO.nil ?_
              refine qs ?_
              refine W.ret ?_
              refine QF.ret0 trivial rfl ?_
              rw [hg]; rfl
            · skip
              refine W.skip ?_
              refine qs ?_
              refine W.seq ?_
              refine W.region ?_
              refine pu (ev tab rfl) rfl ?_
              try refine unfl 73 rfl rfl ?_
              refine pu (puCall rfl rfl rfl (rjoinW_fn (wordsE e) wSpace (by unfold wordsE wordsF stackW showsB; rw [← u1, ← u2, ← u3, ← u4]; simp_all [sc, wSemi, wStop] <;> (intro q; exact (h49 q).1)) (by omega) w3) rfl) rfl ?_
              refine pu (ev tab rfl) rfl ?_
              refine WO.nil ?_
              refine qs ?_
              refine W.ret ?_
              refine QF.ret0 trivial rfl ?_
              rw [hg]; rfl
      · skip
        refine W.skip ?_
        refine qs ?_
        refine W.seq ?_
        refine W.seq ?_
        apply regionB; (case hb => rfl)
        · skip
          iterate 2 refine pu (ev tab rfl) rfl ?_
          apply splitJ; (case hj => rfl); (case hl => rfl)
          · skip
            refine goG rfl rfl ?_
            refine pu (ev tab rfl) rfl ?_
            refine goG rfl rfl ?_
            first | refine pu (ev tab rfl) rfl ?_ | refine pu (loadRow tab rfl rfl rfl rfl) rfl ?_ | refine pu (loadBox tab rfl rfl rfl rfl rfl) rfl ?_
            refine goG rfl rfl ?_
            refine pu (ev tab rfl) rfl ?_
            refine goG rfl rfl ?_
            refine pu (ev tab rfl) rfl ?_
            apply splitJ; (case hj => rfl); (case hl => rfl)
            · skip
              refine skipT rfl rfl rfl rfl ?_
              refine skipT rfl rfl rfl rfl ?_
              refine skipT rfl rfl rfl rfl ?_
              refine goG rfl rfl ?_
              iterate 2 refine pu (ev tab rfl) rfl ?_
              refine WO.nil ?_
              refine qv1 rfl rfl rfl
            · skip
              refine goG rfl rfl ?_
              refine pu (ev tab rfl) rfl ?_
              refine goG rfl rfl ?_
              first | refine pu (ev tab rfl) rfl ?_ | refine pu (loadRow tab rfl rfl rfl rfl) rfl ?_ | refine pu (loadBox tab rfl rfl rfl rfl rfl) rfl ?_
              refine goG rfl rfl ?_
              refine pu (ev tab rfl) rfl ?_
              refine goG rfl rfl ?_
              iterate 2 refine pu (ev tab rfl) rfl ?_
              refine WO.nil ?_
              refine qv1 rfl rfl rfl
          · skip
            refine skipT rfl rfl rfl rfl ?_
            refine skipT rfl rfl rfl rfl ?_
            refine skipT rfl rfl rfl rfl ?_
            refine skipT rfl rfl rfl rfl ?_
            refine skipU rfl rfl rfl ?_
            refine skipU rfl rfl rfl ?_
            refine skipU rfl rfl rfl ?_
            refine skipT rfl rfl rfl rfl ?_
            refine pu (ev tab rfl) rfl ?_
            refine WO.nil ?_
            refine qv1 rfl rfl rfl
        refine qs ?_
        refine condK rfl (fun h49 => ?_) (fun h49 => ?_)
        · skip
          refine W.region ?_
          iterate 2 refine pu (ev tab rfl) rfl ?_
          first | refine pu (ev tab rfl) rfl ?_ | refine pu (loadRow tab rfl rfl rfl rfl) rfl ?_ | refine pu (loadBox tab rfl rfl rfl rfl rfl) rfl ?_
          refine pu (puCall rfl rfl rfl (rtext_fn _ e.m (Nat.lt_succ_self _) (int_of g.mIn).1 (int_of g.mIn).2) rfl) rfl ?_
          refine pu (buildV tab rfl rfl rfl rfl rfl rfl rfl rfl rfl) rfl ?_
          first | refine appendFl tab rfl rfl rfl rfl rfl rfl rfl rfl rfl rfl rfl rfl (lensB_mem rfl) (Nat.le_of_ble_eq_true rfl) ?_ | refine appendO tab rfl rfl rfl rfl rfl rfl rfl rfl rfl rfl rfl rfl rfl rfl ?_
          refine pu (ev tab rfl) rfl ?_
          refine WO.nil ?_
          refine qs ?_
          refine W.seq ?_
          refine W.seq ?_
          apply regionB; (case hb => rfl)
          · skip
            iterate 2 refine pu (ev tab rfl) rfl ?_
            apply splitJ; (case hj => rfl); (case hl => rfl)
            · skip
              refine goG rfl rfl ?_
              refine pu (ev tab rfl) rfl ?_
              refine goG rfl rfl ?_
              first | refine pu (ev tab rfl) rfl ?_ | refine pu (loadRow tab rfl rfl rfl rfl) rfl ?_ | refine pu (loadBox tab rfl rfl rfl rfl rfl) rfl ?_
              refine goG rfl rfl ?_
              refine pu (ev tab rfl) rfl ?_
              refine goG rfl rfl ?_
              iterate 2 refine pu (ev tab rfl) rfl ?_
              refine WO.nil ?_
              refine qv1 rfl rfl rfl
            · skip
              refine skipT rfl rfl rfl rfl ?_
              refine skipT rfl rfl rfl rfl ?_
              refine skipT rfl rfl rfl rfl ?_
              refine skipT rfl rfl rfl rfl ?_
              refine pu (ev tab rfl) rfl ?_
              refine WO.nil ?_
              refine qv1 rfl rfl rfl
          refine qs ?_
          refine condK rfl (fun h62 => ?_) (fun h62 => ?_)
          · skip
            refine W.region ?_
            refine pu (ev tab rfl) rfl ?_
            refine pu (buildV tab rfl rfl rfl rfl rfl rfl rfl rfl rfl) rfl ?_
            first | refine appendFl tab rfl rfl rfl rfl rfl rfl rfl rfl rfl rfl rfl rfl (lensB_mem rfl) (Nat.le_of_ble_eq_true rfl) ?_ | refine appendO tab rfl rfl rfl rfl rfl rfl rfl rfl rfl rfl rfl rfl rfl rfl ?_
            refine pu (ev tab rfl) rfl ?_
            refine WO.nil ?_
            refine qs ?_
            refine W.seq ?_
            refine W.region ?_
            refine pu (ev tab rfl) rfl ?_
            try refine unfl 73 rfl rfl ?_
            refine pu (puCall rfl rfl rfl (rjoinW_fn (wordsE e) wSpace (by unfold wordsE wordsF stackW showsB; rw [← u1, ← u2, ← u3, ← u4]; simp_all [sc, wSemi, wStop] <;> (intro q; exact (h49 q).1)) (by omega) w3) rfl) rfl ?_
            refine pu (ev tab rfl) rfl ?_
            refine WO.nil ?_
            refine qs ?_
            refine W.ret ?_
            refine QF.ret0 trivial rfl ?_
            rw [hg]; rfl
          · skip
            refine W.seq ?_
            refine W.region ?_
            refine pu (ev tab rfl) rfl ?_
            refine WO.nil ?_
            refine qs ?_
            refine condK rfl (fun h66 => ?_) (fun h66 => ?_)
            · skip
              refine W.region ?_
              iterate 2 refine pu (ev tab rfl) rfl ?_
              first | refine pu (ev tab rfl) rfl ?_ | refine pu (loadRow tab rfl rfl rfl rfl) rfl ?_ | refine pu (loadBox tab rfl rfl rfl rfl rfl) rfl ?_
              refine pu (puCall rfl rfl rfl (rjoin_fn e.stack wSemi (by have := (frames_ok g.frames).1; omega) (by have := g.stackSize; omega)) rfl) rfl ?_
              refine pu (buildV tab rfl rfl rfl rfl rfl rfl rfl rfl rfl) rfl ?_
              first | refine appendFl tab rfl rfl rfl rfl rfl rfl rfl rfl rfl rfl rfl rfl (lensB_mem rfl) (Nat.le_of_ble_eq_true rfl) ?_ | refine appendO tab rfl rfl rfl rfl rfl rfl rfl rfl rfl rfl rfl rfl rfl rfl ?_
              refine pu (ev tab rfl) rfl ?_
              refine WO.nil ?_
              refine qs ?_
              refine W.seq ?_
              refine W.region ?_
              refine pu (ev tab rfl) rfl ?_
              try refine unfl 73 rfl rfl ?_
              refine pu (puCall rfl rfl rfl (rjoinW_fn (wordsE e) wSpace (by unfold wordsE wordsF stackW showsB; rw [← u1, ← u2, ← u3, ← u4]; simp_all [sc, wSemi, wStop] <;> (intro q; exact (h49 q).1)) (by omega) w3) rfl) rfl ?_
              refine pu (ev tab rfl) rfl ?_
              refine WO.nil ?_
              refine qs ?_
              refine W.ret ?_
              refine QF.ret0 trivial rfl ?_
              rw [hg]; rfl
            · skip
              refine W.skip ?_
              refine qs ?_
              refine W.seq ?_
              refine W.region ?_
              refine pu (ev tab rfl) rfl ?_
              try refine unfl 73 rfl rfl ?_
              refine pu (puCall rfl rfl rfl (rjoinW_fn (wordsE e) wSpace (by unfold wordsE wordsF stackW showsB; rw [← u1, ← u2, ← u3, ← u4]; simp_all [sc, wSemi, wStop] <;> (intro q; exact (h49 q).1)) (by omega) w3) rfl) rfl ?_
              refine pu (ev tab rfl) rfl ?_
              refine WO.nil ?_
              refine qs ?_
              refine W.ret ?_
              refine QF.ret0 trivial rfl ?_
              rw [hg]; rfl
        · skip
          refine W.skip ?_
          refine qs ?_
          refine W.seq ?_
          refine W.seq ?_
          apply regionB; (case hb => rfl)
          · skip
            iterate 2 refine pu (ev tab rfl) rfl ?_
            apply splitJ; (case hj => rfl); (case hl => rfl)
            · skip
              refine goG rfl rfl ?_
              refine pu (ev tab rfl) rfl ?_
              refine goG rfl rfl ?_
              first | refine pu (ev tab rfl) rfl ?_ | refine pu (loadRow tab rfl rfl rfl rfl) rfl ?_ | refine pu (loadBox tab rfl rfl rfl rfl rfl) rfl ?_
              refine goG rfl rfl ?_
              refine pu (ev tab rfl) rfl ?_
              refine goG rfl rfl ?_
              iterate 2 refine pu (ev tab rfl) rfl ?_
              refine WO.nil ?_
              refine qv1 rfl rfl rfl
            · skip
              refine skipT rfl rfl rfl rfl ?_
              refine skipT rfl rfl rfl rfl ?_
              refine skipT rfl rfl rfl rfl ?_
              refine skipT rfl rfl rfl rfl ?_
              refine pu (ev tab rfl) rfl ?_
              refine WO.nil ?_
              refine qv1 rfl rfl rfl
          refine qs ?_
          refine condK rfl (fun h62 => ?_) (fun h62 => ?_)
          · skip
            refine W.region ?_
            refine pu (ev tab rfl) rfl ?_
            refine pu (buildV tab rfl rfl rfl rfl rfl rfl rfl rfl rfl) rfl ?_
            first | refine appendFl tab rfl rfl rfl rfl rfl rfl rfl rfl rfl rfl rfl rfl (lensB_mem rfl) (Nat.le_of_ble_eq_true rfl) ?_ | refine appendO tab rfl rfl rfl rfl rfl rfl rfl rfl rfl rfl rfl rfl rfl rfl ?_
            refine pu (ev tab rfl) rfl ?_
            refine WO.nil ?_
            refine qs ?_
            refine W.seq ?_
            refine W.region ?_
            refine pu (ev tab rfl) rfl ?_
            try refine unfl 73 rfl rfl ?_
            refine pu (puCall rfl rfl rfl (rjoinW_fn (wordsE e) wSpace (by unfold wordsE wordsF stackW showsB; rw [← u1, ← u2, ← u3, ← u4]; simp_all [sc, wSemi, wStop] <;> (intro q; exact (h49 q).1)) (by omega) w3) rfl) rfl ?_
            refine pu (ev tab rfl) rfl ?_
            refine WO.nil ?_
            refine qs ?_
            refine W.ret ?_
            refine QF.ret0 trivial rfl ?_
            rw [hg]; rfl
          · skip
            refine W.seq ?_
            refine W.region ?_
            refine pu (ev tab rfl) rfl ?_
            refine WO.nil ?_
            refine qs ?_
            refine condK rfl (fun h66 => ?_) (fun h66 => ?_)
            · skip
              refine W.region ?_
              iterate 2 refine pu (ev tab rfl) rfl ?_
              first | refine pu (ev tab rfl) rfl ?_ | refine pu (loadRow tab rfl rfl rfl rfl) rfl ?_ | refine pu (loadBox tab rfl rfl rfl rfl rfl) rfl ?_
              refine pu (puCall rfl rfl rfl (rjoin_fn e.stack wSemi (by have := (frames_ok g.frames).1; omega) (by have := g.stackSize; omega)) rfl) rfl ?_
              refine pu (buildV tab rfl rfl rfl rfl rfl rfl rfl rfl rfl) rfl ?_
              first | refine appendFl tab rfl rfl rfl rfl rfl rfl rfl rfl rfl rfl rfl rfl (lensB_mem rfl) (Nat.le_of_ble_eq_true rfl) ?_ | refine appendO tab rfl rfl rfl rfl rfl rfl rfl rfl rfl rfl rfl rfl rfl rfl ?_
              refine pu (ev tab rfl) rfl ?_
              refine WO.nil ?_
              refine qs ?_
              refine W.seq ?_
              refine W.region ?_
              refine pu (ev tab rfl) rfl ?_
              try refine unfl 73 rfl rfl ?_
              refine pu (puCall rfl rfl rfl (rjoinW_fn (wordsE e) wSpace (by unfold wordsE wordsF stackW showsB; rw [← u1, ← u2, ← u3, ← u4]; simp_all [sc, wSemi, wStop] <;> (intro q; exact (h49 q).1)) (by omega) w3) rfl) rfl ?_
              refine pu (ev tab rfl) rfl ?_
              refine WO.nil ?_
              refine qs ?_
              refine W.ret ?_
              refine QF.ret0 trivial rfl ?_
              rw [hg]; rfl
            · skip
              refine W.skip ?_
              refine qs ?_
              refine W.seq ?_
              refine W.region ?_
              refine pu (ev tab rfl) rfl ?_
              try refine unfl 73 rfl rfl ?_
              refine pu (puCall rfl rfl rfl (rjoinW_fn (wordsE e) wSpace (by unfold wordsE wordsF stackW showsB; rw [← u1, ← u2, ← u3, ← u4]; simp_all [sc, wSemi, wStop] <;> (intro q; exact (h49 q).1)) (by omega) w3) rfl) rfl ?_
              refine pu (ev tab rfl) rfl ?_
              refine WO.nil ?_
              refine qs ?_
              refine W.ret ?_
              refine QF.ret0 trivial rfl ?_
              rw [hg]; rfl
    · skip
      refine W.skip ?_
      refine qs ?_
      refine W.seq ?_
      refine W.seq ?_
      refine W.region ?_
      refine pu (ev tab rfl) rfl ?_
      refine WO.nil ?_
      refine qs ?_
      refine condK rfl (fun h32 => ?_) (fun h32 => ?_)
      · skip
        refine W.region ?_
        iterate 2 refine pu (ev tab rfl) rfl ?_
        first | refine pu (ev tab rfl) rfl ?_ | refine pu (loadRow tab rfl rfl rfl rfl) rfl ?_ | refine pu (loadBox tab rfl rfl rfl rfl rfl) rfl ?_
        refine pu (puCall rfl rfl rfl (rtext_fn _ e.n (Nat.lt_succ_self _) (int_of g.nIn).1 (int_of g.nIn).2) rfl) rfl ?_
        refine pu (buildV tab rfl rfl rfl rfl rfl rfl rfl rfl rfl) rfl ?_
        first | refine appendFl tab rfl rfl rfl rfl rfl rfl rfl rfl rfl rfl rfl rfl (lensB_mem rfl) (Nat.le_of_ble_eq_true rfl) ?_ | refine appendO tab rfl rfl rfl rfl rfl rfl rfl rfl rfl rfl rfl rfl rfl rfl ?_
        refine pu (ev tab rfl) rfl ?_
        refine WO.nil ?_
        refine qs ?_
        refine W.seq ?_
        refine W.seq ?_
        apply regionB; (case hb => rfl)
        · skip
          iterate 2 refine pu (ev tab rfl) rfl ?_
          apply splitJ; (case hj => rfl); (case hl => rfl)
          · skip
            refine goG rfl rfl ?_
            refine pu (ev tab rfl) rfl ?_
            refine goG rfl rfl ?_
            first | refine pu (ev tab rfl) rfl ?_ | refine pu (loadRow tab rfl rfl rfl rfl) rfl ?_ | refine pu (loadBox tab rfl rfl rfl rfl rfl) rfl ?_
            refine goG rfl rfl ?_
            refine pu (ev tab rfl) rfl ?_
            refine goG rfl rfl ?_
            refine pu (ev tab rfl) rfl ?_
            apply splitJ; (case hj => rfl); (case hl => rfl)
            · skip
              refine skipT rfl rfl rfl rfl ?_
              refine skipT rfl rfl rfl rfl ?_
              refine skipT rfl rfl rfl rfl ?_
              refine goG rfl rfl ?_
              iterate 2 refine pu (ev tab rfl) rfl ?_
              refine WO.nil ?_
              refine qv1 rfl rfl rfl
            · skip
              refine goG rfl rfl ?_
              refine pu (ev tab rfl) rfl ?_
              refine goG rfl rfl ?_
              first | refine pu (ev tab rfl) rfl ?_ | refine pu (loadRow tab rfl rfl rfl rfl) rfl ?_ | refine pu (loadBox tab rfl rfl rfl rfl rfl) rfl ?_
              refine goG rfl rfl ?_
              refine pu (ev tab rfl) rfl ?_
              refine goG rfl rfl ?_
              iterate 2 refine pu (ev tab rfl) rfl ?_
              refine WO.nil ?_
              refine qv1 rfl rfl rfl
          · skip
            refine skipT rfl rfl rfl rfl ?_
            refine skipT rfl rfl rfl rfl ?_
            refine skipT rfl rfl rfl rfl ?_
            refine skipT rfl rfl rfl rfl ?_
            refine skipU rfl rfl rfl ?_
            refine skipU rfl rfl rfl ?_
            refine skipU rfl rfl rfl ?_
            refine skipT rfl rfl rfl rfl ?_
            refine pu (ev tab rfl) rfl ?_
            refine WO.nil ?_
            refine qv1 rfl rfl rfl
        refine qs ?_
        refine condK rfl (fun h49 => ?_) (fun h49 => ?_)
        · skip
          refine W.region ?_
          iterate 2 refine pu (ev tab rfl) rfl ?_
          first | refine pu (ev tab rfl) rfl ?_ | refine pu (loadRow tab rfl rfl rfl rfl) rfl ?_ | refine pu (loadBox tab rfl rfl rfl rfl rfl) rfl ?_
          refine pu (puCall rfl rfl rfl (rtext_fn _ e.m (Nat.lt_succ_self _) (int_of g.mIn).1 (int_of g.mIn).2) rfl) rfl ?_
          refine pu (buildV tab rfl rfl rfl rfl rfl rfl rfl rfl rfl) rfl ?_
          first | refine appendFl tab rfl rfl rfl rfl rfl rfl rfl rfl rfl rfl rfl rfl (lensB_mem rfl) (Nat.le_of_ble_eq_true rfl) ?_ | refine appendO tab rfl rfl rfl rfl rfl rfl rfl rfl rfl rfl rfl rfl rfl rfl ?_
          refine pu (ev tab rfl) rfl ?_
          refine WO.nil ?_
          refine qs ?_
          refine W.seq ?_
          refine W.seq ?_
          apply regionB; (case hb => rfl)
          · skip
            iterate 2 refine pu (ev tab rfl) rfl ?_
            apply splitJ; (case hj => rfl); (case hl => rfl)
            · skip
              refine goG rfl rfl ?_
              refine pu (ev tab rfl) rfl ?_
              refine goG rfl rfl ?_
              first | refine pu (ev tab rfl) rfl ?_ | refine pu (loadRow tab rfl rfl rfl rfl) rfl ?_ | refine pu (loadBox tab rfl rfl rfl rfl rfl) rfl ?_
              refine goG rfl rfl ?_
              refine pu (ev tab rfl) rfl ?_
              refine goG rfl rfl ?_
              iterate 2 refine pu (ev tab rfl) rfl ?_
              refine WO.nil ?_
              refine qv1 rfl rfl rfl
            · skip
              refine skipT rfl rfl rfl rfl ?_
              refine skipT rfl rfl rfl rfl ?_
              refine skipT rfl rfl rfl rfl ?_
              refine skipT rfl rfl rfl rfl ?_
              refine pu (ev tab rfl) rfl ?_
              refine WO.nil ?_
              refine qv1 rfl rfl rfl
          refine qs ?_
          refine condK rfl (fun h62 => ?_) (fun h62 => ?_)
          · skip
            refine W.region ?_
            refine pu (ev tab rfl) rfl ?_
            refine pu (buildV tab rfl rfl rfl rfl rfl rfl rfl rfl rfl) rfl ?_
            first | refine appendFl tab rfl rfl rfl rfl rfl rfl rfl rfl rfl rfl rfl rfl (lensB_mem rfl) (Nat.le_of_ble_eq_true rfl) ?_ | refine appendO tab rfl rfl rfl rfl rfl rfl rfl rfl rfl rfl rfl rfl rfl rfl ?_
            refine pu (ev tab rfl) rfl ?_
            refine WO.nil ?_
            refine qs ?_
            refine W.seq ?_
            refine W.region ?_
            refine pu (ev tab rfl) rfl ?_
            try refine unfl 73 rfl rfl ?_
            refine pu (puCall rfl rfl rfl (rjoinW_fn (wordsE e) wSpace (by unfold wordsE wordsF stackW showsB; rw [← u1, ← u2, ← u3, ← u4]; simp_all [sc, wSemi, wStop] <;> (intro q; exact (h49 q).1)) (by omega) w3) rfl) rfl ?_
            refine pu (ev tab rfl) rfl ?_
            refine WO.nil ?_
            refine qs ?_
            refine W.ret ?_
            refine QF.ret0 trivial rfl ?_
            rw [hg]; rfl
          · skip
            refine W.seq ?_
            refine W.region ?_
            refine pu (ev tab rfl) rfl ?_
            refine WO.nil ?_
            refine qs ?_
            refine condK rfl (fun h66 => ?_) (fun h66 => ?_)
            · skip
              refine W.region ?_
              iterate 2 refine pu (ev tab rfl) rfl ?_
              first | refine pu (ev tab rfl) rfl ?_ | refine pu (loadRow tab rfl rfl rfl rfl) rfl ?_ | refine pu (loadBox tab rfl rfl rfl rfl rfl) rfl ?_
              refine pu (puCall rfl rfl rfl (rjoin_fn e.stack wSemi (by have := (frames_ok g.frames).1; omega) (by have := g.stackSize; omega)) rfl) rfl ?_
              refine pu (buildV tab rfl rfl rfl rfl rfl rfl rfl rfl rfl) rfl ?_
              first | refine appendFl tab rfl rfl rfl rfl rfl rfl rfl rfl rfl rfl rfl rfl (lensB_mem rfl) (Nat.le_of_ble_eq_true rfl) ?_ | refine appendO tab rfl rfl rfl rfl rfl rfl rfl rfl rfl rfl rfl rfl rfl rfl ?_
              refine pu (ev tab rfl) rfl ?_
              refine WO.nil ?_
              refine qs ?_
              refine W.seq ?_
              refine W.region ?_
              refine pu (ev tab rfl) rfl ?_
              try refine unfl 73 rfl rfl ?_
              refine pu (puCall rfl rfl rfl (rjoinW_fn (wordsE e) wSpace (by unfold wordsE wordsF stackW showsB; rw [← u1, ← u2, ← u3, ← u4]; simp_all [sc, wSemi, wStop] <;> (intro q; exact (h49 q).1)) (by omega) w3) rfl) rfl ?_
              refine pu (ev tab rfl) rfl ?_
              refine WO.nil ?_
              refine qs ?_
              refine W.ret ?_
              refine QF.ret0 trivial rfl ?_
              rw [hg]; rfl
            · skip
              refine W.skip ?_
              refine qs ?_
              refine W.seq ?_
              refine W.region ?_
              refine pu (ev tab rfl) rfl ?_
              try refine unfl 73 rfl rfl ?_
              refine pu (puCall rfl rfl rfl (rjoinW_fn (wordsE e) wSpace (by unfold wordsE wordsF stackW showsB; rw [← u1, ← u2, ← u3, ← u4]; simp_all [sc, wSemi, wStop] <;> (intro q; exact (h49 q).1)) (by omega) w3) rfl) rfl ?_
              refine pu (ev tab rfl) rfl ?_
              refine WO.nil ?_
              refine qs ?_
              refine W.ret ?_
              refine QF.ret0 trivial rfl ?_
              rw [hg]; rfl
        · skip
          refine W.skip ?_
          refine qs ?_
          refine W.seq ?_
          refine W.seq ?_
          apply regionB; (case hb => rfl)
          · skip
            iterate 2 refine pu (ev tab rfl) rfl ?_
            apply splitJ; (case hj => rfl); (case hl => rfl)
            · skip
              refine goG rfl rfl ?_
              refine pu (ev tab rfl) rfl ?_
              refine goG rfl rfl ?_
              first | refine pu (ev tab rfl) rfl ?_ | refine pu (loadRow tab rfl rfl rfl rfl) rfl ?_ | refine pu (loadBox tab rfl rfl rfl rfl rfl) rfl ?_
              refine goG rfl rfl ?_
              refine pu (ev tab rfl) rfl ?_
              refine goG rfl rfl ?_
              iterate 2 refine pu (ev tab rfl) rfl ?_
              refine WO.nil ?_
              refine qv1 rfl rfl rfl
            · skip
              refine skipT rfl rfl rfl rfl ?_
              refine skipT rfl rfl rfl rfl ?_
              refine skipT rfl rfl rfl rfl ?_
              refine skipT rfl rfl rfl rfl ?_
              refine pu (ev tab rfl) rfl ?_
              refine WO.nil ?_
              refine qv1 rfl rfl rfl
          refine qs ?_
          refine condK rfl (fun h62 => ?_) (fun h62 => ?_)
          · skip
            refine W.region ?_
            refine pu (ev tab rfl) rfl ?_
            refine pu (buildV tab rfl rfl rfl rfl rfl rfl rfl rfl rfl) rfl ?_
            first | refine appendFl tab rfl rfl rfl rfl rfl rfl rfl rfl rfl rfl rfl rfl (lensB_mem rfl) (Nat.le_of_ble_eq_true rfl) ?_ | refine appendO tab rfl rfl rfl rfl rfl rfl rfl rfl rfl rfl rfl rfl rfl rfl ?_
            refine pu (ev tab rfl) rfl ?_
            refine WO.nil ?_
            refine qs ?_
            refine W.seq ?_
            refine W.region ?_
            refine pu (ev tab rfl) rfl ?_
            try refine unfl 73 rfl rfl ?_
            refine pu (puCall rfl rfl rfl (rjoinW_fn (wordsE e) wSpace (by unfold wordsE wordsF stackW showsB; rw [← u1, ← u2, ← u3, ← u4]; simp_all [sc, wSemi, wStop] <;> (intro q; exact (h49 q).1)) (by omega) w3) rfl) rfl ?_
            refine pu (ev tab rfl) rfl ?_
            refine WO.nil ?_
            refine qs ?_
            refine W.ret ?_
            refine QF.ret0 trivial rfl ?_
            rw [hg]; rfl
          · skip
            refine W.seq ?_
            refine W.region ?_
            refine pu (ev tab rfl) rfl ?_
            refine WO.nil ?_
            refine qs ?_
            refine condK rfl (fun h66 => ?_) (fun h66 => ?_)
            · skip
              refine W.region ?_
              iterate 2 refine pu (ev tab rfl) rfl ?_
              first | refine pu (ev tab rfl) rfl ?_ | refine pu (loadRow tab rfl rfl rfl rfl) rfl ?_ | refine pu (loadBox tab rfl rfl rfl rfl rfl) rfl ?_
              refine pu (puCall rfl rfl rfl (rjoin_fn e.stack wSemi (by have := (frames_ok g.frames).1; omega) (by have := g.stackSize; omega)) rfl) rfl ?_
              refine pu (buildV tab rfl rfl rfl rfl rfl rfl rfl rfl rfl) rfl ?_
              first | refine appendFl tab rfl rfl rfl rfl rfl rfl rfl rfl rfl rfl rfl rfl (lensB_mem rfl) (Nat.le_of_ble_eq_true rfl) ?_ | refine appendO tab rfl rfl rfl rfl rfl rfl rfl rfl rfl rfl rfl rfl rfl rfl ?_
              refine pu (ev tab rfl) rfl ?_
              refine WO.nil ?_
              refine qs ?_
              refine W.seq ?_
              refine W.region ?_
              refine pu (ev tab rfl) rfl ?_
              try refine unfl 73 rfl rfl ?_
              refine pu (puCall rfl rfl rfl (rjoinW_fn (wordsE e) wSpace (by unfold wordsE wordsF stackW showsB; rw [← u1, ← u2, ← u3, ← u4]; simp_all [sc, wSemi, wStop] <;> (intro q; exact (h49 q).1)) (by omega) w3) rfl) rfl ?_
              refine pu (ev tab rfl) rfl ?_
              refine WO.nil ?_
              refine qs ?_
              refine W.ret ?_
              refine QF.ret0 trivial rfl ?_
              rw [hg]; rfl
            · skip
              refine W.skip ?_
              refine qs ?_
              refine W.seq ?_
              refine W.region ?_
              refine pu (ev tab rfl) rfl ?_
              try refine unfl 73 rfl rfl ?_
              refine pu (puCall rfl rfl rfl (rjoinW_fn (wordsE e) wSpace (by unfold wordsE wordsF stackW showsB; rw [← u1, ← u2, ← u3, ← u4]; simp_all [sc, wSemi, wStop] <;> (intro q; exact (h49 q).1)) (by omega) w3) rfl) rfl ?_
              refine pu (ev tab rfl) rfl ?_
              refine WO.nil ?_
              refine qs ?_
              refine W.ret ?_
              refine QF.ret0 trivial rfl ?_
              rw [hg]; rfl
      · skip
        refine W.skip ?_
        refine qs ?_
        refine W.seq ?_
        refine W.seq ?_
        apply regionB; (case hb => rfl)
        · skip
          iterate 2 refine pu (ev tab rfl) rfl ?_
          apply splitJ; (case hj => rfl); (case hl => rfl)
          · skip
            refine goG rfl rfl ?_
            refine pu (ev tab rfl) rfl ?_
            refine goG rfl rfl ?_
            first | refine pu (ev tab rfl) rfl ?_ | refine pu (loadRow tab rfl rfl rfl rfl) rfl ?_ | refine pu (loadBox tab rfl rfl rfl rfl rfl) rfl ?_
            refine goG rfl rfl ?_
            refine pu (ev tab rfl) rfl ?_
            refine goG rfl rfl ?_
            refine pu (ev tab rfl) rfl ?_
            apply splitJ; (case hj => rfl); (case hl => rfl)
            · skip
              refine skipT rfl rfl rfl rfl ?_
              refine skipT rfl rfl rfl rfl ?_
              refine skipT rfl rfl rfl rfl ?_
              refine goG rfl rfl ?_
              iterate 2 refine pu (ev tab rfl) rfl ?_
              refine WO.nil ?_
              refine qv1 rfl rfl rfl
            · skip
              refine goG rfl rfl ?_
              refine pu (ev tab rfl) rfl ?_
              refine goG rfl rfl ?_
              first | refine pu (ev tab rfl) rfl ?_ | refine pu (loadRow tab rfl rfl rfl rfl) rfl ?_ | refine pu (loadBox tab rfl rfl rfl rfl rfl) rfl ?_
              refine goG rfl rfl ?_
              refine pu (ev tab rfl) rfl ?_
              refine goG rfl rfl ?_
              iterate 2 refine pu (ev tab rfl) rfl ?_
              refine WO.nil ?_
              refine qv1 rfl rfl rfl
          · skip
            refine skipT rfl rfl rfl rfl ?_
            refine skipT rfl rfl rfl rfl ?_
            refine skipT rfl rfl rfl rfl ?_
            refine skipT rfl rfl rfl rfl ?_
            refine skipU rfl rfl rfl ?_
            refine skipU rfl rfl rfl ?_
            refine skipU rfl rfl rfl ?_
            refine skipT rfl rfl rfl rfl ?_
            refine pu (ev tab rfl) rfl ?_
            refine WO.nil ?_
            refine qv1 rfl rfl rfl
        refine qs ?_
        refine condK rfl (fun h49 => ?_) (fun h49 => ?_)
        · skip
          refine W.region ?_
          iterate 2 refine pu (ev tab rfl) rfl ?_
          first | refine pu (ev tab rfl) rfl ?_ | refine pu (loadRow tab rfl rfl rfl rfl) rfl ?_ | refine pu (loadBox tab rfl rfl rfl rfl rfl) rfl ?_
          refine pu (puCall rfl rfl rfl (rtext_fn _ e.m (Nat.lt_succ_self _) (int_of g.mIn).1 (int_of g.mIn).2) rfl) rfl ?_
          refine pu (buildV tab rfl rfl rfl rfl rfl rfl rfl rfl rfl) rfl ?_
          first | refine appendFl tab rfl rfl rfl rfl rfl rfl rfl rfl rfl rfl rfl rfl (lensB_mem rfl) (Nat.le_of_ble_eq_true rfl) ?_ | refine appendO tab rfl rfl rfl rfl rfl rfl rfl rfl rfl rfl rfl rfl rfl rfl ?_
          refine pu (ev tab rfl) rfl ?_
          refine WO.nil ?_
          refine qs ?_
          refine W.seq ?_
          refine W.seq ?_
          apply regionB; (case hb => rfl)
          · skip
            iterate 2 refine pu (ev tab rfl) rfl ?_
            apply splitJ; (case hj => rfl); (case hl => rfl)
            · skip
              refine goG rfl rfl ?_
              refine pu (ev tab rfl) rfl ?_
              refine goG rfl rfl ?_
              first | refine pu (ev tab rfl) rfl ?_ | refine pu (loadRow tab rfl rfl rfl rfl) rfl ?_ | refine pu (loadBox tab rfl rfl rfl rfl rfl) rfl ?_
              refine goG rfl rfl ?_
              refine pu (ev tab rfl) rfl ?_
              refine goG rfl rfl ?_
              iterate 2 refine pu (ev tab rfl) rfl ?_
              refine WO.nil ?_
              refine qv1 rfl rfl rfl
            · skip
              refine skipT rfl rfl rfl rfl ?_
              refine skipT rfl rfl rfl rfl ?_
              refine skipT rfl rfl rfl rfl ?_
              refine skipT rfl rfl rfl rfl ?_
              refine pu (ev tab rfl) rfl ?_
              refine WO.nil ?_
              refine qv1 rfl rfl rfl
          refine qs ?_
          refine condK rfl (fun h62 => ?_) (fun h62 => ?_)
          · skip
            refine W.region ?_
            refine pu (ev tab rfl) rfl ?_
            refine pu (buildV tab rfl rfl rfl rfl rfl rfl rfl rfl rfl) rfl ?_
            first | refine appendFl tab rfl rfl rfl rfl rfl rfl rfl rfl rfl rfl rfl rfl (lensB_mem rfl) (Nat.le_of_ble_eq_true rfl) ?_ | refine appendO tab rfl rfl rfl rfl rfl rfl rfl rfl rfl rfl rfl rfl rfl rfl ?_
            refine pu (ev tab rfl) rfl ?_
            refine WO.nil ?_
            refine qs ?_
            refine W.seq ?_
            refine W.region ?_
            refine pu (ev tab rfl) rfl ?_
            try refine unfl 73 rfl rfl ?_
            refine pu (puCall rfl rfl rfl (rjoinW_fn (wordsE e) wSpace (by unfold wordsE wordsF stackW showsB; rw [← u1, ← u2, ← u3, ← u4]; simp_all [sc, wSemi, wStop] <;> (intro q; exact (h49 q).1)) (by omega) w3) rfl) rfl ?_
            refine pu (ev tab rfl) rfl ?_
            refine WO.nil ?_
            refine qs ?_
            refine W.ret ?_
            refine QF.ret0 trivial rfl ?_
            rw [hg]; rfl
          · skip
            refine W.seq ?_
            refine W.region ?_
            refine pu (ev tab rfl) rfl ?_
            refine WO.nil ?_
            refine qs ?_
            refine condK rfl (fun h66 => ?_) (fun h66 => ?_)
            · skip
              refine W.region ?_
              iterate 2 refine pu (ev tab rfl) rfl ?_
              first | refine pu (ev tab rfl) rfl ?_ | refine pu (loadRow tab rfl rfl rfl rfl) rfl ?_ | refine pu (loadBox tab rfl rfl rfl rfl rfl) rfl ?_
              refine pu (puCall rfl rfl rfl (rjoin_fn e.stack wSemi (by have := (frames_ok g.frames).1; omega) (by have := g.stackSize; omega)) rfl) rfl ?_
              refine pu (buildV tab rfl rfl rfl rfl rfl rfl rfl rfl rfl) rfl ?_
              first | refine appendFl tab rfl rfl rfl rfl rfl rfl rfl rfl rfl rfl rfl rfl (lensB_mem rfl) (Nat.le_of_ble_eq_true rfl) ?_ | refine appendO tab rfl rfl rfl rfl rfl rfl rfl rfl rfl rfl rfl rfl rfl rfl ?_
              refine pu (ev tab rfl) rfl ?_
              refine WO.nil ?_
              refine qs ?_
              refine W.seq ?_
              refine W.region ?_
              refine pu (ev tab rfl) rfl ?_
              try refine unfl 73 rfl rfl ?_
              refine pu (puCall rfl rfl rfl (rjoinW_fn (wordsE e) wSpace (by unfold wordsE wordsF stackW showsB; rw [← u1, ← u2, ← u3, ← u4]; simp_all [sc, wSemi, wStop] <;> (intro q; exact (h49 q).1)) (by omega) w3) rfl) rfl ?_
              refine pu (ev tab rfl) rfl ?_
              refine WO.nil ?_
              refine qs ?_
              refine W.ret ?_
              refine QF.ret0 trivial rfl ?_
              rw [hg]; rfl
            · skip
              refine W.skip ?_
              refine qs ?_
              refine W.seq ?_
              refine W.region ?_
              refine pu (ev tab rfl) rfl ?_
              try refine unfl 73 rfl rfl ?_
              refine pu (puCall rfl rfl rfl (rjoinW_fn (wordsE e) wSpace (by unfold wordsE wordsF stackW showsB; rw [← u1, ← u2, ← u3, ← u4]; simp_all [sc, wSemi, wStop] <;> (intro q; exact (h49 q).1)) (by omega) w3) rfl) rfl ?_
              refine pu (ev tab rfl) rfl ?_
              refine WO.nil ?_
              refine qs ?_
              refine W.ret ?_
              refine QF.ret0 trivial rfl ?_
              rw [hg]; rfl
        · skip
          refine W.skip ?_
          refine qs ?_
          refine W.seq ?_
          refine W.seq ?_
          apply regionB; (case hb => rfl)
          · skip
            iterate 2 refine pu (ev tab rfl) rfl ?_
            apply splitJ; (case hj => rfl); (case hl => rfl)
            · skip
              refine goG rfl rfl ?_
              refine pu (ev tab rfl) rfl ?_
              refine goG rfl rfl ?_
              first | refine pu (ev tab rfl) rfl ?_ | refine pu (loadRow tab rfl rfl rfl rfl) rfl ?_ | refine pu (loadBox tab rfl rfl rfl rfl rfl) rfl ?_
              refine goG rfl rfl ?_
              refine pu (ev tab rfl) rfl ?_
              refine goG rfl rfl ?_
              iterate 2 refine pu (ev tab rfl) rfl ?_
              refine WO.nil ?_
              refine qv1 rfl rfl rfl
            · skip
              refine skipT rfl rfl rfl rfl ?_
              refine skipT rfl rfl rfl rfl ?_
              refine skipT rfl rfl rfl rfl ?_
              refine skipT rfl rfl rfl rfl ?_
              refine pu (ev tab rfl) rfl ?_
              refine WO.nil ?_
              refine qv1 rfl rfl rfl
          refine qs ?_
          refine condK rfl (fun h62 => ?_) (fun h62 => ?_)
          · skip
            refine W.region ?_
            refine pu (ev tab rfl) rfl ?_
            refine pu (buildV tab rfl rfl rfl rfl rfl rfl rfl rfl rfl) rfl ?_
            first | refine appendFl tab rfl rfl rfl rfl rfl rfl rfl rfl rfl rfl rfl rfl (lensB_mem rfl) (Nat.le_of_ble_eq_true rfl) ?_ | refine appendO tab rfl rfl rfl rfl rfl rfl rfl rfl rfl rfl rfl rfl rfl rfl ?_
            refine pu (ev tab rfl) rfl ?_
            refine WO.nil ?_
            refine qs ?_
            refine W.seq ?_
            refine W.region ?_
            refine pu (ev tab rfl) rfl ?_
            try refine unfl 73 rfl rfl ?_
            refine pu (puCall rfl rfl rfl (rjoinW_fn (wordsE e) wSpace (by unfold wordsE wordsF stackW showsB; rw [← u1, ← u2, ← u3, ← u4]; simp_all [sc, wSemi, wStop] <;> (intro q; exact (h49 q).1)) (by omega) w3) rfl) rfl ?_
            refine pu (ev tab rfl) rfl ?_
            refine WO.nil ?_
            refine qs ?_
            refine W.ret ?_
            refine QF.ret0 trivial rfl ?_
            rw [hg]; rfl
          · skip
            refine W.seq ?_
            refine W.region ?_
            refine pu (ev tab rfl) rfl ?_
            refine WO.nil ?_
            refine qs ?_
            refine condK rfl (fun h66 => ?_) (fun h66 => ?_)
            · skip
              refine W.region ?_
              iterate 2 refine pu (ev tab rfl) rfl ?_
              first | refine pu (ev tab rfl) rfl ?_ | refine pu (loadRow tab rfl rfl rfl rfl) rfl ?_ | refine pu (loadBox tab rfl rfl rfl rfl rfl) rfl ?_
              refine pu (puCall rfl rfl rfl (rjoin_fn e.stack wSemi (by have := (frames_ok g.frames).1; omega) (by have := g.stackSize; omega)) rfl) rfl ?_
              refine pu (buildV tab rfl rfl rfl rfl rfl rfl rfl rfl rfl) rfl ?_
              first | refine appendFl tab rfl rfl rfl rfl rfl rfl rfl rfl rfl rfl rfl rfl (lensB_mem rfl) (Nat.le_of_ble_eq_true rfl) ?_ | refine appendO tab rfl rfl rfl rfl rfl rfl rfl rfl rfl rfl rfl rfl rfl rfl ?_
              refine pu (ev tab rfl) rfl ?_
              refine WO.nil ?_
              refine qs ?_
              refine W.seq ?_
              refine W.region ?_
              refine pu (ev tab rfl) rfl ?_
              try refine unfl 73 rfl rfl ?_
              refine pu (puCall rfl rfl rfl (rjoinW_fn (wordsE e) wSpace (by unfold wordsE wordsF stackW showsB; rw [← u1, ← u2, ← u3, ← u4]; simp_all [sc, wSemi, wStop] <;> (intro q; exact (h49 q).1)) (by omega) w3) rfl) rfl ?_
              refine pu (ev tab rfl) rfl ?_
              refine WO.nil ?_
              refine qs ?_
              refine W.ret ?_
              refine QF.ret0 trivial rfl ?_
              rw [hg]; rfl
            · skip
              refine W.skip ?_
              refine qs ?_
              refine W.seq ?_
              refine W.region ?_
              refine pu (ev tab rfl) rfl ?_
              try refine unfl 73 rfl rfl ?_
              refine pu (puCall rfl rfl rfl (rjoinW_fn (wordsE e) wSpace (by unfold wordsE wordsF stackW showsB; rw [← u1, ← u2, ← u3, ← u4]; simp_all [sc, wSemi, wStop] <;> (intro q; exact (h49 q).1)) (by omega) w3) rfl) rfl ?_
              refine pu (ev tab rfl) rfl ?_
              refine WO.nil ?_
              refine qs ?_
              refine W.ret ?_
              refine QF.ret0 trivial rfl ?_
              rw [hg]; rfl
end Go.Proofs.YtifeonoehfffmaaDoor
namespace Go.Proofs.YtifeonoehfffmaaDoor
open Go.Ab Go.Tb
set_option maxRecDepth 10000
attribute [local irreducible] W WO Pu QS QB QL QF QV QV1 CH QE
@[reducible] def ev0n : List A := [.d (ci 0), .d (ci 0), .d (cs (B #[])), .d (ci 0), .d (ci 0), .d (.v (.slice none 0 0))]
@[reducible] def evB (t k : Int) (name : ByteArray) (n m : Int) : List A := [.d (ci t), .d (ci k), .d (cs name), .d (ci n), .d (ci m), .d (.v (.slice none 0 0))]
theorem kindF_fn (w : ByteArray) : Does Tryd.prog 36 [.d (.sl (frms.map Frm.c)), .clo 38 [.row [.d (.v (.string w))]]] (.d (.v (.int .i64 (kindW w)))) 0 :=
  idxFrm_fn _ _ ⟨fun _ _ => rfl, rfl⟩ _ (isWord_fn w) frms
theorem eparse_fn (s : ByteArray) (hs : s.size ≤ 1000000) : Does Tryd.prog 15 [.d (.v (.string s))] (.tup [.ag (parseE s).1.c, .d (.v (.int .i64 (parseE s).2))]) 0 := by
  refine Does.of_V tab (n := 84) (rs := [.cell 2 25, .tmp 3]) Tryd.func15 (by kernel_rfl) rfl Tryd.ntmps15 Tryd.results15 rfl fun C hC hG => ?_
  refine W.seq ?_
  refine W.region ?_
  refine allocR tab rfl rfl rfl ?_
  refine pu (ev tab rfl) rfl ?_
  refine WO.nil ?_
  refine qs ?_
  refine W.seq ?_
  refine W.seq ?_
  refine W.region ?_
  iterate 3 refine pu (ev tab rfl) rfl ?_
  refine WO.nil ?_
  refine qs ?_
  refine condK rfl (fun h13 => ?_) (fun h13 => ?_)
  · skip
    have hg : parseE s = (ev0, 7) := by unfold parseE; rw [if_pos (by simp at h13; omega)]
    refine W.seq ?_
    refine W.region ?_
    refine pu (build tab rfl rfl rfl rfl) rfl ?_
    refine storeR tab rfl rfl rfl rfl rfl rfl rfl rfl ?_
    refine pu (ev tab rfl) rfl ?_
    refine WO.nil ?_
    refine qs ?_
    try refine nilBox 0 5 rfl rfl rfl ?_
    refine W.ret ?_
    refine qsRet ?_
    refine QV.ret0 tab trivial rfl ?_
    rw [hg]; rfl
  · skip
    have h2000 : ¬ 2000 < s.size := by simp at h13; omega
    have hsz := cutB_le (s := s) (c := 32) (m := 2000) (by omega)
    have hg0 : parseE s = if kindW (takeW (takeN (cutB s 32, false)).2).1 < 0 then (ev0, 10) else if (readP (cutB s 32)).2.2 = true ∨ 0 < (readP (cutB s 32)).2.1.length ∨ textE (readP (cutB s 32)).1 ≠ s then (ev0, 10) else ((readP (cutB s 32)).1, 0) := by unfold parseE; rw [if_neg h2000]
    generalize hws : cutB s 32 = ws at hg0 hsz
    refine W.skip ?_
    refine qs ?_
    refine W.seq ?_
    refine W.region ?_
    refine pu (ev tab rfl) rfl ?_
    refine pu (puCall rfl rfl rfl (hws ▸ split_fn s 32 hs) rfl) rfl ?_
    refine pu (build tab rfl rfl rfl rfl) rfl ?_
    refine boxR rfl rfl rfl ?_
    refine pu (ev tab rfl) rfl ?_
    refine WO.nil ?_
    refine qs ?_
    refine W.seq ?_
    refine W.region ?_
    refine pu (ev tab rfl) rfl ?_
    refine callB [1] [] rfl rfl rfl rfl rfl ((takeNum_fn ws false (Nat.le_trans (hd_le hsz) (by decide)))) rfl rfl (by rfl) (by rfl) rfl rfl rfl rfl ?_
    refine pu (build tab rfl rfl rfl rfl) rfl ?_
    refine allocR tab rfl rfl rfl ?_
    refine storeR tab rfl rfl rfl rfl rfl rfl rfl rfl ?_
    refine WO.nil ?_
    refine qs ?_
    refine W.seq ?_
    refine W.region ?_
    refine pu (ev tab rfl) rfl ?_
    refine callB [1] [] rfl rfl rfl rfl rfl ((take_fn _ _)) rfl rfl (by rfl) (by rfl) rfl rfl rfl rfl ?_
    refine allocR tab rfl rfl rfl ?_
    refine storeR tab rfl rfl rfl rfl rfl rfl rfl rfl ?_
    refine WO.nil ?_
    refine qs ?_
    refine W.seq ?_
    refine W.region ?_
    refine pu (puCall rfl rfl rfl forms_fn rfl) rfl ?_
    refine pu (ev tab rfl) rfl ?_
    refine pu (puCall rfl rfl rfl (kindF_fn _) rfl) rfl ?_
    refine pu (ev tab rfl) rfl ?_
    refine WO.nil ?_
    refine qs ?_
    refine W.seq ?_
    refine W.seq ?_
    refine W.region ?_
    iterate 2 refine pu (ev tab rfl) rfl ?_
    refine WO.nil ?_
    refine qs ?_
    refine condK rfl (fun h28 => ?_) (fun h28 => ?_)
    · skip
      have hg : parseE s = (ev0, 10) := by rw [hg0, if_pos (by simpa [takeW, takeN] using h28)]
      refine W.seq ?_
      refine W.region ?_
      refine pu (build tab rfl rfl rfl rfl) rfl ?_
      refine storeR tab rfl rfl rfl rfl rfl rfl rfl rfl ?_
      refine pu (ev tab rfl) rfl ?_
      refine WO.nil ?_
      refine qs ?_
      try refine nilBox 0 5 rfl rfl rfl ?_
      refine W.ret ?_
      refine qsRet ?_
      refine QV.ret0 tab trivial rfl ?_
      rw [hg]; rfl
    · skip
      have hkn : ¬ kindW (takeW (takeN (ws, false)).2).1 < 0 := by simpa [takeW, takeN] using h28
      rw [if_neg hkn] at hg0
      obtain ⟨K, hK⟩ : ∃ K, K = kindW (takeW (takeN (ws, false)).2).1 := ⟨_, rfl⟩
      obtain ⟨S2, hS⟩ : ∃ S2, S2 = (takeW (takeN (ws, false)).2).2 := ⟨_, rfl⟩
      obtain ⟨T0, hT⟩ : ∃ T0, T0 = (takeN (ws, false)).1 := ⟨_, rfl⟩
      obtain ⟨c, hC⟩ : ∃ c, c = if (frmOf K).name then takeW S2 else (B #[], S2) := ⟨_, rfl⟩
      obtain ⟨d, hD⟩ : ∃ d, d = if (frmOf K).n then takeN c.2 else (0, c.2) := ⟨_, rfl⟩
      obtain ⟨m, hM⟩ : ∃ m, m = if showsB (frmOf K) d.1 then takeN d.2 else (0, d.2) := ⟨_, rfl⟩
      obtain ⟨t, hTt⟩ : ∃ t, t = if (frmOf K).stack then takeW m.2 else (wSemi, m.2) := ⟨_, rfl⟩
      obtain ⟨st, hst⟩ : ∃ st, st = if t.1 = wSemi then [] else cutB t.1 59 := ⟨_, rfl⟩
      have hR : readP ws = (⟨T0, K, c.1, d.1, m.1, st⟩, t.2) := by subst hst; subst hTt; subst hM; subst hD; subst hC; subst hT; subst hS; subst hK; rfl
      rw [hR] at hg0
      have z2 : ∀ w ∈ S2.1, w.size ≤ 2000 := by rw [hS]; exact tl_le (tl_le hsz)
      have zc : ∀ w ∈ c.2.1, w.size ≤ 2000 := by rw [hC]; split; exact tl_le z2; exact z2
      have zd : ∀ w ∈ d.2.1, w.size ≤ 2000 := by rw [hD]; split; exact tl_le zc; exact zc
      have zm : ∀ w ∈ m.2.1, w.size ≤ 2000 := by rw [hM]; split; exact tl_le zd; exact zd
      refine W.skip ?_
      refine qs ?_
      refine W.seq ?_
      refine W.region ?_
      iterate 2 refine pu (ev tab rfl) rfl ?_
      refine storeR tab rfl rfl rfl rfl rfl rfl rfl rfl ?_
      refine WO.nil ?_
      refine qs ?_
      refine W.seq ?_
      refine W.region ?_
      refine pu (ev tab rfl) rfl ?_
      first | refine pu (ev tab rfl) rfl ?_ | refine pu (loadRow tab rfl rfl rfl rfl) rfl ?_ | refine pu (loadBox tab rfl rfl rfl rfl rfl) rfl ?_
      refine pu (puCall rfl rfl rfl (formOf_fn (kindW _)) rfl) rfl ?_
      iterate 3 refine pu (ev tab rfl) rfl ?_
      refine allocR tab rfl rfl rfl ?_
      refine storeR tab rfl rfl rfl rfl rfl rfl rfl rfl ?_
      refine pu (ev tab rfl) rfl ?_
      refine WO.nil ?_
      refine qs ?_
      refine W.seq ?_
      refine W.seq ?_
      refine W.region ?_
      refine pu (ev tab rfl) rfl ?_
      first | refine pu (ev tab rfl) rfl ?_ | refine pu (loadRow tab rfl rfl rfl rfl) rfl ?_ | refine pu (loadBox tab rfl rfl rfl rfl rfl) rfl ?_
      refine WO.nil ?_
      refine qs ?_
      refine W.cutS [(0, .d (.v (.string (s)))), (2, .ptr 0 0), (4, .ptr 1 0), (5, .ptr 2 0), (8, .ptr 3 0)] [] [(0, ev0n), (1, rb c.2.1 c.2.2), (2, evB T0 K c.1 0 0), (3, (frmOf K).c.map A.d)] [] [] 4 ?_ ?_
      · skip
        refine condK rfl (fun h39 => ?_) (fun h39 => ?_)
        · skip
          have hc' : c = takeW S2 := by rw [hC, hK]; exact if_pos h39
          refine W.region ?_
          refine pu (ev tab rfl) rfl ?_
          refine callB [1] [] rfl rfl rfl rfl rfl ((take_fn _ _)) rfl rfl (by rfl) (by rfl) rfl rfl rfl rfl ?_
          refine pu (ev tab rfl) rfl ?_
          refine storeR tab rfl rfl rfl rfl rfl rfl rfl rfl ?_
          refine WO.nil ?_
          refine cutEnd [0, 1, 3, 6] rfl ?_ trivial ?_ trivial rfl
          · repeat' first | exact trivial | refine ⟨rfl, ?_⟩ | refine ⟨step_nat (by assumption) (by assumption), ?_⟩
          · rw [hc', hS, hK, hT]
            repeat' first | exact trivial | refine ⟨rfl, ?_⟩
        · skip
          have hc' : c = (B #[], S2) := by rw [hC, hK]; exact if_neg (fun q => Bool.noConfusion (q.symm.trans h39))
          refine W.skip ?_
          refine cutEnd [0, 1, 3, 6] rfl ?_ trivial ?_ trivial rfl
          · repeat' first | exact trivial | refine ⟨rfl, ?_⟩ | refine ⟨step_nat (by assumption) (by assumption), ?_⟩
          · rw [hc', hS, hK, hT]
            repeat' first | exact trivial | refine ⟨rfl, ?_⟩
      refine qs ?_
      refine W.seq ?_
      refine W.seq ?_
      refine W.region ?_
      refine pu (ev tab rfl) rfl ?_
      first | refine pu (ev tab rfl) rfl ?_ | refine pu (loadRow tab rfl rfl rfl rfl) rfl ?_ | refine pu (loadBox tab rfl rfl rfl rfl rfl) rfl ?_
      refine WO.nil ?_
      refine qs ?_
      refine W.cutS [(0, .d (.v (.string (s)))), (2, .ptr 0 0), (4, .ptr 1 0), (5, .ptr 2 0), (8, .ptr 3 0)] [] [(0, ev0n), (1, rb d.2.1 d.2.2), (2, evB T0 K c.1 d.1 0), (3, (frmOf K).c.map A.d)] [] [] 4 ?_ ?_
      · skip
        refine condK rfl (fun h44 => ?_) (fun h44 => ?_)
        · skip
          have hd' : d = takeN c.2 := by rw [hD]; exact if_pos h44
          refine W.region ?_
          refine pu (ev tab rfl) rfl ?_
          refine callB [1] [] rfl rfl rfl rfl rfl ((takeNum_fn c.2.1 c.2.2 (Nat.le_trans (hd_le zc) (by decide)))) rfl rfl (by rfl) (by rfl) rfl rfl rfl rfl ?_
          refine pu (ev tab rfl) rfl ?_
          refine storeR tab rfl rfl rfl rfl rfl rfl rfl rfl ?_
          refine WO.nil ?_
          refine cutEnd [0, 1, 2, 3] rfl ?_ trivial ?_ trivial rfl
          · repeat' first | exact trivial | refine ⟨rfl, ?_⟩ | refine ⟨step_nat (by assumption) (by assumption), ?_⟩
          · rw [hd']
            repeat' first | exact trivial | refine ⟨rfl, ?_⟩
        · skip
          have hd' : d = (0, c.2) := by rw [hD]; exact if_neg (fun q => Bool.noConfusion (q.symm.trans h44))
          refine W.skip ?_
          refine cutEnd [0, 1, 2, 3] rfl ?_ trivial ?_ trivial rfl
          · repeat' first | exact trivial | refine ⟨rfl, ?_⟩ | refine ⟨step_nat (by assumption) (by assumption), ?_⟩
          · rw [hd']
            repeat' first | exact trivial | refine ⟨rfl, ?_⟩
      refine qs ?_
      refine W.seq ?_
      refine W.seq ?_
      refine W.region ?_
      first | refine pu (ev tab rfl) rfl ?_ | refine pu (loadRow tab rfl rfl rfl rfl) rfl ?_ | refine pu (loadBox tab rfl rfl rfl rfl rfl) rfl ?_
      refine pu (ev tab rfl) rfl ?_
      first | refine pu (ev tab rfl) rfl ?_ | refine pu (loadRow tab rfl rfl rfl rfl) rfl ?_ | refine pu (loadBox tab rfl rfl rfl rfl rfl) rfl ?_
      refine pu (puCall rfl rfl rfl (shows_fn (frmOf K) d.1) rfl) rfl ?_
      refine WO.nil ?_
      refine qs ?_
      refine W.cutS [(0, .d (.v (.string (s)))), (2, .ptr 0 0), (4, .ptr 1 0), (5, .ptr 2 0), (8, .ptr 3 0)] [] [(0, ev0n), (1, rb m.2.1 m.2.2), (2, evB T0 K c.1 d.1 m.1), (3, (frmOf K).c.map A.d)] [] [] 4 ?_ ?_
      · skip
        refine condK rfl (fun h51 => ?_) (fun h51 => ?_)
        · skip
          have hm' : m = takeN d.2 := by rw [hM]; exact if_pos h51
          refine W.region ?_
          refine pu (ev tab rfl) rfl ?_
          refine callB [1] [] rfl rfl rfl rfl rfl ((takeNum_fn d.2.1 d.2.2 (Nat.le_trans (hd_le zd) (by decide)))) rfl rfl (by rfl) (by rfl) rfl rfl rfl rfl ?_
          refine pu (ev tab rfl) rfl ?_
          refine storeR tab rfl rfl rfl rfl rfl rfl rfl rfl ?_
          refine WO.nil ?_
          refine cutEnd [0, 1, 2, 3] rfl ?_ trivial ?_ trivial rfl
          · repeat' first | exact trivial | refine ⟨rfl, ?_⟩ | refine ⟨step_nat (by assumption) (by assumption), ?_⟩
          · rw [hm']
            repeat' first | exact trivial | refine ⟨rfl, ?_⟩
        · skip
          have hm' : m = (0, d.2) := by rw [hM]; exact if_neg (fun q => Bool.noConfusion (q.symm.trans h51))
          refine W.skip ?_
          refine cutEnd [0, 1, 2, 3] rfl ?_ trivial ?_ trivial rfl
          · repeat' first | exact trivial | refine ⟨rfl, ?_⟩ | refine ⟨step_nat (by assumption) (by assumption), ?_⟩
          · rw [hm']
            repeat' first | exact trivial | refine ⟨rfl, ?_⟩
      refine qs ?_
      refine W.seq ?_
      refine W.seq ?_
      refine W.region ?_
      refine pu (ev tab rfl) rfl ?_
      first | refine pu (ev tab rfl) rfl ?_ | refine pu (loadRow tab rfl rfl rfl rfl) rfl ?_ | refine pu (loadBox tab rfl rfl rfl rfl rfl) rfl ?_
      refine WO.nil ?_
      refine qs ?_
      refine W.cutS [(0, .d (.v (.string (s)))), (2, .ptr 0 0), (4, .ptr 1 0), (5, .ptr 2 0), (8, .ptr 3 0)] [] [(0, ev0n), (1, rb t.2.1 t.2.2), (2, (Ev.mk T0 K c.1 d.1 m.1 st).c.map A.d), (3, (frmOf K).c.map A.d)] [] [] 4 ?_ ?_
      · skip
        refine condK rfl (fun h56 => ?_) (fun h56 => ?_)
        · skip
          have ht' : t = takeW m.2 := by rw [hTt]; exact if_pos h56
          refine W.seq ?_
          refine W.region ?_
          refine pu (ev tab rfl) rfl ?_
          refine callB [1] [] rfl rfl rfl rfl rfl ((take_fn m.2.1 m.2.2)) rfl rfl (by rfl) (by rfl) rfl rfl rfl rfl ?_
          refine pu (ev tab rfl) rfl ?_
          refine WO.nil ?_
          refine qs ?_
          refine W.seq ?_
          refine W.region ?_
          iterate 2 refine pu (ev tab rfl) rfl ?_
          refine WO.nil ?_
          refine qs ?_
          refine condK rfl (fun h60 => ?_) (fun h60 => ?_)
          · skip
            have hst' : st = cutB (m.2.1.headD (B #[])) 59 := by rw [hst, ht']; exact if_neg (show ¬ m.2.1.headD (B #[]) = wSemi from of_decide_eq_false (by rw [Bool.not_eq_true'] at h60; exact h60))
            refine W.region ?_
            refine pu (ev tab rfl) rfl ?_
            refine pu (puCall rfl rfl rfl (split_fn (m.2.1.headD (B #[])) 59 (Nat.le_trans (hd_le zm) (by decide))) rfl) rfl ?_
            refine pu (ev tab rfl) rfl ?_
            refine storeR tab rfl rfl rfl rfl rfl rfl rfl rfl ?_
            refine WO.nil ?_
            refine cutEnd [0, 1, 2, 3] rfl ?_ trivial ?_ trivial rfl
            · repeat' first | exact trivial | refine ⟨rfl, ?_⟩ | refine ⟨step_nat (by assumption) (by assumption), ?_⟩
            · rw [hst', ht']
              repeat' first | exact trivial | refine ⟨rfl, ?_⟩
          · skip
            have hst' : st = [] := by rw [hst, ht']; exact if_pos (show m.2.1.headD (B #[]) = wSemi from of_decide_eq_true (by rw [Bool.not_eq_false'] at h60; exact h60))
            refine nilBox 2 5 rfl rfl rfl ?_
            refine W.skip ?_
            refine cutEnd [0, 1, 2, 3] rfl ?_ trivial ?_ trivial rfl
            · repeat' first | exact trivial | refine ⟨rfl, ?_⟩ | refine ⟨step_nat (by assumption) (by assumption), ?_⟩
            · rw [hst', ht']
              repeat' first | exact trivial | refine ⟨rfl, ?_⟩
        · skip
          have ht' : t = (wSemi, m.2) := by rw [hTt]; exact if_neg (fun q => Bool.noConfusion (q.symm.trans h56))
          have hst' : st = [] := by rw [hst, ht']; exact if_pos rfl
          refine nilBox 2 5 rfl rfl rfl ?_
          refine W.skip ?_
          refine cutEnd [0, 1, 2, 3] rfl ?_ trivial ?_ trivial rfl
          · repeat' first | exact trivial | refine ⟨rfl, ?_⟩ | refine ⟨step_nat (by assumption) (by assumption), ?_⟩
          · rw [hst', ht']
            repeat' first | exact trivial | refine ⟨rfl, ?_⟩
      refine qs ?_
      refine W.seq ?_
      refine W.seq ?_
      apply regionB; (case hb => rfl)
      · skip
        iterate 3 refine pu (ev tab rfl) rfl ?_
        first | refine pu (ev tab rfl) rfl ?_ | refine pu (loadRow tab rfl rfl rfl rfl) rfl ?_ | refine pu (loadBox tab rfl rfl rfl rfl rfl) rfl ?_
        refine pu (ev tab rfl) rfl ?_
        apply splitJ; (case hj => rfl); (case hl => rfl)
        · skip
          refine skipT rfl rfl rfl rfl ?_
          refine skipT rfl rfl rfl rfl ?_
          refine skipT rfl rfl rfl rfl ?_
          refine skipT rfl rfl rfl rfl ?_
          refine skipT rfl rfl rfl rfl ?_
          refine skipT rfl rfl rfl rfl ?_
          iterate 2 refine pu (ev tab rfl) rfl ?_
          refine skipT rfl rfl rfl rfl ?_
          refine skipT rfl rfl rfl rfl ?_
          refine skipT rfl rfl rfl rfl ?_
          refine skipT rfl rfl rfl rfl ?_
          refine pu (ev tab rfl) rfl ?_
          refine WO.nil ?_
          refine qv1 rfl rfl rfl
        · skip
          refine goG rfl rfl ?_
          refine pu (ev tab rfl) rfl ?_
          refine goG rfl rfl ?_
          refine pu (ev tab rfl) rfl ?_
          refine goG rfl rfl ?_
          refine pu (ev tab rfl) rfl ?_
          refine goG rfl rfl ?_
          first | refine pu (ev tab rfl) rfl ?_ | refine pu (loadRow tab rfl rfl rfl rfl) rfl ?_ | refine pu (loadBox tab rfl rfl rfl rfl rfl) rfl ?_
          refine goG rfl rfl ?_
          refine pu (ev tab rfl) rfl ?_
          refine goG rfl rfl ?_
          iterate 3 refine pu (ev tab rfl) rfl ?_
          apply splitJ; (case hj => rfl); (case hl => rfl)
          · skip
            refine skipT rfl rfl rfl rfl ?_
            refine skipT rfl rfl rfl rfl ?_
            refine skipT rfl rfl rfl rfl ?_
            refine skipT rfl rfl rfl rfl ?_
            refine pu (ev tab rfl) rfl ?_
            refine WO.nil ?_
            refine qv1 rfl rfl rfl
          · skip
            refine goG rfl rfl ?_
            first | refine pu (ev tab rfl) rfl ?_ | refine pu (loadRow tab rfl rfl rfl rfl) rfl ?_ | refine pu (loadBox tab rfl rfl rfl rfl rfl) rfl ?_
            refine goG rfl rfl ?_
            refine pu (puCall rfl rfl rfl (etext_fn (Ev.mk T0 K c.1 d.1 m.1 st)) rfl) rfl ?_
            refine goG rfl rfl ?_
            refine pu (ev tab rfl) rfl ?_
            refine goG rfl rfl ?_
            iterate 2 refine pu (ev tab rfl) rfl ?_
            refine WO.nil ?_
            refine qv1 rfl rfl rfl
      refine qs ?_
      refine condK rfl (fun h81 => ?_) (fun h81 => ?_)
      · skip
        refine W.seq ?_
        refine W.region ?_
        refine pu (build tab rfl rfl rfl rfl) rfl ?_
        refine storeR tab rfl rfl rfl rfl rfl rfl rfl rfl ?_
        refine pu (ev tab rfl) rfl ?_
        refine WO.nil ?_
        refine qs ?_
        try refine nilBox 0 5 rfl rfl rfl ?_
        refine W.ret ?_
        refine qsRet ?_
        refine QV.ret0 tab trivial rfl ?_
        have hg : parseE s = (ev0, 10) := by
          rw [hg0, if_pos]
          revert h81
          cases t.2.2 <;> by_cases q : 0 < t.2.1.length <;> simp [q, txs]
        rw [hg]
        rfl
      · skip
        refine W.skip ?_
        refine qs ?_
        refine W.seq ?_
        refine W.region ?_
        first | refine pu (ev tab rfl) rfl ?_ | refine pu (loadRow tab rfl rfl rfl rfl) rfl ?_ | refine pu (loadBox tab rfl rfl rfl rfl rfl) rfl ?_
        refine storeR tab rfl rfl rfl rfl rfl rfl rfl rfl ?_
        refine pu (ev tab rfl) rfl ?_
        refine WO.nil ?_
        refine qs ?_
        try refine nilBox 0 5 rfl rfl rfl ?_
        refine W.ret ?_
        refine QV.ret0 tab trivial rfl ?_
        have hg : parseE s = (Ev.mk T0 K c.1 d.1 m.1 st, 0) := by
          rw [hg0, if_neg]
          revert h81
          cases t.2.2 <;> by_cases q : 0 < t.2.1.length <;> simp [q, txs]
        rw [hg]
        rfl
end Go.Proofs.YtifeonoehfffmaaDoor
namespace Go.Proofs.YtifeonoehfffmaaDoor
open Go.Ab Go.Tb
set_option maxRecDepth 10000
attribute [local irreducible] W WO Pu QS QB QL QF QV QV1 CH QE
/-- the error of consecutive events -/
def allE : List Ev → Option Int → Int
  | [], _ => 0
  | e :: r, last => if checkE e ≠ 0 then checkE e else if (match last with | some t => decide (e.time < t) | none => false) = true then 11 else allE r (some e.time)
def lastT (l : List Ev) (k : Nat) : Option Int := if k = 0 then none else (l[k - 1]?).map Ev.time
theorem sub_one {k : Nat} (h : 0 < k) (hm : (k : Int) ≤ 9223372036854775807) : IntKind.i64.wrap ((k : Int) - 1) = ((k - 1 : Nat) : Int) := by
  rw [wrap64 (by omega)]
  omega
theorem checkAll_fn (l : List Ev) : Does Tryd.prog 19 [.d (.sl (l.map Ev.c))] (.d (.v (.int .i64 (allE l none)))) 0 := by
  refine Does.of_W (n := 32) (ts := [2]) Tryd.func19 (by kernel_rfl) rfl Tryd.ntmps19 Tryd.results19 rfl rfl fun C hC hG => ?_
  refine W.seq ?_
  refine W.region ?_
  refine pu (ev tab rfl) rfl ?_
  refine WO.nil ?_
  refine qs ?_
  refine W.seq ?_
  refine W.seq ?_
  refine W.region ?_
  iterate 3 refine pu (ev tab rfl) rfl ?_
  refine WO.nil ?_
  refine qs ?_
  refine W.block ?_
  refine W.len (t := 0) rfl rfl (fun hlen => ?_)
  try simp only [List.length_map, Ex.kc_len] at hlen
  refine W.loopR (ι := {x : Nat // match x with | k => k ≤ l.length ∧ allE (l.drop k) (lastT l k) = allE l none})
    (fun x => match x.1 with | k => [(8, .d (.v (.int .i64 ((k : Nat) : Int))))]) [(0, _), (6, _), (7, _)]
    (fun x => match x.1 with | k => []) [] [] 0 (fun x => match x.1 with | k => l.length - k)
    [] ⟨0, ?_⟩ rfl ?_ ⟨rfl, rfl, rfl, rfl, rfl, rfl, trivial⟩ ?_ trivial rfl ?_
  · exact ⟨Nat.zero_le _, rfl⟩
  · repeat' first | exact trivial | refine ⟨rfl, ?_⟩ | refine ⟨step_nat (by assumption) (by assumption), ?_⟩
  · repeat' first | exact trivial | refine ⟨rfl, ?_⟩ | refine ⟨step_nat (by assumption) (by assumption), ?_⟩
  rintro ⟨k, hk, hI⟩
  show W _ _ _ _ _ ⟨[(8, .d (.v (.int .i64 ((k : Nat) : Int)))), (0, _), (6, _), (7, _)], [], [], 0⟩
  refine W.seq ?_
  refine W.region ?_
  refine pu (ev tab rfl) rfl ?_
  refine WO.nil ?_
  refine qs ?_
  refine W.seq ?_
  refine eachR (l := l) (k := k) rfl (by simp [Ex.kc_len, bytes_len]) hk (fun e hx hd hlt => ?_) (fun he hd => ?_)
  · skip
    rw [hd] at hI
    simp only [allE] at hI
    obtain ⟨p, hp⟩ : ∃ p : Ev, 0 < k → l[k - 1]? = some p := ⟨l[k - 1]'(by omega), fun _ => by simp⟩
    have hlast : (match lastT l k with | some t => decide (e.time < t) | none => false) = (decide (0 < k) && decide (e.time < p.time)) := by
      unfold lastT
      by_cases q : k = 0
      · simp [q]
      · rw [if_neg q, hp (by omega)]; simp; omega
    rw [hlast] at hI
    have hnext : lastT l (k + 1) = some e.time := by unfold lastT; rw [if_neg (by omega), Nat.add_sub_cancel, hx]; rfl
    refine W.skip ?_
    refine qs ?_
    refine W.seq ?_
    refine W.block ?_
    refine W.seq ?_
    refine W.region ?_
    refine pu (ev tab rfl) rfl ?_
    refine pu (indexAddr tab rfl rfl rfl rfl rfl rfl (Int.natCast_nonneg _) (idx_map hx) rfl) rfl ?_
    first | refine pu (ev tab rfl) rfl ?_ | refine pu (loadRow tab rfl rfl rfl rfl) rfl ?_ | refine pu (loadBox tab rfl rfl rfl rfl rfl) rfl ?_
    refine allocR tab rfl rfl rfl ?_
    refine pu (ev tab rfl) rfl ?_
    refine storeR tab rfl rfl rfl rfl rfl rfl rfl rfl ?_
    refine WO.nil ?_
    refine qs ?_
    refine W.seq ?_
    refine W.seq ?_
    refine W.region ?_
    first | refine pu (ev tab rfl) rfl ?_ | refine pu (loadRow tab rfl rfl rfl rfl) rfl ?_ | refine pu (loadBox tab rfl rfl rfl rfl rfl) rfl ?_
    refine pu (puCall rfl rfl rfl (echeck_fn e) rfl) rfl ?_
    refine pu (ev tab rfl) rfl ?_
    refine WO.nil ?_
    refine qs ?_
    refine W.seq ?_
    refine W.region ?_
    iterate 2 refine pu (ev tab rfl) rfl ?_
    refine WO.nil ?_
    refine qs ?_
    refine condK rfl (fun h16 => ?_) (fun h16 => ?_)
    · skip
      have hc : checkE e ≠ 0 := by simpa using h16
      rw [if_pos hc] at hI
      refine W.seq ?_
      refine W.region ?_
      iterate 2 refine pu (ev tab rfl) rfl ?_
      refine WO.nil ?_
      refine qs ?_
      refine W.ret ?_
      refine qsRet ?_
      refine qbRet ?_
      refine qsRet ?_
      refine qlRet ?_
      refine qbRet ?_
      refine qsRet ?_
      refine QF.ret0 trivial rfl ?_
      simp only [norm, oneA, ← hI]
    · skip
      have hc : checkE e = 0 := by simpa using h16
      rw [if_neg (by simp [hc])] at hI
      refine W.skip ?_
      refine qs ?_
      refine W.seq ?_
      apply regionDB tab; (case hb => rfl); (case hB => kernel_rfl)
      · skip
        refine chPu (ev tab rfl) rfl ?_
        refine chPu (ev tab rfl) rfl ?_
        refine chPu (ev tab rfl) rfl ?_
        apply chSplitH; (case hj => rfl); (case hl => rfl)
        · intro g20
          refine chGo rfl rfl (ev tab rfl) rfl ?_
          first | refine chGo rfl rfl (ev tab rfl) rfl ?_ | refine chGo rfl rfl (loadRow tab rfl rfl rfl rfl) rfl ?_ | refine chGo rfl rfl (loadBox tab rfl rfl rfl rfl rfl) rfl ?_
          refine chGo rfl rfl (ev tab rfl) rfl ?_
          refine chGo rfl rfl (ev tab rfl) rfl ?_
          refine chGo rfl rfl (puI (ev tab rfl) (y := ((k - 1 : Nat) : Int)) (sub_one (by simpa using g20) (by simp only [maxLen] at hlen; omega))) rfl ?_
          refine chGo rfl rfl (indexAddr (l := p.c) tab rfl rfl rfl rfl rfl rfl (Int.natCast_nonneg _) (idx_map (hp (by simpa using g20))) rfl) rfl ?_
          refine chGo rfl rfl (ev tab rfl) rfl ?_
          first | refine chGo rfl rfl (ev tab rfl) rfl ?_ | refine chGo rfl rfl (loadRow tab rfl rfl rfl rfl) rfl ?_ | refine chGo rfl rfl (loadBox tab rfl rfl rfl rfl rfl) rfl ?_
          refine chGo rfl rfl (ev tab rfl) rfl ?_
          refine chPu (ev tab rfl) rfl ?_
          refine CH.nil ?_
          refine qv1 rfl rfl rfl
        · intro g20
          refine chSkip rfl rfl rfl rfl ?_
          refine chSkip rfl rfl rfl rfl ?_
          refine chSkip rfl rfl rfl rfl ?_
          refine chSkip rfl rfl rfl rfl ?_
          refine chSkip rfl rfl rfl rfl ?_
          refine chSkip rfl rfl rfl rfl ?_
          refine chSkip rfl rfl rfl rfl ?_
          refine chSkip rfl rfl rfl rfl ?_
          refine chSkip rfl rfl rfl rfl ?_
          refine chPu (ev tab rfl) rfl ?_
          refine CH.nil ?_
          refine qv1 rfl rfl rfl
      refine qs ?_
      refine condK rfl (fun h30 => ?_) (fun h30 => ?_)
      · skip
        have hc2 : (decide (0 < k) && decide (e.time < p.time)) = true := by simp at h30 ⊢; omega
        rw [if_pos hc2] at hI
        refine W.seq ?_
        refine W.region ?_
        refine pu (ev tab rfl) rfl ?_
        refine WO.nil ?_
        refine qs ?_
        refine W.ret ?_
        refine qbRet ?_
        refine qsRet ?_
        refine qlRet ?_
        refine qbRet ?_
        refine qsRet ?_
        refine QF.ret0 trivial rfl ?_
        simp only [norm, oneA, ← hI]
      · skip
        have hc2 : (decide (0 < k) && decide (e.time < p.time)) = false := by simp at h30 ⊢; omega
        rw [if_neg (by rw [hc2]; decide)] at hI
        refine W.skip ?_
        refine qbN ?_
        refine qs ?_
        refine W.region ?_
        iterate 2 refine pu (ev tab rfl) rfl ?_
        refine WO.nil ?_
        refine W.endR [] ⟨k + 1, ?_⟩ ?_ rfl ?_ ⟨rfl, rfl, rfl, rfl, rfl, rfl, trivial⟩ ?_ trivial rfl
        · exact ⟨hlt, by rw [hnext]; exact hI⟩
        · dsimp only; omega
        · repeat' first | exact trivial | refine ⟨rfl, ?_⟩ | refine ⟨step_nat (by assumption) (by assumption), ?_⟩
        · repeat' first | exact trivial | refine ⟨rfl, ?_⟩ | refine ⟨step_nat (by assumption) (by assumption), ?_⟩
  · skip
    rw [hd] at hI
    simp only [allE] at hI
    refine W.exit ?_
    refine qsExit ?_
    refine qlExit ?_
    refine qbExit ?_
    refine qs ?_
    refine W.seq ?_
    refine W.region ?_
    refine pu (ev tab rfl) rfl ?_
    refine WO.nil ?_
    refine qs ?_
    refine W.ret ?_
    refine QF.ret0 trivial rfl ?_
    simp only [norm, oneA, ← hI]
end Go.Proofs.YtifeonoehfffmaaDoor
namespace Go.Proofs.YtifeonoehfffmaaDoor
open Go.Ab Go.Tb
set_option maxRecDepth 10000
attribute [local irreducible] W WO Pu QS QB QL QF QV QV1 CH QE
theorem read_fn (ws : List ByteArray) (h0 : 0 < ws.length) (hl : ws.length ≤ 100000) (hsz : ∀ w ∈ ws, w.size ≤ 1000000) : Does Tryd.prog 40 [.d (.sl (txs ws))] (.ag (readR ws).c) 0 := by
  obtain ⟨T0, hT⟩ : ∃ T0, T0 = (numP (wordAt ws 0)).1 := ⟨_, rfl⟩
  obtain ⟨K, hK⟩ : ∃ K, K = kindR ws 12 := ⟨_, rfl⟩
  obtain ⟨a, hA⟩ : ∃ a, a = nameR ws K := ⟨_, rfl⟩
  obtain ⟨n, hN⟩ : ∃ n, n = numRd (usesN K) ws a.2 := ⟨_, rfl⟩
  obtain ⟨m, hM⟩ : ∃ m, m = numRd (usesM K) ws n.2 := ⟨_, rfl⟩
  obtain ⟨st, hS⟩ : ∃ st, st = stackR (usesStack K) ws m.2 := ⟨_, rfl⟩
  have hR : readR ws = ⟨T0, K, a.1, n.1, m.1, st⟩ := by subst hS; subst hM; subst hN; subst hA; subst hK; subst hT; rfl
  have ha3 : a.2 ≤ 3 := by rw [hA]; unfold nameR; split <;> simp
  have hn4 : n.2 ≤ 4 := by rw [hN]; unfold numRd; split <;> (simp only; omega)
  have hm5 : m.2 ≤ 5 := by rw [hM]; unfold numRd; split <;> (simp only; omega)
  rw [hR]
  refine Does.of_V tab (n := 123) (rs := [.cell 2 25]) Tryd.func40 (by kernel_rfl) rfl Tryd.ntmps40 Tryd.results40 rfl fun C hC hG => ?_
  refine W.seq ?_
  refine W.region ?_
  refine allocR tab rfl rfl rfl ?_
  refine WO.nil ?_
  refine qs ?_
  refine W.seq ?_
  refine W.region ?_
  refine pu (ev tab rfl) rfl ?_
  refine pu (indexAddr (l := sc (wordAt ws 0)) tab rfl rfl rfl rfl rfl rfl (Int.le_refl _) (idx_map (wordAt_get h0)) rfl) rfl ?_
  first | refine pu (ev tab rfl) rfl ?_ | refine pu (loadRow tab rfl rfl rfl rfl) rfl ?_ | refine pu (loadBox tab rfl rfl rfl rfl rfl) rfl ?_
  refine pu (puCall rfl rfl rfl (rnparse_fn ..) rfl) rfl ?_
  iterate 5 refine pu (ev tab rfl) rfl ?_
  refine WO.nil ?_
  refine qs ?_
  refine W.seq ?_
  refine W.region ?_
  refine pu (puI (ev tab rfl) hT.symm) rfl ?_
  refine pu (build tab rfl rfl rfl rfl) rfl ?_
  refine allocR tab rfl rfl rfl ?_
  refine storeR tab rfl rfl rfl rfl rfl rfl rfl rfl ?_
  refine WO.nil ?_
  refine qs ?_
  refine W.seq ?_
  refine W.seq ?_
  refine W.region ?_
  refine pu (ev tab rfl) rfl ?_
  refine WO.nil ?_
  refine qs ?_
  refine W.block ?_
  refine W.loopR (ι := {x : Nat // match x with | j => j ≤ 12})
    (fun x => match x.1 with | j => [(2, .ptr 0 0), (5, .ptr 1 0), (6, .d (.v (.int .i64 ((j + 1 : Nat) : Int))))]) [(0, _)]
    (fun x => match x.1 with | j => [(0, ev0n), (1, evB T0 (kindR ws j) (B #[]) 0 0)]) [] [] 2 (fun x => match x.1 with | j => 12 - j)
    [0, 1] ⟨0, ?_⟩ rfl ?_ ⟨rfl, rfl, trivial⟩ ?_ trivial rfl ?_
  · exact Nat.zero_le _
  · repeat' first | exact trivial | refine ⟨rfl, ?_⟩ | refine ⟨step_nat (by assumption) (by assumption), ?_⟩
  · repeat' first | exact trivial | refine ⟨rfl, ?_⟩ | refine ⟨step_nat (by assumption) (by assumption), ?_⟩
  rintro ⟨j, hj⟩
  show W _ _ _ _ _ ⟨[(2, .ptr 0 0), (5, .ptr 1 0), (6, .d (.v (.int .i64 ((j + 1 : Nat) : Int)))), (0, _)], [(0, ev0n), (1, evB T0 (kindR ws j) (B #[]) 0 0)], [], 2⟩
  refine W.seq ?_
  refine W.seq ?_
  refine W.region ?_
  iterate 2 refine pu (ev tab rfl) rfl ?_
  refine WO.nil ?_
  refine qs ?_
  refine condK rfl (fun h26 => ?_) (fun h26 => ?_)
  · skip
    have hj12 : j < 12 := by simp at h26; omega
    refine W.skip ?_
    refine qs ?_
    refine W.seq ?_
    refine W.block ?_
    refine W.seq ?_
    apply regionDB tab; (case hb => rfl); (case hB => kernel_rfl)
    · skip
      refine chPu (ev tab rfl) rfl ?_
      refine chPu (ev tab rfl) rfl ?_
      refine chPu (ev tab rfl) rfl ?_
      refine chPu (ev tab rfl) rfl ?_
      apply chSplitH; (case hj => rfl); (case hl => rfl)
      · intro g32
        refine chGo rfl rfl (ev tab rfl) rfl ?_
        refine chGo rfl rfl (puCall rfl rfl rfl (rword_fn ((j + 1 : Nat) : Int) (by omega) (by omega)) rfl) rfl ?_
        refine chGo rfl rfl (ev tab rfl) rfl ?_
        refine chGo rfl rfl (indexAddr (l := sc (wordAt ws 1)) tab rfl rfl rfl rfl rfl rfl (by decide) (idx_map (wordAt_get (by have q := g32; simp at q; omega))) rfl) rfl ?_
        first | refine chGo rfl rfl (ev tab rfl) rfl ?_ | refine chGo rfl rfl (loadRow tab rfl rfl rfl rfl) rfl ?_ | refine chGo rfl rfl (loadBox tab rfl rfl rfl rfl rfl) rfl ?_
        refine chGo rfl rfl (ev tab rfl) rfl ?_
        refine chPu (ev tab rfl) rfl ?_
        refine CH.nil ?_
        refine qv1 rfl rfl rfl
      · intro g32
        refine chSkip rfl rfl rfl rfl ?_
        refine chSkip rfl rfl rfl rfl ?_
        refine chSkip rfl rfl rfl rfl ?_
        refine chSkip rfl rfl rfl rfl ?_
        refine chSkip rfl rfl rfl rfl ?_
        refine chSkip rfl rfl rfl rfl ?_
        refine chPu (ev tab rfl) rfl ?_
        refine CH.nil ?_
        refine qv1 rfl rfl rfl
    refine qs ?_
    refine condK rfl (fun h39 => ?_) (fun h39 => ?_)
    · skip
      have hk' : kindR ws (j + 1) = ((j + 1 : Nat) : Int) := by simp only [kindR]; exact if_pos (by simp at h39; exact ⟨by omega, h39.2⟩)
      refine W.region ?_
      iterate 2 refine pu (ev tab rfl) rfl ?_
      refine storeR tab rfl rfl rfl rfl rfl rfl rfl rfl ?_
      refine WO.nil ?_
      refine qbN ?_
      refine qs ?_
      refine W.region ?_
      refine pu (ev tab rfl) rfl ?_
      refine pu (puI (ev tab rfl) (y := ((j + 1 + 1 : Nat) : Int)) (by rw [show (((j + 1 : Nat) : Int) + 1) = ((j + 1 + 1 : Nat) : Int) by omega]; exact wrap64 (by omega))) rfl ?_
      refine pu (ev tab rfl) rfl ?_
      refine WO.nil ?_
      refine W.endR [0, 1] ⟨j + 1, ?_⟩ ?_ rfl ?_ ⟨rfl, rfl, trivial⟩ ?_ trivial rfl
      · exact hj12
      · dsimp only; omega
      · repeat' first | exact trivial | refine ⟨rfl, ?_⟩ | refine ⟨step_nat (by assumption) (by assumption), ?_⟩
      · simp only [hk']
        repeat' first | exact trivial | refine ⟨rfl, ?_⟩
    · skip
      have hk' : kindR ws (j + 1) = kindR ws j := by simp only [kindR]; exact if_neg (fun q => by simp at h39; exact h39 (by omega) q.2)
      refine W.skip ?_
      refine qbN ?_
      refine qs ?_
      refine W.region ?_
      refine pu (ev tab rfl) rfl ?_
      refine pu (puI (ev tab rfl) (y := ((j + 1 + 1 : Nat) : Int)) (by rw [show (((j + 1 : Nat) : Int) + 1) = ((j + 1 + 1 : Nat) : Int) by omega]; exact wrap64 (by omega))) rfl ?_
      refine pu (ev tab rfl) rfl ?_
      refine WO.nil ?_
      refine W.endR [0, 1] ⟨j + 1, ?_⟩ ?_ rfl ?_ ⟨rfl, rfl, trivial⟩ ?_ trivial rfl
      · exact hj12
      · dsimp only; omega
      · repeat' first | exact trivial | refine ⟨rfl, ?_⟩ | refine ⟨step_nat (by assumption) (by assumption), ?_⟩
      · simp only [hk']
        repeat' first | exact trivial | refine ⟨rfl, ?_⟩
  · skip
    have hj12 : j = 12 := by simp at h26; omega
    have hKj : kindR ws j = K := by rw [hj12, hK]
    rw [hKj]
    refine W.exit ?_
    refine qsExit ?_
    refine qlExit ?_
    refine qbExit ?_
    refine qs ?_
    refine W.seq ?_
    refine W.region ?_
    refine pu (ev tab rfl) rfl ?_
    first | refine pu (ev tab rfl) rfl ?_ | refine pu (loadRow tab rfl rfl rfl rfl) rfl ?_ | refine pu (loadBox tab rfl rfl rfl rfl rfl) rfl ?_
    refine pu (puCall rfl rfl rfl (uses_fn2 ..) rfl) rfl ?_
    iterate 9 refine pu (ev tab rfl) rfl ?_
    refine WO.nil ?_
    refine qs ?_
    refine W.seq ?_
    refine W.region ?_
    refine pu (ev tab rfl) rfl ?_
    refine WO.nil ?_
    refine qs ?_
    refine W.seq ?_
    refine W.seq ?_
    apply regionB; (case hb => rfl)
    · skip
      iterate 2 refine pu (ev tab rfl) rfl ?_
      apply splitH; (case hj => rfl); (case hl => rfl)
      · intro g51
        refine goG rfl rfl ?_
        refine pu (ev tab rfl) rfl ?_
        refine goG rfl rfl ?_
        refine pu (ev tab rfl) rfl ?_
        refine goG rfl rfl ?_
        refine pu (ev tab rfl) rfl ?_
        refine goG rfl rfl ?_
        iterate 2 refine pu (ev tab rfl) rfl ?_
        refine WO.nil ?_
        refine qv1 rfl rfl rfl
      · intro g51
        refine skipT rfl rfl rfl rfl ?_
        refine skipT rfl rfl rfl rfl ?_
        refine skipT rfl rfl rfl rfl ?_
        refine skipT rfl rfl rfl rfl ?_
        refine pu (ev tab rfl) rfl ?_
        refine WO.nil ?_
        refine qv1 rfl rfl rfl
    refine qs ?_
    refine W.cutS [(0, .d (.sl (txs ws))), (2, .ptr 0 0), (5, .ptr 1 0), (8, .d (.v (.bool (usesN K)))), (9, .d (.v (.bool (usesM K)))), (10, .d (.v (.bool (usesStack K)))), (11, .d (.v (.int .i64 ((a.2 : Nat) : Int))))] [] [(0, ev0n), (1, evB T0 K a.1 0 0)] [] [] 2 ?_ ?_
    · skip
      refine condK rfl (fun h56 => ?_) (fun h56 => ?_)
      · skip
        have ha' : a = (wordAt ws 2, 3) := by rw [hA]; exact if_pos (by simp at h56; simp [h56.1]; omega)
        have hi2 : 2 < ws.length := by simp at h56; omega
        refine W.seq ?_
        refine W.region ?_
        iterate 2 refine pu (ev tab rfl) rfl ?_
        refine pu (indexAddr (l := sc (wordAt ws 2)) tab rfl rfl rfl rfl rfl rfl (by decide) (idx_map (wordAt_get hi2)) rfl) rfl ?_
        first | refine pu (ev tab rfl) rfl ?_ | refine pu (loadRow tab rfl rfl rfl rfl) rfl ?_ | refine pu (loadBox tab rfl rfl rfl rfl rfl) rfl ?_
        refine pu (ev tab rfl) rfl ?_
        refine storeR tab rfl rfl rfl rfl rfl rfl rfl rfl ?_
        refine WO.nil ?_
        refine qs ?_
        refine W.region ?_
        iterate 3 refine pu (ev tab rfl) rfl ?_
        refine WO.nil ?_
        refine cutEnd [0, 1] rfl ?_ trivial ?_ trivial rfl
        · rw [ha']
          repeat' first | exact trivial | refine ⟨rfl, ?_⟩
        · rw [ha']
          repeat' first | exact trivial | refine ⟨rfl, ?_⟩
      · skip
        have ha' : a = (B #[], 2) := by rw [hA]; exact if_neg (by simp at h56; simp; intro q; have := h56 q; omega)
        refine W.skip ?_
        refine cutEnd [0, 1] rfl ?_ trivial ?_ trivial rfl
        · rw [ha']
          repeat' first | exact trivial | refine ⟨rfl, ?_⟩
        · rw [ha']
          repeat' first | exact trivial | refine ⟨rfl, ?_⟩
    refine qs ?_
    refine W.seq ?_
    refine W.seq ?_
    apply regionB; (case hb => rfl)
    · skip
      iterate 2 refine pu (ev tab rfl) rfl ?_
      apply splitH; (case hj => rfl); (case hl => rfl)
      · intro g65
        refine goG rfl rfl ?_
        refine pu (ev tab rfl) rfl ?_
        refine goG rfl rfl ?_
        refine pu (ev tab rfl) rfl ?_
        refine goG rfl rfl ?_
        refine pu (ev tab rfl) rfl ?_
        refine goG rfl rfl ?_
        iterate 2 refine pu (ev tab rfl) rfl ?_
        refine WO.nil ?_
        refine qv1 rfl rfl rfl
      · intro g65
        refine skipT rfl rfl rfl rfl ?_
        refine skipT rfl rfl rfl rfl ?_
        refine skipT rfl rfl rfl rfl ?_
        refine skipT rfl rfl rfl rfl ?_
        refine pu (ev tab rfl) rfl ?_
        refine WO.nil ?_
        refine qv1 rfl rfl rfl
    refine qs ?_
    refine W.cutS [(0, .d (.sl (txs ws))), (2, .ptr 0 0), (5, .ptr 1 0), (9, .d (.v (.bool (usesM K)))), (10, .d (.v (.bool (usesStack K)))), (11, .d (.v (.int .i64 ((n.2 : Nat) : Int))))] [] [(0, ev0n), (1, evB T0 K a.1 n.1 0)] [] [] 2 ?_ ?_
    · skip
      refine condK rfl (fun h70 => ?_) (fun h70 => ?_)
      · skip
        have hn' : n = ((numP (wordAt ws a.2)).1, a.2 + 1) := by rw [hN]; exact if_pos (by simp at h70; simp [h70.1]; omega)
        have hi3 : a.2 < ws.length := by simp at h70; omega
        refine W.seq ?_
        refine W.region ?_
        iterate 2 refine pu (ev tab rfl) rfl ?_
        refine pu (indexAddr (l := sc (wordAt ws a.2)) tab rfl rfl rfl rfl rfl rfl (Int.natCast_nonneg _) (idx_map (wordAt_get hi3)) rfl) rfl ?_
        first | refine pu (ev tab rfl) rfl ?_ | refine pu (loadRow tab rfl rfl rfl rfl) rfl ?_ | refine pu (loadBox tab rfl rfl rfl rfl rfl) rfl ?_
        refine pu (puCall rfl rfl rfl (rnparse_fn ..) rfl) rfl ?_
        iterate 5 refine pu (ev tab rfl) rfl ?_
        refine WO.nil ?_
        refine qs ?_
        refine W.seq ?_
        refine W.region ?_
        iterate 2 refine pu (ev tab rfl) rfl ?_
        refine storeR tab rfl rfl rfl rfl rfl rfl rfl rfl ?_
        refine WO.nil ?_
        refine qs ?_
        refine W.region ?_
        refine pu (ev tab rfl) rfl ?_
        refine pu (puI (ev tab rfl) (y := ((a.2 + 1 : Nat) : Int)) (wrap_nat (n := a.2 + 1) (Nat.lt_succ_self _) (by simp only [maxLen]; omega))) rfl ?_
        refine pu (ev tab rfl) rfl ?_
        refine WO.nil ?_
        refine cutEnd [0, 1] rfl ?_ trivial ?_ trivial rfl
        · rw [hn']
          repeat' first | exact trivial | refine ⟨rfl, ?_⟩
        · rw [hn']
          repeat' first | exact trivial | refine ⟨rfl, ?_⟩
      · skip
        have hn' : n = (0, a.2) := by rw [hN]; exact if_neg (by simp at h70; simp; intro q; have := h70 q; omega)
        refine W.skip ?_
        refine cutEnd [0, 1] rfl ?_ trivial ?_ trivial rfl
        · rw [hn']
          repeat' first | exact trivial | refine ⟨rfl, ?_⟩
        · rw [hn']
          repeat' first | exact trivial | refine ⟨rfl, ?_⟩
    refine qs ?_
    refine W.seq ?_
    refine W.seq ?_
    apply regionB; (case hb => rfl)
    · skip
      iterate 2 refine pu (ev tab rfl) rfl ?_
      apply splitH; (case hj => rfl); (case hl => rfl)
      · intro g84
        refine goG rfl rfl ?_
        refine pu (ev tab rfl) rfl ?_
        refine goG rfl rfl ?_
        refine pu (ev tab rfl) rfl ?_
        refine goG rfl rfl ?_
        refine pu (ev tab rfl) rfl ?_
        refine goG rfl rfl ?_
        iterate 2 refine pu (ev tab rfl) rfl ?_
        refine WO.nil ?_
        refine qv1 rfl rfl rfl
      · intro g84
        refine skipT rfl rfl rfl rfl ?_
        refine skipT rfl rfl rfl rfl ?_
        refine skipT rfl rfl rfl rfl ?_
        refine skipT rfl rfl rfl rfl ?_
        refine pu (ev tab rfl) rfl ?_
        refine WO.nil ?_
        refine qv1 rfl rfl rfl
    refine qs ?_
    refine W.cutS [(0, .d (.sl (txs ws))), (2, .ptr 0 0), (5, .ptr 1 0), (10, .d (.v (.bool (usesStack K)))), (11, .d (.v (.int .i64 ((m.2 : Nat) : Int))))] [] [(0, ev0n), (1, evB T0 K a.1 n.1 m.1)] [] [] 2 ?_ ?_
    · skip
      refine condK rfl (fun h89 => ?_) (fun h89 => ?_)
      · skip
        have hm' : m = ((numP (wordAt ws n.2)).1, n.2 + 1) := by rw [hM]; exact if_pos (by simp at h89; simp [h89.1]; omega)
        have hi4 : n.2 < ws.length := by simp at h89; omega
        refine W.seq ?_
        refine W.region ?_
        iterate 2 refine pu (ev tab rfl) rfl ?_
        refine pu (indexAddr (l := sc (wordAt ws n.2)) tab rfl rfl rfl rfl rfl rfl (Int.natCast_nonneg _) (idx_map (wordAt_get hi4)) rfl) rfl ?_
        first | refine pu (ev tab rfl) rfl ?_ | refine pu (loadRow tab rfl rfl rfl rfl) rfl ?_ | refine pu (loadBox tab rfl rfl rfl rfl rfl) rfl ?_
        refine pu (puCall rfl rfl rfl (rnparse_fn ..) rfl) rfl ?_
        iterate 5 refine pu (ev tab rfl) rfl ?_
        refine WO.nil ?_
        refine qs ?_
        refine W.seq ?_
        refine W.region ?_
        iterate 2 refine pu (ev tab rfl) rfl ?_
        refine storeR tab rfl rfl rfl rfl rfl rfl rfl rfl ?_
        refine WO.nil ?_
        refine qs ?_
        refine W.region ?_
        refine pu (ev tab rfl) rfl ?_
        refine pu (puI (ev tab rfl) (y := ((n.2 + 1 : Nat) : Int)) (wrap_nat (n := n.2 + 1) (Nat.lt_succ_self _) (by simp only [maxLen]; omega))) rfl ?_
        refine pu (ev tab rfl) rfl ?_
        refine WO.nil ?_
        refine cutEnd [0, 1] rfl ?_ trivial ?_ trivial rfl
        · rw [hm']
          repeat' first | exact trivial | refine ⟨rfl, ?_⟩
        · rw [hm']
          repeat' first | exact trivial | refine ⟨rfl, ?_⟩
      · skip
        have hm' : m = (0, n.2) := by rw [hM]; exact if_neg (by simp at h89; simp; intro q; have := h89 q; omega)
        refine W.skip ?_
        refine cutEnd [0, 1] rfl ?_ trivial ?_ trivial rfl
        · rw [hm']
          repeat' first | exact trivial | refine ⟨rfl, ?_⟩
        · rw [hm']
          repeat' first | exact trivial | refine ⟨rfl, ?_⟩
    refine qs ?_
    refine W.seq ?_
    refine W.seq ?_
    apply regionB; (case hb => rfl)
    · skip
      iterate 2 refine pu (ev tab rfl) rfl ?_
      apply splitH; (case hj => rfl); (case hl => rfl)
      · intro g103
        refine goG rfl rfl ?_
        refine pu (ev tab rfl) rfl ?_
        refine goG rfl rfl ?_
        refine pu (ev tab rfl) rfl ?_
        refine goG rfl rfl ?_
        refine pu (ev tab rfl) rfl ?_
        refine goG rfl rfl ?_
        iterate 3 refine pu (ev tab rfl) rfl ?_
        apply splitH; (case hj => rfl); (case hl => rfl)
        · intro g109
          refine goG rfl rfl ?_
          refine pu (ev tab rfl) rfl ?_
          refine goG rfl rfl ?_
          refine pu (ev tab rfl) rfl ?_
          refine goG rfl rfl ?_
          refine pu (indexAddr (l := sc (wordAt ws m.2)) tab rfl rfl rfl rfl rfl rfl (Int.natCast_nonneg _) (idx_map (wordAt_get (by have q := g109; simp at q; omega))) rfl) rfl ?_
          refine goG rfl rfl ?_
          first | refine pu (ev tab rfl) rfl ?_ | refine pu (loadRow tab rfl rfl rfl rfl) rfl ?_ | refine pu (loadBox tab rfl rfl rfl rfl rfl) rfl ?_
          refine goG rfl rfl ?_
          iterate 2 refine pu (ev tab rfl) rfl ?_
          refine WO.nil ?_
          refine qv1 rfl rfl rfl
        · intro g109
          refine skipT rfl rfl rfl rfl ?_
          refine skipT rfl rfl rfl rfl ?_
          refine skipT rfl rfl rfl rfl ?_
          refine skipT rfl rfl rfl rfl ?_
          refine skipT rfl rfl rfl rfl ?_
          refine pu (ev tab rfl) rfl ?_
          refine WO.nil ?_
          refine qv1 rfl rfl rfl
      · intro g103
        refine skipT rfl rfl rfl rfl ?_
        refine skipT rfl rfl rfl rfl ?_
        refine skipT rfl rfl rfl rfl ?_
        refine skipT rfl rfl rfl rfl ?_
        iterate 2 refine pu (ev tab rfl) rfl ?_
        refine skipT rfl rfl rfl rfl ?_
        refine skipT rfl rfl rfl rfl ?_
        refine skipT rfl rfl rfl rfl ?_
        refine skipT rfl rfl rfl rfl ?_
        refine skipT rfl rfl rfl rfl ?_
        refine pu (ev tab rfl) rfl ?_
        refine WO.nil ?_
        refine qv1 rfl rfl rfl
    refine qs ?_
    refine W.cutS [(2, .ptr 0 0), (5, .ptr 1 0)] [] [(0, ev0n), (1, (Ev.mk T0 K a.1 n.1 m.1 st).c.map A.d)] [] [] 2 ?_ ?_
    · skip
      refine condK rfl (fun h115 => ?_) (fun h115 => ?_)
      · skip
        have hs' : st = cutB (wordAt ws m.2) 59 := by rw [hS]; exact if_pos (by simp at h115; simp; grind)
        have hi5 : m.2 < ws.length := by simp at h115; omega
        refine W.region ?_
        iterate 2 refine pu (ev tab rfl) rfl ?_
        refine pu (indexAddr (l := sc (wordAt ws m.2)) tab rfl rfl rfl rfl rfl rfl (Int.natCast_nonneg _) (idx_map (wordAt_get hi5)) rfl) rfl ?_
        first | refine pu (ev tab rfl) rfl ?_ | refine pu (loadRow tab rfl rfl rfl rfl) rfl ?_ | refine pu (loadBox tab rfl rfl rfl rfl rfl) rfl ?_
        refine pu (puCall rfl rfl rfl (cut_fn (wordAt ws m.2) 59 (wordAt_le hsz _)) rfl) rfl ?_
        refine pu (ev tab rfl) rfl ?_
        refine storeR tab rfl rfl rfl rfl rfl rfl rfl rfl ?_
        refine WO.nil ?_
        refine cutEnd [0, 1] rfl ?_ trivial ?_ trivial rfl
        · repeat' first | exact trivial | refine ⟨rfl, ?_⟩ | refine ⟨step_nat (by assumption) (by assumption), ?_⟩
        · rw [hs']
          repeat' first | exact trivial | refine ⟨rfl, ?_⟩
      · skip
        have hs' : st = [] := by rw [hS]; exact if_neg (by simp at h115; simp; grind)
        refine nilBox 1 5 rfl rfl rfl ?_
        refine W.skip ?_
        refine cutEnd [0, 1] rfl ?_ trivial ?_ trivial rfl
        · repeat' first | exact trivial | refine ⟨rfl, ?_⟩ | refine ⟨step_nat (by assumption) (by assumption), ?_⟩
        · rw [hs']
          repeat' first | exact trivial | refine ⟨rfl, ?_⟩
    refine qs ?_
    refine W.seq ?_
    refine W.region ?_
    first | refine pu (ev tab rfl) rfl ?_ | refine pu (loadRow tab rfl rfl rfl rfl) rfl ?_ | refine pu (loadBox tab rfl rfl rfl rfl rfl) rfl ?_
    refine storeR tab rfl rfl rfl rfl rfl rfl rfl rfl ?_
    refine WO.nil ?_
    refine qs ?_
    refine W.ret ?_
    refine QV.ret0 tab trivial rfl ?_
    rfl
end Go.Proofs.YtifeonoehfffmaaDoor
namespace Go.Proofs.YtifeonoehfffmaaDoor
open Go.Ab Go.Tb
set_option maxRecDepth 10000
attribute [local irreducible] W WO Pu QS QB QL QF QV QV1 CH QE
theorem rparse_fn (s : ByteArray) (hs : s.size ≤ 1000000) : Does Tryd.prog 17 [.d (.v (.string s))] (.tup [.ag (parseE s).1.c, .d (.v (.int .i64 (parseE s).2))]) 0 := by
  rw [← parseR_eq]
  refine Does.of_V tab (n := 22) (rs := [.cell 2 25, .tmp 3]) Tryd.func17 (by kernel_rfl) rfl Tryd.ntmps17 Tryd.results17 rfl fun C hC hG => ?_
  refine W.seq ?_
  refine W.region ?_
  refine allocR tab rfl rfl rfl ?_
  refine pu (ev tab rfl) rfl ?_
  refine WO.nil ?_
  refine qs ?_
  refine W.seq ?_
  refine W.seq ?_
  refine W.region ?_
  iterate 3 refine pu (ev tab rfl) rfl ?_
  refine WO.nil ?_
  refine qs ?_
  refine condK rfl (fun h7 => ?_) (fun h7 => ?_)
  · skip
    have hg : parseR s = (ev0, 7) := by unfold parseR; rw [if_pos (by simp at h7; omega)]
    refine W.seq ?_
    refine W.region ?_
    refine pu (build tab rfl rfl rfl rfl) rfl ?_
    refine storeR tab rfl rfl rfl rfl rfl rfl rfl rfl ?_
    refine pu (ev tab rfl) rfl ?_
    refine WO.nil ?_
    refine qs ?_
    try refine nilBox 0 5 rfl rfl rfl ?_
    refine W.ret ?_
    refine qsRet ?_
    refine QV.ret0 tab trivial rfl ?_
    rw [hg]; rfl
  · skip
    have h2000 : ¬ 2000 < s.size := by simp at h7; omega
    have hsz := cutB_le (s := s) (c := 32) (m := 1000000) hs
    have hpos : 0 < (cutB s 32).length := by
      obtain ⟨x, t, e⟩ := cutL_cons 32 s.data.toList
      unfold cutB
      rw [e]
      simp
    have hlen : (cutB s 32).length ≤ 100000 := by
      have h1 := cutL_len 32 s.data.toList
      have h2 : s.data.toList.length = s.size := Array.length_toList
      unfold cutB
      rw [List.length_map]
      omega
    have hg0 : parseR s = if s = B #[] ∨ textE (readR (cutB s 32)) ≠ s then (ev0, 10) else (readR (cutB s 32), 0) := by unfold parseR; rw [if_neg h2000]
    refine W.skip ?_
    refine qs ?_
    refine W.seq ?_
    refine W.region ?_
    refine pu (ev tab rfl) rfl ?_
    refine pu (puCall rfl rfl rfl (cut_fn s 32 hs) rfl) rfl ?_
    refine pu (puCall rfl rfl rfl (read_fn (cutB s 32) hpos hlen hsz) rfl) rfl ?_
    refine allocR tab rfl rfl rfl ?_
    refine storeR tab rfl rfl rfl rfl rfl rfl rfl rfl ?_
    refine WO.nil ?_
    refine qs ?_
    refine W.seq ?_
    refine W.seq ?_
    apply regionB; (case hb => rfl)
    · skip
      iterate 3 refine pu (ev tab rfl) rfl ?_
      apply splitJ; (case hj => rfl); (case hl => rfl)
      · skip
        refine skipT rfl rfl rfl rfl ?_
        refine skipT rfl rfl rfl rfl ?_
        refine skipT rfl rfl rfl rfl ?_
        refine skipT rfl rfl rfl rfl ?_
        refine pu (ev tab rfl) rfl ?_
        refine WO.nil ?_
        refine qv1 rfl rfl rfl
      · skip
        refine goG rfl rfl ?_
        first | refine pu (ev tab rfl) rfl ?_ | refine pu (loadRow tab rfl rfl rfl rfl) rfl ?_ | refine pu (loadBox tab rfl rfl rfl rfl rfl) rfl ?_
        refine goG rfl rfl ?_
        refine pu (puCall rfl rfl rfl (rtextE_fn (readR (cutB s 32))) rfl) rfl ?_
        refine goG rfl rfl ?_
        refine pu (ev tab rfl) rfl ?_
        refine goG rfl rfl ?_
        iterate 2 refine pu (ev tab rfl) rfl ?_
        refine WO.nil ?_
        refine qv1 rfl rfl rfl
    refine qs ?_
    refine condK rfl (fun h19 => ?_) (fun h19 => ?_)
    · skip
      refine W.seq ?_
      refine W.region ?_
      refine pu (build tab rfl rfl rfl rfl) rfl ?_
      refine storeR tab rfl rfl rfl rfl rfl rfl rfl rfl ?_
      refine pu (ev tab rfl) rfl ?_
      refine WO.nil ?_
      refine qs ?_
      try refine nilBox 0 5 rfl rfl rfl ?_
      refine W.ret ?_
      refine qsRet ?_
      refine QV.ret0 tab trivial rfl ?_
      have hg : parseR s = (ev0, 10) := by
        rw [hg0, if_pos]
        revert h19
        by_cases q : s = B #[] <;> simp [q]
      rw [hg]
      rfl
    · skip
      refine W.skip ?_
      refine qs ?_
      refine W.seq ?_
      refine W.region ?_
      first | refine pu (ev tab rfl) rfl ?_ | refine pu (loadRow tab rfl rfl rfl rfl) rfl ?_ | refine pu (loadBox tab rfl rfl rfl rfl rfl) rfl ?_
      refine storeR tab rfl rfl rfl rfl rfl rfl rfl rfl ?_
      refine pu (ev tab rfl) rfl ?_
      refine WO.nil ?_
      refine qs ?_
      try refine nilBox 0 5 rfl rfl rfl ?_
      refine W.ret ?_
      refine QV.ret0 tab trivial rfl ?_
      have hg : parseR s = (readR (cutB s 32), 0) := by
        rw [hg0, if_neg]
        revert h19
        by_cases q : s = B #[] <;> simp [q]
      rw [hg]
      rfl
instance evDec : DecidableEq Ev := fun a b => decidable_of_iff (sameEv a b = true) (sameEv_iff a b)
@[reducible] def nl (t k n m : Int) : List D := [ci t, ci k, cs (B #[]), ci n, ci m, .v (.slice none 0 0)]
abbrev ex1 : Ev := ⟨3, 9, B #[], 2, 17, []⟩
abbrev ex2 : Ev := ⟨9, 5, B #[], 4, 0, [B #[109, 97, 105, 110], B #[102]]⟩
theorem awake_fn : Does Tryd.prog 10 [] (.d (.v (.bool true))) 0 := by
  have p1 : parseE (B #[51, 32, 115, 116, 111, 112, 32, 50, 32, 49, 55]) = (ex1, 0) := by decide +kernel
  have p2 : parseE (B #[51, 32, 115, 116, 111, 112, 32, 49, 32, 48]) = (ev0, 10) := by decide +kernel
  have t1 : textE ex2 = B #[57, 32, 115, 97, 109, 112, 108, 101, 32, 52, 32, 109, 97, 105, 110, 59, 102] := by decide +kernel
  have t2 : textE ⟨9, 5, B #[], 4, 0, []⟩ = B #[57, 32, 115, 97, 109, 112, 108, 101, 32, 52, 32, 59] := by decide +kernel
  have e1 := eparse_fn (B #[51, 32, 115, 116, 111, 112, 32, 50, 32, 49, 55]) (by decide)
  have e2 := eparse_fn (B #[51, 32, 115, 116, 111, 112, 32, 49, 32, 48]) (by decide)
  have f1 := etext_fn ex2
  have f2 := Does.nilA (args := [.ag (nl 9 5 4 0)]) (etext_fn ⟨9, 5, B #[], 4, 0, []⟩)
  have f3 := Does.nilA (args := [.ag ex1.c, .ag (nl 3 9 2 17)]) (same_fn ex1 ex1)
  have f4 := Does.nilA (args := [.ag (nl (-1) 0 0 0)]) (echeck_fn ⟨-1, 0, B #[], 0, 0, []⟩)
  have f5 := Does.nilA (args := [.d (.sl [nl 2 2 0 0, nl 1 2 0 0])]) (checkAll_fn [⟨2, 2, B #[], 0, 0, []⟩, ⟨1, 2, B #[], 0, 0, []⟩])
  rw [p1] at e1
  rw [p2] at e2
  rw [t1] at f1
  rw [t2] at f2
  refine Does.of_W (n := 51) (ts := [0]) Tryd.func10 (by kernel_rfl) rfl Tryd.ntmps10 Tryd.results10 rfl rfl fun C hC hG => ?_
  refine W.seq ?_
  refine W.region ?_
  refine pu (ev tab rfl) rfl ?_
  refine WO.nil ?_
  refine qs ?_
  refine W.seq ?_
  refine W.region ?_
  refine pu (puCall rfl rfl rfl e1 rfl) rfl ?_
  iterate 3 refine pu (ev tab rfl) rfl ?_
  refine allocR tab rfl rfl rfl ?_
  refine storeR tab rfl rfl rfl rfl rfl rfl rfl rfl ?_
  refine pu (ev tab rfl) rfl ?_
  refine WO.nil ?_
  refine qs ?_
  refine W.seq ?_
  refine W.region ?_
  refine pu (puCall rfl rfl rfl e2 rfl) rfl ?_
  iterate 3 refine pu (ev tab rfl) rfl ?_
  refine allocR tab rfl rfl rfl ?_
  refine storeR tab rfl rfl rfl rfl rfl rfl rfl rfl ?_
  refine pu (ev tab rfl) rfl ?_
  refine WO.nil ?_
  refine qs ?_
  refine W.seq ?_
  refine W.region ?_
  refine pu (buildV tab rfl rfl rfl rfl rfl rfl rfl rfl rfl) rfl ?_
  refine pu (build tab rfl rfl rfl rfl) rfl ?_
  refine pu (puCall rfl rfl rfl f1 rfl) rfl ?_
  refine pu (ev tab rfl) rfl ?_
  refine WO.nil ?_
  refine qs ?_
  refine W.seq ?_
  refine W.region ?_
  refine pu (build tab rfl rfl rfl rfl) rfl ?_
  refine pu (puCall rfl rfl rfl f2 rfl) rfl ?_
  refine pu (ev tab rfl) rfl ?_
  refine WO.nil ?_
  refine qs ?_
  refine W.seq ?_
  apply regionB; (case hb => rfl)
  · skip
    iterate 3 refine pu (ev tab rfl) rfl ?_
    apply splitJ; (case hj => rfl); (case hl => rfl)
    · skip
      refine goG rfl rfl ?_
      first | refine pu (ev tab rfl) rfl ?_ | refine pu (loadRow tab rfl rfl rfl rfl) rfl ?_ | refine pu (loadBox tab rfl rfl rfl rfl rfl) rfl ?_
      refine goG rfl rfl ?_
      refine pu (build tab rfl rfl rfl rfl) rfl ?_
      refine goG rfl rfl ?_
      refine pu (puCall rfl rfl rfl f3 rfl) rfl ?_
      iterate 2 refine pu (ev tab rfl) rfl ?_
      apply splitJ; (case hj => rfl); (case hl => rfl)
      · skip
        refine goG rfl rfl ?_
        refine pu (ev tab rfl) rfl ?_
        refine goG rfl rfl ?_
        iterate 3 refine pu (ev tab rfl) rfl ?_
        apply splitJ; (case hj => rfl); (case hl => rfl)
        · skip
          refine goG rfl rfl ?_
          refine pu (ev tab rfl) rfl ?_
          refine goG rfl rfl ?_
          iterate 3 refine pu (ev tab rfl) rfl ?_
          apply splitJ; (case hj => rfl); (case hl => rfl)
          · skip
            refine goG rfl rfl ?_
            refine pu (ev tab rfl) rfl ?_
            refine goG rfl rfl ?_
            iterate 3 refine pu (ev tab rfl) rfl ?_
            apply splitJ; (case hj => rfl); (case hl => rfl)
            · skip
              refine goG rfl rfl ?_
              refine pu (build tab rfl rfl rfl rfl) rfl ?_
              refine goG rfl rfl ?_
              refine pu (puCall rfl rfl rfl f4 rfl) rfl ?_
              refine goG rfl rfl ?_
              iterate 3 refine pu (ev tab rfl) rfl ?_
              apply splitJ; (case hj => rfl); (case hl => rfl)
              · skip
                refine goG rfl rfl ?_
                refine pu (build tab rfl rfl rfl rfl) rfl ?_
                refine goG rfl rfl ?_
                refine pu (build tab rfl rfl rfl rfl) rfl ?_
                refine goG rfl rfl ?_
                refine pu (buildV tab rfl rfl rfl rfl rfl rfl rfl rfl rfl) rfl ?_
                refine goG rfl rfl ?_
                refine pu (puCall rfl rfl rfl f5 rfl) rfl ?_
                refine goG rfl rfl ?_
                iterate 3 refine pu (ev tab rfl) rfl ?_
                refine WO.nil ?_
                refine qv1 rfl rfl rfl
              · skip
                refine skipT rfl rfl rfl rfl ?_
                refine skipT rfl rfl rfl rfl ?_
                refine skipT rfl rfl rfl rfl ?_
                refine skipT rfl rfl rfl rfl ?_
                refine skipT rfl rfl rfl rfl ?_
                iterate 2 refine pu (ev tab rfl) rfl ?_
                refine WO.nil ?_
                refine qv1 rfl rfl rfl
            · skip
              refine skipT rfl rfl rfl rfl ?_
              refine skipT rfl rfl rfl rfl ?_
              refine skipT rfl rfl rfl rfl ?_
              iterate 2 refine pu (ev tab rfl) rfl ?_
              refine skipT rfl rfl rfl rfl ?_
              refine skipT rfl rfl rfl rfl ?_
              refine skipT rfl rfl rfl rfl ?_
              refine skipT rfl rfl rfl rfl ?_
              refine skipT rfl rfl rfl rfl ?_
              iterate 2 refine pu (ev tab rfl) rfl ?_
              refine WO.nil ?_
              refine qv1 rfl rfl rfl
          · skip
            refine skipT rfl rfl rfl rfl ?_
            refine skipT rfl rfl rfl rfl ?_
            iterate 2 refine pu (ev tab rfl) rfl ?_
            refine skipT rfl rfl rfl rfl ?_
            refine skipT rfl rfl rfl rfl ?_
            refine skipT rfl rfl rfl rfl ?_
            iterate 2 refine pu (ev tab rfl) rfl ?_
            refine skipT rfl rfl rfl rfl ?_
            refine skipT rfl rfl rfl rfl ?_
            refine skipT rfl rfl rfl rfl ?_
            refine skipT rfl rfl rfl rfl ?_
            refine skipT rfl rfl rfl rfl ?_
            iterate 2 refine pu (ev tab rfl) rfl ?_
            refine WO.nil ?_
            refine qv1 rfl rfl rfl
        · skip
          refine skipT rfl rfl rfl rfl ?_
          refine skipT rfl rfl rfl rfl ?_
          iterate 2 refine pu (ev tab rfl) rfl ?_
          refine skipT rfl rfl rfl rfl ?_
          refine skipT rfl rfl rfl rfl ?_
          iterate 2 refine pu (ev tab rfl) rfl ?_
          refine skipT rfl rfl rfl rfl ?_
          refine skipT rfl rfl rfl rfl ?_
          refine skipT rfl rfl rfl rfl ?_
          iterate 2 refine pu (ev tab rfl) rfl ?_
          refine skipT rfl rfl rfl rfl ?_
          refine skipT rfl rfl rfl rfl ?_
          refine skipT rfl rfl rfl rfl ?_
          refine skipT rfl rfl rfl rfl ?_
          refine skipT rfl rfl rfl rfl ?_
          iterate 2 refine pu (ev tab rfl) rfl ?_
          refine WO.nil ?_
          refine qv1 rfl rfl rfl
      · skip
        refine skipT rfl rfl rfl rfl ?_
        refine skipT rfl rfl rfl rfl ?_
        iterate 2 refine pu (ev tab rfl) rfl ?_
        refine skipT rfl rfl rfl rfl ?_
        refine skipT rfl rfl rfl rfl ?_
        iterate 2 refine pu (ev tab rfl) rfl ?_
        refine skipT rfl rfl rfl rfl ?_
        refine skipT rfl rfl rfl rfl ?_
        iterate 2 refine pu (ev tab rfl) rfl ?_
        refine skipT rfl rfl rfl rfl ?_
        refine skipT rfl rfl rfl rfl ?_
        refine skipT rfl rfl rfl rfl ?_
        iterate 2 refine pu (ev tab rfl) rfl ?_
        refine skipT rfl rfl rfl rfl ?_
        refine skipT rfl rfl rfl rfl ?_
        refine skipT rfl rfl rfl rfl ?_
        refine skipT rfl rfl rfl rfl ?_
        refine skipT rfl rfl rfl rfl ?_
        iterate 2 refine pu (ev tab rfl) rfl ?_
        refine WO.nil ?_
        refine qv1 rfl rfl rfl
    · skip
      refine skipT rfl rfl rfl rfl ?_
      refine skipT rfl rfl rfl rfl ?_
      refine skipT rfl rfl rfl rfl ?_
      iterate 2 refine pu (ev tab rfl) rfl ?_
      refine skipT rfl rfl rfl rfl ?_
      refine skipT rfl rfl rfl rfl ?_
      iterate 2 refine pu (ev tab rfl) rfl ?_
      refine skipT rfl rfl rfl rfl ?_
      refine skipT rfl rfl rfl rfl ?_
      iterate 2 refine pu (ev tab rfl) rfl ?_
      refine skipT rfl rfl rfl rfl ?_
      refine skipT rfl rfl rfl rfl ?_
      iterate 2 refine pu (ev tab rfl) rfl ?_
      refine skipT rfl rfl rfl rfl ?_
      refine skipT rfl rfl rfl rfl ?_
      refine skipT rfl rfl rfl rfl ?_
      iterate 2 refine pu (ev tab rfl) rfl ?_
      refine skipT rfl rfl rfl rfl ?_
      refine skipT rfl rfl rfl rfl ?_
      refine skipT rfl rfl rfl rfl ?_
      refine skipT rfl rfl rfl rfl ?_
      refine skipT rfl rfl rfl rfl ?_
      iterate 2 refine pu (ev tab rfl) rfl ?_
      refine WO.nil ?_
      refine qv1 rfl rfl rfl
  refine qs ?_
  refine W.ret ?_
  refine QF.ret0 trivial rfl ?_
  refine congrArg (fun b => A.d (D.v (Value.bool b))) (?_ : _ = true)
  decide +kernel
end Go.Proofs.YtifeonoehfffmaaDoor
namespace Go.Proofs.YtifeonoehfffmaaDoor
open Go.Ab Go.Tb
set_option maxRecDepth 10000
attribute [local irreducible] W WO Pu QS QB QL QF QV QV1 CH QE
theorem eparses_fn (s : ByteArray) : Does Tryd.prog 5 [.d (.v (.string s))] (.d (.v (.bool true))) 0 := by
  refine Does.of_W (n := 47) (ts := [2]) Tryd.func5 (by kernel_rfl) rfl Tryd.ntmps5 Tryd.results5 rfl rfl fun C hC hG => ?_
  refine W.seq ?_
  refine W.region ?_
  refine pu (ev tab rfl) rfl ?_
  refine WO.nil ?_
  refine qs ?_
  refine W.seq ?_
  refine W.seq ?_
  apply regionB; (case hb => rfl)
  · skip
    refine pu (puCall rfl rfl rfl (awake_fn ..) rfl) rfl ?_
    iterate 2 refine pu (ev tab rfl) rfl ?_
    apply splitJ; (case hj => rfl); (case hl => rfl)
    · skip
      refine skipT rfl rfl rfl rfl ?_
      refine skipT rfl rfl rfl rfl ?_
      refine skipT rfl rfl rfl rfl ?_
      refine pu (ev tab rfl) rfl ?_
      refine WO.nil ?_
      refine qv1 rfl rfl rfl
    · skip
      refine goG rfl rfl ?_
      refine pu (ev tab rfl) rfl ?_
      refine goG rfl rfl ?_
      refine pu (ev tab rfl) rfl ?_
      refine goG rfl rfl ?_
      iterate 2 refine pu (ev tab rfl) rfl ?_
      refine WO.nil ?_
      refine qv1 rfl rfl rfl
  refine qs ?_
  refine condK rfl (fun h13 => ?_) (fun h13 => ?_)
  · skip
    refine W.seq ?_
    refine W.region ?_
    refine pu (puCall rfl rfl rfl (awake_fn ..) rfl) rfl ?_
    refine pu (ev tab rfl) rfl ?_
    refine WO.nil ?_
    refine qs ?_
    refine W.ret ?_
    refine qsRet ?_
    refine QF.ret0 trivial rfl ?_
    first | (simp [norm, oneA]; done) | (simp only [norm, oneA]; by_cases q : (parseE s).2 = 0 <;> simp [q, parse_ok]; done)
  · skip
    have hs : s.size ≤ 1000000 := by simp at h13; omega
    refine W.skip ?_
    refine qs ?_
    refine W.seq ?_
    refine W.region ?_
    refine pu (ev tab rfl) rfl ?_
    refine pu (puCall rfl rfl rfl (eparse_fn s hs) rfl) rfl ?_
    iterate 3 refine pu (ev tab rfl) rfl ?_
    refine allocR tab rfl rfl rfl ?_
    refine storeR tab rfl rfl rfl rfl rfl rfl rfl rfl ?_
    refine pu (ev tab rfl) rfl ?_
    refine WO.nil ?_
    refine qs ?_
    refine W.seq ?_
    refine W.region ?_
    refine pu (ev tab rfl) rfl ?_
    refine pu (puCall rfl rfl rfl (rparse_fn s hs) rfl) rfl ?_
    iterate 3 refine pu (ev tab rfl) rfl ?_
    refine allocR tab rfl rfl rfl ?_
    refine storeR tab rfl rfl rfl rfl rfl rfl rfl rfl ?_
    refine pu (ev tab rfl) rfl ?_
    refine WO.nil ?_
    refine qs ?_
    refine W.seq ?_
    refine W.seq ?_
    apply regionB; (case hb => rfl)
    · skip
      iterate 4 refine pu (ev tab rfl) rfl ?_
      apply splitJ; (case hj => rfl); (case hl => rfl)
      · skip
        refine skipT rfl rfl rfl rfl ?_
        refine skipT rfl rfl rfl rfl ?_
        refine skipT rfl rfl rfl rfl ?_
        refine skipT rfl rfl rfl rfl ?_
        refine pu (ev tab rfl) rfl ?_
        refine WO.nil ?_
        refine qv1 rfl rfl rfl
      · skip
        refine goG rfl rfl ?_
        first | refine pu (ev tab rfl) rfl ?_ | refine pu (loadRow tab rfl rfl rfl rfl) rfl ?_ | refine pu (loadBox tab rfl rfl rfl rfl rfl) rfl ?_
        refine goG rfl rfl ?_
        first | refine pu (ev tab rfl) rfl ?_ | refine pu (loadRow tab rfl rfl rfl rfl) rfl ?_ | refine pu (loadBox tab rfl rfl rfl rfl rfl) rfl ?_
        refine goG rfl rfl ?_
        refine pu (puCall rfl rfl rfl (rsame_fn (parseE s).1 (parseE s).1) rfl) rfl ?_
        refine goG rfl rfl ?_
        iterate 2 refine pu (ev tab rfl) rfl ?_
        refine WO.nil ?_
        refine qv1 rfl rfl rfl
    refine qs ?_
    refine condK rfl (fun h33 => ?_) (fun h33 => ?_)
    · skip
      exfalso
      have hse : sameEv (parseE s).1 (parseE s).1 = true := (sameEv_iff _ _).2 rfl
      simp [hse] at h33
    · skip
      refine W.skip ?_
      refine qs ?_
      refine W.seq ?_
      apply regionB; (case hb => rfl)
      · skip
        iterate 3 refine pu (ev tab rfl) rfl ?_
        apply splitJ; (case hj => rfl); (case hl => rfl)
        · skip
          refine skipT rfl rfl rfl rfl ?_
          refine skipT rfl rfl rfl rfl ?_
          refine skipT rfl rfl rfl rfl ?_
          refine skipT rfl rfl rfl rfl ?_
          refine skipT rfl rfl rfl rfl ?_
          refine skipU rfl rfl rfl ?_
          refine skipU rfl rfl rfl ?_
          refine skipU rfl rfl rfl ?_
          refine skipT rfl rfl rfl rfl ?_
          iterate 2 refine pu (ev tab rfl) rfl ?_
          refine WO.nil ?_
          refine qv1 rfl rfl rfl
        · skip
          refine goG rfl rfl ?_
          first | refine pu (ev tab rfl) rfl ?_ | refine pu (loadRow tab rfl rfl rfl rfl) rfl ?_ | refine pu (loadBox tab rfl rfl rfl rfl rfl) rfl ?_
          refine goG rfl rfl ?_
          refine pu (puCall rfl rfl rfl (etext_fn (parseE s).1) rfl) rfl ?_
          refine goG rfl rfl ?_
          refine pu (ev tab rfl) rfl ?_
          refine goG rfl rfl ?_
          refine pu (ev tab rfl) rfl ?_
          refine goG rfl rfl ?_
          refine pu (ev tab rfl) rfl ?_
          apply splitJ; (case hj => rfl); (case hl => rfl)
          · skip
            refine goG rfl rfl ?_
            first | refine pu (ev tab rfl) rfl ?_ | refine pu (loadRow tab rfl rfl rfl rfl) rfl ?_ | refine pu (loadBox tab rfl rfl rfl rfl rfl) rfl ?_
            refine goG rfl rfl ?_
            refine pu (puCall rfl rfl rfl (echeck_fn (parseE s).1) rfl) rfl ?_
            refine goG rfl rfl ?_
            refine pu (ev tab rfl) rfl ?_
            refine goG rfl rfl ?_
            iterate 3 refine pu (ev tab rfl) rfl ?_
            refine WO.nil ?_
            refine qv1 rfl rfl rfl
          · skip
            refine skipT rfl rfl rfl rfl ?_
            refine skipT rfl rfl rfl rfl ?_
            refine skipT rfl rfl rfl rfl ?_
            refine goG rfl rfl ?_
            iterate 3 refine pu (ev tab rfl) rfl ?_
            refine WO.nil ?_
            refine qv1 rfl rfl rfl
      refine qs ?_
      refine W.ret ?_
      refine QF.ret0 trivial rfl ?_
      first | (simp [norm, oneA]; done) | (simp only [norm, oneA]; by_cases q : (parseE s).2 = 0 <;> simp [q, parse_ok]; done)
end Go.Proofs.YtifeonoehfffmaaDoor
