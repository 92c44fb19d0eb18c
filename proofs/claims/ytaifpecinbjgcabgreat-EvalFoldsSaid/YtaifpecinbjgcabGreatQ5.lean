import Derived.Test.YtaifpecinbjgcabGreatQ4
namespace Go.Proofs.YtaifpecinbjgcabGreat
open Go.Ab Go.Tb
set_option maxRecDepth 10000
attribute [local irreducible] W WO Pu QS QB QL QF QV QV1 CH QE
theorem tnode_fn (cols : List Col) : ∀ (e : Ex), nodesErr e = 0 → Does Tryz.prog 22 [.d (.sl (cols.map Col.c)), .ag e.c] (.tup [.d (.v (.int .i64 (typ cols e).1)), .d (.v (.int .i64 (typ cols e).2))]) 0 := by
  refine Ex.ind fun e ih => ?_
  intro hv
  have hkv := valid_kids (valid_node hv)
  have hq := typ_eq cols e
  refine Does.of_W (n := 109) (ts := [4, 5]) Tryz.func22 (by kernel_rfl) rfl Tryz.ntmps22 Tryz.results22 rfl rfl fun C hC hG => ?_
  refine W.seq ?_
  refine W.region ?_
  refine boxR rfl rfl rfl ?_
  iterate 2 refine pu (ev tab rfl) rfl ?_
  refine WO.nil ?_
  refine qs ?_
  refine W.seq ?_
  refine W.region ?_
  refine pu (ev tab rfl) rfl ?_
  refine WO.nil ?_
  refine qs ?_
  refine W.seq ?_
  refine W.seq ?_
  refine W.region ?_
  refine pu (ev tab rfl) rfl ?_
  first | refine pu (ev tab rfl) rfl ?_ | refine pu (loadRow tab rfl rfl rfl rfl) rfl ?_ | refine pu (loadBox tab rfl rfl rfl rfl rfl) rfl ?_
  iterate 2 refine pu (ev tab rfl) rfl ?_
  refine WO.nil ?_
  refine qs ?_
  refine W.block ?_
  refine ownNilR (d := 6) rfl rfl ?_
  refine W.len (t := 13) rfl rfl (fun hlen => ?_)
  try simp only [List.length_map, Ex.kc_len] at hlen
  refine W.loopR (ι := {x : Nat × List Int // match x with | (k, ks) => k ≤ e.kids.length ∧ typL cols (e.kids.drop k) ks = typL cols e.kids [] ∧ ks.length = k})
    (fun x => match x.1 with | (k, ks) => [(3, .ptr 0 0), (6, .own 1 (ks.map ic)), (15, .d (.v (.int .i64 ((k : Nat) : Int))))]) [(0, _), (13, _), (14, _)]
    (fun x => match x.1 with | (k, ks) => []) [(0, _)] [1] 2 (fun x => match x.1 with | (k, ks) => e.kids.length - k)
    [0, 1] ⟨(0, []), ?_⟩ rfl ?_ ⟨rfl, rfl, rfl, rfl, rfl, rfl, trivial⟩ ?_ ⟨rfl, rfl, trivial⟩ rfl ?_
  · exact ⟨Nat.zero_le _, rfl, rfl⟩
  · repeat' first | exact trivial | refine ⟨rfl, ?_⟩ | refine ⟨step_nat (by assumption) (by assumption), ?_⟩
  · repeat' first | exact trivial | refine ⟨rfl, ?_⟩ | refine ⟨step_nat (by assumption) (by assumption), ?_⟩
  rintro ⟨⟨k, ks⟩, hk, hI, h2⟩
  show W _ _ _ _ _ ⟨[(3, .ptr 0 0), (6, .own 1 (ks.map ic)), (15, .d (.v (.int .i64 ((k : Nat) : Int)))), (0, _), (13, _), (14, _)], [(0, _)], [1], 2⟩
  refine W.seq ?_
  refine W.region ?_
  refine pu (ev tab rfl) rfl ?_
  refine WO.nil ?_
  refine qs ?_
  refine W.seq ?_
  refine eachR (l := e.kids) (k := k) rfl (by simp [Ex.kc_len, bytes_len]) hk (fun x hx hd hlt => ?_) (fun he hd => ?_)
  · skip
    rw [hd] at hI
    simp only [typL] at hI
    have hmem := List.mem_of_getElem? hx
    have hne : e.kids ≠ [] := by rintro h; rw [h] at hmem; simp at hmem
    refine W.skip ?_
    refine qs ?_
    refine W.seq ?_
    refine W.block ?_
    refine W.seq ?_
    refine W.region ?_
    refine pu (indexAddr tab rfl rfl rfl rfl rfl rfl (Int.natCast_nonneg _) (Ex.kc_idx hx) rfl) rfl ?_
    first | refine pu (ev tab rfl) rfl ?_ | refine pu (loadRow tab rfl rfl rfl rfl) rfl ?_ | refine pu (loadBox tab rfl rfl rfl rfl rfl) rfl ?_
    refine allocR tab rfl rfl rfl ?_
    refine storeR tab rfl rfl rfl rfl rfl rfl rfl rfl ?_
    refine WO.nil ?_
    refine qs ?_
    refine W.seq ?_
    refine W.region ?_
    refine pu (ev tab rfl) rfl ?_
    first | refine pu (ev tab rfl) rfl ?_ | refine pu (loadRow tab rfl rfl rfl rfl) rfl ?_ | refine pu (loadBox tab rfl rfl rfl rfl rfl) rfl ?_
    refine pu (puCall rfl rfl rfl (ih x hmem (valid_kid hv hmem)) rfl) rfl ?_
    iterate 5 refine pu (ev tab rfl) rfl ?_
    refine WO.nil ?_
    refine qs ?_
    refine W.seq ?_
    refine W.seq ?_
    refine W.region ?_
    iterate 2 refine pu (ev tab rfl) rfl ?_
    refine WO.nil ?_
    refine qs ?_
    refine condK rfl (fun h26 => ?_) (fun h26 => ?_)
    · skip
      rw [if_pos (by simpa using h26)] at hI
      refine W.seq ?_
      refine W.region ?_
      iterate 3 refine pu (ev tab rfl) rfl ?_
      refine WO.nil ?_
      refine qs ?_
      refine W.ret ?_
      refine qsRet ?_
      refine qbRet ?_
      refine qsRet ?_
      refine qlRet ?_
      refine qbRet ?_
      refine qsRet ?_
      refine QF.ret0 trivial rfl ?_
      rw [hq, ← hI]
      simp only [norm, normL, oneA]
      grind
    · skip
      rw [if_neg (by simpa using h26)] at hI
      refine W.skip ?_
      refine qs ?_
      refine W.region ?_
      iterate 2 refine pu (ev tab rfl) rfl ?_
      refine pu (buildV tab rfl rfl rfl rfl rfl rfl rfl rfl rfl) rfl ?_
      refine appendM tab rfl rfl rfl rfl rfl rfl rfl rfl rfl rfl (fun _ => rfl) (by show (ks.length + 1) * 8 ≤ _; omega) ?_
      refine pu (ev tab rfl) rfl ?_
      refine WO.nil ?_
      refine qbN ?_
      refine qs ?_
      refine W.region ?_
      iterate 2 refine pu (ev tab rfl) rfl ?_
      refine WO.nil ?_
      refine W.endR [0, 3] ⟨(k + 1, ks ++ [(typ cols x).1]), ?_⟩ ?_ rfl ?_ ⟨rfl, rfl, rfl, rfl, rfl, rfl, trivial⟩ ?_ ⟨rfl, rfl, trivial⟩ rfl
      · exact ⟨hlt, hI, by simp [h2]⟩
      · dsimp only; omega
      · repeat' first | exact trivial | refine ⟨rfl, ?_⟩ | refine ⟨step_nat (by assumption) (by assumption), ?_⟩
      · repeat' first | exact trivial | refine ⟨rfl, ?_⟩ | refine ⟨step_nat (by assumption) (by assumption), ?_⟩
  · skip
    rw [hd] at hI
    simp only [typL] at hI
    have hkl : ks.length = e.kids.length := by omega
    refine W.exit ?_
    refine qsExit ?_
    refine qlExit ?_
    refine qbExit ?_
    refine qs ?_
    refine W.seq ?_
    refine W.seq ?_
    refine W.region ?_
    refine pu (ev tab rfl) rfl ?_
    first | refine pu (ev tab rfl) rfl ?_ | refine pu (loadRow tab rfl rfl rfl rfl) rfl ?_ | refine pu (loadBox tab rfl rfl rfl rfl rfl) rfl ?_
    refine WO.nil ?_
    refine qs ?_
    refine W.block ?_
    refine W.seq ?_
    refine W.region ?_
    iterate 2 refine pu (ev tab rfl) rfl ?_
    refine WO.nil ?_
    refine qs ?_
    refine condK rfl (fun h35 => ?_) (fun h35 => ?_)
    · skip
      refine W.seq ?_
      refine W.region ?_
      iterate 2 refine pu (ev tab rfl) rfl ?_
      first | refine pu (ev tab rfl) rfl ?_ | refine pu (loadRow tab rfl rfl rfl rfl) rfl ?_ | refine pu (loadBox tab rfl rfl rfl rfl rfl) rfl ?_
      iterate 2 refine pu (ev tab rfl) rfl ?_
      refine WO.nil ?_
      refine qs ?_
      refine W.ret ?_
      refine qbRet ?_
      refine qsRet ?_
      refine QF.ret0 trivial rfl ?_
      rw [hq, ← hI]
      clear hq hI ih
      simp only [norm, normL, oneA, findCol] at *
      rcases lenCases (ks := ks) (by omega) with rfl | ⟨a, rfl⟩ | ⟨a, b, rfl⟩ <;> simp_all [opT, whenT, both] <;> grind
    · skip
      refine W.seq ?_
      refine W.region ?_
      iterate 2 refine pu (ev tab rfl) rfl ?_
      refine WO.nil ?_
      refine qs ?_
      refine condK rfl (fun h40 => ?_) (fun h40 => ?_)
      · skip
        refine W.seq ?_
        refine W.region ?_
        iterate 2 refine pu (ev tab rfl) rfl ?_
        first | refine pu (ev tab rfl) rfl ?_ | refine pu (loadRow tab rfl rfl rfl rfl) rfl ?_ | refine pu (loadBox tab rfl rfl rfl rfl rfl) rfl ?_
        refine pu (puCall rfl rfl rfl (column_fn ..) rfl) rfl ?_
        refine pu (ev tab rfl) rfl ?_
        refine WO.nil ?_
        refine qs ?_
        refine W.seq ?_
        refine W.seq ?_
        refine W.region ?_
        iterate 2 refine pu (ev tab rfl) rfl ?_
        refine WO.nil ?_
        refine qs ?_
        refine condK rfl (fun h47 => ?_) (fun h47 => ?_)
        · skip
          have h5 := find_none (of_decide_eq_true h47)
          refine W.seq ?_
          refine W.region ?_
          iterate 2 refine pu (ev tab rfl) rfl ?_
          refine WO.nil ?_
          refine qs ?_
          refine W.ret ?_
          refine qsRet ?_
          refine qbRet ?_
          refine qsRet ?_
          refine QF.ret0 trivial rfl ?_
          rw [hq, ← hI]
          clear hq hI ih
          simp only [norm, normL, oneA, findCol] at *
          rcases lenCases (ks := ks) (by omega) with rfl | ⟨a, rfl⟩ | ⟨a, b, rfl⟩ <;> simp_all [opT, whenT, both] <;> grind
        · skip
          obtain ⟨i, c, h3, h4, h5, h6⟩ := find_some (of_decide_eq_false h47)
          refine W.skip ?_
          refine qs ?_
          refine W.seq ?_
          refine W.region ?_
          iterate 2 refine pu (ev tab rfl) rfl ?_
          refine pu (indexAddr tab rfl rfl rfl rfl rfl rfl (i := idx _) (by rw [h3]; exact Int.natCast_nonneg _) (by rw [h3]; exact idx_map h4) rfl) rfl ?_
          refine pu (ev tab rfl) rfl ?_
          first | refine pu (ev tab rfl) rfl ?_ | refine pu (loadRow tab rfl rfl rfl rfl) rfl ?_ | refine pu (loadBox tab rfl rfl rfl rfl rfl) rfl ?_
          iterate 2 refine pu (ev tab rfl) rfl ?_
          refine WO.nil ?_
          refine qs ?_
          refine W.ret ?_
          refine qbRet ?_
          refine qsRet ?_
          refine QF.ret0 trivial rfl ?_
          rw [hq, ← hI]
          clear hq hI ih
          simp only [norm, normL, oneA, findCol] at *
          rcases lenCases (ks := ks) (by omega) with rfl | ⟨a, rfl⟩ | ⟨a, b, rfl⟩ <;> simp_all [opT, whenT, both] <;> grind
      · skip
        refine W.seq ?_
        refine W.seq ?_
        refine W.region ?_
        iterate 2 refine pu (ev tab rfl) rfl ?_
        refine WO.nil ?_
        refine qs ?_
        refine condK rfl (fun h53 => ?_) (fun h53 => ?_)
        · skip
          refine W.skip ?_
          refine qs ?_
          refine W.condT rfl ?_
          refine W.seq ?_
          refine W.region ?_
          refine pu (ev tab rfl) rfl ?_
          refine pu (puCall rfl rfl rfl (all_fn ..) rfl) rfl ?_
          refine pu (puCall rfl rfl rfl (when_fn ..) rfl) rfl ?_
          iterate 4 refine pu (ev tab rfl) rfl ?_
          refine WO.nil ?_
          refine qs ?_
          refine W.ret ?_
          refine qbRet ?_
          refine qsRet ?_
          refine QF.ret0 trivial rfl ?_
          rw [hq, ← hI]
          clear hq hI ih
          simp only [norm, normL, oneA, findCol] at *
          rcases lenCases (ks := ks) (by omega) with rfl | ⟨a, rfl⟩ | ⟨a, b, rfl⟩ <;> simp_all [opT, whenT, both] <;> grind
        · skip
          refine W.seq ?_
          refine W.region ?_
          iterate 2 refine pu (ev tab rfl) rfl ?_
          refine WO.nil ?_
          refine qs ?_
          refine condK rfl (fun h53 => ?_) (fun h53 => ?_)
          · skip
            refine W.skip ?_
            refine qs ?_
            refine W.condT rfl ?_
            refine W.seq ?_
            refine W.region ?_
            refine pu (ev tab rfl) rfl ?_
            refine pu (puCall rfl rfl rfl (all_fn ..) rfl) rfl ?_
            refine pu (puCall rfl rfl rfl (when_fn ..) rfl) rfl ?_
            iterate 4 refine pu (ev tab rfl) rfl ?_
            refine WO.nil ?_
            refine qs ?_
            refine W.ret ?_
            refine qbRet ?_
            refine qsRet ?_
            refine QF.ret0 trivial rfl ?_
            rw [hq, ← hI]
            clear hq hI ih
            simp only [norm, normL, oneA, findCol] at *
            rcases lenCases (ks := ks) (by omega) with rfl | ⟨a, rfl⟩ | ⟨a, b, rfl⟩ <;> simp_all [opT, whenT, both] <;> grind
          · skip
            refine W.region ?_
            iterate 2 refine pu (ev tab rfl) rfl ?_
            refine WO.nil ?_
            refine qs ?_
            refine condK rfl (fun h53 => ?_) (fun h53 => ?_)
            · skip
              refine W.seq ?_
              refine W.region ?_
              refine pu (ev tab rfl) rfl ?_
              refine pu (puCall rfl rfl rfl (all_fn ..) rfl) rfl ?_
              refine pu (puCall rfl rfl rfl (when_fn ..) rfl) rfl ?_
              iterate 4 refine pu (ev tab rfl) rfl ?_
              refine WO.nil ?_
              refine qs ?_
              refine W.ret ?_
              refine qbRet ?_
              refine qsRet ?_
              refine QF.ret0 trivial rfl ?_
              rw [hq, ← hI]
              clear hq hI ih
              simp only [norm, normL, oneA, findCol] at *
              rcases lenCases (ks := ks) (by omega) with rfl | ⟨a, rfl⟩ | ⟨a, b, rfl⟩ <;> simp_all [opT, whenT, both] <;> grind
            · skip
              refine W.seq ?_
              refine W.seq ?_
              refine W.region ?_
              iterate 2 refine pu (ev tab rfl) rfl ?_
              refine WO.nil ?_
              refine qs ?_
              refine condK rfl (fun h62 => ?_) (fun h62 => ?_)
              · skip
                have h2l : ks.length = 2 := by rw [hkl]; apply hkv.2.2.2.1 <;> grind
                refine W.skip ?_
                refine qs ?_
                refine W.condT rfl ?_
                refine W.seq ?_
                refine W.regionD tab (by kernel_rfl) ?_
                refine chPu (ev tab rfl) rfl ?_
                refine chPu (indexAddr tab rfl rfl rfl rfl rfl rfl (Int.le_refl _) (at0 (by omega)) rfl) rfl ?_
                first | refine chPu (ev tab rfl) rfl ?_ | refine chPu (loadRow tab rfl rfl rfl rfl) rfl ?_ | refine chPu (loadBox tab rfl rfl rfl rfl rfl) rfl ?_
                refine chPu (ev tab rfl) rfl ?_
                refine chPu (indexAddr tab rfl rfl rfl rfl rfl rfl (by decide) (at1 (by omega)) rfl) rfl ?_
                first | refine chPu (ev tab rfl) rfl ?_ | refine chPu (loadRow tab rfl rfl rfl rfl) rfl ?_ | refine chPu (loadBox tab rfl rfl rfl rfl rfl) rfl ?_
                refine chPu (puCall rfl rfl rfl (fits_fn ..) rfl) rfl ?_
                refine chPu (ev tab rfl) rfl ?_
                refine chSplitG rfl rfl (fun _ => ?_) (fun _ => ?_)
                · skip
                  refine chSkip rfl rfl rfl rfl ?_
                  refine chSkip rfl rfl rfl rfl ?_
                  refine chSkip rfl rfl rfl rfl ?_
                  refine chSkip rfl rfl rfl rfl ?_
                  refine chSkip rfl rfl rfl rfl ?_
                  refine chSkip rfl rfl rfl rfl ?_
                  refine chSkip rfl rfl rfl rfl ?_
                  refine chPu (ev tab rfl) rfl ?_
                  refine chPu (puCall rfl rfl rfl (when_fn ..) rfl) rfl ?_
                  refine chPu (ev tab rfl) rfl ?_
                  refine chPu (ev tab rfl) rfl ?_
                  refine chPu (ev tab rfl) rfl ?_
                  refine chPu (ev tab rfl) rfl ?_
                  refine CH.nil ?_
                  refine qs ?_
                  refine W.ret ?_
                  refine qbRet ?_
                  refine qsRet ?_
                  refine QF.ret0 trivial rfl ?_
                  rw [hq, ← hI]
                  clear hq hI ih
                  simp only [norm, normL, oneA, findCol] at *
                  rcases lenCases (ks := ks) (by omega) with rfl | ⟨a, rfl⟩ | ⟨a, b, rfl⟩ <;> simp_all [opT, whenT, both] <;> grind
                · skip
                  refine chGo rfl rfl (ev tab rfl) rfl ?_
                  refine chGo rfl rfl (indexAddr tab rfl rfl rfl rfl rfl rfl (by decide) (at1 (by omega)) rfl) rfl ?_
                  first | refine chGo rfl rfl (ev tab rfl) rfl ?_ | refine chGo rfl rfl (loadRow tab rfl rfl rfl rfl) rfl ?_ | refine chGo rfl rfl (loadBox tab rfl rfl rfl rfl rfl) rfl ?_
                  refine chGo rfl rfl (ev tab rfl) rfl ?_
                  refine chGo rfl rfl (indexAddr tab rfl rfl rfl rfl rfl rfl (Int.le_refl _) (at0 (by omega)) rfl) rfl ?_
                  first | refine chGo rfl rfl (ev tab rfl) rfl ?_ | refine chGo rfl rfl (loadRow tab rfl rfl rfl rfl) rfl ?_ | refine chGo rfl rfl (loadBox tab rfl rfl rfl rfl rfl) rfl ?_
                  refine chGo rfl rfl (puCall rfl rfl rfl (fits_fn ..) rfl) rfl ?_
                  refine chPu (ev tab rfl) rfl ?_
                  refine chPu (puCall rfl rfl rfl (when_fn ..) rfl) rfl ?_
                  refine chPu (ev tab rfl) rfl ?_
                  refine chPu (ev tab rfl) rfl ?_
                  refine chPu (ev tab rfl) rfl ?_
                  refine chPu (ev tab rfl) rfl ?_
                  refine CH.nil ?_
                  refine qs ?_
                  refine W.ret ?_
                  refine qbRet ?_
                  refine qsRet ?_
                  refine QF.ret0 trivial rfl ?_
                  rw [hq, ← hI]
                  clear hq hI ih
                  simp only [norm, normL, oneA, findCol] at *
                  rcases lenCases (ks := ks) (by omega) with rfl | ⟨a, rfl⟩ | ⟨a, b, rfl⟩ <;> simp_all [opT, whenT, both] <;> grind
              · skip
                refine W.region ?_
                iterate 2 refine pu (ev tab rfl) rfl ?_
                refine WO.nil ?_
                refine qs ?_
                refine condK rfl (fun h62 => ?_) (fun h62 => ?_)
                · skip
                  have h2l : ks.length = 2 := by rw [hkl]; apply hkv.2.2.2.1 <;> grind
                  refine W.seq ?_
                  refine W.regionD tab (by kernel_rfl) ?_
                  refine chPu (ev tab rfl) rfl ?_
                  refine chPu (indexAddr tab rfl rfl rfl rfl rfl rfl (Int.le_refl _) (at0 (by omega)) rfl) rfl ?_
                  first | refine chPu (ev tab rfl) rfl ?_ | refine chPu (loadRow tab rfl rfl rfl rfl) rfl ?_ | refine chPu (loadBox tab rfl rfl rfl rfl rfl) rfl ?_
                  refine chPu (ev tab rfl) rfl ?_
                  refine chPu (indexAddr tab rfl rfl rfl rfl rfl rfl (by decide) (at1 (by omega)) rfl) rfl ?_
                  first | refine chPu (ev tab rfl) rfl ?_ | refine chPu (loadRow tab rfl rfl rfl rfl) rfl ?_ | refine chPu (loadBox tab rfl rfl rfl rfl rfl) rfl ?_
                  refine chPu (puCall rfl rfl rfl (fits_fn ..) rfl) rfl ?_
                  refine chPu (ev tab rfl) rfl ?_
                  refine chSplitG rfl rfl (fun _ => ?_) (fun _ => ?_)
                  · skip
                    refine chSkip rfl rfl rfl rfl ?_
                    refine chSkip rfl rfl rfl rfl ?_
                    refine chSkip rfl rfl rfl rfl ?_
                    refine chSkip rfl rfl rfl rfl ?_
                    refine chSkip rfl rfl rfl rfl ?_
                    refine chSkip rfl rfl rfl rfl ?_
                    refine chSkip rfl rfl rfl rfl ?_
                    refine chPu (ev tab rfl) rfl ?_
                    refine chPu (puCall rfl rfl rfl (when_fn ..) rfl) rfl ?_
                    refine chPu (ev tab rfl) rfl ?_
                    refine chPu (ev tab rfl) rfl ?_
                    refine chPu (ev tab rfl) rfl ?_
                    refine chPu (ev tab rfl) rfl ?_
                    refine CH.nil ?_
                    refine qs ?_
                    refine W.ret ?_
                    refine qbRet ?_
                    refine qsRet ?_
                    refine QF.ret0 trivial rfl ?_
                    rw [hq, ← hI]
                    clear hq hI ih
                    simp only [norm, normL, oneA, findCol] at *
                    rcases lenCases (ks := ks) (by omega) with rfl | ⟨a, rfl⟩ | ⟨a, b, rfl⟩ <;> simp_all [opT, whenT, both] <;> grind
                  · skip
                    refine chGo rfl rfl (ev tab rfl) rfl ?_
                    refine chGo rfl rfl (indexAddr tab rfl rfl rfl rfl rfl rfl (by decide) (at1 (by omega)) rfl) rfl ?_
                    first | refine chGo rfl rfl (ev tab rfl) rfl ?_ | refine chGo rfl rfl (loadRow tab rfl rfl rfl rfl) rfl ?_ | refine chGo rfl rfl (loadBox tab rfl rfl rfl rfl rfl) rfl ?_
                    refine chGo rfl rfl (ev tab rfl) rfl ?_
                    refine chGo rfl rfl (indexAddr tab rfl rfl rfl rfl rfl rfl (Int.le_refl _) (at0 (by omega)) rfl) rfl ?_
                    first | refine chGo rfl rfl (ev tab rfl) rfl ?_ | refine chGo rfl rfl (loadRow tab rfl rfl rfl rfl) rfl ?_ | refine chGo rfl rfl (loadBox tab rfl rfl rfl rfl rfl) rfl ?_
                    refine chGo rfl rfl (puCall rfl rfl rfl (fits_fn ..) rfl) rfl ?_
                    refine chPu (ev tab rfl) rfl ?_
                    refine chPu (puCall rfl rfl rfl (when_fn ..) rfl) rfl ?_
                    refine chPu (ev tab rfl) rfl ?_
                    refine chPu (ev tab rfl) rfl ?_
                    refine chPu (ev tab rfl) rfl ?_
                    refine chPu (ev tab rfl) rfl ?_
                    refine CH.nil ?_
                    refine qs ?_
                    refine W.ret ?_
                    refine qbRet ?_
                    refine qsRet ?_
                    refine QF.ret0 trivial rfl ?_
                    rw [hq, ← hI]
                    clear hq hI ih
                    simp only [norm, normL, oneA, findCol] at *
                    rcases lenCases (ks := ks) (by omega) with rfl | ⟨a, rfl⟩ | ⟨a, b, rfl⟩ <;> simp_all [opT, whenT, both] <;> grind
                · skip
                  refine W.seq ?_
                  refine W.seq ?_
                  refine W.region ?_
                  iterate 2 refine pu (ev tab rfl) rfl ?_
                  refine WO.nil ?_
                  refine qs ?_
                  refine condK rfl (fun h84 => ?_) (fun h84 => ?_)
                  · skip
                    refine W.skip ?_
                    refine qs ?_
                    refine W.condT rfl ?_
                    refine W.seq ?_
                    refine W.region ?_
                    refine pu (ev tab rfl) rfl ?_
                    refine pu (puCall rfl rfl rfl (all_fn ..) rfl) rfl ?_
                    refine pu (ev tab rfl) rfl ?_
                    refine splitG rfl rfl (fun _ => ?_) (fun _ => ?_)
                    · skip
                      refine skipT rfl rfl rfl rfl ?_
                      refine skipT rfl rfl rfl rfl ?_
                      refine pu (ev tab rfl) rfl ?_
                      refine pu (puCall rfl rfl rfl (when_fn ..) rfl) rfl ?_
                      iterate 4 refine pu (ev tab rfl) rfl ?_
                      refine WO.nil ?_
                      refine qs ?_
                      refine W.ret ?_
                      refine qbRet ?_
                      refine qsRet ?_
                      refine QF.ret0 trivial rfl ?_
                      rw [hq, ← hI]
                      clear hq hI ih
                      simp only [norm, normL, oneA, findCol] at *
                      rcases lenCases (ks := ks) (by omega) with rfl | ⟨a, rfl⟩ | ⟨a, b, rfl⟩ <;> simp_all [opT, whenT, both] <;> grind
                    · skip
                      refine goG rfl rfl ?_
                      refine pu (ev tab rfl) rfl ?_
                      refine goG rfl rfl ?_
                      refine pu (puCall rfl rfl rfl (all_fn ..) rfl) rfl ?_
                      refine pu (ev tab rfl) rfl ?_
                      refine pu (puCall rfl rfl rfl (when_fn ..) rfl) rfl ?_
                      iterate 4 refine pu (ev tab rfl) rfl ?_
                      refine WO.nil ?_
                      refine qs ?_
                      refine W.ret ?_
                      refine qbRet ?_
                      refine qsRet ?_
                      refine QF.ret0 trivial rfl ?_
                      rw [hq, ← hI]
                      clear hq hI ih
                      simp only [norm, normL, oneA, findCol] at *
                      rcases lenCases (ks := ks) (by omega) with rfl | ⟨a, rfl⟩ | ⟨a, b, rfl⟩ <;> simp_all [opT, whenT, both] <;> grind
                  · skip
                    refine W.region ?_
                    iterate 2 refine pu (ev tab rfl) rfl ?_
                    refine WO.nil ?_
                    refine qs ?_
                    refine condK rfl (fun h84 => ?_) (fun h84 => ?_)
                    · skip
                      refine W.seq ?_
                      refine W.region ?_
                      refine pu (ev tab rfl) rfl ?_
                      refine pu (puCall rfl rfl rfl (all_fn ..) rfl) rfl ?_
                      refine pu (ev tab rfl) rfl ?_
                      refine splitG rfl rfl (fun _ => ?_) (fun _ => ?_)
                      · skip
                        refine skipT rfl rfl rfl rfl ?_
                        refine skipT rfl rfl rfl rfl ?_
                        refine pu (ev tab rfl) rfl ?_
                        refine pu (puCall rfl rfl rfl (when_fn ..) rfl) rfl ?_
                        iterate 4 refine pu (ev tab rfl) rfl ?_
                        refine WO.nil ?_
                        refine qs ?_
                        refine W.ret ?_
                        refine qbRet ?_
                        refine qsRet ?_
                        refine QF.ret0 trivial rfl ?_
                        rw [hq, ← hI]
                        clear hq hI ih
                        simp only [norm, normL, oneA, findCol] at *
                        rcases lenCases (ks := ks) (by omega) with rfl | ⟨a, rfl⟩ | ⟨a, b, rfl⟩ <;> simp_all [opT, whenT, both] <;> grind
                      · skip
                        refine goG rfl rfl ?_
                        refine pu (ev tab rfl) rfl ?_
                        refine goG rfl rfl ?_
                        refine pu (puCall rfl rfl rfl (all_fn ..) rfl) rfl ?_
                        refine pu (ev tab rfl) rfl ?_
                        refine pu (puCall rfl rfl rfl (when_fn ..) rfl) rfl ?_
                        iterate 4 refine pu (ev tab rfl) rfl ?_
                        refine WO.nil ?_
                        refine qs ?_
                        refine W.ret ?_
                        refine qbRet ?_
                        refine qsRet ?_
                        refine QF.ret0 trivial rfl ?_
                        rw [hq, ← hI]
                        clear hq hI ih
                        simp only [norm, normL, oneA, findCol] at *
                        rcases lenCases (ks := ks) (by omega) with rfl | ⟨a, rfl⟩ | ⟨a, b, rfl⟩ <;> simp_all [opT, whenT, both] <;> grind
                    · skip
                      refine W.seq ?_
                      refine W.region ?_
                      iterate 2 refine pu (ev tab rfl) rfl ?_
                      refine WO.nil ?_
                      refine qs ?_
                      refine condK rfl (fun h96 => ?_) (fun h96 => ?_)
                      · skip
                        have hc := hkv.2.2.1 (by simpa using h96)
                        refine W.seq ?_
                        refine W.region ?_
                        refine pu (ev tab rfl) rfl ?_
                        first | refine pu (ev tab rfl) rfl ?_ | refine pu (loadRow tab rfl rfl rfl rfl) rfl ?_ | refine pu (loadBox tab rfl rfl rfl rfl rfl) rfl ?_
                        refine pu (ev tab rfl) rfl ?_
                        refine pu (puCall rfl rfl rfl (call_fn e.name ks (by rw [hkl]; exact hc.1) hc.2) rfl) rfl ?_
                        iterate 4 refine pu (ev tab rfl) rfl ?_
                        refine WO.nil ?_
                        refine qs ?_
                        refine W.ret ?_
                        refine qbRet ?_
                        refine qsRet ?_
                        refine QF.ret0 trivial rfl ?_
                        rw [hq, ← hI]
                        clear hq hI ih
                        simp only [norm, normL, oneA, findCol] at *
                        rcases lenCases (ks := ks) (by omega) with rfl | ⟨a, rfl⟩ | ⟨a, b, rfl⟩ <;> simp_all [opT, whenT, both] <;> grind
                      · skip
                        refine W.skip ?_
                        refine qbN ?_
                        refine qs ?_
                        refine W.seq ?_
                        refine W.region ?_
                        refine pu (ev tab rfl) rfl ?_
                        refine pu (puCall rfl rfl rfl (all_fn ..) rfl) rfl ?_
                        refine pu (puCall rfl rfl rfl (when_fn ..) rfl) rfl ?_
                        iterate 4 refine pu (ev tab rfl) rfl ?_
                        refine WO.nil ?_
                        refine qs ?_
                        refine W.ret ?_
                        refine QF.ret0 trivial rfl ?_
                        rw [hq, ← hI]
                        by_cases h4 : e.op = 4
                        · obtain ⟨a, rfl⟩ := len1 (l := ks) (by rw [hkl]; exact hkv.2.1 (.inr h4))
                          clear hq hI ih hkv hkl h2 hk hd
                          simp only [norm, normL, oneA, opT, whenT, both, List.getD_cons_zero, List.all_cons, List.all_nil, Bool.and_true, h4]
                          simp
                        · have h2l : ks.length = 2 := by rw [hkl]; apply hkv.2.2.2.1 <;> grind
                          obtain ⟨a, b, rfl⟩ := len2 h2l
                          clear hq hI ih hkv hkl h2l h2 hk hd
                          simp only [norm, normL, oneA, opT, whenT, both, List.getD_cons_zero, List.getD_cons_succ, List.all_cons, List.all_nil, Bool.and_true]
                          simp_all
theorem rtyped_fn (cols : List Col) : ∀ (e : Ex), nodesErr e = 0 → Does Tryz.prog 54 [.d (.sl (cols.map Col.c)), .ag e.c] (.tup [.d (.v (.int .i64 (typ cols e).1)), .d (.v (.int .i64 (typ cols e).2))]) 0 := by
  refine Ex.ind fun e ih => ?_
  intro hv
  have hkv := valid_kids (valid_node hv)
  have hq := typ_eq cols e
  refine Does.of_W (n := 66) (ts := [4, 5]) Tryz.func54 (by kernel_rfl) rfl Tryz.ntmps54 Tryz.results54 rfl rfl fun C hC hG => ?_
  refine W.seq ?_
  refine W.region ?_
  refine boxR rfl rfl rfl ?_
  iterate 2 refine pu (ev tab rfl) rfl ?_
  refine WO.nil ?_
  refine qs ?_
  refine W.seq ?_
  refine W.seq ?_
  refine W.region ?_
  refine pu (ev tab rfl) rfl ?_
  first | refine pu (ev tab rfl) rfl ?_ | refine pu (loadRow tab rfl rfl rfl rfl) rfl ?_ | refine pu (loadBox tab rfl rfl rfl rfl rfl) rfl ?_
  refine pu (ev tab rfl) rfl ?_
  refine WO.nil ?_
  refine qs ?_
  refine condK rfl (fun h15 => ?_) (fun h15 => ?_)
  · skip
    refine W.seq ?_
    refine W.region ?_
    iterate 2 refine pu (ev tab rfl) rfl ?_
    first | refine pu (ev tab rfl) rfl ?_ | refine pu (loadRow tab rfl rfl rfl rfl) rfl ?_ | refine pu (loadBox tab rfl rfl rfl rfl rfl) rfl ?_
    iterate 2 refine pu (ev tab rfl) rfl ?_
    refine WO.nil ?_
    refine qs ?_
    refine W.ret ?_
    refine qsRet ?_
    refine QF.ret0 trivial rfl ?_
    rw [hq]; simp only [norm, normL, oneA]; simp_all
  · skip
    refine W.skip ?_
    refine qs ?_
    refine W.seq ?_
    refine W.seq ?_
    refine W.region ?_
    refine pu (ev tab rfl) rfl ?_
    first | refine pu (ev tab rfl) rfl ?_ | refine pu (loadRow tab rfl rfl rfl rfl) rfl ?_ | refine pu (loadBox tab rfl rfl rfl rfl rfl) rfl ?_
    refine pu (ev tab rfl) rfl ?_
    refine WO.nil ?_
    refine qs ?_
    refine condK rfl (fun h21 => ?_) (fun h21 => ?_)
    · skip
      refine W.seq ?_
      refine W.region ?_
      iterate 2 refine pu (ev tab rfl) rfl ?_
      first | refine pu (ev tab rfl) rfl ?_ | refine pu (loadRow tab rfl rfl rfl rfl) rfl ?_ | refine pu (loadBox tab rfl rfl rfl rfl rfl) rfl ?_
      refine pu (puCall rfl rfl rfl (rfind_fn ..) rfl) rfl ?_
      refine pu (ev tab rfl) rfl ?_
      refine WO.nil ?_
      refine qs ?_
      refine W.seq ?_
      refine W.seq ?_
      refine W.region ?_
      iterate 2 refine pu (ev tab rfl) rfl ?_
      refine WO.nil ?_
      refine qs ?_
      refine condK rfl (fun h27 => ?_) (fun h27 => ?_)
      · skip
        have h5 := find_none (of_decide_eq_true h27)
        refine W.seq ?_
        refine W.region ?_
        iterate 2 refine pu (ev tab rfl) rfl ?_
        refine WO.nil ?_
        refine qs ?_
        refine W.ret ?_
        refine qsRet ?_
        refine qsRet ?_
        refine QF.ret0 trivial rfl ?_
        rw [hq]; simp only [norm, normL, oneA, findCol, h5]; simp_all
      · skip
        obtain ⟨i, c, h3, h4, h5, h6⟩ := find_some (of_decide_eq_false h27)
        refine W.skip ?_
        refine qs ?_
        refine W.seq ?_
        refine W.region ?_
        iterate 2 refine pu (ev tab rfl) rfl ?_
        refine pu (indexAddr tab rfl rfl rfl rfl rfl rfl (i := idx _) (by rw [h3]; exact Int.natCast_nonneg _) (by rw [h3]; exact idx_map h4) rfl) rfl ?_
        refine pu (ev tab rfl) rfl ?_
        first | refine pu (ev tab rfl) rfl ?_ | refine pu (loadRow tab rfl rfl rfl rfl) rfl ?_ | refine pu (loadBox tab rfl rfl rfl rfl rfl) rfl ?_
        iterate 2 refine pu (ev tab rfl) rfl ?_
        refine WO.nil ?_
        refine qs ?_
        refine W.ret ?_
        refine qsRet ?_
        refine QF.ret0 trivial rfl ?_
        rw [hq]; simp only [norm, normL, oneA, findCol]; simp_all
    · skip
      refine W.skip ?_
      refine qs ?_
      refine W.seq ?_
      refine W.region ?_
      refine pu (ev tab rfl) rfl ?_
      refine WO.nil ?_
      refine qs ?_
      refine W.seq ?_
      refine W.seq ?_
      refine W.region ?_
      refine pu (ev tab rfl) rfl ?_
      refine WO.nil ?_
      refine qs ?_
      refine W.block ?_
      refine lenBox (g := 0) (j := 5) rfl rfl (fun hlen => ?_)
      rw [Ex.kc_len] at hlen
      refine ownNilR (d := 7) rfl rfl ?_
      refine W.loopR (ι := {x : Nat × List Int // match x with | (k, ks) => k ≤ e.kids.length ∧ typL cols (e.kids.drop k) ks = typL cols e.kids [] ∧ ks.length = k})
        (fun x => match x.1 with | (k, ks) => [(3, .ptr 0 0), (7, .own 1 (ks.map ic)), (8, .d (.v (.int .i64 ((k : Nat) : Int))))]) [(0, _)]
        (fun x => match x.1 with | (k, ks) => []) [(0, _)] [1] 2 (fun x => match x.1 with | (k, ks) => e.kids.length - k)
        [0, 1] ⟨(0, []), ?_⟩ rfl ?_ ⟨rfl, rfl, trivial⟩ ?_ ⟨rfl, rfl, trivial⟩ rfl ?_
      · exact ⟨Nat.zero_le _, rfl, rfl⟩
      · repeat' first | exact trivial | refine ⟨rfl, ?_⟩ | refine ⟨step_nat (by assumption) (by assumption), ?_⟩
      · repeat' first | exact trivial | refine ⟨rfl, ?_⟩ | refine ⟨step_nat (by assumption) (by assumption), ?_⟩
      rintro ⟨⟨k, ks⟩, hk, hI, h2⟩
      show W _ _ _ _ _ ⟨[(3, .ptr 0 0), (7, .own 1 (ks.map ic)), (8, .d (.v (.int .i64 ((k : Nat) : Int)))), (0, _)], [(0, _)], [1], 2⟩
      refine W.seq ?_
      refine W.seq ?_
      refine W.region ?_
      iterate 2 refine pu (ev tab rfl) rfl ?_
      first | refine pu (ev tab rfl) rfl ?_ | refine pu (loadRow tab rfl rfl rfl rfl) rfl ?_ | refine pu (loadBox tab rfl rfl rfl rfl rfl) rfl ?_
      iterate 2 refine pu (ev tab rfl) rfl ?_
      refine WO.nil ?_
      refine qs ?_
      refine eachR (l := e.kids) (k := k) rfl (by simp [Ex.kc_len, bytes_len]) hk (fun x hx hd hlt => ?_) (fun he hd => ?_)
      · skip
        rw [hd] at hI
        simp only [typL] at hI
        have hmem := List.mem_of_getElem? hx
        have hne : e.kids ≠ [] := by rintro h; rw [h] at hmem; simp at hmem
        refine W.skip ?_
        refine qs ?_
        refine W.seq ?_
        refine W.block ?_
        refine W.seq ?_
        refine W.region ?_
        iterate 2 refine pu (ev tab rfl) rfl ?_
        first | refine pu (ev tab rfl) rfl ?_ | refine pu (loadRow tab rfl rfl rfl rfl) rfl ?_ | refine pu (loadBox tab rfl rfl rfl rfl rfl) rfl ?_
        refine pu (ev tab rfl) rfl ?_
        refine pu (indexAddr tab rfl rfl rfl rfl rfl rfl (Int.natCast_nonneg _) (Ex.kc_idx hx) rfl) rfl ?_
        first | refine pu (ev tab rfl) rfl ?_ | refine pu (loadRow tab rfl rfl rfl rfl) rfl ?_ | refine pu (loadBox tab rfl rfl rfl rfl rfl) rfl ?_
        refine pu (puCall rfl rfl rfl (ih x hmem (valid_kid hv hmem)) rfl) rfl ?_
        iterate 5 refine pu (ev tab rfl) rfl ?_
        refine WO.nil ?_
        refine qs ?_
        refine W.seq ?_
        refine W.seq ?_
        refine W.region ?_
        iterate 2 refine pu (ev tab rfl) rfl ?_
        refine WO.nil ?_
        refine qs ?_
        refine condK rfl (fun h51 => ?_) (fun h51 => ?_)
        · skip
          rw [if_pos (by simpa using h51)] at hI
          refine W.seq ?_
          refine W.region ?_
          iterate 3 refine pu (ev tab rfl) rfl ?_
          refine WO.nil ?_
          refine qs ?_
          refine W.ret ?_
          refine qsRet ?_
          refine qbRet ?_
          refine qsRet ?_
          refine qlRet ?_
          refine qbRet ?_
          refine qsRet ?_
          refine QF.ret0 trivial rfl ?_
          rw [hq, ← hI]
          simp only [norm, normL, oneA]
          grind
        · skip
          rw [if_neg (by simpa using h51)] at hI
          refine W.skip ?_
          refine qs ?_
          refine W.region ?_
          iterate 2 refine pu (ev tab rfl) rfl ?_
          refine pu (buildV tab rfl rfl rfl rfl rfl rfl rfl rfl rfl) rfl ?_
          refine appendM tab rfl rfl rfl rfl rfl rfl rfl rfl rfl rfl (fun _ => rfl) (by show (ks.length + 1) * 8 ≤ _; omega) ?_
          refine pu (ev tab rfl) rfl ?_
          refine WO.nil ?_
          refine qbN ?_
          refine qs ?_
          refine W.region ?_
          iterate 3 refine pu (ev tab rfl) rfl ?_
          refine WO.nil ?_
          refine W.endR [0, 2] ⟨(k + 1, ks ++ [(typ cols x).1]), ?_⟩ ?_ rfl ?_ ⟨rfl, rfl, trivial⟩ ?_ ⟨rfl, rfl, trivial⟩ rfl
          · exact ⟨hlt, hI, by simp [h2]⟩
          · dsimp only; omega
          · repeat' first | exact trivial | refine ⟨rfl, ?_⟩ | refine ⟨step_nat (by assumption) (by assumption), ?_⟩
          · repeat' first | exact trivial | refine ⟨rfl, ?_⟩ | refine ⟨step_nat (by assumption) (by assumption), ?_⟩
      · skip
        rw [hd] at hI
        simp only [typL] at hI
        have hkl : ks.length = e.kids.length := by omega
        refine W.exit ?_
        refine qsExit ?_
        refine qlExit ?_
        refine qbExit ?_
        refine qs ?_
        refine W.seq ?_
        refine W.region ?_
        first | refine pu (ev tab rfl) rfl ?_ | refine pu (loadRow tab rfl rfl rfl rfl) rfl ?_ | refine pu (loadBox tab rfl rfl rfl rfl rfl) rfl ?_
        refine pu (ev tab rfl) rfl ?_
        refine pu (puCall rfl rfl rfl (operator_fn e ks (valid_node hv) hkl (of_decide_eq_false h15) (of_decide_eq_false h21)) rfl) rfl ?_
        iterate 5 refine pu (ev tab rfl) rfl ?_
        refine WO.nil ?_
        refine qs ?_
        refine W.seq ?_
        refine W.seq ?_
        refine W.region ?_
        iterate 2 refine pu (ev tab rfl) rfl ?_
        refine WO.nil ?_
        refine qs ?_
        refine condK rfl (fun h64 => ?_) (fun h64 => ?_)
        · skip
          refine W.seq ?_
          refine W.region ?_
          iterate 2 refine pu (ev tab rfl) rfl ?_
          refine WO.nil ?_
          refine qs ?_
          refine W.ret ?_
          refine qsRet ?_
          refine QF.ret0 trivial rfl ?_
          rw [hq, ← hI]
          clear hq hI ih hkv hkl h2 hk hd
          simp only [norm, normL, oneA, whenT]
          simp_all
        · skip
          refine W.skip ?_
          refine qs ?_
          refine W.seq ?_
          refine W.region ?_
          iterate 3 refine pu (ev tab rfl) rfl ?_
          refine WO.nil ?_
          refine qs ?_
          refine W.ret ?_
          refine QF.ret0 trivial rfl ?_
          rw [hq, ← hI]
          clear hq hI ih hkv hkl h2 hk hd
          simp only [norm, normL, oneA, whenT]
          simp_all
theorem texpr_fn (cols : List Col) (e : Ex) : Does Tryz.prog 9 [.d (.sl (cols.map Col.c)), .ag e.c] (.tup [.d (.v (.int .i64 (exprT cols e).1)), .d (.v (.int .i64 (exprT cols e).2))]) 0 := by
  refine Does.of_W (n := 17) (ts := [4, 5]) Tryz.func9 (by kernel_rfl) rfl Tryz.ntmps9 Tryz.results9 rfl rfl fun C hC hG => ?_
  refine W.seq ?_
  refine W.region ?_
  refine boxR rfl rfl rfl ?_
  iterate 2 refine pu (ev tab rfl) rfl ?_
  refine WO.nil ?_
  refine qs ?_
  refine W.seq ?_
  refine W.seq ?_
  refine W.region ?_
  first | refine pu (ev tab rfl) rfl ?_ | refine pu (loadRow tab rfl rfl rfl rfl) rfl ?_ | refine pu (loadBox tab rfl rfl rfl rfl rfl) rfl ?_
  refine pu (puCall rfl rfl rfl (expr_fn ..) rfl) rfl ?_
  refine pu (ev tab rfl) rfl ?_
  refine WO.nil ?_
  refine qs ?_
  refine W.seq ?_
  refine W.region ?_
  iterate 2 refine pu (ev tab rfl) rfl ?_
  refine WO.nil ?_
  refine qs ?_
  refine condK rfl (fun h10 => ?_) (fun h10 => ?_)
  · skip
    refine W.seq ?_
    refine W.region ?_
    iterate 3 refine pu (ev tab rfl) rfl ?_
    refine WO.nil ?_
    refine qs ?_
    refine W.ret ?_
    refine qsRet ?_
    refine QF.ret0 trivial rfl ?_
    simp only [norm, normL, oneA, exprT]; simp_all
  · skip
    have hv := exprErr_zero (by simpa using h10)
    refine W.skip ?_
    refine qs ?_
    refine W.seq ?_
    refine W.region ?_
    refine pu (ev tab rfl) rfl ?_
    first | refine pu (ev tab rfl) rfl ?_ | refine pu (loadRow tab rfl rfl rfl rfl) rfl ?_ | refine pu (loadBox tab rfl rfl rfl rfl rfl) rfl ?_
    refine pu (puCall rfl rfl rfl (tnode_fn cols e hv) rfl) rfl ?_
    iterate 4 refine pu (ev tab rfl) rfl ?_
    refine WO.nil ?_
    refine qs ?_
    refine W.ret ?_
    refine QF.ret0 trivial rfl ?_
    simp only [norm, normL, oneA, exprT]; simp_all
theorem rtexpr_fn (cols : List Col) (e : Ex) : Does Tryz.prog 35 [.d (.sl (cols.map Col.c)), .ag e.c] (.tup [.d (.v (.int .i64 (exprT cols e).1)), .d (.v (.int .i64 (exprT cols e).2))]) 0 := by
  refine Does.of_W (n := 17) (ts := [4, 5]) Tryz.func35 (by kernel_rfl) rfl Tryz.ntmps35 Tryz.results35 rfl rfl fun C hC hG => ?_
  refine W.seq ?_
  refine W.region ?_
  refine boxR rfl rfl rfl ?_
  iterate 2 refine pu (ev tab rfl) rfl ?_
  refine WO.nil ?_
  refine qs ?_
  refine W.seq ?_
  refine W.region ?_
  first | refine pu (ev tab rfl) rfl ?_ | refine pu (loadRow tab rfl rfl rfl rfl) rfl ?_ | refine pu (loadBox tab rfl rfl rfl rfl rfl) rfl ?_
  refine pu (puCall rfl rfl rfl (rexpr_fn ..) rfl) rfl ?_
  refine pu (ev tab rfl) rfl ?_
  refine WO.nil ?_
  refine qs ?_
  refine W.seq ?_
  refine W.seq ?_
  refine W.region ?_
  iterate 2 refine pu (ev tab rfl) rfl ?_
  refine WO.nil ?_
  refine qs ?_
  refine condK rfl (fun h10 => ?_) (fun h10 => ?_)
  · skip
    refine W.seq ?_
    refine W.region ?_
    iterate 3 refine pu (ev tab rfl) rfl ?_
    refine WO.nil ?_
    refine qs ?_
    refine W.ret ?_
    refine qsRet ?_
    refine QF.ret0 trivial rfl ?_
    simp only [norm, normL, oneA, exprT]; simp_all
  · skip
    have hv := exprErr_zero (by simpa using h10)
    refine W.skip ?_
    refine qs ?_
    refine W.seq ?_
    refine W.region ?_
    refine pu (ev tab rfl) rfl ?_
    first | refine pu (ev tab rfl) rfl ?_ | refine pu (loadRow tab rfl rfl rfl rfl) rfl ?_ | refine pu (loadBox tab rfl rfl rfl rfl rfl) rfl ?_
    refine pu (puCall rfl rfl rfl (rtyped_fn cols e hv) rfl) rfl ?_
    iterate 4 refine pu (ev tab rfl) rfl ?_
    refine WO.nil ?_
    refine qs ?_
    refine W.ret ?_
    refine QF.ret0 trivial rfl ?_
    simp only [norm, normL, oneA, exprT]; simp_all
end Go.Proofs.YtaifpecinbjgcabGreat
namespace Go.Proofs.YtaifpecinbjgcabGreat
open Go.Ab Go.Tb
set_option maxRecDepth 10000
attribute [local irreducible] W WO Pu QS QB QL QF QV QV1 CH QE
theorem truth_fn (b : Bool) : Does Tryz.prog 25 [.d (.v (.bool b))] (.ag (truthV b).c) 0 := by
  refine Does.of_V tab (n := 6) (rs := [.cell 2 27]) Tryz.func25 (by kernel_rfl) rfl Tryz.ntmps25 Tryz.results25 rfl fun C hC hG => ?_
  refine W.seq ?_
  refine W.region ?_
  refine allocR tab rfl rfl rfl ?_
  refine WO.nil ?_
  refine qs ?_
  refine W.seq ?_
  refine W.seq ?_
  refine W.region ?_
  refine pu (ev tab rfl) rfl ?_
  refine WO.nil ?_
  refine qs ?_
  refine condK rfl (fun h3 => ?_) (fun h3 => ?_)
  · skip
    refine W.seq ?_
    refine W.region ?_
    refine pu (build tab rfl rfl rfl rfl) rfl ?_
    refine storeR tab rfl rfl rfl rfl rfl rfl rfl rfl ?_
    refine WO.nil ?_
    refine qs ?_
    refine W.ret ?_
    refine qsRet ?_
    refine QV.ret0 tab trivial rfl ?_
    subst b; rfl
  · skip
    refine W.skip ?_
    refine qs ?_
    refine W.seq ?_
    refine W.region ?_
    refine pu (build tab rfl rfl rfl rfl) rfl ?_
    refine storeR tab rfl rfl rfl rfl rfl rfl rfl rfl ?_
    refine WO.nil ?_
    refine qs ?_
    refine W.ret ?_
    refine QV.ret0 tab trivial rfl ?_
    subst b; rfl
theorem enumber_fn (n : Int) (b : Bool) : Does Tryz.prog 26 [.d (.v (.int .i64 n)), .d (.v (.bool b))] (.ag (okV (n, b)).c) 0 := by
  refine Does.of_V tab (n := 10) (rs := [.cell 4 27]) Tryz.func26 (by kernel_rfl) rfl Tryz.ntmps26 Tryz.results26 rfl fun C hC hG => ?_
  refine W.seq ?_
  refine W.region ?_
  refine allocR tab rfl rfl rfl ?_
  refine WO.nil ?_
  refine qs ?_
  refine W.seq ?_
  refine W.seq ?_
  refine W.region ?_
  iterate 2 refine pu (ev tab rfl) rfl ?_
  refine WO.nil ?_
  refine qs ?_
  refine condK rfl (fun h6 => ?_) (fun h6 => ?_)
  · skip
    refine W.seq ?_
    refine W.region ?_
    refine pu (build tab rfl rfl rfl rfl) rfl ?_
    refine storeR tab rfl rfl rfl rfl rfl rfl rfl rfl ?_
    refine WO.nil ?_
    refine qs ?_
    refine W.ret ?_
    refine qsRet ?_
    refine QV.ret0 tab trivial rfl ?_
    cases b <;> first | rfl | simp at h6
  · skip
    refine W.skip ?_
    refine qs ?_
    refine W.seq ?_
    refine W.region ?_
    refine pu (ev tab rfl) rfl ?_
    refine pu (build tab rfl rfl rfl rfl) rfl ?_
    refine storeR tab rfl rfl rfl rfl rfl rfl rfl rfl ?_
    refine WO.nil ?_
    refine qs ?_
    refine W.ret ?_
    refine QV.ret0 tab trivial rfl ?_
    cases b <;> first | rfl | simp at h6
theorem rnumber_fn (n : Int) : Does Tryz.prog 13 [.d (.v (.int .i64 n))] (.ag (numV n).c) 0 := by
  refine Does.of_V tab (n := 5) (rs := [.cell 2 27]) Tryz.func13 (by kernel_rfl) rfl Tryz.ntmps13 Tryz.results13 rfl fun C hC hG => ?_
  refine W.seq ?_
  refine W.region ?_
  refine allocR tab rfl rfl rfl ?_
  refine WO.nil ?_
  refine qs ?_
  refine W.seq ?_
  refine W.region ?_
  refine pu (ev tab rfl) rfl ?_
  refine pu (build tab rfl rfl rfl rfl) rfl ?_
  refine storeR tab rfl rfl rfl rfl rfl rfl rfl rfl ?_
  refine WO.nil ?_
  refine qs ?_
  refine W.ret ?_
  refine QV.ret0 tab trivial rfl ?_
  rfl
theorem rtruth_fn (b : Bool) : Does Tryz.prog 78 [.d (.v (.bool b))] (.ag (truthV b).c) 0 := by
  refine Does.of_V tab (n := 6) (rs := [.cell 2 27]) Tryz.func78 (by kernel_rfl) rfl Tryz.ntmps78 Tryz.results78 rfl fun C hC hG => ?_
  refine W.seq ?_
  refine W.region ?_
  refine allocR tab rfl rfl rfl ?_
  refine WO.nil ?_
  refine qs ?_
  refine W.seq ?_
  refine W.seq ?_
  refine W.region ?_
  refine pu (ev tab rfl) rfl ?_
  refine WO.nil ?_
  refine qs ?_
  refine condK rfl (fun h3 => ?_) (fun h3 => ?_)
  · skip
    refine W.seq ?_
    refine W.region ?_
    refine pu (build tab rfl rfl rfl rfl) rfl ?_
    refine storeR tab rfl rfl rfl rfl rfl rfl rfl rfl ?_
    refine WO.nil ?_
    refine qs ?_
    refine W.ret ?_
    refine qsRet ?_
    refine QV.ret0 tab trivial rfl ?_
    subst b; rfl
  · skip
    refine W.skip ?_
    refine qs ?_
    refine W.seq ?_
    refine W.region ?_
    refine pu (build tab rfl rfl rfl rfl) rfl ?_
    refine storeR tab rfl rfl rfl rfl rfl rfl rfl rfl ?_
    refine WO.nil ?_
    refine qs ?_
    refine W.ret ?_
    refine QV.ret0 tab trivial rfl ?_
    subst b; rfl
theorem nanK_fn (n : Int) : Does Tryz.prog 64 [.d (.v (.int .i64 n))] (.d (.v (.bool false))) 0 := by
  refine Does.of_W (n := 6) (ts := [2]) Tryz.func64 (by kernel_rfl) rfl Tryz.ntmps64 Tryz.results64 rfl rfl fun C hC hG => ?_
  refine W.seq ?_
  refine W.region ?_
  refine pu (ev tab rfl) rfl ?_
  refine WO.nil ?_
  refine qs ?_
  refine W.seq ?_
  refine W.region ?_
  iterate 4 refine pu (ev tab rfl) rfl ?_
  refine WO.nil ?_
  refine qs ?_
  refine W.ret ?_
  refine QF.ret0 trivial rfl ?_
  simp [norm, oneA]
theorem nanI_fn (n : Int) : Does Tryz.prog 66 [.d (.v (.int .i64 n))] (.d (.v (.bool false))) 0 := by
  refine Does.of_W (n := 6) (ts := [2]) Tryz.func66 (by kernel_rfl) rfl Tryz.ntmps66 Tryz.results66 rfl rfl fun C hC hG => ?_
  refine W.seq ?_
  refine W.region ?_
  refine pu (ev tab rfl) rfl ?_
  refine WO.nil ?_
  refine qs ?_
  refine W.seq ?_
  refine W.region ?_
  iterate 4 refine pu (ev tab rfl) rfl ?_
  refine WO.nil ?_
  refine qs ?_
  refine W.ret ?_
  refine QF.ret0 trivial rfl ?_
  simp [norm, oneA]
theorem nanS_fn (n : ByteArray) : Does Tryz.prog 65 [.d (.v (.string n))] (.d (.v (.bool false))) 0 := by
  refine Does.of_W (n := 6) (ts := [2]) Tryz.func65 (by kernel_rfl) rfl Tryz.ntmps65 Tryz.results65 rfl rfl fun C hC hG => ?_
  refine W.seq ?_
  refine W.region ?_
  refine pu (ev tab rfl) rfl ?_
  refine WO.nil ?_
  refine qs ?_
  refine W.seq ?_
  refine W.region ?_
  iterate 4 refine pu (ev tab rfl) rfl ?_
  refine WO.nil ?_
  refine qs ?_
  refine W.ret ?_
  refine QF.ret0 trivial rfl ?_
  simp [norm, oneA]
theorem cmpK_fn (a b : Int) : Does Tryz.prog 49 [.d (.v (.int .i64 a)), .d (.v (.int .i64 b))] (.d (.v (.int .i64 (cmpI a b)))) 0 := by
  refine Does.of_W (n := 20) (ts := [4]) Tryz.func49 (by kernel_rfl) rfl Tryz.ntmps49 Tryz.results49 rfl rfl fun C hC hG => ?_
  refine W.seq ?_
  refine W.region ?_
  refine pu (ev tab rfl) rfl ?_
  refine WO.nil ?_
  refine qs ?_
  refine W.seq ?_
  refine W.region ?_
  refine pu (ev tab rfl) rfl ?_
  refine pu (puCall rfl rfl rfl (nanK_fn ..) rfl) rfl ?_
  refine pu (ev tab rfl) rfl ?_
  refine WO.nil ?_
  refine qs ?_
  refine W.seq ?_
  refine W.region ?_
  refine pu (ev tab rfl) rfl ?_
  refine pu (puCall rfl rfl rfl (nanK_fn ..) rfl) rfl ?_
  refine pu (ev tab rfl) rfl ?_
  refine WO.nil ?_
  refine qs ?_
  refine W.seq ?_
  refine W.seq ?_
  refine W.region ?_
  refine pu (ev tab rfl) rfl ?_
  refine WO.nil ?_
  refine qs ?_
  refine condK rfl (fun h11 => ?_) (fun h11 => ?_)
  · skip
    refine W.seq ?_
    refine W.seq ?_
    refine W.region ?_
    refine pu (ev tab rfl) rfl ?_
    refine WO.nil ?_
    refine qs ?_
    refine condK rfl (fun h12 => ?_) (fun h12 => ?_)
    · skip
      refine W.seq ?_
      refine W.region ?_
      refine pu (ev tab rfl) rfl ?_
      refine WO.nil ?_
      refine qs ?_
      refine W.ret ?_
      refine qsRet ?_
      refine qsRet ?_
      refine QF.ret0 trivial rfl ?_
      simp only [norm, oneA] at *; grind [cmpI]
    · skip
      refine W.skip ?_
      refine qs ?_
      refine W.seq ?_
      refine W.region ?_
      refine pu (ev tab rfl) rfl ?_
      refine WO.nil ?_
      refine qs ?_
      refine W.ret ?_
      refine qsRet ?_
      refine QF.ret0 trivial rfl ?_
      simp only [norm, oneA] at *; grind [cmpI]
  · skip
    refine W.skip ?_
    refine qs ?_
    refine W.seq ?_
    refine W.seq ?_
    refine W.region ?_
    refine pu (ev tab rfl) rfl ?_
    refine WO.nil ?_
    refine qs ?_
    refine condK rfl (fun h13 => ?_) (fun h13 => ?_)
    · skip
      refine W.seq ?_
      refine W.region ?_
      refine pu (ev tab rfl) rfl ?_
      refine WO.nil ?_
      refine qs ?_
      refine W.ret ?_
      refine qsRet ?_
      refine QF.ret0 trivial rfl ?_
      simp only [norm, oneA] at *; grind [cmpI]
    · skip
      refine W.skip ?_
      refine qs ?_
      refine W.seq ?_
      refine W.seq ?_
      refine W.region ?_
      iterate 3 refine pu (ev tab rfl) rfl ?_
      refine WO.nil ?_
      refine qs ?_
      refine condK rfl (fun h16 => ?_) (fun h16 => ?_)
      · skip
        refine W.seq ?_
        refine W.region ?_
        refine pu (ev tab rfl) rfl ?_
        refine WO.nil ?_
        refine qs ?_
        refine W.ret ?_
        refine qsRet ?_
        refine QF.ret0 trivial rfl ?_
        simp only [norm, oneA] at *; grind [cmpI]
      · skip
        refine W.skip ?_
        refine qs ?_
        refine W.seq ?_
        refine W.seq ?_
        refine W.region ?_
        iterate 3 refine pu (ev tab rfl) rfl ?_
        refine WO.nil ?_
        refine qs ?_
        refine condK rfl (fun h19 => ?_) (fun h19 => ?_)
        · skip
          refine W.seq ?_
          refine W.region ?_
          refine pu (ev tab rfl) rfl ?_
          refine WO.nil ?_
          refine qs ?_
          refine W.ret ?_
          refine qsRet ?_
          refine QF.ret0 trivial rfl ?_
          simp only [norm, oneA] at *; grind [cmpI]
        · skip
          refine W.skip ?_
          refine qs ?_
          refine W.seq ?_
          refine W.region ?_
          refine pu (ev tab rfl) rfl ?_
          refine WO.nil ?_
          refine qs ?_
          refine W.ret ?_
          refine QF.ret0 trivial rfl ?_
          simp only [norm, oneA] at *; grind [cmpI]
theorem cmpN_fn (a b : Int) : Does Tryz.prog 51 [.d (.v (.int .i64 a)), .d (.v (.int .i64 b))] (.d (.v (.int .i64 (cmpI a b)))) 0 := by
  refine Does.of_W (n := 20) (ts := [4]) Tryz.func51 (by kernel_rfl) rfl Tryz.ntmps51 Tryz.results51 rfl rfl fun C hC hG => ?_
  refine W.seq ?_
  refine W.region ?_
  refine pu (ev tab rfl) rfl ?_
  refine WO.nil ?_
  refine qs ?_
  refine W.seq ?_
  refine W.region ?_
  refine pu (ev tab rfl) rfl ?_
  refine pu (puCall rfl rfl rfl (nanI_fn ..) rfl) rfl ?_
  refine pu (ev tab rfl) rfl ?_
  refine WO.nil ?_
  refine qs ?_
  refine W.seq ?_
  refine W.region ?_
  refine pu (ev tab rfl) rfl ?_
  refine pu (puCall rfl rfl rfl (nanI_fn ..) rfl) rfl ?_
  refine pu (ev tab rfl) rfl ?_
  refine WO.nil ?_
  refine qs ?_
  refine W.seq ?_
  refine W.seq ?_
  refine W.region ?_
  refine pu (ev tab rfl) rfl ?_
  refine WO.nil ?_
  refine qs ?_
  refine condK rfl (fun h11 => ?_) (fun h11 => ?_)
  · skip
    refine W.seq ?_
    refine W.seq ?_
    refine W.region ?_
    refine pu (ev tab rfl) rfl ?_
    refine WO.nil ?_
    refine qs ?_
    refine condK rfl (fun h12 => ?_) (fun h12 => ?_)
    · skip
      refine W.seq ?_
      refine W.region ?_
      refine pu (ev tab rfl) rfl ?_
      refine WO.nil ?_
      refine qs ?_
      refine W.ret ?_
      refine qsRet ?_
      refine qsRet ?_
      refine QF.ret0 trivial rfl ?_
      simp only [norm, oneA] at *; grind [cmpI]
    · skip
      refine W.skip ?_
      refine qs ?_
      refine W.seq ?_
      refine W.region ?_
      refine pu (ev tab rfl) rfl ?_
      refine WO.nil ?_
      refine qs ?_
      refine W.ret ?_
      refine qsRet ?_
      refine QF.ret0 trivial rfl ?_
      simp only [norm, oneA] at *; grind [cmpI]
  · skip
    refine W.skip ?_
    refine qs ?_
    refine W.seq ?_
    refine W.seq ?_
    refine W.region ?_
    refine pu (ev tab rfl) rfl ?_
    refine WO.nil ?_
    refine qs ?_
    refine condK rfl (fun h13 => ?_) (fun h13 => ?_)
    · skip
      refine W.seq ?_
      refine W.region ?_
      refine pu (ev tab rfl) rfl ?_
      refine WO.nil ?_
      refine qs ?_
      refine W.ret ?_
      refine qsRet ?_
      refine QF.ret0 trivial rfl ?_
      simp only [norm, oneA] at *; grind [cmpI]
    · skip
      refine W.skip ?_
      refine qs ?_
      refine W.seq ?_
      refine W.seq ?_
      refine W.region ?_
      iterate 3 refine pu (ev tab rfl) rfl ?_
      refine WO.nil ?_
      refine qs ?_
      refine condK rfl (fun h16 => ?_) (fun h16 => ?_)
      · skip
        refine W.seq ?_
        refine W.region ?_
        refine pu (ev tab rfl) rfl ?_
        refine WO.nil ?_
        refine qs ?_
        refine W.ret ?_
        refine qsRet ?_
        refine QF.ret0 trivial rfl ?_
        simp only [norm, oneA] at *; grind [cmpI]
      · skip
        refine W.skip ?_
        refine qs ?_
        refine W.seq ?_
        refine W.seq ?_
        refine W.region ?_
        iterate 3 refine pu (ev tab rfl) rfl ?_
        refine WO.nil ?_
        refine qs ?_
        refine condK rfl (fun h19 => ?_) (fun h19 => ?_)
        · skip
          refine W.seq ?_
          refine W.region ?_
          refine pu (ev tab rfl) rfl ?_
          refine WO.nil ?_
          refine qs ?_
          refine W.ret ?_
          refine qsRet ?_
          refine QF.ret0 trivial rfl ?_
          simp only [norm, oneA] at *; grind [cmpI]
        · skip
          refine W.skip ?_
          refine qs ?_
          refine W.seq ?_
          refine W.region ?_
          refine pu (ev tab rfl) rfl ?_
          refine WO.nil ?_
          refine qs ?_
          refine W.ret ?_
          refine QF.ret0 trivial rfl ?_
          simp only [norm, oneA] at *; grind [cmpI]
theorem cmpS_fn (a b : ByteArray) : Does Tryz.prog 50 [.d (.v (.string a)), .d (.v (.string b))] (.d (.v (.int .i64 (cmpS a b)))) 0 := by
  refine Does.of_W (n := 20) (ts := [4]) Tryz.func50 (by kernel_rfl) rfl Tryz.ntmps50 Tryz.results50 rfl rfl fun C hC hG => ?_
  refine W.seq ?_
  refine W.region ?_
  refine pu (ev tab rfl) rfl ?_
  refine WO.nil ?_
  refine qs ?_
  refine W.seq ?_
  refine W.region ?_
  refine pu (ev tab rfl) rfl ?_
  refine pu (puCall rfl rfl rfl (nanS_fn ..) rfl) rfl ?_
  refine pu (ev tab rfl) rfl ?_
  refine WO.nil ?_
  refine qs ?_
  refine W.seq ?_
  refine W.region ?_
  refine pu (ev tab rfl) rfl ?_
  refine pu (puCall rfl rfl rfl (nanS_fn ..) rfl) rfl ?_
  refine pu (ev tab rfl) rfl ?_
  refine WO.nil ?_
  refine qs ?_
  refine W.seq ?_
  refine W.seq ?_
  refine W.region ?_
  refine pu (ev tab rfl) rfl ?_
  refine WO.nil ?_
  refine qs ?_
  refine condK rfl (fun h11 => ?_) (fun h11 => ?_)
  · skip
    refine W.seq ?_
    refine W.seq ?_
    refine W.region ?_
    refine pu (ev tab rfl) rfl ?_
    refine WO.nil ?_
    refine qs ?_
    refine condK rfl (fun h12 => ?_) (fun h12 => ?_)
    · skip
      refine W.seq ?_
      refine W.region ?_
      refine pu (ev tab rfl) rfl ?_
      refine WO.nil ?_
      refine qs ?_
      refine W.ret ?_
      refine qsRet ?_
      refine qsRet ?_
      refine QF.ret0 trivial rfl ?_
      simp only [norm, oneA] at *; grind [cmpS]
    · skip
      refine W.skip ?_
      refine qs ?_
      refine W.seq ?_
      refine W.region ?_
      refine pu (ev tab rfl) rfl ?_
      refine WO.nil ?_
      refine qs ?_
      refine W.ret ?_
      refine qsRet ?_
      refine QF.ret0 trivial rfl ?_
      simp only [norm, oneA] at *; grind [cmpS]
  · skip
    refine W.skip ?_
    refine qs ?_
    refine W.seq ?_
    refine W.seq ?_
    refine W.region ?_
    refine pu (ev tab rfl) rfl ?_
    refine WO.nil ?_
    refine qs ?_
    refine condK rfl (fun h13 => ?_) (fun h13 => ?_)
    · skip
      refine W.seq ?_
      refine W.region ?_
      refine pu (ev tab rfl) rfl ?_
      refine WO.nil ?_
      refine qs ?_
      refine W.ret ?_
      refine qsRet ?_
      refine QF.ret0 trivial rfl ?_
      simp only [norm, oneA] at *; grind [cmpS]
    · skip
      refine W.skip ?_
      refine qs ?_
      refine W.seq ?_
      refine W.seq ?_
      refine W.region ?_
      iterate 3 refine pu (ev tab rfl) rfl ?_
      refine WO.nil ?_
      refine qs ?_
      refine condK rfl (fun h16 => ?_) (fun h16 => ?_)
      · skip
        refine W.seq ?_
        refine W.region ?_
        refine pu (ev tab rfl) rfl ?_
        refine WO.nil ?_
        refine qs ?_
        refine W.ret ?_
        refine qsRet ?_
        refine QF.ret0 trivial rfl ?_
        simp only [norm, oneA] at *; grind [cmpS]
      · skip
        refine W.skip ?_
        refine qs ?_
        refine W.seq ?_
        refine W.seq ?_
        refine W.region ?_
        iterate 3 refine pu (ev tab rfl) rfl ?_
        refine WO.nil ?_
        refine qs ?_
        refine condK rfl (fun h19 => ?_) (fun h19 => ?_)
        · skip
          refine W.seq ?_
          refine W.region ?_
          refine pu (ev tab rfl) rfl ?_
          refine WO.nil ?_
          refine qs ?_
          refine W.ret ?_
          refine qsRet ?_
          refine QF.ret0 trivial rfl ?_
          simp only [norm, oneA] at *; grind [cmpS]
        · skip
          refine W.skip ?_
          refine qs ?_
          refine W.seq ?_
          refine W.region ?_
          refine pu (ev tab rfl) rfl ?_
          refine WO.nil ?_
          refine qs ?_
          refine W.ret ?_
          refine QF.ret0 trivial rfl ?_
          simp only [norm, oneA] at *; grind [cmpS]
theorem numbers_fn (a b : Int) : Does Tryz.prog 105 [.d (.v (.int .i64 a)), .d (.v (.int .i64 b))] (.d (.v (.int .i64 (cmpI a b)))) 0 := by
  refine Does.of_W (n := 13) (ts := [4]) Tryz.func105 (by kernel_rfl) rfl Tryz.ntmps105 Tryz.results105 rfl rfl fun C hC hG => ?_
  refine W.seq ?_
  refine W.region ?_
  refine pu (ev tab rfl) rfl ?_
  refine WO.nil ?_
  refine qs ?_
  refine W.seq ?_
  refine W.block ?_
  refine W.seq ?_
  refine W.region ?_
  iterate 4 refine pu (ev tab rfl) rfl ?_
  refine WO.nil ?_
  refine qs ?_
  refine condK rfl (fun h5 => ?_) (fun h5 => ?_)
  · skip
    refine W.seq ?_
    refine W.region ?_
    refine pu (ev tab rfl) rfl ?_
    refine WO.nil ?_
    refine qs ?_
    refine W.ret ?_
    refine qbRet ?_
    refine qsRet ?_
    refine QF.ret0 trivial rfl ?_
    simp only [norm, oneA] at *; grind [cmpI]
  · skip
    refine W.seq ?_
    refine W.region ?_
    iterate 4 refine pu (ev tab rfl) rfl ?_
    refine WO.nil ?_
    refine qs ?_
    refine condK rfl (fun h9 => ?_) (fun h9 => ?_)
    · skip
      refine W.seq ?_
      refine W.region ?_
      refine pu (ev tab rfl) rfl ?_
      refine WO.nil ?_
      refine qs ?_
      refine W.ret ?_
      refine qbRet ?_
      refine qsRet ?_
      refine QF.ret0 trivial rfl ?_
      simp only [norm, oneA] at *; grind [cmpI]
    · skip
      refine W.skip ?_
      refine qbN ?_
      refine qs ?_
      refine W.seq ?_
      refine W.region ?_
      refine pu (ev tab rfl) rfl ?_
      refine WO.nil ?_
      refine qs ?_
      refine W.ret ?_
      refine QF.ret0 trivial rfl ?_
      simp only [norm, oneA] at *; grind [cmpI]
theorem order_fn (a b : Val) : Does Tryz.prog 29 [.ag a.c, .ag b.c] (.d (.v (.int .i64 (ordV a b)))) 0 := by
  refine Does.of_W (n := 39) (ts := [4]) Tryz.func29 (by kernel_rfl) rfl Tryz.ntmps29 Tryz.results29 rfl rfl fun C hC hG => ?_
  refine W.seq ?_
  refine W.region ?_
  refine boxR rfl rfl rfl ?_
  refine boxR rfl rfl rfl ?_
  refine pu (ev tab rfl) rfl ?_
  refine WO.nil ?_
  refine qs ?_
  refine W.seq ?_
  refine W.block ?_
  refine W.seq ?_
  refine W.region ?_
  refine pu (ev tab rfl) rfl ?_
  first | refine pu (ev tab rfl) rfl ?_ | refine pu (loadRow tab rfl rfl rfl rfl) rfl ?_ | refine pu (loadBox tab rfl rfl rfl rfl rfl) rfl ?_
  refine pu (ev tab rfl) rfl ?_
  first | refine pu (ev tab rfl) rfl ?_ | refine pu (loadRow tab rfl rfl rfl rfl) rfl ?_ | refine pu (loadBox tab rfl rfl rfl rfl rfl) rfl ?_
  iterate 2 refine pu (ev tab rfl) rfl ?_
  refine WO.nil ?_
  refine qs ?_
  refine condK rfl (fun h5 => ?_) (fun h5 => ?_)
  · skip
    refine W.seq ?_
    refine W.region ?_
    refine pu (ev tab rfl) rfl ?_
    first | refine pu (ev tab rfl) rfl ?_ | refine pu (loadRow tab rfl rfl rfl rfl) rfl ?_ | refine pu (loadBox tab rfl rfl rfl rfl rfl) rfl ?_
    refine pu (ev tab rfl) rfl ?_
    first | refine pu (ev tab rfl) rfl ?_ | refine pu (loadRow tab rfl rfl rfl rfl) rfl ?_ | refine pu (loadBox tab rfl rfl rfl rfl rfl) rfl ?_
    refine pu (puCall rfl rfl rfl (cmpK_fn ..) rfl) rfl ?_
    refine pu (ev tab rfl) rfl ?_
    refine WO.nil ?_
    refine qs ?_
    refine W.ret ?_
    refine qbRet ?_
    refine qsRet ?_
    refine QF.ret0 trivial rfl ?_
    simp only [norm, oneA] at *; grind [ordV]
  · skip
    refine W.seq ?_
    refine W.region ?_
    refine pu (ev tab rfl) rfl ?_
    first | refine pu (ev tab rfl) rfl ?_ | refine pu (loadRow tab rfl rfl rfl rfl) rfl ?_ | refine pu (loadBox tab rfl rfl rfl rfl rfl) rfl ?_
    iterate 2 refine pu (ev tab rfl) rfl ?_
    refine WO.nil ?_
    refine qs ?_
    refine condK rfl (fun h16 => ?_) (fun h16 => ?_)
    · skip
      refine W.seq ?_
      refine W.region ?_
      refine pu (ev tab rfl) rfl ?_
      first | refine pu (ev tab rfl) rfl ?_ | refine pu (loadRow tab rfl rfl rfl rfl) rfl ?_ | refine pu (loadBox tab rfl rfl rfl rfl rfl) rfl ?_
      refine pu (ev tab rfl) rfl ?_
      first | refine pu (ev tab rfl) rfl ?_ | refine pu (loadRow tab rfl rfl rfl rfl) rfl ?_ | refine pu (loadBox tab rfl rfl rfl rfl rfl) rfl ?_
      refine pu (puCall rfl rfl rfl (cmpS_fn ..) rfl) rfl ?_
      refine pu (ev tab rfl) rfl ?_
      refine WO.nil ?_
      refine qs ?_
      refine W.ret ?_
      refine qbRet ?_
      refine qsRet ?_
      refine QF.ret0 trivial rfl ?_
      simp only [norm, oneA] at *; grind [ordV]
    · skip
      refine W.seq ?_
      apply regionB; (case hb => rfl)
      · skip
        refine pu (ev tab rfl) rfl ?_
        first | refine pu (ev tab rfl) rfl ?_ | refine pu (loadRow tab rfl rfl rfl rfl) rfl ?_ | refine pu (loadBox tab rfl rfl rfl rfl rfl) rfl ?_
        iterate 2 refine pu (ev tab rfl) rfl ?_
        apply splitJ; (case hj => rfl); (case hl => rfl)
        · skip
          refine skipT rfl rfl rfl rfl ?_
          refine skipT rfl rfl rfl rfl ?_
          refine skipT rfl rfl rfl rfl ?_
          iterate 2 refine pu (ev tab rfl) rfl ?_
          refine WO.nil ?_
          refine qv1 rfl rfl rfl
        · skip
          refine goG rfl rfl ?_
          refine pu (ev tab rfl) rfl ?_
          refine goG rfl rfl ?_
          first | refine pu (ev tab rfl) rfl ?_ | refine pu (loadRow tab rfl rfl rfl rfl) rfl ?_ | refine pu (loadBox tab rfl rfl rfl rfl rfl) rfl ?_
          refine goG rfl rfl ?_
          iterate 3 refine pu (ev tab rfl) rfl ?_
          refine WO.nil ?_
          refine qv1 rfl rfl rfl
      refine qs ?_
      refine condK rfl (fun h25 => ?_) (fun h25 => ?_)
      · skip
        refine W.seq ?_
        refine W.region ?_
        refine pu (ev tab rfl) rfl ?_
        first | refine pu (ev tab rfl) rfl ?_ | refine pu (loadRow tab rfl rfl rfl rfl) rfl ?_ | refine pu (loadBox tab rfl rfl rfl rfl rfl) rfl ?_
        refine pu (ev tab rfl) rfl ?_
        first | refine pu (ev tab rfl) rfl ?_ | refine pu (loadRow tab rfl rfl rfl rfl) rfl ?_ | refine pu (loadBox tab rfl rfl rfl rfl rfl) rfl ?_
        refine pu (puCall rfl rfl rfl (cmpN_fn ..) rfl) rfl ?_
        refine pu (ev tab rfl) rfl ?_
        refine WO.nil ?_
        refine qs ?_
        refine W.ret ?_
        refine qbRet ?_
        refine qsRet ?_
        refine QF.ret0 trivial rfl ?_
        simp only [norm, oneA] at *; grind [ordV]
      · skip
        refine W.skip ?_
        refine qbN ?_
        refine qs ?_
        refine W.seq ?_
        refine W.region ?_
        refine pu (ev tab rfl) rfl ?_
        refine WO.nil ?_
        refine qs ?_
        refine W.ret ?_
        refine QF.ret0 trivial rfl ?_
        simp only [norm, oneA] at *; grind [ordV]
theorem rorder_fn (a b : Val) : Does Tryz.prog 95 [.ag a.c, .ag b.c] (.d (.v (.int .i64 (ordV a b)))) 0 := by
  refine Does.of_W (n := 47) (ts := [4]) Tryz.func95 (by kernel_rfl) rfl Tryz.ntmps95 Tryz.results95 rfl rfl fun C hC hG => ?_
  refine W.seq ?_
  refine W.region ?_
  refine boxR rfl rfl rfl ?_
  refine boxR rfl rfl rfl ?_
  refine pu (ev tab rfl) rfl ?_
  refine WO.nil ?_
  refine qs ?_
  refine W.seq ?_
  refine W.block ?_
  refine W.seq ?_
  refine W.region ?_
  refine pu (ev tab rfl) rfl ?_
  first | refine pu (ev tab rfl) rfl ?_ | refine pu (loadRow tab rfl rfl rfl rfl) rfl ?_ | refine pu (loadBox tab rfl rfl rfl rfl rfl) rfl ?_
  refine pu (ev tab rfl) rfl ?_
  first | refine pu (ev tab rfl) rfl ?_ | refine pu (loadRow tab rfl rfl rfl rfl) rfl ?_ | refine pu (loadBox tab rfl rfl rfl rfl rfl) rfl ?_
  iterate 2 refine pu (ev tab rfl) rfl ?_
  refine WO.nil ?_
  refine qs ?_
  refine condK rfl (fun h5 => ?_) (fun h5 => ?_)
  · skip
    refine W.seq ?_
    refine W.region ?_
    refine pu (ev tab rfl) rfl ?_
    first | refine pu (ev tab rfl) rfl ?_ | refine pu (loadRow tab rfl rfl rfl rfl) rfl ?_ | refine pu (loadBox tab rfl rfl rfl rfl rfl) rfl ?_
    refine pu (ev tab rfl) rfl ?_
    first | refine pu (ev tab rfl) rfl ?_ | refine pu (loadRow tab rfl rfl rfl rfl) rfl ?_ | refine pu (loadBox tab rfl rfl rfl rfl rfl) rfl ?_
    refine pu (puCall rfl rfl rfl (numbers_fn ..) rfl) rfl ?_
    refine pu (ev tab rfl) rfl ?_
    refine WO.nil ?_
    refine qs ?_
    refine W.ret ?_
    refine qbRet ?_
    refine qsRet ?_
    refine QF.ret0 trivial rfl ?_
    simp only [norm, oneA] at *; grind [ordV, cmpS, cmpS_self]
  · skip
    refine W.seq ?_
    apply regionB; (case hb => rfl)
    · skip
      refine pu (ev tab rfl) rfl ?_
      first | refine pu (ev tab rfl) rfl ?_ | refine pu (loadRow tab rfl rfl rfl rfl) rfl ?_ | refine pu (loadBox tab rfl rfl rfl rfl rfl) rfl ?_
      iterate 2 refine pu (ev tab rfl) rfl ?_
      apply splitJ; (case hj => rfl); (case hl => rfl)
      · skip
        refine skipT rfl rfl rfl rfl ?_
        refine skipT rfl rfl rfl rfl ?_
        refine skipT rfl rfl rfl rfl ?_
        iterate 2 refine pu (ev tab rfl) rfl ?_
        refine WO.nil ?_
        refine qv1 rfl rfl rfl
      · skip
        refine goG rfl rfl ?_
        refine pu (ev tab rfl) rfl ?_
        refine goG rfl rfl ?_
        first | refine pu (ev tab rfl) rfl ?_ | refine pu (loadRow tab rfl rfl rfl rfl) rfl ?_ | refine pu (loadBox tab rfl rfl rfl rfl rfl) rfl ?_
        refine goG rfl rfl ?_
        iterate 3 refine pu (ev tab rfl) rfl ?_
        refine WO.nil ?_
        refine qv1 rfl rfl rfl
    refine qs ?_
    refine condK rfl (fun h16 => ?_) (fun h16 => ?_)
    · skip
      refine W.seq ?_
      refine W.region ?_
      refine pu (ev tab rfl) rfl ?_
      first | refine pu (ev tab rfl) rfl ?_ | refine pu (loadRow tab rfl rfl rfl rfl) rfl ?_ | refine pu (loadBox tab rfl rfl rfl rfl rfl) rfl ?_
      refine pu (ev tab rfl) rfl ?_
      first | refine pu (ev tab rfl) rfl ?_ | refine pu (loadRow tab rfl rfl rfl rfl) rfl ?_ | refine pu (loadBox tab rfl rfl rfl rfl rfl) rfl ?_
      refine pu (puCall rfl rfl rfl (numbers_fn ..) rfl) rfl ?_
      refine pu (ev tab rfl) rfl ?_
      refine WO.nil ?_
      refine qs ?_
      refine W.ret ?_
      refine qbRet ?_
      refine qsRet ?_
      refine QF.ret0 trivial rfl ?_
      simp only [norm, oneA] at *; grind [ordV, cmpS, cmpS_self]
    · skip
      refine W.seq ?_
      apply regionB; (case hb => rfl)
      · skip
        refine pu (ev tab rfl) rfl ?_
        first | refine pu (ev tab rfl) rfl ?_ | refine pu (loadRow tab rfl rfl rfl rfl) rfl ?_ | refine pu (loadBox tab rfl rfl rfl rfl rfl) rfl ?_
        iterate 2 refine pu (ev tab rfl) rfl ?_
        apply splitJ; (case hj => rfl); (case hl => rfl)
        · skip
          refine skipT rfl rfl rfl rfl ?_
          refine skipT rfl rfl rfl rfl ?_
          refine skipT rfl rfl rfl rfl ?_
          refine skipT rfl rfl rfl rfl ?_
          refine skipT rfl rfl rfl rfl ?_
          iterate 2 refine pu (ev tab rfl) rfl ?_
          refine WO.nil ?_
          refine qv1 rfl rfl rfl
        · skip
          refine goG rfl rfl ?_
          refine pu (ev tab rfl) rfl ?_
          refine goG rfl rfl ?_
          first | refine pu (ev tab rfl) rfl ?_ | refine pu (loadRow tab rfl rfl rfl rfl) rfl ?_ | refine pu (loadBox tab rfl rfl rfl rfl rfl) rfl ?_
          refine goG rfl rfl ?_
          refine pu (ev tab rfl) rfl ?_
          refine goG rfl rfl ?_
          first | refine pu (ev tab rfl) rfl ?_ | refine pu (loadRow tab rfl rfl rfl rfl) rfl ?_ | refine pu (loadBox tab rfl rfl rfl rfl rfl) rfl ?_
          refine goG rfl rfl ?_
          iterate 3 refine pu (ev tab rfl) rfl ?_
          refine WO.nil ?_
          refine qv1 rfl rfl rfl
      refine qs ?_
      refine condK rfl (fun h30 => ?_) (fun h30 => ?_)
      · skip
        refine W.seq ?_
        refine W.region ?_
        refine pu (ev tab rfl) rfl ?_
        refine WO.nil ?_
        refine qs ?_
        refine W.ret ?_
        refine qbRet ?_
        refine qsRet ?_
        refine QF.ret0 trivial rfl ?_
        simp only [norm, oneA] at *; grind [ordV, cmpS, cmpS_self]
      · skip
        refine W.seq ?_
        refine W.region ?_
        refine pu (ev tab rfl) rfl ?_
        first | refine pu (ev tab rfl) rfl ?_ | refine pu (loadRow tab rfl rfl rfl rfl) rfl ?_ | refine pu (loadBox tab rfl rfl rfl rfl rfl) rfl ?_
        refine pu (ev tab rfl) rfl ?_
        first | refine pu (ev tab rfl) rfl ?_ | refine pu (loadRow tab rfl rfl rfl rfl) rfl ?_ | refine pu (loadBox tab rfl rfl rfl rfl rfl) rfl ?_
        iterate 2 refine pu (ev tab rfl) rfl ?_
        refine WO.nil ?_
        refine qs ?_
        refine condK rfl (fun h41 => ?_) (fun h41 => ?_)
        · skip
          refine W.seq ?_
          refine W.region ?_
          refine pu (ev tab rfl) rfl ?_
          refine WO.nil ?_
          refine qs ?_
          refine W.ret ?_
          refine qbRet ?_
          refine qsRet ?_
          refine QF.ret0 trivial rfl ?_
          simp only [norm, oneA] at *; grind [ordV, cmpS, cmpS_self]
        · skip
          refine W.skip ?_
          refine qbN ?_
          refine qs ?_
          refine W.seq ?_
          refine W.region ?_
          refine pu (ev tab rfl) rfl ?_
          refine WO.nil ?_
          refine qs ?_
          refine W.ret ?_
          refine QF.ret0 trivial rfl ?_
          simp only [norm, oneA] at *; grind [ordV, cmpS, cmpS_self]
theorem lnumber_fn (n : Int) : Does Tryz.prog 15 [.d (.v (.int .i64 n))] (.ag (Ex.mk 1 (B #[]) (numV n) []).c) 0 := by
  refine Does.nilR (r := .ag [ci 1, cs (B #[]), ci 2, ci n, cs (B #[]), .v (.slice none 0 0)]) ?_ rfl
  refine Does.of_V tab (n := 6) (rs := [.cell 2 30]) Tryz.func15 (by kernel_rfl) rfl Tryz.ntmps15 Tryz.results15 rfl fun C hC hG => ?_
  refine W.seq ?_
  refine W.region ?_
  refine allocR tab rfl rfl rfl ?_
  refine WO.nil ?_
  refine qs ?_
  refine W.seq ?_
  refine W.region ?_
  refine pu (ev tab rfl) rfl ?_
  refine pu (puCall rfl rfl rfl (rnumber_fn ..) rfl) rfl ?_
  refine pu (build tab rfl rfl rfl rfl) rfl ?_
  refine storeR tab rfl rfl rfl rfl rfl rfl rfl rfl ?_
  refine WO.nil ?_
  refine qs ?_
  refine W.ret ?_
  refine QV.ret0 tab trivial rfl ?_
  rfl
theorem two_fn (op : Int) (a b : Ex) : Does Tryz.prog 14 [.d (.v (.int .i64 op)), .ag a.c, .ag b.c] (.ag (Ex.mk op (B #[]) nullV [a, b]).c) 0 := by
  refine Does.of_V tab (n := 12) (rs := [.cell 6 30]) Tryz.func14 (by kernel_rfl) rfl Tryz.ntmps14 Tryz.results14 rfl fun C hC hG => ?_
  refine W.seq ?_
  refine W.region ?_
  refine boxR rfl rfl rfl ?_
  refine boxR rfl rfl rfl ?_
  refine allocR tab rfl rfl rfl ?_
  refine WO.nil ?_
  refine qs ?_
  refine W.seq ?_
  refine W.region ?_
  refine pu (ev tab rfl) rfl ?_
  first | refine pu (ev tab rfl) rfl ?_ | refine pu (loadRow tab rfl rfl rfl rfl) rfl ?_ | refine pu (loadBox tab rfl rfl rfl rfl rfl) rfl ?_
  first | refine pu (ev tab rfl) rfl ?_ | refine pu (loadRow tab rfl rfl rfl rfl) rfl ?_ | refine pu (loadBox tab rfl rfl rfl rfl rfl) rfl ?_
  refine pu (buildV tab rfl rfl rfl rfl rfl rfl rfl rfl rfl) rfl ?_
  refine pu (build tab rfl rfl rfl rfl) rfl ?_
  refine storeR tab rfl rfl rfl rfl rfl rfl rfl rfl ?_
  refine WO.nil ?_
  refine qs ?_
  refine W.ret ?_
  refine QV.ret0 tab trivial rfl ?_
  rfl
end Go.Proofs.YtaifpecinbjgcabGreat
namespace Go.Proofs.YtaifpecinbjgcabGreat
open Go.Ab Go.Tb
set_option maxRecDepth 10000
attribute [local irreducible] W WO Pu QS QB QL QF QV QV1 CH QE
theorem plus_fn (n m : Nat) (h : n + m < 340282366920938463463374607431768211456) : Does Tryz.prog 113 [.ag (wc n), .ag (wc m)] (.ag (wc (n + m))) 0 := by
  refine Does.of_V tab (n := 27) (rs := [.cell 4 102]) Tryz.func113 (by kernel_rfl) rfl Tryz.ntmps113 Tryz.results113 rfl fun C hC hG => ?_
  refine W.seq ?_
  refine W.region ?_
  refine boxR rfl rfl rfl ?_
  refine boxR rfl rfl rfl ?_
  refine allocR tab rfl rfl rfl ?_
  refine WO.nil ?_
  refine qs ?_
  refine W.seq ?_
  refine W.region ?_
  refine pu (ev tab rfl) rfl ?_
  first | refine pu (ev tab rfl) rfl ?_ | refine pu (loadRow tab rfl rfl rfl rfl) rfl ?_ | refine pu (loadBox tab rfl rfl rfl rfl rfl) rfl ?_
  refine pu (ev tab rfl) rfl ?_
  first | refine pu (ev tab rfl) rfl ?_ | refine pu (loadRow tab rfl rfl rfl rfl) rfl ?_ | refine pu (loadBox tab rfl rfl rfl rfl rfl) rfl ?_
  iterate 2 refine pu (ev tab rfl) rfl ?_
  first | refine pu (ev tab rfl) rfl ?_ | refine pu (loadRow tab rfl rfl rfl rfl) rfl ?_ | refine pu (loadBox tab rfl rfl rfl rfl rfl) rfl ?_
  refine pu (ev tab rfl) rfl ?_
  first | refine pu (ev tab rfl) rfl ?_ | refine pu (loadRow tab rfl rfl rfl rfl) rfl ?_ | refine pu (loadBox tab rfl rfl rfl rfl rfl) rfl ?_
  refine pu (ev tab rfl) rfl ?_
  refine pu (build tab rfl rfl rfl rfl) rfl ?_
  refine allocR tab rfl rfl rfl ?_
  refine storeR tab rfl rfl rfl rfl rfl rfl rfl rfl ?_
  refine WO.nil ?_
  refine qs ?_
  refine W.seq ?_
  refine W.seq ?_
  refine W.region ?_
  refine pu (ev tab rfl) rfl ?_
  first | refine pu (ev tab rfl) rfl ?_ | refine pu (loadRow tab rfl rfl rfl rfl) rfl ?_ | refine pu (loadBox tab rfl rfl rfl rfl rfl) rfl ?_
  refine pu (ev tab rfl) rfl ?_
  first | refine pu (ev tab rfl) rfl ?_ | refine pu (loadRow tab rfl rfl rfl rfl) rfl ?_ | refine pu (loadBox tab rfl rfl rfl rfl rfl) rfl ?_
  refine pu (ev tab rfl) rfl ?_
  refine WO.nil ?_
  refine qs ?_
  refine condK rfl (fun h21 => ?_) (fun h21 => ?_)
  · skip
    refine W.region ?_
    refine pu (ev tab rfl) rfl ?_
    first | refine pu (ev tab rfl) rfl ?_ | refine pu (loadRow tab rfl rfl rfl rfl) rfl ?_ | refine pu (loadBox tab rfl rfl rfl rfl rfl) rfl ?_
    iterate 2 refine pu (ev tab rfl) rfl ?_
    refine storeR tab rfl rfl rfl rfl rfl rfl rfl rfl ?_
    refine WO.nil ?_
    refine qs ?_
    refine W.seq ?_
    refine W.region ?_
    first | refine pu (ev tab rfl) rfl ?_ | refine pu (loadRow tab rfl rfl rfl rfl) rfl ?_ | refine pu (loadBox tab rfl rfl rfl rfl rfl) rfl ?_
    refine storeR tab rfl rfl rfl rfl rfl rfl rfl rfl ?_
    refine WO.nil ?_
    refine qs ?_
    refine W.ret ?_
    refine QV.ret0 tab trivial rfl ?_
    simp only [wrap_u, decide_eq_true_eq, decide_eq_false_iff_not] at h21
    refine wc_ext ?_ ?_ <;> simp only [wrap_u] <;> omega
  · skip
    refine W.skip ?_
    refine qs ?_
    refine W.seq ?_
    refine W.region ?_
    first | refine pu (ev tab rfl) rfl ?_ | refine pu (loadRow tab rfl rfl rfl rfl) rfl ?_ | refine pu (loadBox tab rfl rfl rfl rfl rfl) rfl ?_
    refine storeR tab rfl rfl rfl rfl rfl rfl rfl rfl ?_
    refine WO.nil ?_
    refine qs ?_
    refine W.ret ?_
    refine QV.ret0 tab trivial rfl ?_
    simp only [wrap_u, decide_eq_true_eq, decide_eq_false_iff_not] at h21
    refine wc_ext ?_ ?_ <;> simp only [wrap_u] <;> omega
theorem plus1_fn (n m : Nat) (hm : m < 18446744073709551616) (h : n + m < 340282366920938463463374607431768211456) : Does Tryz.prog 113 [.ag (wc n), .ag [cu 0, cu m]] (.ag (wc (n + m))) 0 := by
  have := plus_fn n m h
  rwa [wc_small hm] at this
theorem minus_fn (n m : Nat) (h : m ≤ n) (hn : n < 340282366920938463463374607431768211456) : Does Tryz.prog 115 [.ag (wc n), .ag (wc m)] (.ag (wc (n - m))) 0 := by
  refine Does.of_V tab (n := 27) (rs := [.cell 4 102]) Tryz.func115 (by kernel_rfl) rfl Tryz.ntmps115 Tryz.results115 rfl fun C hC hG => ?_
  refine W.seq ?_
  refine W.region ?_
  refine boxR rfl rfl rfl ?_
  refine boxR rfl rfl rfl ?_
  refine allocR tab rfl rfl rfl ?_
  refine WO.nil ?_
  refine qs ?_
  refine W.seq ?_
  refine W.region ?_
  refine pu (ev tab rfl) rfl ?_
  first | refine pu (ev tab rfl) rfl ?_ | refine pu (loadRow tab rfl rfl rfl rfl) rfl ?_ | refine pu (loadBox tab rfl rfl rfl rfl rfl) rfl ?_
  refine pu (ev tab rfl) rfl ?_
  first | refine pu (ev tab rfl) rfl ?_ | refine pu (loadRow tab rfl rfl rfl rfl) rfl ?_ | refine pu (loadBox tab rfl rfl rfl rfl rfl) rfl ?_
  iterate 2 refine pu (ev tab rfl) rfl ?_
  first | refine pu (ev tab rfl) rfl ?_ | refine pu (loadRow tab rfl rfl rfl rfl) rfl ?_ | refine pu (loadBox tab rfl rfl rfl rfl rfl) rfl ?_
  refine pu (ev tab rfl) rfl ?_
  first | refine pu (ev tab rfl) rfl ?_ | refine pu (loadRow tab rfl rfl rfl rfl) rfl ?_ | refine pu (loadBox tab rfl rfl rfl rfl rfl) rfl ?_
  refine pu (ev tab rfl) rfl ?_
  refine pu (build tab rfl rfl rfl rfl) rfl ?_
  refine allocR tab rfl rfl rfl ?_
  refine storeR tab rfl rfl rfl rfl rfl rfl rfl rfl ?_
  refine WO.nil ?_
  refine qs ?_
  refine W.seq ?_
  refine W.seq ?_
  refine W.region ?_
  refine pu (ev tab rfl) rfl ?_
  first | refine pu (ev tab rfl) rfl ?_ | refine pu (loadRow tab rfl rfl rfl rfl) rfl ?_ | refine pu (loadBox tab rfl rfl rfl rfl rfl) rfl ?_
  refine pu (ev tab rfl) rfl ?_
  first | refine pu (ev tab rfl) rfl ?_ | refine pu (loadRow tab rfl rfl rfl rfl) rfl ?_ | refine pu (loadBox tab rfl rfl rfl rfl rfl) rfl ?_
  refine pu (ev tab rfl) rfl ?_
  refine WO.nil ?_
  refine qs ?_
  refine condK rfl (fun h21 => ?_) (fun h21 => ?_)
  · skip
    refine W.region ?_
    refine pu (ev tab rfl) rfl ?_
    first | refine pu (ev tab rfl) rfl ?_ | refine pu (loadRow tab rfl rfl rfl rfl) rfl ?_ | refine pu (loadBox tab rfl rfl rfl rfl rfl) rfl ?_
    iterate 2 refine pu (ev tab rfl) rfl ?_
    refine storeR tab rfl rfl rfl rfl rfl rfl rfl rfl ?_
    refine WO.nil ?_
    refine qs ?_
    refine W.seq ?_
    refine W.region ?_
    first | refine pu (ev tab rfl) rfl ?_ | refine pu (loadRow tab rfl rfl rfl rfl) rfl ?_ | refine pu (loadBox tab rfl rfl rfl rfl rfl) rfl ?_
    refine storeR tab rfl rfl rfl rfl rfl rfl rfl rfl ?_
    refine WO.nil ?_
    refine qs ?_
    refine W.ret ?_
    refine QV.ret0 tab trivial rfl ?_
    simp only [wrap_u, decide_eq_true_eq, decide_eq_false_iff_not] at h21
    refine wc_ext ?_ ?_ <;> simp only [wrap_u] <;> omega
  · skip
    refine W.skip ?_
    refine qs ?_
    refine W.seq ?_
    refine W.region ?_
    first | refine pu (ev tab rfl) rfl ?_ | refine pu (loadRow tab rfl rfl rfl rfl) rfl ?_ | refine pu (loadBox tab rfl rfl rfl rfl rfl) rfl ?_
    refine storeR tab rfl rfl rfl rfl rfl rfl rfl rfl ?_
    refine WO.nil ?_
    refine qs ?_
    refine W.ret ?_
    refine QV.ret0 tab trivial rfl ?_
    simp only [wrap_u, decide_eq_true_eq, decide_eq_false_iff_not] at h21
    refine wc_ext ?_ ?_ <;> simp only [wrap_u] <;> omega
theorem less_fn (n m : Nat) : Does Tryz.prog 114 [.ag (wc n), .ag (wc m)] (.d (.v (.bool (decide (n < m))))) 0 := by
  refine Does.of_W (n := 24) (ts := [4]) Tryz.func114 (by kernel_rfl) rfl Tryz.ntmps114 Tryz.results114 rfl rfl fun C hC hG => ?_
  refine W.seq ?_
  refine W.region ?_
  refine boxR rfl rfl rfl ?_
  refine boxR rfl rfl rfl ?_
  refine pu (ev tab rfl) rfl ?_
  refine WO.nil ?_
  refine qs ?_
  refine W.seq ?_
  apply regionB; (case hb => rfl)
  · skip
    refine pu (ev tab rfl) rfl ?_
    first | refine pu (ev tab rfl) rfl ?_ | refine pu (loadRow tab rfl rfl rfl rfl) rfl ?_ | refine pu (loadBox tab rfl rfl rfl rfl rfl) rfl ?_
    refine pu (ev tab rfl) rfl ?_
    first | refine pu (ev tab rfl) rfl ?_ | refine pu (loadRow tab rfl rfl rfl rfl) rfl ?_ | refine pu (loadBox tab rfl rfl rfl rfl rfl) rfl ?_
    iterate 2 refine pu (ev tab rfl) rfl ?_
    apply splitJ; (case hj => rfl); (case hl => rfl)
    · skip
      refine skipT rfl rfl rfl rfl ?_
      refine skipT rfl rfl rfl rfl ?_
      refine skipT rfl rfl rfl rfl ?_
      refine skipT rfl rfl rfl rfl ?_
      refine skipT rfl rfl rfl rfl ?_
      refine skipT rfl rfl rfl rfl ?_
      refine skipU rfl rfl rfl ?_
      refine skipU rfl rfl rfl ?_
      refine skipU rfl rfl rfl ?_
      refine skipU rfl rfl rfl ?_
      refine skipU rfl rfl rfl ?_
      refine skipT rfl rfl rfl rfl ?_
      iterate 2 refine pu (ev tab rfl) rfl ?_
      refine WO.nil ?_
      refine qv1 rfl rfl rfl
    · skip
      refine goG rfl rfl ?_
      refine pu (ev tab rfl) rfl ?_
      refine goG rfl rfl ?_
      first | refine pu (ev tab rfl) rfl ?_ | refine pu (loadRow tab rfl rfl rfl rfl) rfl ?_ | refine pu (loadBox tab rfl rfl rfl rfl rfl) rfl ?_
      refine goG rfl rfl ?_
      refine pu (ev tab rfl) rfl ?_
      refine goG rfl rfl ?_
      first | refine pu (ev tab rfl) rfl ?_ | refine pu (loadRow tab rfl rfl rfl rfl) rfl ?_ | refine pu (loadBox tab rfl rfl rfl rfl rfl) rfl ?_
      refine goG rfl rfl ?_
      refine pu (ev tab rfl) rfl ?_
      refine goG rfl rfl ?_
      refine pu (ev tab rfl) rfl ?_
      apply splitJ; (case hj => rfl); (case hl => rfl)
      · skip
        refine goG rfl rfl ?_
        refine pu (ev tab rfl) rfl ?_
        refine goG rfl rfl ?_
        first | refine pu (ev tab rfl) rfl ?_ | refine pu (loadRow tab rfl rfl rfl rfl) rfl ?_ | refine pu (loadBox tab rfl rfl rfl rfl rfl) rfl ?_
        refine goG rfl rfl ?_
        refine pu (ev tab rfl) rfl ?_
        refine goG rfl rfl ?_
        first | refine pu (ev tab rfl) rfl ?_ | refine pu (loadRow tab rfl rfl rfl rfl) rfl ?_ | refine pu (loadBox tab rfl rfl rfl rfl rfl) rfl ?_
        refine goG rfl rfl ?_
        refine pu (ev tab rfl) rfl ?_
        refine goG rfl rfl ?_
        iterate 3 refine pu (ev tab rfl) rfl ?_
        refine WO.nil ?_
        refine qv1 rfl rfl rfl
      · skip
        refine skipT rfl rfl rfl rfl ?_
        refine skipT rfl rfl rfl rfl ?_
        refine skipT rfl rfl rfl rfl ?_
        refine skipT rfl rfl rfl rfl ?_
        refine skipT rfl rfl rfl rfl ?_
        refine goG rfl rfl ?_
        iterate 3 refine pu (ev tab rfl) rfl ?_
        refine WO.nil ?_
        refine qv1 rfl rfl rfl
  refine qs ?_
  refine W.ret ?_
  refine QF.ret0 trivial rfl ?_
  simp only [norm, oneA, A.d.injEq, D.v.injEq, Value.bool.injEq]
  rw [Bool.eq_iff_iff]
  simp
  omega
theorem size_fn (n : Int) : Does Tryz.prog 117 [.d (.v (.int .i64 n))] (.d (.v (.int .u64 (n.natAbs : Int)))) 0 := by
  refine Does.of_W (n := 12) (ts := [2]) Tryz.func117 (by kernel_rfl) rfl Tryz.ntmps117 Tryz.results117 rfl rfl fun C hC hG => ?_
  refine W.inRange (t := 0) rfl (fun hn => ?_)
  have hn := okc_i64 hn
  refine W.seq ?_
  refine W.region ?_
  refine pu (ev tab rfl) rfl ?_
  refine WO.nil ?_
  refine qs ?_
  refine W.seq ?_
  refine W.seq ?_
  refine W.region ?_
  iterate 2 refine pu (ev tab rfl) rfl ?_
  refine WO.nil ?_
  refine qs ?_
  refine condK rfl (fun h4 => ?_) (fun h4 => ?_)
  · skip
    refine W.seq ?_
    refine W.region ?_
    iterate 4 refine pu (ev tab rfl) rfl ?_
    refine pu (puI (ev tab rfl) (size_nat hn (of_decide_eq_true h4))) rfl ?_
    refine pu (ev tab rfl) rfl ?_
    refine WO.nil ?_
    refine qs ?_
    refine W.ret ?_
    refine qsRet ?_
    refine QF.ret0 trivial rfl ?_
    rfl
  · skip
    refine W.skip ?_
    refine qs ?_
    refine W.seq ?_
    refine W.region ?_
    refine pu (ev tab rfl) rfl ?_
    refine pu (puI (ev tab rfl) (size_pos hn (of_decide_eq_false h4))) rfl ?_
    refine pu (ev tab rfl) rfl ?_
    refine WO.nil ?_
    refine qs ?_
    refine W.ret ?_
    refine QF.ret0 trivial rfl ?_
    rfl
theorem bit_fn (n i : Nat) (hn : n < 18446744073709551616) (hi : i < 64) : Does Tryz.prog 123 [.ag [cu 0, cu n], .d (.v (.int .i64 i))] (.d (.v (.int .u64 ((n / 2 ^ i % 2 : Nat) : Int)))) 0 := by
  refine Does.of_W (n := 20) (ts := [4]) Tryz.func123 (by kernel_rfl) rfl Tryz.ntmps123 Tryz.results123 rfl rfl fun C hC hG => ?_
  refine W.seq ?_
  refine W.region ?_
  refine boxR rfl rfl rfl ?_
  refine pu (ev tab rfl) rfl ?_
  refine WO.nil ?_
  refine qs ?_
  refine W.seq ?_
  refine W.seq ?_
  refine W.region ?_
  iterate 2 refine pu (ev tab rfl) rfl ?_
  refine WO.nil ?_
  refine qs ?_
  refine condK rfl (fun h6 => ?_) (fun h6 => ?_)
  · skip
    exfalso; have := of_decide_eq_true h6; omega
  · skip
    refine W.skip ?_
    refine qs ?_
    refine W.seq ?_
    refine W.region ?_
    refine pu (ev tab rfl) rfl ?_
    first | refine pu (ev tab rfl) rfl ?_ | refine pu (loadRow tab rfl rfl rfl rfl) rfl ?_ | refine pu (loadBox tab rfl rfl rfl rfl rfl) rfl ?_
    iterate 2 refine pu (ev tab rfl) rfl ?_
    refine pu (shrR rfl rfl (by rw [wrap_u]; omega) (bit_shr hi) (bit_okc hn)) rfl ?_
    refine pu (puI (remR rfl rfl (by decide) (okc_rem (d := 2) (by omega))) (nat_rem (d := 2))) rfl ?_
    refine pu (ev tab rfl) rfl ?_
    refine WO.nil ?_
    refine qs ?_
    refine W.ret ?_
    refine QF.ret0 trivial rfl ?_
    rfl
theorem timesX_fn (a b : Nat) (ha : a < 18446744073709551616) (hb : b < 18446744073709551616) : Does Tryz.prog 116 [.d (.v (.int .u64 a)), .d (.v (.int .u64 b))] (.ag (wc (a * b))) 0 := by
  refine Does.of_V tab (n := 25) (rs := [.cell 4 102]) Tryz.func116 (by kernel_rfl) rfl Tryz.ntmps116 Tryz.results116 rfl fun C hC hG => ?_
  refine W.seq ?_
  refine W.region ?_
  refine allocR tab rfl rfl rfl ?_
  refine WO.nil ?_
  refine qs ?_
  refine W.seq ?_
  refine W.region ?_
  refine pu (build tab rfl rfl rfl rfl) rfl ?_
  refine allocR tab rfl rfl rfl ?_
  refine storeR tab rfl rfl rfl rfl rfl rfl rfl rfl ?_
  refine WO.nil ?_
  refine qs ?_
  refine W.seq ?_
  refine W.seq ?_
  refine W.region ?_
  refine pu (ev tab rfl) rfl ?_
  refine WO.nil ?_
  refine qs ?_
  refine W.block ?_
  rw [show [cu 0, cu 0] = wc (a * (b / 2 ^ 64)) by rw [times_zero hb, Nat.mul_zero]; rfl]
  refine W.loopR (ι := {x : Nat // match x with | k => k ≤ 64})
    (fun x => match x.1 with | k => [(4, .ptr 0 0), (5, .ptr 1 0), (6, .d (.v (.int .i64 ((k : Int) - 1))))]) [(0, _), (1, _)]
    (fun x => match x.1 with | k => [(1, (wc (a * (b / 2 ^ k))).map .d)]) [(0, _)] [] 2 (fun x => match x.1 with | k => k)
    [0, 1] ⟨64, ?_⟩ rfl ?_ ⟨rfl, rfl, rfl, rfl, trivial⟩ ?_ ⟨rfl, rfl, trivial⟩ rfl ?_
  · exact Nat.le_refl _
  · repeat' first | exact trivial | refine ⟨rfl, ?_⟩ | refine ⟨step_nat (by assumption) (by assumption), ?_⟩
  · repeat' first | exact trivial | refine ⟨rfl, ?_⟩ | refine ⟨step_nat (by assumption) (by assumption), ?_⟩
  rintro ⟨k, hk⟩
  show W _ _ _ _ _ ⟨[(4, .ptr 0 0), (5, .ptr 1 0), (6, .d (.v (.int .i64 ((k : Int) - 1)))), (0, _), (1, _)], [(1, (wc (a * (b / 2 ^ k))).map .d), (0, _)], [], 2⟩
  have hbo := times_bound (j := k) ha hb
  refine W.seq ?_
  refine W.seq ?_
  refine W.region ?_
  iterate 2 refine pu (ev tab rfl) rfl ?_
  refine WO.nil ?_
  refine qs ?_
  refine condK rfl (fun h9 => ?_) (fun h9 => ?_)
  · skip
    obtain ⟨j, rfl⟩ : ∃ j, k = j + 1 := ⟨k - 1, by have := of_decide_eq_true h9; omega⟩
    have hbo1 := times_bound1 (j := j) ha hb
    refine W.skip ?_
    refine qs ?_
    refine W.seq ?_
    refine W.block ?_
    refine W.seq ?_
    refine W.region ?_
    first | refine pu (ev tab rfl) rfl ?_ | refine pu (loadRow tab rfl rfl rfl rfl) rfl ?_ | refine pu (loadBox tab rfl rfl rfl rfl rfl) rfl ?_
    first | refine pu (ev tab rfl) rfl ?_ | refine pu (loadRow tab rfl rfl rfl rfl) rfl ?_ | refine pu (loadBox tab rfl rfl rfl rfl rfl) rfl ?_
    refine pu (puCall rfl rfl rfl (plus_fn (a * (b / 2 ^ (j + 1))) (a * (b / 2 ^ (j + 1))) (by omega)) rfl) rfl ?_
    refine storeR tab rfl rfl rfl rfl rfl rfl rfl rfl ?_
    refine WO.nil ?_
    refine qs ?_
    refine W.seq ?_
    refine W.region ?_
    refine pu (ev tab rfl) rfl ?_
    refine pu (build tab rfl rfl rfl rfl) rfl ?_
    refine pu (puI (ev tab rfl) (show ((j + 1 : Nat) : Int) - 1 = ((j : Nat) : Int) by omega)) rfl ?_
    refine pu (puCall rfl rfl rfl (bit_fn b j hb (by omega)) rfl) rfl ?_
    refine pu (ev tab rfl) rfl ?_
    refine WO.nil ?_
    refine qs ?_
    refine condK rfl (fun h19 => ?_) (fun h19 => ?_)
    · skip
      have h19 : b / 2 ^ j % 2 = 1 := by exact_mod_cast of_decide_eq_true h19
      refine W.region ?_
      first | refine pu (ev tab rfl) rfl ?_ | refine pu (loadRow tab rfl rfl rfl rfl) rfl ?_ | refine pu (loadBox tab rfl rfl rfl rfl rfl) rfl ?_
      refine pu (ev tab rfl) rfl ?_
      refine pu (build tab rfl rfl rfl rfl) rfl ?_
      refine pu (puCall rfl rfl rfl (plus1_fn (a * (b / 2 ^ (j + 1)) + a * (b / 2 ^ (j + 1))) a ha (by omega)) rfl) rfl ?_
      refine storeR tab rfl rfl rfl rfl rfl rfl rfl rfl ?_
      refine WO.nil ?_
      refine qbN ?_
      refine qs ?_
      refine W.region ?_
      refine pu (ev tab rfl) rfl ?_
      refine pu (puI (ev tab rfl) (show _ = ((j : Nat) : Int) - 1 by rw [wrap64 (by omega)]; omega)) rfl ?_
      refine pu (ev tab rfl) rfl ?_
      refine WO.nil ?_
      first | rw [times_step h19] | rw [times_step0 h19]
      refine W.endR [0, 1] ⟨j, ?_⟩ ?_ rfl ?_ ⟨rfl, rfl, rfl, rfl, trivial⟩ ?_ ⟨rfl, rfl, trivial⟩ rfl
      · have : j + 1 ≤ 64 := hk
        show j ≤ 64
        omega
      · dsimp only; omega
      · repeat' first | exact trivial | refine ⟨rfl, ?_⟩ | refine ⟨step_nat (by assumption) (by assumption), ?_⟩
      · repeat' first | exact trivial | refine ⟨rfl, ?_⟩ | refine ⟨step_nat (by assumption) (by assumption), ?_⟩
    · skip
      have h19 : b / 2 ^ j % 2 ≠ 1 := by exact_mod_cast of_decide_eq_false h19
      refine W.skip ?_
      refine qbN ?_
      refine qs ?_
      refine W.region ?_
      refine pu (ev tab rfl) rfl ?_
      refine pu (puI (ev tab rfl) (show _ = ((j : Nat) : Int) - 1 by rw [wrap64 (by omega)]; omega)) rfl ?_
      refine pu (ev tab rfl) rfl ?_
      refine WO.nil ?_
      first | rw [times_step h19] | rw [times_step0 h19]
      refine W.endR [0, 1] ⟨j, ?_⟩ ?_ rfl ?_ ⟨rfl, rfl, rfl, rfl, trivial⟩ ?_ ⟨rfl, rfl, trivial⟩ rfl
      · have : j + 1 ≤ 64 := hk
        show j ≤ 64
        omega
      · dsimp only; omega
      · repeat' first | exact trivial | refine ⟨rfl, ?_⟩ | refine ⟨step_nat (by assumption) (by assumption), ?_⟩
      · repeat' first | exact trivial | refine ⟨rfl, ?_⟩ | refine ⟨step_nat (by assumption) (by assumption), ?_⟩
  · skip
    obtain rfl : k = 0 := by have := of_decide_eq_false h9; omega
    refine W.exit ?_
    refine qsExit ?_
    refine qlExit ?_
    refine qbExit ?_
    refine qs ?_
    refine W.seq ?_
    refine W.region ?_
    first | refine pu (ev tab rfl) rfl ?_ | refine pu (loadRow tab rfl rfl rfl rfl) rfl ?_ | refine pu (loadBox tab rfl rfl rfl rfl rfl) rfl ?_
    refine storeR tab rfl rfl rfl rfl rfl rfl rfl rfl ?_
    refine WO.nil ?_
    refine qs ?_
    refine W.ret ?_
    refine QV.ret0 tab trivial rfl ?_
    rw [Nat.pow_zero, Nat.div_one]; rfl
theorem rsum_fn (a b : Sgd) (h : a.n + b.n < 340282366920938463463374607431768211456) : Does Tryz.prog 107 [.ag a.c, .ag b.c] (.ag (sumS a b).c) 0 := by
  refine Does.of_V tab (n := 41) (rs := [.cell 4 104]) Tryz.func107 (by kernel_rfl) rfl Tryz.ntmps107 Tryz.results107 rfl fun C hC hG => ?_
  refine W.seq ?_
  refine W.region ?_
  refine boxR rfl rfl rfl ?_
  refine boxR rfl rfl rfl ?_
  refine allocR tab rfl rfl rfl ?_
  refine WO.nil ?_
  refine qs ?_
  refine W.seq ?_
  refine W.block ?_
  refine W.seq ?_
  refine W.region ?_
  refine pu (ev tab rfl) rfl ?_
  first | refine pu (ev tab rfl) rfl ?_ | refine pu (loadRow tab rfl rfl rfl rfl) rfl ?_ | refine pu (loadBox tab rfl rfl rfl rfl rfl) rfl ?_
  refine pu (ev tab rfl) rfl ?_
  first | refine pu (ev tab rfl) rfl ?_ | refine pu (loadRow tab rfl rfl rfl rfl) rfl ?_ | refine pu (loadBox tab rfl rfl rfl rfl rfl) rfl ?_
  iterate 2 refine pu (ev tab rfl) rfl ?_
  refine WO.nil ?_
  refine qs ?_
  refine condK rfl (fun h5 => ?_) (fun h5 => ?_)
  · skip
    refine W.seq ?_
    refine W.regionE tab 8 0 (by kernel_rfl) rfl rfl ?_
    refine cePu rfl (ev tab rfl) rfl ?_
    first | refine cePu rfl (ev tab rfl) rfl ?_ | refine cePu rfl (loadRow tab rfl rfl rfl rfl) rfl ?_ | refine cePu rfl (loadBox tab rfl rfl rfl rfl rfl) rfl ?_
    refine cePu rfl (ev tab rfl) rfl ?_
    first | refine cePu rfl (ev tab rfl) rfl ?_ | refine cePu rfl (loadRow tab rfl rfl rfl rfl) rfl ?_ | refine cePu rfl (loadBox tab rfl rfl rfl rfl rfl) rfl ?_
    refine cePu rfl (ev tab rfl) rfl ?_
    first | refine cePu rfl (ev tab rfl) rfl ?_ | refine cePu rfl (loadRow tab rfl rfl rfl rfl) rfl ?_ | refine cePu rfl (loadBox tab rfl rfl rfl rfl rfl) rfl ?_
    refine cePu rfl (puCall rfl rfl rfl (plus_fn a.n b.n h) rfl) rfl ?_
    refine cePu rfl (build tab rfl rfl rfl rfl) rfl ?_
    refine CE.nil ?_
    refine storeR tab rfl rfl rfl rfl rfl rfl rfl rfl ?_
    refine WO.nil ?_
    refine qs ?_
    refine W.ret ?_
    refine qbRet ?_
    refine qsRet ?_
    refine QV.ret0 tab trivial rfl ?_
    rw [show sumS a b = ⟨a.m, a.n + b.n⟩ by simp [sumS, of_decide_eq_true h5]]; rfl
  · skip
    refine W.seq ?_
    refine W.region ?_
    refine pu (ev tab rfl) rfl ?_
    first | refine pu (ev tab rfl) rfl ?_ | refine pu (loadRow tab rfl rfl rfl rfl) rfl ?_ | refine pu (loadBox tab rfl rfl rfl rfl rfl) rfl ?_
    refine pu (ev tab rfl) rfl ?_
    first | refine pu (ev tab rfl) rfl ?_ | refine pu (loadRow tab rfl rfl rfl rfl) rfl ?_ | refine pu (loadBox tab rfl rfl rfl rfl rfl) rfl ?_
    refine pu (puCall rfl rfl rfl (less_fn a.n b.n) rfl) rfl ?_
    refine pu (ev tab rfl) rfl ?_
    refine WO.nil ?_
    refine qs ?_
    refine condK rfl (fun h19 => ?_) (fun h19 => ?_)
    · skip
      refine W.seq ?_
      refine W.regionE tab 8 0 (by kernel_rfl) rfl rfl ?_
      refine cePu rfl (ev tab rfl) rfl ?_
      first | refine cePu rfl (ev tab rfl) rfl ?_ | refine cePu rfl (loadRow tab rfl rfl rfl rfl) rfl ?_ | refine cePu rfl (loadBox tab rfl rfl rfl rfl rfl) rfl ?_
      refine cePu rfl (ev tab rfl) rfl ?_
      first | refine cePu rfl (ev tab rfl) rfl ?_ | refine cePu rfl (loadRow tab rfl rfl rfl rfl) rfl ?_ | refine cePu rfl (loadBox tab rfl rfl rfl rfl rfl) rfl ?_
      refine cePu rfl (ev tab rfl) rfl ?_
      first | refine cePu rfl (ev tab rfl) rfl ?_ | refine cePu rfl (loadRow tab rfl rfl rfl rfl) rfl ?_ | refine cePu rfl (loadBox tab rfl rfl rfl rfl rfl) rfl ?_
      refine cePu rfl (puCall rfl rfl rfl (minus_fn b.n a.n (by have := of_decide_eq_true h19; omega) (by omega)) rfl) rfl ?_
      refine cePu rfl (build tab rfl rfl rfl rfl) rfl ?_
      refine CE.nil ?_
      refine storeR tab rfl rfl rfl rfl rfl rfl rfl rfl ?_
      refine WO.nil ?_
      refine qs ?_
      refine W.ret ?_
      refine qbRet ?_
      refine qsRet ?_
      refine QV.ret0 tab trivial rfl ?_
      rw [show sumS a b = ⟨b.m, b.n - a.n⟩ by simp [sumS, of_decide_eq_false h5, of_decide_eq_true h19]]; rfl
    · skip
      refine W.skip ?_
      refine qbN ?_
      refine qs ?_
      refine W.seq ?_
      refine W.regionE tab 8 0 (by kernel_rfl) rfl rfl ?_
      refine cePu rfl (ev tab rfl) rfl ?_
      first | refine cePu rfl (ev tab rfl) rfl ?_ | refine cePu rfl (loadRow tab rfl rfl rfl rfl) rfl ?_ | refine cePu rfl (loadBox tab rfl rfl rfl rfl rfl) rfl ?_
      refine cePu rfl (ev tab rfl) rfl ?_
      first | refine cePu rfl (ev tab rfl) rfl ?_ | refine cePu rfl (loadRow tab rfl rfl rfl rfl) rfl ?_ | refine cePu rfl (loadBox tab rfl rfl rfl rfl rfl) rfl ?_
      refine cePu rfl (ev tab rfl) rfl ?_
      first | refine cePu rfl (ev tab rfl) rfl ?_ | refine cePu rfl (loadRow tab rfl rfl rfl rfl) rfl ?_ | refine cePu rfl (loadBox tab rfl rfl rfl rfl rfl) rfl ?_
      refine cePu rfl (puCall rfl rfl rfl (minus_fn a.n b.n (by have := of_decide_eq_false h19; omega) (by omega)) rfl) rfl ?_
      refine cePu rfl (build tab rfl rfl rfl rfl) rfl ?_
      refine CE.nil ?_
      refine storeR tab rfl rfl rfl rfl rfl rfl rfl rfl ?_
      refine WO.nil ?_
      refine qs ?_
      refine W.ret ?_
      refine QV.ret0 tab trivial rfl ?_
      rw [show sumS a b = ⟨a.m, a.n - b.n⟩ by simp [sumS, of_decide_eq_false h5, of_decide_eq_false h19]]; rfl
theorem both2_fn (a b : Sgd) (h : a.n + b.n < 340282366920938463463374607431768211456) : Does Tryz.prog 97 [.ag a.c, .ag b.c] (.ag (sumS a b).c) 0 := by
  refine Does.of_V tab (n := 8) (rs := [.cell 4 104]) Tryz.func97 (by kernel_rfl) rfl Tryz.ntmps97 Tryz.results97 rfl fun C hC hG => ?_
  refine W.seq ?_
  refine W.region ?_
  refine boxR rfl rfl rfl ?_
  refine boxR rfl rfl rfl ?_
  refine allocR tab rfl rfl rfl ?_
  refine WO.nil ?_
  refine qs ?_
  refine W.seq ?_
  refine W.region ?_
  first | refine pu (ev tab rfl) rfl ?_ | refine pu (loadRow tab rfl rfl rfl rfl) rfl ?_ | refine pu (loadBox tab rfl rfl rfl rfl rfl) rfl ?_
  first | refine pu (ev tab rfl) rfl ?_ | refine pu (loadRow tab rfl rfl rfl rfl) rfl ?_ | refine pu (loadBox tab rfl rfl rfl rfl rfl) rfl ?_
  refine pu (puCall rfl rfl rfl (rsum_fn a b h) rfl) rfl ?_
  refine storeR tab rfl rfl rfl rfl rfl rfl rfl rfl ?_
  refine WO.nil ?_
  refine qs ?_
  refine W.ret ?_
  refine QV.ret0 tab trivial rfl ?_
  rfl
theorem scaled_fn (n d : Int) (hn : -9223372036854775808 ≤ n ∧ n ≤ 9223372036854775807) (hd : -9223372036854775808 ≤ d ∧ d ≤ 9223372036854775807) : Does Tryz.prog 108 [.d (.v (.int .i64 n)), .d (.v (.int .i64 d))] (.ag (scaledS n d).c) 0 := by
  refine Does.of_V tab (n := 13) (rs := [.cell 4 104]) Tryz.func108 (by kernel_rfl) rfl Tryz.ntmps108 Tryz.results108 rfl fun C hC hG => ?_
  refine W.seq ?_
  refine W.region ?_
  refine allocR tab rfl rfl rfl ?_
  refine WO.nil ?_
  refine qs ?_
  refine W.seq ?_
  refine W.region ?_
  iterate 3 refine pu (ev tab rfl) rfl ?_
  refine pu (puCall rfl rfl rfl (size_fn ..) rfl) rfl ?_
  refine pu (ev tab rfl) rfl ?_
  refine pu (puCall rfl rfl rfl (size_fn ..) rfl) rfl ?_
  refine pu (puCall rfl rfl rfl (timesX_fn n.natAbs d.natAbs (by omega) (by omega)) rfl) rfl ?_
  refine pu (build tab rfl rfl rfl rfl) rfl ?_
  refine storeR tab rfl rfl rfl rfl rfl rfl rfl rfl ?_
  refine WO.nil ?_
  refine qs ?_
  refine W.ret ?_
  refine QV.ret0 tab trivial rfl ?_
  rfl
theorem scaled2_fn (n d : Int) (hn : -9223372036854775808 ≤ n ∧ n ≤ 9223372036854775807) (hd : -9223372036854775808 ≤ d ∧ d ≤ 9223372036854775807) : Does Tryz.prog 98 [.d (.v (.int .i64 n)), .d (.v (.int .i64 d))] (.ag (scaledS n d).c) 0 := by
  refine Does.of_V tab (n := 8) (rs := [.cell 4 104]) Tryz.func98 (by kernel_rfl) rfl Tryz.ntmps98 Tryz.results98 rfl fun C hC hG => ?_
  refine W.seq ?_
  refine W.region ?_
  refine allocR tab rfl rfl rfl ?_
  refine WO.nil ?_
  refine qs ?_
  refine W.seq ?_
  refine W.region ?_
  iterate 2 refine pu (ev tab rfl) rfl ?_
  refine pu (puCall rfl rfl rfl (scaled_fn n d hn hd) rfl) rfl ?_
  refine storeR tab rfl rfl rfl rfl rfl rfl rfl rfl ?_
  refine WO.nil ?_
  refine qs ?_
  refine W.ret ?_
  refine QV.ret0 tab trivial rfl ?_
  rfl
theorem within2_fn (a : Sgd) (h : a.n < 340282366920938463463374607431768211456) : Does Tryz.prog 106 [.ag a.c, .d (.v (.int .i64 1000000000000000))] (.tup [.d (.v (.int .i64 (withinS a 1000000000000000).1)), .d (.v (.bool (withinS a 1000000000000000).2))]) 0 := by
  refine Does.of_W (n := 29) (ts := [4, 5]) Tryz.func106 (by kernel_rfl) rfl Tryz.ntmps106 Tryz.results106 rfl rfl fun C hC hG => ?_
  refine W.seq ?_
  refine W.region ?_
  refine boxR rfl rfl rfl ?_
  iterate 2 refine pu (ev tab rfl) rfl ?_
  refine WO.nil ?_
  refine qs ?_
  refine W.seq ?_
  refine W.seq ?_
  apply regionB; (case hb => rfl)
  · skip
    iterate 2 refine pu (ev tab rfl) rfl ?_
    first | refine pu (ev tab rfl) rfl ?_ | refine pu (loadRow tab rfl rfl rfl rfl) rfl ?_ | refine pu (loadBox tab rfl rfl rfl rfl rfl) rfl ?_
    iterate 2 refine pu (ev tab rfl) rfl ?_
    apply splitJ; (case hj => rfl); (case hl => rfl)
    · skip
      refine skipT rfl rfl rfl rfl ?_
      refine skipT rfl rfl rfl rfl ?_
      refine skipT rfl rfl rfl rfl ?_
      refine skipT rfl rfl rfl rfl ?_
      refine skipT rfl rfl rfl rfl ?_
      refine skipT rfl rfl rfl rfl ?_
      refine pu (ev tab rfl) rfl ?_
      refine WO.nil ?_
      refine qv1 rfl rfl rfl
    · skip
      refine goG rfl rfl ?_
      refine pu (ev tab rfl) rfl ?_
      refine goG rfl rfl ?_
      refine pu (ev tab rfl) rfl ?_
      refine goG rfl rfl ?_
      first | refine pu (ev tab rfl) rfl ?_ | refine pu (loadRow tab rfl rfl rfl rfl) rfl ?_ | refine pu (loadBox tab rfl rfl rfl rfl rfl) rfl ?_
      refine goG rfl rfl ?_
      refine pu (ev tab rfl) rfl ?_
      refine goG rfl rfl ?_
      refine pu (ev tab rfl) rfl ?_
      refine goG rfl rfl ?_
      iterate 2 refine pu (ev tab rfl) rfl ?_
      refine WO.nil ?_
      refine qv1 rfl rfl rfl
  refine qs ?_
  refine condK rfl (fun h17 => ?_) (fun h17 => ?_)
  · skip
    refine W.seq ?_
    refine W.region ?_
    iterate 2 refine pu (ev tab rfl) rfl ?_
    refine WO.nil ?_
    refine qs ?_
    refine W.ret ?_
    refine qsRet ?_
    refine QF.ret0 trivial rfl ?_
    simp only [norm, normL, oneA, withinS, Sgd.val, A.tup.injEq, wrap_u, wrap_i] at *
    rcases a with ⟨m, n⟩
    cases m <;> simp at * <;> grind
  · skip
    refine W.skip ?_
    refine qs ?_
    refine W.seq ?_
    refine W.seq ?_
    refine W.region ?_
    refine pu (ev tab rfl) rfl ?_
    first | refine pu (ev tab rfl) rfl ?_ | refine pu (loadRow tab rfl rfl rfl rfl) rfl ?_ | refine pu (loadBox tab rfl rfl rfl rfl rfl) rfl ?_
    refine WO.nil ?_
    refine qs ?_
    refine condK rfl (fun h19 => ?_) (fun h19 => ?_)
    · skip
      refine W.seq ?_
      refine W.region ?_
      iterate 2 refine pu (ev tab rfl) rfl ?_
      first | refine pu (ev tab rfl) rfl ?_ | refine pu (loadRow tab rfl rfl rfl rfl) rfl ?_ | refine pu (loadBox tab rfl rfl rfl rfl rfl) rfl ?_
      iterate 4 refine pu (ev tab rfl) rfl ?_
      refine WO.nil ?_
      refine qs ?_
      refine W.ret ?_
      refine qsRet ?_
      refine QF.ret0 trivial rfl ?_
      simp only [norm, normL, oneA, withinS, Sgd.val, A.tup.injEq, wrap_u, wrap_i] at *
      rcases a with ⟨m, n⟩
      cases m <;> simp at * <;> grind
    · skip
      refine W.skip ?_
      refine qs ?_
      refine W.seq ?_
      refine W.region ?_
      iterate 2 refine pu (ev tab rfl) rfl ?_
      first | refine pu (ev tab rfl) rfl ?_ | refine pu (loadRow tab rfl rfl rfl rfl) rfl ?_ | refine pu (loadBox tab rfl rfl rfl rfl rfl) rfl ?_
      iterate 3 refine pu (ev tab rfl) rfl ?_
      refine WO.nil ?_
      refine qs ?_
      refine W.ret ?_
      refine QF.ret0 trivial rfl ?_
      simp only [norm, normL, oneA, withinS, Sgd.val, A.tup.injEq, wrap_u, wrap_i] at *
      rcases a with ⟨m, n⟩
      cases m <;> simp at * <;> grind
theorem integer_fn (a : Sgd) (h : a.n < 340282366920938463463374607431768211456) : Does Tryz.prog 96 [.ag a.c] (.ag (intV a.val).c) 0 := by
  refine Does.of_V tab (n := 15) (rs := [.cell 2 27]) Tryz.func96 (by kernel_rfl) rfl Tryz.ntmps96 Tryz.results96 rfl fun C hC hG => ?_
  refine W.seq ?_
  refine W.region ?_
  refine boxR rfl rfl rfl ?_
  refine allocR tab rfl rfl rfl ?_
  refine WO.nil ?_
  refine qs ?_
  refine W.seq ?_
  refine W.region ?_
  first | refine pu (ev tab rfl) rfl ?_ | refine pu (loadRow tab rfl rfl rfl rfl) rfl ?_ | refine pu (loadBox tab rfl rfl rfl rfl rfl) rfl ?_
  refine pu (puCall rfl rfl rfl (within2_fn a h) rfl) rfl ?_
  iterate 5 refine pu (ev tab rfl) rfl ?_
  refine WO.nil ?_
  refine qs ?_
  refine W.seq ?_
  refine W.seq ?_
  refine W.region ?_
  iterate 2 refine pu (ev tab rfl) rfl ?_
  refine WO.nil ?_
  refine qs ?_
  refine condK rfl (fun h11 => ?_) (fun h11 => ?_)
  · skip
    refine W.seq ?_
    refine W.region ?_
    refine pu (build tab rfl rfl rfl rfl) rfl ?_
    refine storeR tab rfl rfl rfl rfl rfl rfl rfl rfl ?_
    refine WO.nil ?_
    refine qs ?_
    refine W.ret ?_
    refine qsRet ?_
    refine QV.ret0 tab trivial rfl ?_
    rw [← within_intV a]; simp at h11; simp only [h11]; rfl
  · skip
    refine W.skip ?_
    refine qs ?_
    refine W.seq ?_
    refine W.region ?_
    refine pu (ev tab rfl) rfl ?_
    refine pu (puCall rfl rfl rfl (rnumber_fn ..) rfl) rfl ?_
    refine storeR tab rfl rfl rfl rfl rfl rfl rfl rfl ?_
    refine WO.nil ?_
    refine qs ?_
    refine W.ret ?_
    refine QV.ret0 tab trivial rfl ?_
    rw [← within_intV a]; simp at h11; simp only [h11]; rfl
theorem nmag_fn (n : Int) (hn : inR n = true) : Does Tryz.prog 109 [.d (.v (.int .i64 n))] (.tup [.d (.v (.int .u64 (n.natAbs : Int))), .d (.v (.bool (decide (n < 0))))]) 0 := by
  have hr := inR_iff.1 hn
  refine Does.of_W (n := 11) (ts := [2, 3]) Tryz.func109 (by kernel_rfl) rfl Tryz.ntmps109 Tryz.results109 rfl rfl fun C hC hG => ?_
  refine W.seq ?_
  refine W.region ?_
  iterate 2 refine pu (ev tab rfl) rfl ?_
  refine WO.nil ?_
  refine qs ?_
  refine W.seq ?_
  refine W.seq ?_
  refine W.region ?_
  iterate 2 refine pu (ev tab rfl) rfl ?_
  refine WO.nil ?_
  refine qs ?_
  refine condK rfl (fun h5 => ?_) (fun h5 => ?_)
  · skip
    refine W.seq ?_
    refine W.region ?_
    iterate 2 refine pu (ev tab rfl) rfl ?_
    refine pu (puI (ev tab rfl) (show _ = (n.natAbs : Int) by rw [wrap_u, wrap_i]; have := of_decide_eq_true h5; omega)) rfl ?_
    iterate 2 refine pu (ev tab rfl) rfl ?_
    refine WO.nil ?_
    refine qs ?_
    refine W.ret ?_
    refine qsRet ?_
    refine QF.ret0 trivial rfl ?_
    simp only [norm, normL, oneA]; simp_all
  · skip
    refine W.skip ?_
    refine qs ?_
    refine W.seq ?_
    refine W.region ?_
    refine pu (ev tab rfl) rfl ?_
    refine pu (puI (ev tab rfl) (show _ = (n.natAbs : Int) by rw [wrap_u]; have := of_decide_eq_false h5; omega)) rfl ?_
    iterate 2 refine pu (ev tab rfl) rfl ?_
    refine WO.nil ?_
    refine qs ?_
    refine W.ret ?_
    refine QF.ret0 trivial rfl ?_
    simp only [norm, normL, oneA]; simp_all
theorem nwithin_fn (n : Int) (ok : Bool) : Does Tryz.prog 84 [.d (.v (.int .i64 n)), .d (.v (.bool ok))] (.tup [.d (.v (.int .i64 (withinI n ok).1)), .d (.v (.bool (withinI n ok).2))]) 0 := by
  refine Does.of_W (n := 14) (ts := [4, 5]) Tryz.func84 (by kernel_rfl) rfl Tryz.ntmps84 Tryz.results84 rfl rfl fun C hC hG => ?_
  refine W.seq ?_
  refine W.region ?_
  iterate 2 refine pu (ev tab rfl) rfl ?_
  refine WO.nil ?_
  refine qs ?_
  refine W.seq ?_
  refine W.seq ?_
  apply regionB; (case hb => rfl)
  · skip
    iterate 3 refine pu (ev tab rfl) rfl ?_
    apply splitJ; (case hj => rfl); (case hl => rfl)
    · skip
      refine skipT rfl rfl rfl rfl ?_
      refine skipT rfl rfl rfl rfl ?_
      refine skipT rfl rfl rfl rfl ?_
      refine pu (ev tab rfl) rfl ?_
      refine WO.nil ?_
      refine qv1 rfl rfl rfl
    · skip
      refine goG rfl rfl ?_
      refine pu (ev tab rfl) rfl ?_
      refine goG rfl rfl ?_
      refine pu (puCall rfl rfl rfl (in_fn ..) rfl) rfl ?_
      refine goG rfl rfl ?_
      iterate 2 refine pu (ev tab rfl) rfl ?_
      refine WO.nil ?_
      refine qv1 rfl rfl rfl
  refine qs ?_
  refine condK rfl (fun h12 => ?_) (fun h12 => ?_)
  · skip
    refine W.seq ?_
    refine W.region ?_
    iterate 2 refine pu (ev tab rfl) rfl ?_
    refine WO.nil ?_
    refine qs ?_
    refine W.ret ?_
    refine qsRet ?_
    refine QF.ret0 trivial rfl ?_
    simp only [norm, normL, oneA, withinI]; cases ok <;> simp_all
  · skip
    refine W.skip ?_
    refine qs ?_
    refine W.seq ?_
    refine W.region ?_
    iterate 3 refine pu (ev tab rfl) rfl ?_
    refine WO.nil ?_
    refine qs ?_
    refine W.ret ?_
    refine QF.ret0 trivial rfl ?_
    simp only [norm, normL, oneA, withinI]; cases ok <;> simp_all
theorem nadd_fn (a b : Int) : Does Tryz.prog 60 [.d (.v (.int .i64 a)), .d (.v (.int .i64 b))] (.tup [.d (.v (.int .i64 (addI a b).1)), .d (.v (.bool (addI a b).2))]) 0 := by
  refine Does.of_W (n := 20) (ts := [4, 5]) Tryz.func60 (by kernel_rfl) rfl Tryz.ntmps60 Tryz.results60 rfl rfl fun C hC hG => ?_
  refine W.seq ?_
  refine W.region ?_
  iterate 2 refine pu (ev tab rfl) rfl ?_
  refine WO.nil ?_
  refine qs ?_
  refine W.seq ?_
  refine W.seq ?_
  apply regionB; (case hb => rfl)
  · skip
    refine pu (ev tab rfl) rfl ?_
    refine pu (puCall rfl rfl rfl (in_fn ..) rfl) rfl ?_
    iterate 2 refine pu (ev tab rfl) rfl ?_
    apply splitJ; (case hj => rfl); (case hl => rfl)
    · skip
      refine skipT rfl rfl rfl rfl ?_
      refine skipT rfl rfl rfl rfl ?_
      refine skipT rfl rfl rfl rfl ?_
      refine pu (ev tab rfl) rfl ?_
      refine WO.nil ?_
      refine qv1 rfl rfl rfl
    · skip
      refine goG rfl rfl ?_
      refine pu (ev tab rfl) rfl ?_
      refine goG rfl rfl ?_
      refine pu (puCall rfl rfl rfl (in_fn ..) rfl) rfl ?_
      refine goG rfl rfl ?_
      iterate 2 refine pu (ev tab rfl) rfl ?_
      refine WO.nil ?_
      refine qv1 rfl rfl rfl
  refine qs ?_
  refine condK rfl (fun h13 => ?_) (fun h13 => ?_)
  · skip
    refine W.seq ?_
    refine W.region ?_
    iterate 2 refine pu (ev tab rfl) rfl ?_
    refine WO.nil ?_
    refine qs ?_
    refine W.ret ?_
    refine qsRet ?_
    refine QF.ret0 trivial rfl ?_
    rw [show addI a b = (0, false) by unfold addI; rw [if_neg]; rintro ⟨p, q, _⟩; simp [p, q] at h13]; rfl
  · skip
    have hab : inR a = true ∧ inR b = true := by simpa using h13
    have ha := inR_iff.1 hab.1
    have hb := inR_iff.1 hab.2
    refine W.skip ?_
    refine qs ?_
    refine W.seq ?_
    refine W.region ?_
    iterate 2 refine pu (ev tab rfl) rfl ?_
    refine pu (puI (ev tab rfl) (wrap64 (by omega))) rfl ?_
    refine pu (puCall rfl rfl rfl (nwithin_fn ..) rfl) rfl ?_
    iterate 4 refine pu (ev tab rfl) rfl ?_
    refine WO.nil ?_
    refine qs ?_
    refine W.ret ?_
    refine QF.ret0 trivial rfl ?_
    simp only [norm, normL, oneA, addI, withinI]; simp [hab]
theorem mul64_fn (x y : Nat) (hx : x < 18446744073709551616) (hy : y < 18446744073709551616) : Does Tryz.prog 110 [.d (.v (.int .u64 x)), .d (.v (.int .u64 y))] (.tup [.d (.v (.int .u64 ((x * y / 18446744073709551616 : Nat) : Int))), .d (.v (.int .u64 ((x * y % 18446744073709551616 : Nat) : Int)))]) 0 :=
  Does.of_calls (xs := [.int .u64 x, .int .u64 y]) ⟨_, Tryz.func110, by kernel_rfl, by kernel_rfl⟩ (fun w _ _ => Tryz.bits_Mul64 x y hx hy w) (fun _ => rep_tup2 (okc_u64 (Nat.div_lt_of_lt_mul (Nat.mul_lt_mul'' hx hy))) (okc_u64 (Nat.mod_lt _ (by decide))))
theorem div64_fn (x y : Nat) (hx : x < 18446744073709551616) (hy : y ≠ 0) : Does Tryz.prog 111 [.d (.v (.int .u64 0)), .d (.v (.int .u64 x)), .d (.v (.int .u64 y))] (.tup [.d (.v (.int .u64 ((x / y : Nat) : Int))), .d (.v (.int .u64 ((x % y : Nat) : Int)))]) 0 := by
  refine Does.of_W (n := 135) (ts := [6, 7]) Tryz.func111 (by kernel_rfl) rfl Tryz.ntmps111 Tryz.results111 rfl rfl fun C hC hG => ?_
  refine W.seq ?_
  refine W.region ?_
  iterate 2 refine pu (ev tab rfl) rfl ?_
  refine WO.nil ?_
  refine qs ?_
  refine W.seq ?_
  refine W.seq ?_
  refine W.region ?_
  iterate 2 refine pu (ev tab rfl) rfl ?_
  refine WO.nil ?_
  refine qs ?_
  refine condK rfl (fun h20 => ?_) (fun h20 => ?_)
  · skip
    exfalso; have := of_decide_eq_true h20; omega
  · skip
    refine W.skip ?_
    refine qs ?_
    refine W.seq ?_
    refine W.seq ?_
    refine W.region ?_
    iterate 3 refine pu (ev tab rfl) rfl ?_
    refine WO.nil ?_
    refine qs ?_
    refine condK rfl (fun h24 => ?_) (fun h24 => ?_)
    · skip
      exfalso; have := of_decide_eq_true h24; omega
    · skip
      refine W.skip ?_
      refine qs ?_
      refine W.seq ?_
      refine W.seq ?_
      refine W.region ?_
      iterate 2 refine pu (ev tab rfl) rfl ?_
      refine WO.nil ?_
      refine qs ?_
      refine condK rfl (fun h27 => ?_) (fun h27 => ?_)
      · skip
        refine W.seq ?_
        refine W.regionD tab (by kernel_rfl) ?_
        refine chPu (ev tab rfl) rfl ?_
        refine chPu (ev tab rfl) rfl ?_
        refine chPu (puI (quoR rfl rfl (by omega) (okc_wrap _ _)) (show _ = ((x / y : Nat) : Int) by rw [wrap_u, Int.tdiv_eq_ediv_of_nonneg (Int.natCast_nonneg _), ← Int.natCast_ediv]; have := Nat.div_le_self x y; generalize x / y = z at *; omega)) rfl ?_
        refine chPu (ev tab rfl) rfl ?_
        refine chPu (ev tab rfl) rfl ?_
        refine chPu (puI (remR rfl rfl (by omega) (okc_rem (Nat.lt_of_le_of_lt (Nat.mod_le _ _) hx))) nat_rem) rfl ?_
        refine chPu (ev tab rfl) rfl ?_
        refine chPu (ev tab rfl) rfl ?_
        refine CH.nil ?_
        refine qs ?_
        refine W.ret ?_
        refine qsRet ?_
        refine QF.ret0 trivial rfl ?_
        rfl
      · skip
        exfalso; have := of_decide_eq_false h27; omega
theorem nquo_fn (a b : Int) : Does Tryz.prog 101 [.d (.v (.int .i64 a)), .d (.v (.int .i64 b)), .d (.v (.int .i64 1))] (.tup [.d (.v (.int .u64 ((quo1 a b).1 : Int))), .d (.v (.int .u64 0)), .d (.v (.bool (quo1 a b).2.1)), .d (.v (.bool (quo1 a b).2.2))]) 0 := by
  refine Does.of_W (n := 68) (ts := [6, 7, 8, 9]) Tryz.func101 (by kernel_rfl) rfl Tryz.ntmps101 Tryz.results101 rfl rfl fun C hC hG => ?_
  refine W.seq ?_
  refine W.region ?_
  iterate 4 refine pu (ev tab rfl) rfl ?_
  refine WO.nil ?_
  refine qs ?_
  refine W.seq ?_
  refine W.seq ?_
  apply regionB; (case hb => rfl)
  · skip
    refine pu (ev tab rfl) rfl ?_
    refine pu (puCall rfl rfl rfl (in_fn ..) rfl) rfl ?_
    iterate 2 refine pu (ev tab rfl) rfl ?_
    apply splitJ; (case hj => rfl); (case hl => rfl)
    · skip
      refine skipT rfl rfl rfl rfl ?_
      refine skipT rfl rfl rfl rfl ?_
      refine skipT rfl rfl rfl rfl ?_
      iterate 2 refine pu (ev tab rfl) rfl ?_
      refine skipT rfl rfl rfl rfl ?_
      refine skipT rfl rfl rfl rfl ?_
      iterate 2 refine pu (ev tab rfl) rfl ?_
      refine skipT rfl rfl rfl rfl ?_
      refine skipT rfl rfl rfl rfl ?_
      refine skipT rfl rfl rfl rfl ?_
      refine pu (ev tab rfl) rfl ?_
      refine WO.nil ?_
      refine qv1 rfl rfl rfl
    · skip
      refine goG rfl rfl ?_
      refine pu (ev tab rfl) rfl ?_
      refine goG rfl rfl ?_
      refine pu (puCall rfl rfl rfl (in_fn ..) rfl) rfl ?_
      refine goG rfl rfl ?_
      iterate 3 refine pu (ev tab rfl) rfl ?_
      apply splitJ; (case hj => rfl); (case hl => rfl)
      · skip
        refine skipT rfl rfl rfl rfl ?_
        refine skipT rfl rfl rfl rfl ?_
        iterate 2 refine pu (ev tab rfl) rfl ?_
        refine skipT rfl rfl rfl rfl ?_
        refine skipT rfl rfl rfl rfl ?_
        refine skipT rfl rfl rfl rfl ?_
        refine pu (ev tab rfl) rfl ?_
        refine WO.nil ?_
        refine qv1 rfl rfl rfl
      · skip
        refine goG rfl rfl ?_
        refine pu (ev tab rfl) rfl ?_
        refine goG rfl rfl ?_
        iterate 3 refine pu (ev tab rfl) rfl ?_
        apply splitJ; (case hj => rfl); (case hl => rfl)
        · skip
          refine skipT rfl rfl rfl rfl ?_
          refine skipT rfl rfl rfl rfl ?_
          refine skipT rfl rfl rfl rfl ?_
          refine pu (ev tab rfl) rfl ?_
          refine WO.nil ?_
          refine qv1 rfl rfl rfl
        · skip
          refine goG rfl rfl ?_
          refine pu (ev tab rfl) rfl ?_
          refine goG rfl rfl ?_
          refine pu (puCall rfl rfl rfl (in_fn ..) rfl) rfl ?_
          refine goG rfl rfl ?_
          iterate 2 refine pu (ev tab rfl) rfl ?_
          refine WO.nil ?_
          refine qv1 rfl rfl rfl
  refine qs ?_
  refine condK rfl (fun h32 => ?_) (fun h32 => ?_)
  · skip
    refine W.seq ?_
    refine W.region ?_
    iterate 4 refine pu (ev tab rfl) rfl ?_
    refine WO.nil ?_
    refine qs ?_
    refine W.ret ?_
    refine qsRet ?_
    refine QF.ret0 trivial rfl ?_
    have hz : (inR a && inR b) = false := by cases ha : inR a <;> cases hb : inR b <;> simp [ha, hb] at h32 ⊢ <;> exact absurd h32 (by decide)
    rw [show quo1 a b = (0, false, false) by simp [quo1, prodOK, hz]]; rfl
  · skip
    have hab : inR a = true ∧ inR b = true := by revert h32; cases inR a <;> cases inR b <;> simp
    have hp := prodN_le hab.1 hab.2
    have ha := inR_iff.1 hab.1
    have hb := inR_iff.1 hab.2
    refine W.skip ?_
    refine qs ?_
    refine W.seq ?_
    refine W.region ?_
    refine pu (ev tab rfl) rfl ?_
    refine pu (puCall rfl rfl rfl (nmag_fn a hab.1) rfl) rfl ?_
    iterate 5 refine pu (ev tab rfl) rfl ?_
    refine WO.nil ?_
    refine qs ?_
    refine W.seq ?_
    refine W.region ?_
    refine pu (ev tab rfl) rfl ?_
    refine pu (puCall rfl rfl rfl (nmag_fn b hab.2) rfl) rfl ?_
    iterate 5 refine pu (ev tab rfl) rfl ?_
    refine WO.nil ?_
    refine qs ?_
    refine W.seq ?_
    refine W.region ?_
    iterate 2 refine pu (ev tab rfl) rfl ?_
    refine pu (puCall rfl rfl rfl (mul64_fn a.natAbs b.natAbs (by omega) (by omega)) rfl) rfl ?_
    iterate 5 refine pu (ev tab rfl) rfl ?_
    refine WO.nil ?_
    refine qs ?_
    refine W.seq ?_
    refine W.seq ?_
    refine W.region ?_
    iterate 4 refine pu (ev tab rfl) rfl ?_
    refine WO.nil ?_
    refine qs ?_
    refine condK rfl (fun h52 => ?_) (fun h52 => ?_)
    · skip
      have h52 : ¬ prodN a b < 18446744073709551616 := by have := of_decide_eq_true h52; rw [wrap_u] at this; simp only [prodN]; omega
      refine W.seq ?_
      refine W.region ?_
      iterate 4 refine pu (ev tab rfl) rfl ?_
      refine WO.nil ?_
      refine qs ?_
      refine W.ret ?_
      refine qsRet ?_
      refine QF.ret0 trivial rfl ?_
      simp only [norm, normL, oneA, quo1, prodOK]; simp [h52]
    · skip
      have h52 : prodN a b < 18446744073709551616 := by have := of_decide_eq_false h52; rw [wrap_u] at this; simp only [prodN]; omega
      refine W.skip ?_
      refine qs ?_
      refine W.seq ?_
      refine W.region ?_
      refine pu (puI (ev tab rfl) (show (((a.natAbs * b.natAbs / 18446744073709551616 : Nat) : Int)) = 0 by rw [show a.natAbs * b.natAbs / 18446744073709551616 = 0 from Nat.div_eq_of_lt h52]; rfl)) rfl ?_
      refine pu (puI (ev tab rfl) (show (((a.natAbs * b.natAbs % 18446744073709551616 : Nat) : Int)) = ((prodN a b : Nat) : Int) by rw [show a.natAbs * b.natAbs % 18446744073709551616 = prodN a b from Nat.mod_eq_of_lt h52])) rfl ?_
      refine pu (ev tab rfl) rfl ?_
      refine pu (puI (ev tab rfl) (show IntKind.u64.wrap 1 = ((1 : Nat) : Int) by rw [wrap_u]; rfl)) rfl ?_
      refine pu (puCall rfl rfl rfl (div64_fn (prodN a b) 1 h52 (by decide)) rfl) rfl ?_
      iterate 5 refine pu (ev tab rfl) rfl ?_
      refine WO.nil ?_
      refine qs ?_
      refine W.seq ?_
      refine W.region ?_
      iterate 11 refine pu (ev tab rfl) rfl ?_
      refine WO.nil ?_
      refine qs ?_
      refine W.ret ?_
      refine QF.ret0 trivial rfl ?_
      rw [show quo1 a b = (prodN a b, !decide (decide (a < 0) = decide (b < 0)), decide (prodN a b ≤ 1000000000000000)) by simp [quo1, prodOK, h52, hab]]
      simp [norm, normL, oneA]
      omega
theorem nfloor_fn (a b : Int) : Does Tryz.prog 85 [.d (.v (.int .i64 a)), .d (.v (.int .i64 b)), .d (.v (.int .i64 1))] (.tup [.d (.v (.int .i64 (mulI a b).1)), .d (.v (.bool (mulI a b).2))]) 0 := by
  have hq := floor_eq a b
  refine Does.of_W (n := 36) (ts := [6, 7]) Tryz.func85 (by kernel_rfl) rfl Tryz.ntmps85 Tryz.results85 rfl rfl fun C hC hG => ?_
  refine W.seq ?_
  refine W.region ?_
  iterate 2 refine pu (ev tab rfl) rfl ?_
  refine WO.nil ?_
  refine qs ?_
  refine W.seq ?_
  refine W.region ?_
  iterate 3 refine pu (ev tab rfl) rfl ?_
  refine pu (puCall rfl rfl rfl (nquo_fn ..) rfl) rfl ?_
  iterate 9 refine pu (ev tab rfl) rfl ?_
  refine WO.nil ?_
  refine qs ?_
  refine W.seq ?_
  refine W.region ?_
  iterate 3 refine pu (ev tab rfl) rfl ?_
  refine WO.nil ?_
  refine qs ?_
  refine W.seq ?_
  refine W.seq ?_
  refine W.region ?_
  refine pu (ev tab rfl) rfl ?_
  refine WO.nil ?_
  refine qs ?_
  refine condK rfl (fun h24 => ?_) (fun h24 => ?_)
  · skip
    refine W.seq ?_
    refine W.region ?_
    iterate 3 refine pu (ev tab rfl) rfl ?_
    refine WO.nil ?_
    refine qs ?_
    refine W.seq ?_
    refine W.region ?_
    iterate 2 refine pu (ev tab rfl) rfl ?_
    refine WO.nil ?_
    refine qs ?_
    refine condK rfl (fun h28 => ?_) (fun h28 => ?_)
    · skip
      exfalso; exact absurd h28 (by decide)
    · skip
      refine W.skip ?_
      refine qs ?_
      refine W.seq ?_
      refine W.region ?_
      iterate 2 refine pu (ev tab rfl) rfl ?_
      refine pu (puCall rfl rfl rfl (nwithin_fn ..) rfl) rfl ?_
      iterate 4 refine pu (ev tab rfl) rfl ?_
      refine WO.nil ?_
      refine qs ?_
      refine W.ret ?_
      refine QF.ret0 trivial rfl ?_
      simp only [norm, normL, oneA]; simp_all
  · skip
    refine W.skip ?_
    refine qs ?_
    refine W.seq ?_
    refine W.region ?_
    iterate 2 refine pu (ev tab rfl) rfl ?_
    refine pu (puCall rfl rfl rfl (nwithin_fn ..) rfl) rfl ?_
    iterate 4 refine pu (ev tab rfl) rfl ?_
    refine WO.nil ?_
    refine qs ?_
    refine W.ret ?_
    refine QF.ret0 trivial rfl ?_
    simp only [norm, normL, oneA]; simp_all
theorem nmul_fn (a b : Int) : Does Tryz.prog 61 [.d (.v (.int .i64 a)), .d (.v (.int .i64 b))] (.tup [.d (.v (.int .i64 (mulI a b).1)), .d (.v (.bool (mulI a b).2))]) 0 := by
  refine Does.of_W (n := 11) (ts := [4, 5]) Tryz.func61 (by kernel_rfl) rfl Tryz.ntmps61 Tryz.results61 rfl rfl fun C hC hG => ?_
  refine W.seq ?_
  refine W.region ?_
  iterate 2 refine pu (ev tab rfl) rfl ?_
  refine WO.nil ?_
  refine qs ?_
  refine W.seq ?_
  refine W.region ?_
  iterate 2 refine pu (ev tab rfl) rfl ?_
  refine pu (puCall rfl rfl rfl (nfloor_fn ..) rfl) rfl ?_
  iterate 4 refine pu (ev tab rfl) rfl ?_
  refine WO.nil ?_
  refine qs ?_
  refine W.ret ?_
  refine QF.ret0 trivial rfl ?_
  rfl
end Go.Proofs.YtaifpecinbjgcabGreat
namespace Go.Proofs.YtaifpecinbjgcabGreat
open Go.Ab Go.Tb
set_option maxRecDepth 10000
attribute [local irreducible] W WO Pu QS QB QL QF QV QV1 CH QE
theorem efits_fn (cols : List Col) (row : List Val) : Does Tryz.prog 23 [.d (.sl (cols.map Col.c)), .d (.sl (row.map Val.c))] (.d (.v (.bool (fitsB cols row)))) 0 := by
  refine Does.of_W (n := 28) (ts := [4]) Tryz.func23 (by kernel_rfl) rfl Tryz.ntmps23 Tryz.results23 rfl rfl fun C hC hG => ?_
  refine W.seq ?_
  refine W.region ?_
  refine pu (ev tab rfl) rfl ?_
  refine WO.nil ?_
  refine qs ?_
  refine W.seq ?_
  refine W.seq ?_
  refine W.region ?_
  iterate 5 refine pu (ev tab rfl) rfl ?_
  refine WO.nil ?_
  refine qs ?_
  refine condK rfl (fun h11 => ?_) (fun h11 => ?_)
  · skip
    refine W.seq ?_
    refine W.region ?_
    refine pu (ev tab rfl) rfl ?_
    refine WO.nil ?_
    refine qs ?_
    refine W.ret ?_
    refine qsRet ?_
    refine QF.ret0 trivial rfl ?_
    rw [show fitsB cols row = false by simp at h11; rw [fitsB_eq]; simp; intro h; omega]; rfl
  · skip
    have hl : row.length = cols.length := by simp at h11; omega
    refine W.skip ?_
    refine qs ?_
    refine W.seq ?_
    refine W.seq ?_
    refine W.region ?_
    iterate 3 refine pu (ev tab rfl) rfl ?_
    refine WO.nil ?_
    refine qs ?_
    refine W.block ?_
    refine W.len (t := 12) rfl rfl (fun hlen => ?_)
    try simp only [List.length_map, Ex.kc_len] at hlen
    refine W.loopR (ι := {x : Nat // match x with | k => k ≤ row.length ∧ ((cols.drop k).zip (row.drop k)).all fitP = (cols.zip row).all fitP})
      (fun x => match x.1 with | k => [(14, .d (.v (.int .i64 ((k : Nat) : Int))))]) [(0, _), (12, _), (13, _)]
      (fun x => match x.1 with | k => []) [] [] 0 (fun x => match x.1 with | k => row.length - k)
      [] ⟨0, ?_⟩ rfl ?_ ⟨rfl, rfl, rfl, rfl, rfl, rfl, trivial⟩ ?_ trivial rfl ?_
    · first | exact ⟨Nat.zero_le _, rfl⟩ | exact trivial | simp
    · repeat' first | exact trivial | refine ⟨rfl, ?_⟩ | refine ⟨step_nat (by assumption) (by assumption), ?_⟩
    · repeat' first | exact trivial | refine ⟨rfl, ?_⟩ | refine ⟨step_nat (by assumption) (by assumption), ?_⟩
    rintro ⟨k, hk, hI⟩
    show W _ _ _ _ _ ⟨[(14, .d (.v (.int .i64 ((k : Nat) : Int)))), (0, _), (12, _), (13, _)], [], [], 0⟩
    refine W.seq ?_
    refine W.region ?_
    refine pu (ev tab rfl) rfl ?_
    refine WO.nil ?_
    refine qs ?_
    refine W.seq ?_
    refine eachR (l := row) (k := k) rfl (by simp [Ex.kc_len, bytes_len]) hk (fun v hx hd hlt => ?_) (fun he hd => ?_)
    · skip
      obtain ⟨c, hc, hcd⟩ := exAt (l := cols) (k := k) (by omega)
      rw [hd, hcd] at hI
      simp only [List.zip_cons_cons, List.all_cons] at hI
      refine W.skip ?_
      refine qs ?_
      refine W.seq ?_
      refine W.block ?_
      refine W.seq ?_
      refine W.region ?_
      refine pu (ev tab rfl) rfl ?_
      refine pu (indexAddr tab rfl rfl rfl rfl rfl rfl (Int.natCast_nonneg _) (idx_map hx) rfl) rfl ?_
      first | refine pu (ev tab rfl) rfl ?_ | refine pu (loadRow tab rfl rfl rfl rfl) rfl ?_ | refine pu (loadBox tab rfl rfl rfl rfl rfl) rfl ?_
      refine allocR tab rfl rfl rfl ?_
      refine pu (ev tab rfl) rfl ?_
      refine storeR tab rfl rfl rfl rfl rfl rfl rfl rfl ?_
      refine WO.nil ?_
      refine qs ?_
      refine W.seq ?_
      refine W.regionD tab (by kernel_rfl) ?_
      refine chPu (ev tab rfl) rfl ?_
      refine chPu (ev tab rfl) rfl ?_
      refine chPu (indexAddr tab rfl rfl rfl rfl rfl rfl (Int.natCast_nonneg _) (idx_map hc) rfl) rfl ?_
      refine chPu (ev tab rfl) rfl ?_
      first | refine chPu (ev tab rfl) rfl ?_ | refine chPu (loadRow tab rfl rfl rfl rfl) rfl ?_ | refine chPu (loadBox tab rfl rfl rfl rfl rfl) rfl ?_
      first | refine chPu (ev tab rfl) rfl ?_ | refine chPu (loadRow tab rfl rfl rfl rfl) rfl ?_ | refine chPu (loadBox tab rfl rfl rfl rfl rfl) rfl ?_
      refine chPu (puCall rfl rfl rfl (value_fn ..) rfl) rfl ?_
      refine chPu (ev tab rfl) rfl ?_
      refine CH.nil ?_
      refine qs ?_
      refine condK rfl (fun h26 => ?_) (fun h26 => ?_)
      · skip
        refine W.seq ?_
        refine W.region ?_
        refine pu (ev tab rfl) rfl ?_
        refine WO.nil ?_
        refine qs ?_
        refine W.ret ?_
        refine qbRet ?_
        refine qsRet ?_
        refine qlRet ?_
        refine qbRet ?_
        refine qsRet ?_
        refine QF.ret0 trivial rfl ?_
        rw [show fitsB cols row = false by rw [fitsB_eq, ← hI]; simp only [fitP]; simp_all]; rfl
      · skip
        refine W.skip ?_
        refine qbN ?_
        refine qs ?_
        refine W.region ?_
        iterate 2 refine pu (ev tab rfl) rfl ?_
        refine WO.nil ?_
        refine W.endR [] ⟨k + 1, ?_⟩ ?_ rfl ?_ ⟨rfl, rfl, rfl, rfl, rfl, rfl, trivial⟩ ?_ trivial rfl
        · exact ⟨hlt, by rw [← hI]; simp_all [fitP]⟩
        · dsimp only; omega
        · repeat' first | exact trivial | refine ⟨rfl, ?_⟩ | refine ⟨step_nat (by assumption) (by assumption), ?_⟩
        · repeat' first | exact trivial | refine ⟨rfl, ?_⟩ | refine ⟨step_nat (by assumption) (by assumption), ?_⟩
    · skip
      rw [hd] at hI
      refine W.exit ?_
      refine qsExit ?_
      refine qlExit ?_
      refine qbExit ?_
      refine qs ?_
      refine W.seq ?_
      refine W.region ?_
      refine pu (ev tab rfl) rfl ?_
      refine WO.nil ?_
      refine qs ?_
      refine W.ret ?_
      refine QF.ret0 trivial rfl ?_
      rw [show fitsB cols row = true by rw [fitsB_eq, ← hI]; simp [hl]]; rfl
theorem eboth_fn (a b : Val) : Does Tryz.prog 45 [.ag a.c, .ag b.c] (.ag (andV a b).c) 0 := by
  refine Does.of_V tab (n := 26) (rs := [.cell 4 27]) Tryz.func45 (by kernel_rfl) rfl Tryz.ntmps45 Tryz.results45 rfl fun C hC hG => ?_
  refine W.seq ?_
  refine W.region ?_
  refine boxR rfl rfl rfl ?_
  refine boxR rfl rfl rfl ?_
  refine allocR tab rfl rfl rfl ?_
  refine WO.nil ?_
  refine qs ?_
  refine W.seq ?_
  refine W.block ?_
  refine W.seq ?_
  apply regionDB tab; (case hb => rfl); (case hB => kernel_rfl)
  · skip
    first | refine chPu (ev tab rfl) rfl ?_ | refine chPu (loadRow tab rfl rfl rfl rfl) rfl ?_ | refine chPu (loadBox tab rfl rfl rfl rfl rfl) rfl ?_
    refine chPu (puCall rfl rfl rfl (truth_fn ..) rfl) rfl ?_
    refine chPu (ev tab rfl) rfl ?_
    refine chPu (ev tab rfl) rfl ?_
    apply chSplitJ; (case hj => rfl); (case hl => rfl)
    · skip
      refine chSkip rfl rfl rfl rfl ?_
      refine chSkip rfl rfl rfl rfl ?_
      refine chSkip rfl rfl rfl rfl ?_
      refine chPu (ev tab rfl) rfl ?_
      refine chPu (ev tab rfl) rfl ?_
      refine CH.nil ?_
      refine qv1 rfl rfl rfl
    · skip
      first | refine chGo rfl rfl (ev tab rfl) rfl ?_ | refine chGo rfl rfl (loadRow tab rfl rfl rfl rfl) rfl ?_ | refine chGo rfl rfl (loadBox tab rfl rfl rfl rfl rfl) rfl ?_
      refine chGo rfl rfl (puCall rfl rfl rfl (truth_fn ..) rfl) rfl ?_
      refine chGo rfl rfl (ev tab rfl) rfl ?_
      refine chPu (ev tab rfl) rfl ?_
      refine chPu (ev tab rfl) rfl ?_
      refine CH.nil ?_
      refine qv1 rfl rfl rfl
  refine qs ?_
  refine condK rfl (fun h5 => ?_) (fun h5 => ?_)
  · skip
    rw [valEq, valEq, bifOr] at h5
    refine W.seq ?_
    refine W.region ?_
    refine pu (puCall rfl rfl rfl (truth_fn ..) rfl) rfl ?_
    refine storeR tab rfl rfl rfl rfl rfl rfl rfl rfl ?_
    refine WO.nil ?_
    refine qs ?_
    refine W.ret ?_
    refine qbRet ?_
    refine qsRet ?_
    refine QV.ret0 tab trivial rfl ?_
    rw [show andV a b = truthV false by simp only [Bool.or_eq_true, decide_eq_true_eq] at h5; simp only [andV, if_pos h5]]; rfl
  · skip
    rw [valEq, valEq, bifOr] at h5
    refine W.seq ?_
    apply regionB; (case hb => rfl)
    · skip
      refine pu (ev tab rfl) rfl ?_
      first | refine pu (ev tab rfl) rfl ?_ | refine pu (loadRow tab rfl rfl rfl rfl) rfl ?_ | refine pu (loadBox tab rfl rfl rfl rfl rfl) rfl ?_
      iterate 2 refine pu (ev tab rfl) rfl ?_
      apply splitJ; (case hj => rfl); (case hl => rfl)
      · skip
        refine skipT rfl rfl rfl rfl ?_
        refine skipT rfl rfl rfl rfl ?_
        refine skipT rfl rfl rfl rfl ?_
        iterate 2 refine pu (ev tab rfl) rfl ?_
        refine WO.nil ?_
        refine qv1 rfl rfl rfl
      · skip
        refine goG rfl rfl ?_
        refine pu (ev tab rfl) rfl ?_
        refine goG rfl rfl ?_
        first | refine pu (ev tab rfl) rfl ?_ | refine pu (loadRow tab rfl rfl rfl rfl) rfl ?_ | refine pu (loadBox tab rfl rfl rfl rfl rfl) rfl ?_
        refine goG rfl rfl ?_
        iterate 3 refine pu (ev tab rfl) rfl ?_
        refine WO.nil ?_
        refine qv1 rfl rfl rfl
    refine qs ?_
    refine condK rfl (fun h15 => ?_) (fun h15 => ?_)
    · skip
      refine W.seq ?_
      refine W.region ?_
      refine pu (build tab rfl rfl rfl rfl) rfl ?_
      refine storeR tab rfl rfl rfl rfl rfl rfl rfl rfl ?_
      refine WO.nil ?_
      refine qs ?_
      refine W.ret ?_
      refine qbRet ?_
      refine qsRet ?_
      refine QV.ret0 tab trivial rfl ?_
      rw [show andV a b = nullV by rw [bifOr] at h15; simp only [Bool.or_eq_true, decide_eq_true_eq] at h15; simp only [Bool.or_eq_false_iff, decide_eq_false_iff_not] at h5; simp only [andV, if_neg (not_or.2 h5), if_pos h15]]; rfl
    · skip
      refine W.skip ?_
      refine qbN ?_
      refine qs ?_
      refine W.seq ?_
      refine W.region ?_
      refine pu (puCall rfl rfl rfl (truth_fn ..) rfl) rfl ?_
      refine storeR tab rfl rfl rfl rfl rfl rfl rfl rfl ?_
      refine WO.nil ?_
      refine qs ?_
      refine W.ret ?_
      refine QV.ret0 tab trivial rfl ?_
      rw [show andV a b = truthV true by rw [bifOr] at h15; simp only [Bool.or_eq_false_iff, decide_eq_false_iff_not] at h5 h15; simp only [andV, if_neg (not_or.2 h5), if_neg (not_or.2 h15)]]; rfl
theorem enot_fn (a : Val) : Does Tryz.prog 46 [.ag a.c] (.ag (notV a).c) 0 := by
  refine Does.of_V tab (n := 11) (rs := [.cell 2 27]) Tryz.func46 (by kernel_rfl) rfl Tryz.ntmps46 Tryz.results46 rfl fun C hC hG => ?_
  refine W.seq ?_
  refine W.region ?_
  refine boxR rfl rfl rfl ?_
  refine allocR tab rfl rfl rfl ?_
  refine WO.nil ?_
  refine qs ?_
  refine W.seq ?_
  refine W.seq ?_
  refine W.region ?_
  refine pu (ev tab rfl) rfl ?_
  first | refine pu (ev tab rfl) rfl ?_ | refine pu (loadRow tab rfl rfl rfl rfl) rfl ?_ | refine pu (loadBox tab rfl rfl rfl rfl rfl) rfl ?_
  refine pu (ev tab rfl) rfl ?_
  refine WO.nil ?_
  refine qs ?_
  refine condK rfl (fun h5 => ?_) (fun h5 => ?_)
  · skip
    refine W.seq ?_
    refine W.region ?_
    first | refine pu (ev tab rfl) rfl ?_ | refine pu (loadRow tab rfl rfl rfl rfl) rfl ?_ | refine pu (loadBox tab rfl rfl rfl rfl rfl) rfl ?_
    refine storeR tab rfl rfl rfl rfl rfl rfl rfl rfl ?_
    refine WO.nil ?_
    refine qs ?_
    refine W.ret ?_
    refine qsRet ?_
    refine QV.ret0 tab trivial rfl ?_
    rw [show notV a = a by simp only [notV, of_decide_eq_true h5, if_true]]; rfl
  · skip
    refine W.skip ?_
    refine qs ?_
    refine W.seq ?_
    refine W.region ?_
    refine pu (ev tab rfl) rfl ?_
    first | refine pu (ev tab rfl) rfl ?_ | refine pu (loadRow tab rfl rfl rfl rfl) rfl ?_ | refine pu (loadBox tab rfl rfl rfl rfl rfl) rfl ?_
    refine pu (ev tab rfl) rfl ?_
    refine pu (puCall rfl rfl rfl (truth_fn ..) rfl) rfl ?_
    refine storeR tab rfl rfl rfl rfl rfl rfl rfl rfl ?_
    refine WO.nil ?_
    refine qs ?_
    refine W.ret ?_
    refine QV.ret0 tab trivial rfl ?_
    rw [show notV a = truthV (decide (a.n = 0)) by simp only [notV, of_decide_eq_false h5, if_false]]; rfl
theorem divided_fn (a b : Int) (r : Bool) (ha : inR a = true) (hb : inR b = true) : Does Tryz.prog 62 [.d (.v (.int .i64 a)), .d (.v (.int .i64 b)), .d (.v (.bool r))] (.ag (divV a b r).c) 0 := by
  have ha' := inR_iff.1 ha
  have hb' := inR_iff.1 hb
  refine Does.of_V tab (n := 21) (rs := [.cell 6 27]) Tryz.func62 (by kernel_rfl) rfl Tryz.ntmps62 Tryz.results62 rfl fun C hC hG => ?_
  refine W.seq ?_
  refine W.region ?_
  refine allocR tab rfl rfl rfl ?_
  refine WO.nil ?_
  refine qs ?_
  refine W.seq ?_
  refine W.block ?_
  refine W.seq ?_
  refine W.region ?_
  iterate 3 refine pu (ev tab rfl) rfl ?_
  refine WO.nil ?_
  refine qs ?_
  refine condK rfl (fun h7 => ?_) (fun h7 => ?_)
  · skip
    refine W.seq ?_
    refine W.region ?_
    refine pu (build tab rfl rfl rfl rfl) rfl ?_
    refine storeR tab rfl rfl rfl rfl rfl rfl rfl rfl ?_
    refine WO.nil ?_
    refine qs ?_
    refine W.ret ?_
    refine qbRet ?_
    refine qsRet ?_
    refine QV.ret0 tab trivial rfl ?_
    rw [show divV a b r = nullV by simp only [divV, of_decide_eq_true h7, if_true]]; rfl
  · skip
    have hz : b ≠ 0 := by simpa using h7
    have h1 : (a.tdiv b).natAbs ≤ a.natAbs := by rw [Int.natAbs_tdiv]; exact Nat.div_le_self _ _
    have h2 : (a.tmod b).natAbs ≤ a.natAbs := by rw [Int.natAbs_tmod]; exact Nat.mod_le _ _
    refine W.seq ?_
    refine W.region ?_
    iterate 2 refine pu (ev tab rfl) rfl ?_
    refine WO.nil ?_
    refine qs ?_
    refine condK rfl (fun h11 => ?_) (fun h11 => ?_)
    · skip
      refine W.seq ?_
      refine W.region ?_
      iterate 2 refine pu (ev tab rfl) rfl ?_
      refine pu (remR rfl rfl hz (okc_i (by omega))) rfl ?_
      refine pu (puCall rfl rfl rfl (enumber_fn ..) rfl) rfl ?_
      refine storeR tab rfl rfl rfl rfl rfl rfl rfl rfl ?_
      refine WO.nil ?_
      refine qs ?_
      refine W.ret ?_
      refine qbRet ?_
      refine qsRet ?_
      refine QV.ret0 tab trivial rfl ?_
      rw [show divV a b r = numV (a.tmod b) by simp only [divV, if_neg hz, h11, if_true]]; rfl
    · skip
      refine W.skip ?_
      refine qbN ?_
      refine qs ?_
      refine W.seq ?_
      refine W.region ?_
      iterate 2 refine pu (ev tab rfl) rfl ?_
      refine pu (puI (quoR rfl rfl hz (okc_wrap _ _)) (wrap64 (by omega))) rfl ?_
      refine pu (puCall rfl rfl rfl (enumber_fn ..) rfl) rfl ?_
      refine storeR tab rfl rfl rfl rfl rfl rfl rfl rfl ?_
      refine WO.nil ?_
      refine qs ?_
      refine W.ret ?_
      refine QV.ret0 tab trivial rfl ?_
      rw [show divV a b r = numV (a.tdiv b) by simp only [divV, if_neg hz, h11]; rfl]; rfl
theorem hasPrefixL_fn (s p : ByteArray) : Does Tryz.prog 103 [.d (.v (.string s)), .d (.v (.string p))] (.d (.v (.bool (startB s p)))) 0 := by
  refine Does.of_W (n := 18) (ts := [4]) Tryz.func103 (by kernel_rfl) rfl Tryz.ntmps103 Tryz.results103 rfl rfl fun C hC hG => ?_
  refine W.seq ?_
  refine W.region ?_
  refine pu (ev tab rfl) rfl ?_
  refine WO.nil ?_
  refine qs ?_
  refine W.seq ?_
  apply regionB; (case hb => rfl)
  · skip
    iterate 6 refine pu (ev tab rfl) rfl ?_
    apply splitH; (case hj => rfl); (case hl => rfl)
    · intro g10
      refine goG rfl rfl ?_
      refine pu (ev tab rfl) rfl ?_
      refine goG rfl rfl ?_
      refine pu (ev tab rfl) rfl ?_
      refine goG rfl rfl ?_
      refine pu (ev tab rfl) rfl ?_
      refine goG rfl rfl ?_
      refine pu (strTo tab rfl rfl rfl rfl (Int.natCast_nonneg _) (by simpa using g10)) rfl ?_
      refine goG rfl rfl ?_
      refine pu (ev tab rfl) rfl ?_
      refine goG rfl rfl ?_
      iterate 3 refine pu (ev tab rfl) rfl ?_
      refine WO.nil ?_
      refine qv1 rfl rfl rfl
    · intro g10
      refine skipT rfl rfl rfl rfl ?_
      refine skipT rfl rfl rfl rfl ?_
      refine skipT rfl rfl rfl rfl ?_
      refine skipT rfl rfl rfl rfl ?_
      refine skipT rfl rfl rfl rfl ?_
      refine skipT rfl rfl rfl rfl ?_
      iterate 2 refine pu (ev tab rfl) rfl ?_
      refine WO.nil ?_
      refine qv1 rfl rfl rfl
  refine qs ?_
  refine W.ret ?_
  refine QF.ret0 trivial rfl ?_
  simp only [norm, oneA, boolA, bifAnd]; by_cases h : p.size ≤ s.size
  · rw [← starts_to h]; simp [h]
  · rw [starts_long h]; simp [h]
theorem hasPrefix_fn (s p : ByteArray) : Does Tryz.prog 87 [.d (.v (.string s)), .d (.v (.string p))] (.d (.v (.bool (startB s p)))) 0 := by
  refine Does.of_W (n := 8) (ts := [4]) Tryz.func87 (by kernel_rfl) rfl Tryz.ntmps87 Tryz.results87 rfl rfl fun C hC hG => ?_
  refine W.seq ?_
  refine W.region ?_
  refine pu (ev tab rfl) rfl ?_
  refine WO.nil ?_
  refine qs ?_
  refine W.seq ?_
  refine W.region ?_
  iterate 2 refine pu (ev tab rfl) rfl ?_
  refine pu (puCall rfl rfl rfl (hasPrefixL_fn ..) rfl) rfl ?_
  refine pu (ev tab rfl) rfl ?_
  refine WO.nil ?_
  refine qs ?_
  refine W.ret ?_
  refine QF.ret0 trivial rfl ?_
  rfl
theorem contains_fn2 (s p : ByteArray) (h : s.size ≤ 1000000) : Does Tryz.prog 86 [.d (.v (.string s)), .d (.v (.string p))] (.d (.v (.bool (occB s p)))) 0 :=
  Does.of_calls (xs := [.string s, .string p]) ⟨_, Tryz.func86, by kernel_rfl, by kernel_rfl⟩ (fun w hu _ => by
    obtain ⟨m, hm⟩ := hu.cell (b := _) Tryz.laysM144.s1_3
    exact Tryz.strings_Contains s p m w (by omega) hm) (fun _ => .d (.v _ rfl))
theorem ecall_fn (name : ByteArray) (l : List Val) (hn : (l.length : Int) = arity name ∧ arity name ≠ 0) (ha : name = wAbs → ∀ v ∈ l, inR v.n = true) (hs : name = wHas ∨ name = wStarts → ∀ v ∈ l, v.s.size ≤ 200) :
    Does Tryz.prog 63 [.d (.v (.string name)), .d (.sl (l.map Val.c))] (.ag (callV name (l.getD 0 nullV) (l.getD 1 nullV)).c) 0 := by
  have hl1 : 1 ≤ l.length := by
    have : 0 ≤ arity name := by simp only [arity]; split <;> (try split) <;> omega
    omega
  have hl2 : name ≠ wAbs → name ≠ wLen → 2 ≤ l.length := fun h1 h2 => by have := arity2 hn.2 h1 h2; omega
  refine Does.of_V tab (n := 68) (rs := [.cell 4 27]) Tryz.func63 (by kernel_rfl) rfl Tryz.ntmps63 Tryz.results63 rfl fun C hC hG => ?_
  refine W.seq ?_
  refine W.region ?_
  refine allocR tab rfl rfl rfl ?_
  refine WO.nil ?_
  refine qs ?_
  refine W.seq ?_
  refine W.seq ?_
  refine W.region ?_
  refine pu (ev tab rfl) rfl ?_
  refine WO.nil ?_
  refine qs ?_
  refine W.block ?_
  refine W.seq ?_
  refine W.region ?_
  iterate 2 refine pu (ev tab rfl) rfl ?_
  refine WO.nil ?_
  refine qs ?_
  refine condK rfl (fun h6 => ?_) (fun h6 => ?_)
  · skip
    have h6 : name = wAbs := of_decide_eq_true h6
    refine W.seq ?_
    refine W.regionE tab 11 0 (by kernel_rfl) rfl rfl ?_
    refine cePu rfl (ev tab rfl) rfl ?_
    refine cePu rfl (indexAddr tab rfl rfl rfl rfl rfl rfl (Int.le_refl _) (idx_map (l0 hl1)) rfl) rfl ?_
    refine cePu rfl (ev tab rfl) rfl ?_
    first | refine cePu rfl (ev tab rfl) rfl ?_ | refine cePu rfl (loadRow tab rfl rfl rfl rfl) rfl ?_ | refine cePu rfl (loadBox tab rfl rfl rfl rfl rfl) rfl ?_
    refine cePu rfl (ev tab rfl) rfl ?_
    refine cePu rfl (indexAddr tab rfl rfl rfl rfl rfl rfl (Int.le_refl _) (idx_map (l0 hl1)) rfl) rfl ?_
    refine cePu rfl (ev tab rfl) rfl ?_
    first | refine cePu rfl (ev tab rfl) rfl ?_ | refine cePu rfl (loadRow tab rfl rfl rfl rfl) rfl ?_ | refine cePu rfl (loadBox tab rfl rfl rfl rfl rfl) rfl ?_
    refine cePu rfl (ev tab rfl) rfl ?_
    refine cePu rfl (puI (ev tab rfl) (abs_max (ha h6 _ (mem0 hl1)))) rfl ?_
    refine cePu rfl (puCall rfl rfl rfl (enumber_fn ..) rfl) rfl ?_
    refine CE.nil ?_
    refine storeR tab rfl rfl rfl rfl rfl rfl rfl rfl ?_
    refine WO.nil ?_
    refine qs ?_
    refine W.ret ?_
    refine qbRet ?_
    refine qsRet ?_
    refine QV.ret0 tab trivial rfl ?_
    rw [show callV name (l.getD 0 nullV) (l.getD 1 nullV) = numV (l.getD 0 nullV).n.natAbs by simp only [callV, if_pos h6]]; rfl
  · skip
    have h6 : name ≠ wAbs := of_decide_eq_false h6
    refine W.seq ?_
    refine W.region ?_
    iterate 2 refine pu (ev tab rfl) rfl ?_
    refine WO.nil ?_
    refine qs ?_
    refine condK rfl (fun h19 => ?_) (fun h19 => ?_)
    · skip
      have h19 : name = wLen := of_decide_eq_true h19
      refine W.seq ?_
      refine W.region ?_
      refine pu (ev tab rfl) rfl ?_
      refine pu (indexAddr tab rfl rfl rfl rfl rfl rfl (Int.le_refl _) (idx_map (l0 hl1)) rfl) rfl ?_
      refine pu (ev tab rfl) rfl ?_
      first | refine pu (ev tab rfl) rfl ?_ | refine pu (loadRow tab rfl rfl rfl rfl) rfl ?_ | refine pu (loadBox tab rfl rfl rfl rfl rfl) rfl ?_
      refine pu (ev tab rfl) rfl ?_
      refine pu (puCall rfl rfl rfl (enumber_fn ..) rfl) rfl ?_
      refine storeR tab rfl rfl rfl rfl rfl rfl rfl rfl ?_
      refine WO.nil ?_
      refine qs ?_
      refine W.ret ?_
      refine qbRet ?_
      refine qsRet ?_
      refine QV.ret0 tab trivial rfl ?_
      rw [show callV name (l.getD 0 nullV) (l.getD 1 nullV) = numV (l.getD 0 nullV).s.size by simp only [callV, if_neg h6, if_pos h19]]; rfl
    · skip
      have h19 : name ≠ wLen := of_decide_eq_false h19
      have hl2 := hl2 h6 h19
      refine W.seq ?_
      refine W.region ?_
      iterate 2 refine pu (ev tab rfl) rfl ?_
      refine WO.nil ?_
      refine qs ?_
      refine condK rfl (fun h27 => ?_) (fun h27 => ?_)
      · skip
        have h27 : name = wHas := of_decide_eq_true h27
        refine W.seq ?_
        refine W.regionE tab 10 0 (by kernel_rfl) rfl rfl ?_
        refine cePu rfl (ev tab rfl) rfl ?_
        refine cePu rfl (indexAddr tab rfl rfl rfl rfl rfl rfl (Int.le_refl _) (idx_map (l0 hl1)) rfl) rfl ?_
        refine cePu rfl (ev tab rfl) rfl ?_
        first | refine cePu rfl (ev tab rfl) rfl ?_ | refine cePu rfl (loadRow tab rfl rfl rfl rfl) rfl ?_ | refine cePu rfl (loadBox tab rfl rfl rfl rfl rfl) rfl ?_
        refine cePu rfl (ev tab rfl) rfl ?_
        refine cePu rfl (indexAddr tab rfl rfl rfl rfl rfl rfl (by decide) (idx_map (l1 hl2)) rfl) rfl ?_
        refine cePu rfl (ev tab rfl) rfl ?_
        first | refine cePu rfl (ev tab rfl) rfl ?_ | refine cePu rfl (loadRow tab rfl rfl rfl rfl) rfl ?_ | refine cePu rfl (loadBox tab rfl rfl rfl rfl rfl) rfl ?_
        refine cePu rfl (puCall rfl rfl rfl (contains_fn2 _ _ (by have := hs (.inl h27) _ (mem0 hl1); omega)) rfl) rfl ?_
        refine cePu rfl (puCall rfl rfl rfl (truth_fn ..) rfl) rfl ?_
        refine CE.nil ?_
        refine storeR tab rfl rfl rfl rfl rfl rfl rfl rfl ?_
        refine WO.nil ?_
        refine qs ?_
        refine W.ret ?_
        refine qbRet ?_
        refine qsRet ?_
        refine QV.ret0 tab trivial rfl ?_
        rw [show callV name (l.getD 0 nullV) (l.getD 1 nullV) = truthV (occB (l.getD 0 nullV).s (l.getD 1 nullV).s) by simp only [callV, if_neg h6, if_neg h19, if_pos h27]]; rfl
      · skip
        have h27 : name ≠ wHas := of_decide_eq_false h27
        refine W.seq ?_
        refine W.region ?_
        iterate 2 refine pu (ev tab rfl) rfl ?_
        refine WO.nil ?_
        refine qs ?_
        refine condK rfl (fun h39 => ?_) (fun h39 => ?_)
        · skip
          have h39 : name = wStarts := of_decide_eq_true h39
          refine W.seq ?_
          refine W.regionE tab 10 0 (by kernel_rfl) rfl rfl ?_
          refine cePu rfl (ev tab rfl) rfl ?_
          refine cePu rfl (indexAddr tab rfl rfl rfl rfl rfl rfl (Int.le_refl _) (idx_map (l0 hl1)) rfl) rfl ?_
          refine cePu rfl (ev tab rfl) rfl ?_
          first | refine cePu rfl (ev tab rfl) rfl ?_ | refine cePu rfl (loadRow tab rfl rfl rfl rfl) rfl ?_ | refine cePu rfl (loadBox tab rfl rfl rfl rfl rfl) rfl ?_
          refine cePu rfl (ev tab rfl) rfl ?_
          refine cePu rfl (indexAddr tab rfl rfl rfl rfl rfl rfl (by decide) (idx_map (l1 hl2)) rfl) rfl ?_
          refine cePu rfl (ev tab rfl) rfl ?_
          first | refine cePu rfl (ev tab rfl) rfl ?_ | refine cePu rfl (loadRow tab rfl rfl rfl rfl) rfl ?_ | refine cePu rfl (loadBox tab rfl rfl rfl rfl rfl) rfl ?_
          refine cePu rfl (puCall rfl rfl rfl (hasPrefix_fn ..) rfl) rfl ?_
          refine cePu rfl (puCall rfl rfl rfl (truth_fn ..) rfl) rfl ?_
          refine CE.nil ?_
          refine storeR tab rfl rfl rfl rfl rfl rfl rfl rfl ?_
          refine WO.nil ?_
          refine qs ?_
          refine W.ret ?_
          refine qbRet ?_
          refine qsRet ?_
          refine QV.ret0 tab trivial rfl ?_
          rw [show callV name (l.getD 0 nullV) (l.getD 1 nullV) = truthV (startB (l.getD 0 nullV).s (l.getD 1 nullV).s) by simp only [callV, if_neg h6, if_neg h19, if_neg h27, if_pos h39]]; rfl
        · skip
          have h39 : name ≠ wStarts := of_decide_eq_false h39
          refine W.skip ?_
          refine qbN ?_
          refine qs ?_
          refine W.seq ?_
          refine W.seq ?_
          refine W.regionD tab (by kernel_rfl) ?_
          refine chPu (ev tab rfl) rfl ?_
          refine chPu (indexAddr tab rfl rfl rfl rfl rfl rfl (by decide) (idx_map (l1 hl2)) rfl) rfl ?_
          first | refine chPu (ev tab rfl) rfl ?_ | refine chPu (loadRow tab rfl rfl rfl rfl) rfl ?_ | refine chPu (loadBox tab rfl rfl rfl rfl rfl) rfl ?_
          refine chPu (ev tab rfl) rfl ?_
          refine chPu (indexAddr tab rfl rfl rfl rfl rfl rfl (Int.le_refl _) (idx_map (l0 hl1)) rfl) rfl ?_
          first | refine chPu (ev tab rfl) rfl ?_ | refine chPu (loadRow tab rfl rfl rfl rfl) rfl ?_ | refine chPu (loadBox tab rfl rfl rfl rfl rfl) rfl ?_
          refine chPu (puCall rfl rfl rfl (order_fn ..) rfl) rfl ?_
          refine chPu (ev tab rfl) rfl ?_
          refine chPu (ev tab rfl) rfl ?_
          refine chPu (ev tab rfl) rfl ?_
          refine chPu (ev tab rfl) rfl ?_
          refine CH.nil ?_
          refine qs ?_
          refine condK rfl (fun h61 => ?_) (fun h61 => ?_)
          · skip
            refine W.seq ?_
            refine W.region ?_
            refine pu (ev tab rfl) rfl ?_
            refine pu (indexAddr tab rfl rfl rfl rfl rfl rfl (by decide) (idx_map (l1 hl2)) rfl) rfl ?_
            first | refine pu (ev tab rfl) rfl ?_ | refine pu (loadRow tab rfl rfl rfl rfl) rfl ?_ | refine pu (loadBox tab rfl rfl rfl rfl rfl) rfl ?_
            refine storeR tab rfl rfl rfl rfl rfl rfl rfl rfl ?_
            refine WO.nil ?_
            refine qs ?_
            refine W.ret ?_
            refine qsRet ?_
            refine QV.ret0 tab trivial rfl ?_
            rw [← callV_swap h6 h19 h27 h39, show decide (ordV (l.getD 1 nullV) (l.getD 0 nullV) < 0) = decide (name = wMin) from of_decide_eq_true h61, if_pos rfl]; rfl
          · skip
            refine W.skip ?_
            refine qs ?_
            refine W.seq ?_
            refine W.region ?_
            refine pu (ev tab rfl) rfl ?_
            refine pu (indexAddr tab rfl rfl rfl rfl rfl rfl (Int.le_refl _) (idx_map (l0 hl1)) rfl) rfl ?_
            first | refine pu (ev tab rfl) rfl ?_ | refine pu (loadRow tab rfl rfl rfl rfl) rfl ?_ | refine pu (loadBox tab rfl rfl rfl rfl rfl) rfl ?_
            refine storeR tab rfl rfl rfl rfl rfl rfl rfl rfl ?_
            refine WO.nil ?_
            refine qs ?_
            refine W.ret ?_
            refine QV.ret0 tab trivial rfl ?_
            rw [← callV_swap h6 h19 h27 h39, if_neg (show ¬ decide (ordV (l.getD 1 nullV) (l.getD 0 nullV) < 0) = decide (name = wMin) from of_decide_eq_false h61)]; rfl
theorem operation_fn0 (e : Ex) (l : List Val) (g : GoodL e.op e.name l) (ho : 3 ≤ e.op ∧ e.op ≤ 16) (h14 : e.op ≠ 14) (h15 : e.op ≠ 15) :
    Does Tryz.prog 47 [.ag e.c, .d (.sl (l.map Val.c))] (.ag (opV e.op e.name l).c) 0 := by
  have hl1 := g.len1
  refine Does.of_V tab (n := 128) (rs := [.cell 4 27]) Tryz.func47 (by kernel_rfl) rfl Tryz.ntmps47 Tryz.results47 rfl fun C hC hG => ?_
  refine W.seq ?_
  refine W.region ?_
  refine boxR rfl rfl rfl ?_
  refine allocR tab rfl rfl rfl ?_
  refine WO.nil ?_
  refine qs ?_
  refine W.seq ?_
  refine W.seq ?_
  refine W.region ?_
  refine pu (ev tab rfl) rfl ?_
  first | refine pu (ev tab rfl) rfl ?_ | refine pu (loadRow tab rfl rfl rfl rfl) rfl ?_ | refine pu (loadBox tab rfl rfl rfl rfl rfl) rfl ?_
  refine WO.nil ?_
  refine qs ?_
  refine W.block ?_
  refine W.seq ?_
  refine W.region ?_
  iterate 2 refine pu (ev tab rfl) rfl ?_
  refine WO.nil ?_
  refine qs ?_
  refine condK rfl (fun h8 => ?_) (fun h8 => ?_)
  · skip
    have h8 : e.op = 3 := of_decide_eq_true h8
    refine W.seq ?_
    refine W.region ?_
    refine pu (ev tab rfl) rfl ?_
    refine pu (indexAddr tab rfl rfl rfl rfl rfl rfl (Int.le_refl _) (idx_map (l0 hl1)) rfl) rfl ?_
    first | refine pu (ev tab rfl) rfl ?_ | refine pu (loadRow tab rfl rfl rfl rfl) rfl ?_ | refine pu (loadBox tab rfl rfl rfl rfl rfl) rfl ?_
    refine pu (puCall rfl rfl rfl (enot_fn ..) rfl) rfl ?_
    refine storeR tab rfl rfl rfl rfl rfl rfl rfl rfl ?_
    refine WO.nil ?_
    refine qs ?_
    refine W.ret ?_
    refine qbRet ?_
    refine qsRet ?_
    refine QV.ret0 tab trivial rfl ?_
    rw [opV_not g h8]; rfl
  · skip
    have h8 : e.op ≠ 3 := of_decide_eq_false h8
    refine W.seq ?_
    refine W.region ?_
    iterate 2 refine pu (ev tab rfl) rfl ?_
    refine WO.nil ?_
    refine qs ?_
    refine condK rfl (fun h14 => ?_) (fun h14 => ?_)
    · skip
      have h14' : e.op = 4 := of_decide_eq_true h14
      refine W.seq ?_
      refine W.region ?_
      refine pu (ev tab rfl) rfl ?_
      refine pu (indexAddr tab rfl rfl rfl rfl rfl rfl (Int.le_refl _) (idx_map (l0 hl1)) rfl) rfl ?_
      refine pu (ev tab rfl) rfl ?_
      first | refine pu (ev tab rfl) rfl ?_ | refine pu (loadRow tab rfl rfl rfl rfl) rfl ?_ | refine pu (loadBox tab rfl rfl rfl rfl rfl) rfl ?_
      refine pu (puI (ev tab rfl) (neg_in (g.num (by omega) (by omega) _ (mem0 hl1)))) rfl ?_
      refine pu (puCall rfl rfl rfl (enumber_fn ..) rfl) rfl ?_
      refine storeR tab rfl rfl rfl rfl rfl rfl rfl rfl ?_
      refine WO.nil ?_
      refine qs ?_
      refine W.ret ?_
      refine qbRet ?_
      refine qsRet ?_
      refine QV.ret0 tab trivial rfl ?_
      rw [opV_neg g h14']; rfl
    · skip
      have h14' : e.op ≠ 4 := of_decide_eq_false h14
      refine W.seq ?_
      refine W.region ?_
      iterate 2 refine pu (ev tab rfl) rfl ?_
      refine WO.nil ?_
      refine qs ?_
      refine condK rfl (fun h22 => ?_) (fun h22 => ?_)
      · skip
        have h22 : e.op = 5 := of_decide_eq_true h22
        have hl2 := g.len2 h8 h14' (by omega)
        refine W.seq ?_
        refine W.regionE tab 12 0 (by kernel_rfl) rfl rfl ?_
        refine cePu rfl (ev tab rfl) rfl ?_
        refine cePu rfl (indexAddr tab rfl rfl rfl rfl rfl rfl (Int.le_refl _) (idx_map (l0 hl1)) rfl) rfl ?_
        refine cePu rfl (ev tab rfl) rfl ?_
        first | refine cePu rfl (ev tab rfl) rfl ?_ | refine cePu rfl (loadRow tab rfl rfl rfl rfl) rfl ?_ | refine cePu rfl (loadBox tab rfl rfl rfl rfl rfl) rfl ?_
        refine cePu rfl (ev tab rfl) rfl ?_
        refine cePu rfl (indexAddr tab rfl rfl rfl rfl rfl rfl (by decide) (idx_map (l1 hl2)) rfl) rfl ?_
        refine cePu rfl (ev tab rfl) rfl ?_
        first | refine cePu rfl (ev tab rfl) rfl ?_ | refine cePu rfl (loadRow tab rfl rfl rfl rfl) rfl ?_ | refine cePu rfl (loadBox tab rfl rfl rfl rfl rfl) rfl ?_
        refine cePu rfl (puCall rfl rfl rfl (nadd_fn ..) rfl) rfl ?_
        refine cePu rfl (ev tab rfl) rfl ?_
        refine cePu rfl (ev tab rfl) rfl ?_
        refine cePu rfl (puCall rfl rfl rfl (enumber_fn ..) rfl) rfl ?_
        refine CE.nil ?_
        refine storeR tab rfl rfl rfl rfl rfl rfl rfl rfl ?_
        refine WO.nil ?_
        refine qs ?_
        refine W.ret ?_
        refine qbRet ?_
        refine qsRet ?_
        refine QV.ret0 tab trivial rfl ?_
        rw [opV_arith g (by omega), arith_add (g.num (by omega) (by omega) _ (mem0 hl1)) (g.num (by omega) (by omega) _ (mem1 hl2)) h22]; rfl
      · skip
        have h22 : e.op ≠ 5 := of_decide_eq_false h22
        refine W.seq ?_
        refine W.region ?_
        iterate 2 refine pu (ev tab rfl) rfl ?_
        refine WO.nil ?_
        refine qs ?_
        refine condK rfl (fun h36 => ?_) (fun h36 => ?_)
        · skip
          have h36 : e.op = 6 := of_decide_eq_true h36
          have hl2 := g.len2 h8 h14' (by omega)
          refine W.seq ?_
          refine W.regionE tab 13 0 (by kernel_rfl) rfl rfl ?_
          refine cePu rfl (ev tab rfl) rfl ?_
          refine cePu rfl (indexAddr tab rfl rfl rfl rfl rfl rfl (Int.le_refl _) (idx_map (l0 hl1)) rfl) rfl ?_
          refine cePu rfl (ev tab rfl) rfl ?_
          first | refine cePu rfl (ev tab rfl) rfl ?_ | refine cePu rfl (loadRow tab rfl rfl rfl rfl) rfl ?_ | refine cePu rfl (loadBox tab rfl rfl rfl rfl rfl) rfl ?_
          refine cePu rfl (ev tab rfl) rfl ?_
          refine cePu rfl (indexAddr tab rfl rfl rfl rfl rfl rfl (by decide) (idx_map (l1 hl2)) rfl) rfl ?_
          refine cePu rfl (ev tab rfl) rfl ?_
          first | refine cePu rfl (ev tab rfl) rfl ?_ | refine cePu rfl (loadRow tab rfl rfl rfl rfl) rfl ?_ | refine cePu rfl (loadBox tab rfl rfl rfl rfl rfl) rfl ?_
          refine cePu rfl (puI (ev tab rfl) (neg_in (g.num (by omega) (by omega) _ (mem1 hl2)))) rfl ?_
          refine cePu rfl (puCall rfl rfl rfl (nadd_fn ..) rfl) rfl ?_
          refine cePu rfl (ev tab rfl) rfl ?_
          refine cePu rfl (ev tab rfl) rfl ?_
          refine cePu rfl (puCall rfl rfl rfl (enumber_fn ..) rfl) rfl ?_
          refine CE.nil ?_
          refine storeR tab rfl rfl rfl rfl rfl rfl rfl rfl ?_
          refine WO.nil ?_
          refine qs ?_
          refine W.ret ?_
          refine qbRet ?_
          refine qsRet ?_
          refine QV.ret0 tab trivial rfl ?_
          rw [opV_arith g (by omega), arith_sub (g.num (by omega) (by omega) _ (mem0 hl1)) (g.num (by omega) (by omega) _ (mem1 hl2)) h36]; rfl
        · skip
          have h36 : e.op ≠ 6 := of_decide_eq_false h36
          refine W.seq ?_
          refine W.region ?_
          iterate 2 refine pu (ev tab rfl) rfl ?_
          refine WO.nil ?_
          refine qs ?_
          refine condK rfl (fun h51 => ?_) (fun h51 => ?_)
          · skip
            have h51 : e.op = 7 := of_decide_eq_true h51
            have hl2 := g.len2 h8 h14' (by omega)
            refine W.seq ?_
            refine W.regionE tab 12 0 (by kernel_rfl) rfl rfl ?_
            refine cePu rfl (ev tab rfl) rfl ?_
            refine cePu rfl (indexAddr tab rfl rfl rfl rfl rfl rfl (Int.le_refl _) (idx_map (l0 hl1)) rfl) rfl ?_
            refine cePu rfl (ev tab rfl) rfl ?_
            first | refine cePu rfl (ev tab rfl) rfl ?_ | refine cePu rfl (loadRow tab rfl rfl rfl rfl) rfl ?_ | refine cePu rfl (loadBox tab rfl rfl rfl rfl rfl) rfl ?_
            refine cePu rfl (ev tab rfl) rfl ?_
            refine cePu rfl (indexAddr tab rfl rfl rfl rfl rfl rfl (by decide) (idx_map (l1 hl2)) rfl) rfl ?_
            refine cePu rfl (ev tab rfl) rfl ?_
            first | refine cePu rfl (ev tab rfl) rfl ?_ | refine cePu rfl (loadRow tab rfl rfl rfl rfl) rfl ?_ | refine cePu rfl (loadBox tab rfl rfl rfl rfl rfl) rfl ?_
            refine cePu rfl (puCall rfl rfl rfl (nmul_fn ..) rfl) rfl ?_
            refine cePu rfl (ev tab rfl) rfl ?_
            refine cePu rfl (ev tab rfl) rfl ?_
            refine cePu rfl (puCall rfl rfl rfl (enumber_fn ..) rfl) rfl ?_
            refine CE.nil ?_
            refine storeR tab rfl rfl rfl rfl rfl rfl rfl rfl ?_
            refine WO.nil ?_
            refine qs ?_
            refine W.ret ?_
            refine qbRet ?_
            refine qsRet ?_
            refine QV.ret0 tab trivial rfl ?_
            rw [opV_arith g (by omega), arith_mul (g.num (by omega) (by omega) _ (mem0 hl1)) (g.num (by omega) (by omega) _ (mem1 hl2)) h51]; rfl
          · skip
            have h51 : e.op ≠ 7 := of_decide_eq_false h51
            refine W.seq ?_
            refine W.seq ?_
            refine W.region ?_
            iterate 2 refine pu (ev tab rfl) rfl ?_
            refine WO.nil ?_
            refine qs ?_
            refine condK rfl (fun h65 => ?_) (fun h65 => ?_)
            · skip
              have h65 : e.op = 8 ∨ e.op = 9 := by first | exact .inl (of_decide_eq_true h65) | exact .inr (of_decide_eq_true h65) | exact h65
              have hl2 := g.len2 h8 h14' (by omega)
              refine W.skip ?_
              refine qs ?_
              refine W.condT rfl ?_
              refine W.seq ?_
              refine W.regionE tab 12 0 (by kernel_rfl) rfl rfl ?_
              refine cePu rfl (ev tab rfl) rfl ?_
              refine cePu rfl (indexAddr tab rfl rfl rfl rfl rfl rfl (Int.le_refl _) (idx_map (l0 hl1)) rfl) rfl ?_
              refine cePu rfl (ev tab rfl) rfl ?_
              first | refine cePu rfl (ev tab rfl) rfl ?_ | refine cePu rfl (loadRow tab rfl rfl rfl rfl) rfl ?_ | refine cePu rfl (loadBox tab rfl rfl rfl rfl rfl) rfl ?_
              refine cePu rfl (ev tab rfl) rfl ?_
              refine cePu rfl (indexAddr tab rfl rfl rfl rfl rfl rfl (by decide) (idx_map (l1 hl2)) rfl) rfl ?_
              refine cePu rfl (ev tab rfl) rfl ?_
              first | refine cePu rfl (ev tab rfl) rfl ?_ | refine cePu rfl (loadRow tab rfl rfl rfl rfl) rfl ?_ | refine cePu rfl (loadBox tab rfl rfl rfl rfl rfl) rfl ?_
              refine cePu rfl (ev tab rfl) rfl ?_
              first | refine cePu rfl (ev tab rfl) rfl ?_ | refine cePu rfl (loadRow tab rfl rfl rfl rfl) rfl ?_ | refine cePu rfl (loadBox tab rfl rfl rfl rfl rfl) rfl ?_
              refine cePu rfl (ev tab rfl) rfl ?_
              refine cePu rfl (puCall rfl rfl rfl (divided_fn _ _ _ (g.num (by omega) (by omega) _ (mem0 hl1)) (g.num (by omega) (by omega) _ (mem1 hl2))) rfl) rfl ?_
              refine CE.nil ?_
              refine storeR tab rfl rfl rfl rfl rfl rfl rfl rfl ?_
              refine WO.nil ?_
              refine qs ?_
              refine W.ret ?_
              refine qbRet ?_
              refine qsRet ?_
              refine QV.ret0 tab trivial rfl ?_
              rw [opV_arith g (by omega), arith_div h65]; rfl
            · skip
              have := of_decide_eq_false h65
              refine W.region ?_
              iterate 2 refine pu (ev tab rfl) rfl ?_
              refine WO.nil ?_
              refine qs ?_
              refine condK rfl (fun h65 => ?_) (fun h65 => ?_)
              · skip
                have h65 : e.op = 8 ∨ e.op = 9 := by first | exact .inl (of_decide_eq_true h65) | exact .inr (of_decide_eq_true h65) | exact h65
                have hl2 := g.len2 h8 h14' (by omega)
                refine W.seq ?_
                refine W.regionE tab 12 0 (by kernel_rfl) rfl rfl ?_
                refine cePu rfl (ev tab rfl) rfl ?_
                refine cePu rfl (indexAddr tab rfl rfl rfl rfl rfl rfl (Int.le_refl _) (idx_map (l0 hl1)) rfl) rfl ?_
                refine cePu rfl (ev tab rfl) rfl ?_
                first | refine cePu rfl (ev tab rfl) rfl ?_ | refine cePu rfl (loadRow tab rfl rfl rfl rfl) rfl ?_ | refine cePu rfl (loadBox tab rfl rfl rfl rfl rfl) rfl ?_
                refine cePu rfl (ev tab rfl) rfl ?_
                refine cePu rfl (indexAddr tab rfl rfl rfl rfl rfl rfl (by decide) (idx_map (l1 hl2)) rfl) rfl ?_
                refine cePu rfl (ev tab rfl) rfl ?_
                first | refine cePu rfl (ev tab rfl) rfl ?_ | refine cePu rfl (loadRow tab rfl rfl rfl rfl) rfl ?_ | refine cePu rfl (loadBox tab rfl rfl rfl rfl rfl) rfl ?_
                refine cePu rfl (ev tab rfl) rfl ?_
                first | refine cePu rfl (ev tab rfl) rfl ?_ | refine cePu rfl (loadRow tab rfl rfl rfl rfl) rfl ?_ | refine cePu rfl (loadBox tab rfl rfl rfl rfl rfl) rfl ?_
                refine cePu rfl (ev tab rfl) rfl ?_
                refine cePu rfl (puCall rfl rfl rfl (divided_fn _ _ _ (g.num (by omega) (by omega) _ (mem0 hl1)) (g.num (by omega) (by omega) _ (mem1 hl2))) rfl) rfl ?_
                refine CE.nil ?_
                refine storeR tab rfl rfl rfl rfl rfl rfl rfl rfl ?_
                refine WO.nil ?_
                refine qs ?_
                refine W.ret ?_
                refine qbRet ?_
                refine qsRet ?_
                refine QV.ret0 tab trivial rfl ?_
                rw [opV_arith g (by omega), arith_div h65]; rfl
              · skip
                have := of_decide_eq_false h65
                refine W.seq ?_
                refine W.region ?_
                iterate 2 refine pu (ev tab rfl) rfl ?_
                refine WO.nil ?_
                refine qs ?_
                refine condK rfl (fun h80 => ?_) (fun h80 => ?_)
                · skip
                  have h80 : e.op = 16 := of_decide_eq_true h80
                  refine W.seq ?_
                  refine W.region ?_
                  refine pu (ev tab rfl) rfl ?_
                  first | refine pu (ev tab rfl) rfl ?_ | refine pu (loadRow tab rfl rfl rfl rfl) rfl ?_ | refine pu (loadBox tab rfl rfl rfl rfl rfl) rfl ?_
                  refine pu (ev tab rfl) rfl ?_
                  refine pu (puCall rfl rfl rfl (ecall_fn e.name l (g.call h80) (g.abs h80) (g.has h80)) rfl) rfl ?_
                  refine storeR tab rfl rfl rfl rfl rfl rfl rfl rfl ?_
                  refine WO.nil ?_
                  refine qs ?_
                  refine W.ret ?_
                  refine qbRet ?_
                  refine qsRet ?_
                  refine QV.ret0 tab trivial rfl ?_
                  rw [opV_call g h80]; rfl
                · skip
                  have h80 : e.op ≠ 16 := of_decide_eq_false h80
                  have hl2 := g.len2 h8 h14' h80
                  refine W.skip ?_
                  refine qbN ?_
                  refine qs ?_
                  refine W.seq ?_
                  refine W.regionD tab (by kernel_rfl) ?_
                  refine chPu (ev tab rfl) rfl ?_
                  refine chPu (indexAddr tab rfl rfl rfl rfl rfl rfl (Int.le_refl _) (idx_map (l0 hl1)) rfl) rfl ?_
                  first | refine chPu (ev tab rfl) rfl ?_ | refine chPu (loadRow tab rfl rfl rfl rfl) rfl ?_ | refine chPu (loadBox tab rfl rfl rfl rfl rfl) rfl ?_
                  refine chPu (ev tab rfl) rfl ?_
                  refine chPu (indexAddr tab rfl rfl rfl rfl rfl rfl (by decide) (idx_map (l1 hl2)) rfl) rfl ?_
                  first | refine chPu (ev tab rfl) rfl ?_ | refine chPu (loadRow tab rfl rfl rfl rfl) rfl ?_ | refine chPu (loadBox tab rfl rfl rfl rfl rfl) rfl ?_
                  refine chPu (puCall rfl rfl rfl (order_fn ..) rfl) rfl ?_
                  refine chPu (ev tab rfl) rfl ?_
                  refine CH.nil ?_
                  refine qs ?_
                  refine W.seq ?_
                  refine W.region ?_
                  refine pu (ev tab rfl) rfl ?_
                  first | refine pu (ev tab rfl) rfl ?_ | refine pu (loadRow tab rfl rfl rfl rfl) rfl ?_ | refine pu (loadBox tab rfl rfl rfl rfl rfl) rfl ?_
                  iterate 2 refine pu (ev tab rfl) rfl ?_
                  refine splitG rfl rfl (fun _ => ?_) (fun _ => ?_)
                  · skip
                    refine goG rfl rfl ?_
                    refine pu (ev tab rfl) rfl ?_
                    refine goG rfl rfl ?_
                    iterate 3 refine pu (ev tab rfl) rfl ?_
                    refine splitG rfl rfl (fun _ => ?_) (fun _ => ?_)
                    · skip
                      refine skipT rfl rfl rfl rfl ?_
                      refine skipT rfl rfl rfl rfl ?_
                      refine skipT rfl rfl rfl rfl ?_
                      refine skipT rfl rfl rfl rfl ?_
                      refine skipU rfl rfl rfl ?_
                      refine skipU rfl rfl rfl ?_
                      refine skipT rfl rfl rfl rfl ?_
                      iterate 2 refine pu (ev tab rfl) rfl ?_
                      refine skipT rfl rfl rfl rfl ?_
                      refine skipT rfl rfl rfl rfl ?_
                      refine skipT rfl rfl rfl rfl ?_
                      refine skipT rfl rfl rfl rfl ?_
                      refine skipU rfl rfl rfl ?_
                      refine skipU rfl rfl rfl ?_
                      refine skipT rfl rfl rfl rfl ?_
                      iterate 2 refine pu (ev tab rfl) rfl ?_
                      refine skipT rfl rfl rfl rfl ?_
                      refine skipT rfl rfl rfl rfl ?_
                      refine skipT rfl rfl rfl rfl ?_
                      refine skipT rfl rfl rfl rfl ?_
                      refine skipU rfl rfl rfl ?_
                      refine skipU rfl rfl rfl ?_
                      refine skipT rfl rfl rfl rfl ?_
                      refine pu (ev tab rfl) rfl ?_
                      refine pu (puCall rfl rfl rfl (truth_fn ..) rfl) rfl ?_
                      refine storeR tab rfl rfl rfl rfl rfl rfl rfl rfl ?_
                      refine WO.nil ?_
                      refine qs ?_
                      refine W.ret ?_
                      refine QV.ret0 tab trivial rfl ?_
                      first
                        | refine Eq.trans (b := A.ag (truthV true).c) rfl ?_
                        | refine Eq.trans (b := A.ag (truthV false).c) rfl ?_
                        | refine Eq.trans (b := A.ag (truthV (decide (ordV (l.getD 0 nullV) (l.getD 1 nullV) ≤ 0))).c) rfl ?_
                      rw [opV_cmp g (by omega)]
                      simp only [cmpV]
                      congr 3
                      clear g
                      simp only [decide_eq_true_eq, decide_eq_false_iff_not] at *
                      grind
                    · skip
                      refine goG rfl rfl ?_
                      refine pu (ev tab rfl) rfl ?_
                      refine goG rfl rfl ?_
                      first | refine pu (ev tab rfl) rfl ?_ | refine pu (loadRow tab rfl rfl rfl rfl) rfl ?_ | refine pu (loadBox tab rfl rfl rfl rfl rfl) rfl ?_
                      refine goG rfl rfl ?_
                      refine pu (ev tab rfl) rfl ?_
                      refine goG rfl rfl ?_
                      refine pu (ev tab rfl) rfl ?_
                      refine splitG rfl rfl (fun _ => ?_) (fun _ => ?_)
                      · skip
                        refine goG rfl rfl ?_
                        refine pu (ev tab rfl) rfl ?_
                        refine goG rfl rfl ?_
                        refine pu (ev tab rfl) rfl ?_
                        refine goG rfl rfl ?_
                        iterate 3 refine pu (ev tab rfl) rfl ?_
                        refine splitG rfl rfl (fun _ => ?_) (fun _ => ?_)
                        · skip
                          refine skipT rfl rfl rfl rfl ?_
                          refine skipT rfl rfl rfl rfl ?_
                          refine skipT rfl rfl rfl rfl ?_
                          refine skipT rfl rfl rfl rfl ?_
                          refine skipU rfl rfl rfl ?_
                          refine skipU rfl rfl rfl ?_
                          refine skipT rfl rfl rfl rfl ?_
                          iterate 2 refine pu (ev tab rfl) rfl ?_
                          refine skipT rfl rfl rfl rfl ?_
                          refine skipT rfl rfl rfl rfl ?_
                          refine skipT rfl rfl rfl rfl ?_
                          refine skipT rfl rfl rfl rfl ?_
                          refine skipU rfl rfl rfl ?_
                          refine skipU rfl rfl rfl ?_
                          refine skipT rfl rfl rfl rfl ?_
                          refine pu (ev tab rfl) rfl ?_
                          refine pu (puCall rfl rfl rfl (truth_fn ..) rfl) rfl ?_
                          refine storeR tab rfl rfl rfl rfl rfl rfl rfl rfl ?_
                          refine WO.nil ?_
                          refine qs ?_
                          refine W.ret ?_
                          refine QV.ret0 tab trivial rfl ?_
                          first
                            | refine Eq.trans (b := A.ag (truthV true).c) rfl ?_
                            | refine Eq.trans (b := A.ag (truthV false).c) rfl ?_
                            | refine Eq.trans (b := A.ag (truthV (decide (ordV (l.getD 0 nullV) (l.getD 1 nullV) ≤ 0))).c) rfl ?_
                          rw [opV_cmp g (by omega)]
                          simp only [cmpV]
                          congr 3
                          clear g
                          simp only [decide_eq_true_eq, decide_eq_false_iff_not] at *
                          grind
                        · skip
                          refine goG rfl rfl ?_
                          refine pu (ev tab rfl) rfl ?_
                          refine goG rfl rfl ?_
                          first | refine pu (ev tab rfl) rfl ?_ | refine pu (loadRow tab rfl rfl rfl rfl) rfl ?_ | refine pu (loadBox tab rfl rfl rfl rfl rfl) rfl ?_
                          refine goG rfl rfl ?_
                          refine pu (ev tab rfl) rfl ?_
                          refine goG rfl rfl ?_
                          refine pu (ev tab rfl) rfl ?_
                          refine splitG rfl rfl (fun _ => ?_) (fun _ => ?_)
                          · skip
                            refine goG rfl rfl ?_
                            refine pu (ev tab rfl) rfl ?_
                            refine goG rfl rfl ?_
                            refine pu (ev tab rfl) rfl ?_
                            refine goG rfl rfl ?_
                            iterate 3 refine pu (ev tab rfl) rfl ?_
                            refine splitG rfl rfl (fun _ => ?_) (fun _ => ?_)
                            · skip
                              refine skipT rfl rfl rfl rfl ?_
                              refine skipT rfl rfl rfl rfl ?_
                              refine skipT rfl rfl rfl rfl ?_
                              refine skipT rfl rfl rfl rfl ?_
                              refine skipU rfl rfl rfl ?_
                              refine skipU rfl rfl rfl ?_
                              refine skipT rfl rfl rfl rfl ?_
                              refine pu (ev tab rfl) rfl ?_
                              refine pu (puCall rfl rfl rfl (truth_fn ..) rfl) rfl ?_
                              refine storeR tab rfl rfl rfl rfl rfl rfl rfl rfl ?_
                              refine WO.nil ?_
                              refine qs ?_
                              refine W.ret ?_
                              refine QV.ret0 tab trivial rfl ?_
                              first
                                | refine Eq.trans (b := A.ag (truthV true).c) rfl ?_
                                | refine Eq.trans (b := A.ag (truthV false).c) rfl ?_
                                | refine Eq.trans (b := A.ag (truthV (decide (ordV (l.getD 0 nullV) (l.getD 1 nullV) ≤ 0))).c) rfl ?_
                              rw [opV_cmp g (by omega)]
                              simp only [cmpV]
                              congr 3
                              clear g
                              simp only [decide_eq_true_eq, decide_eq_false_iff_not] at *
                              grind
                            · skip
                              refine goG rfl rfl ?_
                              refine pu (ev tab rfl) rfl ?_
                              refine goG rfl rfl ?_
                              first | refine pu (ev tab rfl) rfl ?_ | refine pu (loadRow tab rfl rfl rfl rfl) rfl ?_ | refine pu (loadBox tab rfl rfl rfl rfl rfl) rfl ?_
                              refine goG rfl rfl ?_
                              refine pu (ev tab rfl) rfl ?_
                              refine goG rfl rfl ?_
                              refine pu (ev tab rfl) rfl ?_
                              refine splitG rfl rfl (fun _ => ?_) (fun _ => ?_)
                              · skip
                                refine goG rfl rfl ?_
                                refine pu (ev tab rfl) rfl ?_
                                refine goG rfl rfl ?_
                                refine pu (ev tab rfl) rfl ?_
                                refine goG rfl rfl ?_
                                iterate 2 refine pu (ev tab rfl) rfl ?_
                                refine pu (puCall rfl rfl rfl (truth_fn ..) rfl) rfl ?_
                                refine storeR tab rfl rfl rfl rfl rfl rfl rfl rfl ?_
                                refine WO.nil ?_
                                refine qs ?_
                                refine W.ret ?_
                                refine QV.ret0 tab trivial rfl ?_
                                first
                                  | refine Eq.trans (b := A.ag (truthV true).c) rfl ?_
                                  | refine Eq.trans (b := A.ag (truthV false).c) rfl ?_
                                  | refine Eq.trans (b := A.ag (truthV (decide (ordV (l.getD 0 nullV) (l.getD 1 nullV) ≤ 0))).c) rfl ?_
                                rw [opV_cmp g (by omega)]
                                simp only [cmpV]
                                congr 3
                                clear g
                                simp only [decide_eq_true_eq, decide_eq_false_iff_not] at *
                                grind
                              · skip
                                refine skipT rfl rfl rfl rfl ?_
                                refine skipT rfl rfl rfl rfl ?_
                                refine goG rfl rfl ?_
                                iterate 2 refine pu (ev tab rfl) rfl ?_
                                refine pu (puCall rfl rfl rfl (truth_fn ..) rfl) rfl ?_
                                refine storeR tab rfl rfl rfl rfl rfl rfl rfl rfl ?_
                                refine WO.nil ?_
                                refine qs ?_
                                refine W.ret ?_
                                refine QV.ret0 tab trivial rfl ?_
                                first
                                  | refine Eq.trans (b := A.ag (truthV true).c) rfl ?_
                                  | refine Eq.trans (b := A.ag (truthV false).c) rfl ?_
                                  | refine Eq.trans (b := A.ag (truthV (decide (ordV (l.getD 0 nullV) (l.getD 1 nullV) ≤ 0))).c) rfl ?_
                                rw [opV_cmp g (by omega)]
                                simp only [cmpV]
                                congr 3
                                clear g
                                simp only [decide_eq_true_eq, decide_eq_false_iff_not] at *
                                grind
                          · skip
                            refine skipT rfl rfl rfl rfl ?_
                            refine skipT rfl rfl rfl rfl ?_
                            refine goG rfl rfl ?_
                            iterate 3 refine pu (ev tab rfl) rfl ?_
                            refine goG rfl rfl ?_
                            refine pu (ev tab rfl) rfl ?_
                            refine goG rfl rfl ?_
                            first | refine pu (ev tab rfl) rfl ?_ | refine pu (loadRow tab rfl rfl rfl rfl) rfl ?_ | refine pu (loadBox tab rfl rfl rfl rfl rfl) rfl ?_
                            refine goG rfl rfl ?_
                            refine pu (ev tab rfl) rfl ?_
                            refine goG rfl rfl ?_
                            refine pu (ev tab rfl) rfl ?_
                            refine splitG rfl rfl (fun _ => ?_) (fun _ => ?_)
                            · skip
                              refine goG rfl rfl ?_
                              refine pu (ev tab rfl) rfl ?_
                              refine goG rfl rfl ?_
                              refine pu (ev tab rfl) rfl ?_
                              refine goG rfl rfl ?_
                              iterate 2 refine pu (ev tab rfl) rfl ?_
                              refine pu (puCall rfl rfl rfl (truth_fn ..) rfl) rfl ?_
                              refine storeR tab rfl rfl rfl rfl rfl rfl rfl rfl ?_
                              refine WO.nil ?_
                              refine qs ?_
                              refine W.ret ?_
                              refine QV.ret0 tab trivial rfl ?_
                              first
                                | refine Eq.trans (b := A.ag (truthV true).c) rfl ?_
                                | refine Eq.trans (b := A.ag (truthV false).c) rfl ?_
                                | refine Eq.trans (b := A.ag (truthV (decide (ordV (l.getD 0 nullV) (l.getD 1 nullV) ≤ 0))).c) rfl ?_
                              rw [opV_cmp g (by omega)]
                              simp only [cmpV]
                              congr 3
                              clear g
                              simp only [decide_eq_true_eq, decide_eq_false_iff_not] at *
                              grind
                            · skip
                              refine skipT rfl rfl rfl rfl ?_
                              refine skipT rfl rfl rfl rfl ?_
                              refine goG rfl rfl ?_
                              iterate 2 refine pu (ev tab rfl) rfl ?_
                              refine pu (puCall rfl rfl rfl (truth_fn ..) rfl) rfl ?_
                              refine storeR tab rfl rfl rfl rfl rfl rfl rfl rfl ?_
                              refine WO.nil ?_
                              refine qs ?_
                              refine W.ret ?_
                              refine QV.ret0 tab trivial rfl ?_
                              first
                                | refine Eq.trans (b := A.ag (truthV true).c) rfl ?_
                                | refine Eq.trans (b := A.ag (truthV false).c) rfl ?_
                                | refine Eq.trans (b := A.ag (truthV (decide (ordV (l.getD 0 nullV) (l.getD 1 nullV) ≤ 0))).c) rfl ?_
                              rw [opV_cmp g (by omega)]
                              simp only [cmpV]
                              congr 3
                              clear g
                              simp only [decide_eq_true_eq, decide_eq_false_iff_not] at *
                              grind
                      · skip
                        refine skipT rfl rfl rfl rfl ?_
                        refine skipT rfl rfl rfl rfl ?_
                        refine goG rfl rfl ?_
                        iterate 3 refine pu (ev tab rfl) rfl ?_
                        refine goG rfl rfl ?_
                        refine pu (ev tab rfl) rfl ?_
                        refine goG rfl rfl ?_
                        first | refine pu (ev tab rfl) rfl ?_ | refine pu (loadRow tab rfl rfl rfl rfl) rfl ?_ | refine pu (loadBox tab rfl rfl rfl rfl rfl) rfl ?_
                        refine goG rfl rfl ?_
                        refine pu (ev tab rfl) rfl ?_
                        refine goG rfl rfl ?_
                        refine pu (ev tab rfl) rfl ?_
                        refine splitG rfl rfl (fun _ => ?_) (fun _ => ?_)
                        · skip
                          refine goG rfl rfl ?_
                          refine pu (ev tab rfl) rfl ?_
                          refine goG rfl rfl ?_
                          refine pu (ev tab rfl) rfl ?_
                          refine goG rfl rfl ?_
                          iterate 3 refine pu (ev tab rfl) rfl ?_
                          refine splitG rfl rfl (fun _ => ?_) (fun _ => ?_)
                          · skip
                            refine skipT rfl rfl rfl rfl ?_
                            refine skipT rfl rfl rfl rfl ?_
                            refine skipT rfl rfl rfl rfl ?_
                            refine skipT rfl rfl rfl rfl ?_
                            refine skipU rfl rfl rfl ?_
                            refine skipU rfl rfl rfl ?_
                            refine skipT rfl rfl rfl rfl ?_
                            refine pu (ev tab rfl) rfl ?_
                            refine pu (puCall rfl rfl rfl (truth_fn ..) rfl) rfl ?_
                            refine storeR tab rfl rfl rfl rfl rfl rfl rfl rfl ?_
                            refine WO.nil ?_
                            refine qs ?_
                            refine W.ret ?_
                            refine QV.ret0 tab trivial rfl ?_
                            first
                              | refine Eq.trans (b := A.ag (truthV true).c) rfl ?_
                              | refine Eq.trans (b := A.ag (truthV false).c) rfl ?_
                              | refine Eq.trans (b := A.ag (truthV (decide (ordV (l.getD 0 nullV) (l.getD 1 nullV) ≤ 0))).c) rfl ?_
                            rw [opV_cmp g (by omega)]
                            simp only [cmpV]
                            congr 3
                            clear g
                            simp only [decide_eq_true_eq, decide_eq_false_iff_not] at *
                            grind
                          · skip
                            refine goG rfl rfl ?_
                            refine pu (ev tab rfl) rfl ?_
                            refine goG rfl rfl ?_
                            first | refine pu (ev tab rfl) rfl ?_ | refine pu (loadRow tab rfl rfl rfl rfl) rfl ?_ | refine pu (loadBox tab rfl rfl rfl rfl rfl) rfl ?_
                            refine goG rfl rfl ?_
                            refine pu (ev tab rfl) rfl ?_
                            refine goG rfl rfl ?_
                            refine pu (ev tab rfl) rfl ?_
                            refine splitG rfl rfl (fun _ => ?_) (fun _ => ?_)
                            · skip
                              refine goG rfl rfl ?_
                              refine pu (ev tab rfl) rfl ?_
                              refine goG rfl rfl ?_
                              refine pu (ev tab rfl) rfl ?_
                              refine goG rfl rfl ?_
                              iterate 2 refine pu (ev tab rfl) rfl ?_
                              refine pu (puCall rfl rfl rfl (truth_fn ..) rfl) rfl ?_
                              refine storeR tab rfl rfl rfl rfl rfl rfl rfl rfl ?_
                              refine WO.nil ?_
                              refine qs ?_
                              refine W.ret ?_
                              refine QV.ret0 tab trivial rfl ?_
                              first
                                | refine Eq.trans (b := A.ag (truthV true).c) rfl ?_
                                | refine Eq.trans (b := A.ag (truthV false).c) rfl ?_
                                | refine Eq.trans (b := A.ag (truthV (decide (ordV (l.getD 0 nullV) (l.getD 1 nullV) ≤ 0))).c) rfl ?_
                              rw [opV_cmp g (by omega)]
                              simp only [cmpV]
                              congr 3
                              clear g
                              simp only [decide_eq_true_eq, decide_eq_false_iff_not] at *
                              grind
                            · skip
                              refine skipT rfl rfl rfl rfl ?_
                              refine skipT rfl rfl rfl rfl ?_
                              refine goG rfl rfl ?_
                              iterate 2 refine pu (ev tab rfl) rfl ?_
                              refine pu (puCall rfl rfl rfl (truth_fn ..) rfl) rfl ?_
                              refine storeR tab rfl rfl rfl rfl rfl rfl rfl rfl ?_
                              refine WO.nil ?_
                              refine qs ?_
                              refine W.ret ?_
                              refine QV.ret0 tab trivial rfl ?_
                              first
                                | refine Eq.trans (b := A.ag (truthV true).c) rfl ?_
                                | refine Eq.trans (b := A.ag (truthV false).c) rfl ?_
                                | refine Eq.trans (b := A.ag (truthV (decide (ordV (l.getD 0 nullV) (l.getD 1 nullV) ≤ 0))).c) rfl ?_
                              rw [opV_cmp g (by omega)]
                              simp only [cmpV]
                              congr 3
                              clear g
                              simp only [decide_eq_true_eq, decide_eq_false_iff_not] at *
                              grind
                        · skip
                          refine skipT rfl rfl rfl rfl ?_
                          refine skipT rfl rfl rfl rfl ?_
                          refine goG rfl rfl ?_
                          iterate 3 refine pu (ev tab rfl) rfl ?_
                          refine goG rfl rfl ?_
                          refine pu (ev tab rfl) rfl ?_
                          refine goG rfl rfl ?_
                          first | refine pu (ev tab rfl) rfl ?_ | refine pu (loadRow tab rfl rfl rfl rfl) rfl ?_ | refine pu (loadBox tab rfl rfl rfl rfl rfl) rfl ?_
                          refine goG rfl rfl ?_
                          refine pu (ev tab rfl) rfl ?_
                          refine goG rfl rfl ?_
                          refine pu (ev tab rfl) rfl ?_
                          refine splitG rfl rfl (fun _ => ?_) (fun _ => ?_)
                          · skip
                            refine goG rfl rfl ?_
                            refine pu (ev tab rfl) rfl ?_
                            refine goG rfl rfl ?_
                            refine pu (ev tab rfl) rfl ?_
                            refine goG rfl rfl ?_
                            iterate 2 refine pu (ev tab rfl) rfl ?_
                            refine pu (puCall rfl rfl rfl (truth_fn ..) rfl) rfl ?_
                            refine storeR tab rfl rfl rfl rfl rfl rfl rfl rfl ?_
                            refine WO.nil ?_
                            refine qs ?_
                            refine W.ret ?_
                            refine QV.ret0 tab trivial rfl ?_
                            first
                              | refine Eq.trans (b := A.ag (truthV true).c) rfl ?_
                              | refine Eq.trans (b := A.ag (truthV false).c) rfl ?_
                              | refine Eq.trans (b := A.ag (truthV (decide (ordV (l.getD 0 nullV) (l.getD 1 nullV) ≤ 0))).c) rfl ?_
                            rw [opV_cmp g (by omega)]
                            simp only [cmpV]
                            congr 3
                            clear g
                            simp only [decide_eq_true_eq, decide_eq_false_iff_not] at *
                            grind
                          · skip
                            refine skipT rfl rfl rfl rfl ?_
                            refine skipT rfl rfl rfl rfl ?_
                            refine goG rfl rfl ?_
                            iterate 2 refine pu (ev tab rfl) rfl ?_
                            refine pu (puCall rfl rfl rfl (truth_fn ..) rfl) rfl ?_
                            refine storeR tab rfl rfl rfl rfl rfl rfl rfl rfl ?_
                            refine WO.nil ?_
                            refine qs ?_
                            refine W.ret ?_
                            refine QV.ret0 tab trivial rfl ?_
                            first
                              | refine Eq.trans (b := A.ag (truthV true).c) rfl ?_
                              | refine Eq.trans (b := A.ag (truthV false).c) rfl ?_
                              | refine Eq.trans (b := A.ag (truthV (decide (ordV (l.getD 0 nullV) (l.getD 1 nullV) ≤ 0))).c) rfl ?_
                            rw [opV_cmp g (by omega)]
                            simp only [cmpV]
                            congr 3
                            clear g
                            simp only [decide_eq_true_eq, decide_eq_false_iff_not] at *
                            grind
                  · skip
                    refine skipT rfl rfl rfl rfl ?_
                    refine skipT rfl rfl rfl rfl ?_
                    iterate 2 refine pu (ev tab rfl) rfl ?_
                    refine goG rfl rfl ?_
                    refine pu (ev tab rfl) rfl ?_
                    refine goG rfl rfl ?_
                    first | refine pu (ev tab rfl) rfl ?_ | refine pu (loadRow tab rfl rfl rfl rfl) rfl ?_ | refine pu (loadBox tab rfl rfl rfl rfl rfl) rfl ?_
                    refine goG rfl rfl ?_
                    refine pu (ev tab rfl) rfl ?_
                    refine goG rfl rfl ?_
                    refine pu (ev tab rfl) rfl ?_
                    refine splitG rfl rfl (fun _ => ?_) (fun _ => ?_)
                    · skip
                      refine goG rfl rfl ?_
                      refine pu (ev tab rfl) rfl ?_
                      refine goG rfl rfl ?_
                      refine pu (ev tab rfl) rfl ?_
                      refine goG rfl rfl ?_
                      iterate 3 refine pu (ev tab rfl) rfl ?_
                      refine splitG rfl rfl (fun _ => ?_) (fun _ => ?_)
                      · skip
                        refine skipT rfl rfl rfl rfl ?_
                        refine skipT rfl rfl rfl rfl ?_
                        refine skipT rfl rfl rfl rfl ?_
                        refine skipT rfl rfl rfl rfl ?_
                        refine skipU rfl rfl rfl ?_
                        refine skipU rfl rfl rfl ?_
                        refine skipT rfl rfl rfl rfl ?_
                        iterate 2 refine pu (ev tab rfl) rfl ?_
                        refine skipT rfl rfl rfl rfl ?_
                        refine skipT rfl rfl rfl rfl ?_
                        refine skipT rfl rfl rfl rfl ?_
                        refine skipT rfl rfl rfl rfl ?_
                        refine skipU rfl rfl rfl ?_
                        refine skipU rfl rfl rfl ?_
                        refine skipT rfl rfl rfl rfl ?_
                        refine pu (ev tab rfl) rfl ?_
                        refine pu (puCall rfl rfl rfl (truth_fn ..) rfl) rfl ?_
                        refine storeR tab rfl rfl rfl rfl rfl rfl rfl rfl ?_
                        refine WO.nil ?_
                        refine qs ?_
                        refine W.ret ?_
                        refine QV.ret0 tab trivial rfl ?_
                        first
                          | refine Eq.trans (b := A.ag (truthV true).c) rfl ?_
                          | refine Eq.trans (b := A.ag (truthV false).c) rfl ?_
                          | refine Eq.trans (b := A.ag (truthV (decide (ordV (l.getD 0 nullV) (l.getD 1 nullV) ≤ 0))).c) rfl ?_
                        rw [opV_cmp g (by omega)]
                        simp only [cmpV]
                        congr 3
                        clear g
                        simp only [decide_eq_true_eq, decide_eq_false_iff_not] at *
                        grind
                      · skip
                        refine goG rfl rfl ?_
                        refine pu (ev tab rfl) rfl ?_
                        refine goG rfl rfl ?_
                        first | refine pu (ev tab rfl) rfl ?_ | refine pu (loadRow tab rfl rfl rfl rfl) rfl ?_ | refine pu (loadBox tab rfl rfl rfl rfl rfl) rfl ?_
                        refine goG rfl rfl ?_
                        refine pu (ev tab rfl) rfl ?_
                        refine goG rfl rfl ?_
                        refine pu (ev tab rfl) rfl ?_
                        refine splitG rfl rfl (fun _ => ?_) (fun _ => ?_)
                        · skip
                          refine goG rfl rfl ?_
                          refine pu (ev tab rfl) rfl ?_
                          refine goG rfl rfl ?_
                          refine pu (ev tab rfl) rfl ?_
                          refine goG rfl rfl ?_
                          iterate 3 refine pu (ev tab rfl) rfl ?_
                          refine splitG rfl rfl (fun _ => ?_) (fun _ => ?_)
                          · skip
                            refine skipT rfl rfl rfl rfl ?_
                            refine skipT rfl rfl rfl rfl ?_
                            refine skipT rfl rfl rfl rfl ?_
                            refine skipT rfl rfl rfl rfl ?_
                            refine skipU rfl rfl rfl ?_
                            refine skipU rfl rfl rfl ?_
                            refine skipT rfl rfl rfl rfl ?_
                            refine pu (ev tab rfl) rfl ?_
                            refine pu (puCall rfl rfl rfl (truth_fn ..) rfl) rfl ?_
                            refine storeR tab rfl rfl rfl rfl rfl rfl rfl rfl ?_
                            refine WO.nil ?_
                            refine qs ?_
                            refine W.ret ?_
                            refine QV.ret0 tab trivial rfl ?_
                            first
                              | refine Eq.trans (b := A.ag (truthV true).c) rfl ?_
                              | refine Eq.trans (b := A.ag (truthV false).c) rfl ?_
                              | refine Eq.trans (b := A.ag (truthV (decide (ordV (l.getD 0 nullV) (l.getD 1 nullV) ≤ 0))).c) rfl ?_
                            rw [opV_cmp g (by omega)]
                            simp only [cmpV]
                            congr 3
                            clear g
                            simp only [decide_eq_true_eq, decide_eq_false_iff_not] at *
                            grind
                          · skip
                            refine goG rfl rfl ?_
                            refine pu (ev tab rfl) rfl ?_
                            refine goG rfl rfl ?_
                            first | refine pu (ev tab rfl) rfl ?_ | refine pu (loadRow tab rfl rfl rfl rfl) rfl ?_ | refine pu (loadBox tab rfl rfl rfl rfl rfl) rfl ?_
                            refine goG rfl rfl ?_
                            refine pu (ev tab rfl) rfl ?_
                            refine goG rfl rfl ?_
                            refine pu (ev tab rfl) rfl ?_
                            refine splitG rfl rfl (fun _ => ?_) (fun _ => ?_)
                            · skip
                              refine goG rfl rfl ?_
                              refine pu (ev tab rfl) rfl ?_
                              refine goG rfl rfl ?_
                              refine pu (ev tab rfl) rfl ?_
                              refine goG rfl rfl ?_
                              iterate 2 refine pu (ev tab rfl) rfl ?_
                              refine pu (puCall rfl rfl rfl (truth_fn ..) rfl) rfl ?_
                              refine storeR tab rfl rfl rfl rfl rfl rfl rfl rfl ?_
                              refine WO.nil ?_
                              refine qs ?_
                              refine W.ret ?_
                              refine QV.ret0 tab trivial rfl ?_
                              first
                                | refine Eq.trans (b := A.ag (truthV true).c) rfl ?_
                                | refine Eq.trans (b := A.ag (truthV false).c) rfl ?_
                                | refine Eq.trans (b := A.ag (truthV (decide (ordV (l.getD 0 nullV) (l.getD 1 nullV) ≤ 0))).c) rfl ?_
                              rw [opV_cmp g (by omega)]
                              simp only [cmpV]
                              congr 3
                              clear g
                              simp only [decide_eq_true_eq, decide_eq_false_iff_not] at *
                              grind
                            · skip
                              refine skipT rfl rfl rfl rfl ?_
                              refine skipT rfl rfl rfl rfl ?_
                              refine goG rfl rfl ?_
                              iterate 2 refine pu (ev tab rfl) rfl ?_
                              refine pu (puCall rfl rfl rfl (truth_fn ..) rfl) rfl ?_
                              refine storeR tab rfl rfl rfl rfl rfl rfl rfl rfl ?_
                              refine WO.nil ?_
                              refine qs ?_
                              refine W.ret ?_
                              refine QV.ret0 tab trivial rfl ?_
                              first
                                | refine Eq.trans (b := A.ag (truthV true).c) rfl ?_
                                | refine Eq.trans (b := A.ag (truthV false).c) rfl ?_
                                | refine Eq.trans (b := A.ag (truthV (decide (ordV (l.getD 0 nullV) (l.getD 1 nullV) ≤ 0))).c) rfl ?_
                              rw [opV_cmp g (by omega)]
                              simp only [cmpV]
                              congr 3
                              clear g
                              simp only [decide_eq_true_eq, decide_eq_false_iff_not] at *
                              grind
                        · skip
                          refine skipT rfl rfl rfl rfl ?_
                          refine skipT rfl rfl rfl rfl ?_
                          refine goG rfl rfl ?_
                          iterate 3 refine pu (ev tab rfl) rfl ?_
                          refine goG rfl rfl ?_
                          refine pu (ev tab rfl) rfl ?_
                          refine goG rfl rfl ?_
                          first | refine pu (ev tab rfl) rfl ?_ | refine pu (loadRow tab rfl rfl rfl rfl) rfl ?_ | refine pu (loadBox tab rfl rfl rfl rfl rfl) rfl ?_
                          refine goG rfl rfl ?_
                          refine pu (ev tab rfl) rfl ?_
                          refine goG rfl rfl ?_
                          refine pu (ev tab rfl) rfl ?_
                          refine splitG rfl rfl (fun _ => ?_) (fun _ => ?_)
                          · skip
                            refine goG rfl rfl ?_
                            refine pu (ev tab rfl) rfl ?_
                            refine goG rfl rfl ?_
                            refine pu (ev tab rfl) rfl ?_
                            refine goG rfl rfl ?_
                            iterate 2 refine pu (ev tab rfl) rfl ?_
                            refine pu (puCall rfl rfl rfl (truth_fn ..) rfl) rfl ?_
                            refine storeR tab rfl rfl rfl rfl rfl rfl rfl rfl ?_
                            refine WO.nil ?_
                            refine qs ?_
                            refine W.ret ?_
                            refine QV.ret0 tab trivial rfl ?_
                            first
                              | refine Eq.trans (b := A.ag (truthV true).c) rfl ?_
                              | refine Eq.trans (b := A.ag (truthV false).c) rfl ?_
                              | refine Eq.trans (b := A.ag (truthV (decide (ordV (l.getD 0 nullV) (l.getD 1 nullV) ≤ 0))).c) rfl ?_
                            rw [opV_cmp g (by omega)]
                            simp only [cmpV]
                            congr 3
                            clear g
                            simp only [decide_eq_true_eq, decide_eq_false_iff_not] at *
                            grind
                          · skip
                            refine skipT rfl rfl rfl rfl ?_
                            refine skipT rfl rfl rfl rfl ?_
                            refine goG rfl rfl ?_
                            iterate 2 refine pu (ev tab rfl) rfl ?_
                            refine pu (puCall rfl rfl rfl (truth_fn ..) rfl) rfl ?_
                            refine storeR tab rfl rfl rfl rfl rfl rfl rfl rfl ?_
                            refine WO.nil ?_
                            refine qs ?_
                            refine W.ret ?_
                            refine QV.ret0 tab trivial rfl ?_
                            first
                              | refine Eq.trans (b := A.ag (truthV true).c) rfl ?_
                              | refine Eq.trans (b := A.ag (truthV false).c) rfl ?_
                              | refine Eq.trans (b := A.ag (truthV (decide (ordV (l.getD 0 nullV) (l.getD 1 nullV) ≤ 0))).c) rfl ?_
                            rw [opV_cmp g (by omega)]
                            simp only [cmpV]
                            congr 3
                            clear g
                            simp only [decide_eq_true_eq, decide_eq_false_iff_not] at *
                            grind
                    · skip
                      refine skipT rfl rfl rfl rfl ?_
                      refine skipT rfl rfl rfl rfl ?_
                      refine goG rfl rfl ?_
                      iterate 3 refine pu (ev tab rfl) rfl ?_
                      refine goG rfl rfl ?_
                      refine pu (ev tab rfl) rfl ?_
                      refine goG rfl rfl ?_
                      first | refine pu (ev tab rfl) rfl ?_ | refine pu (loadRow tab rfl rfl rfl rfl) rfl ?_ | refine pu (loadBox tab rfl rfl rfl rfl rfl) rfl ?_
                      refine goG rfl rfl ?_
                      refine pu (ev tab rfl) rfl ?_
                      refine goG rfl rfl ?_
                      refine pu (ev tab rfl) rfl ?_
                      refine splitG rfl rfl (fun _ => ?_) (fun _ => ?_)
                      · skip
                        refine goG rfl rfl ?_
                        refine pu (ev tab rfl) rfl ?_
                        refine goG rfl rfl ?_
                        refine pu (ev tab rfl) rfl ?_
                        refine goG rfl rfl ?_
                        iterate 3 refine pu (ev tab rfl) rfl ?_
                        refine splitG rfl rfl (fun _ => ?_) (fun _ => ?_)
                        · skip
                          refine skipT rfl rfl rfl rfl ?_
                          refine skipT rfl rfl rfl rfl ?_
                          refine skipT rfl rfl rfl rfl ?_
                          refine skipT rfl rfl rfl rfl ?_
                          refine skipU rfl rfl rfl ?_
                          refine skipU rfl rfl rfl ?_
                          refine skipT rfl rfl rfl rfl ?_
                          refine pu (ev tab rfl) rfl ?_
                          refine pu (puCall rfl rfl rfl (truth_fn ..) rfl) rfl ?_
                          refine storeR tab rfl rfl rfl rfl rfl rfl rfl rfl ?_
                          refine WO.nil ?_
                          refine qs ?_
                          refine W.ret ?_
                          refine QV.ret0 tab trivial rfl ?_
                          first
                            | refine Eq.trans (b := A.ag (truthV true).c) rfl ?_
                            | refine Eq.trans (b := A.ag (truthV false).c) rfl ?_
                            | refine Eq.trans (b := A.ag (truthV (decide (ordV (l.getD 0 nullV) (l.getD 1 nullV) ≤ 0))).c) rfl ?_
                          rw [opV_cmp g (by omega)]
                          simp only [cmpV]
                          congr 3
                          clear g
                          simp only [decide_eq_true_eq, decide_eq_false_iff_not] at *
                          grind
                        · skip
                          refine goG rfl rfl ?_
                          refine pu (ev tab rfl) rfl ?_
                          refine goG rfl rfl ?_
                          first | refine pu (ev tab rfl) rfl ?_ | refine pu (loadRow tab rfl rfl rfl rfl) rfl ?_ | refine pu (loadBox tab rfl rfl rfl rfl rfl) rfl ?_
                          refine goG rfl rfl ?_
                          refine pu (ev tab rfl) rfl ?_
                          refine goG rfl rfl ?_
                          refine pu (ev tab rfl) rfl ?_
                          refine splitG rfl rfl (fun _ => ?_) (fun _ => ?_)
                          · skip
                            refine goG rfl rfl ?_
                            refine pu (ev tab rfl) rfl ?_
                            refine goG rfl rfl ?_
                            refine pu (ev tab rfl) rfl ?_
                            refine goG rfl rfl ?_
                            iterate 2 refine pu (ev tab rfl) rfl ?_
                            refine pu (puCall rfl rfl rfl (truth_fn ..) rfl) rfl ?_
                            refine storeR tab rfl rfl rfl rfl rfl rfl rfl rfl ?_
                            refine WO.nil ?_
                            refine qs ?_
                            refine W.ret ?_
                            refine QV.ret0 tab trivial rfl ?_
                            first
                              | refine Eq.trans (b := A.ag (truthV true).c) rfl ?_
                              | refine Eq.trans (b := A.ag (truthV false).c) rfl ?_
                              | refine Eq.trans (b := A.ag (truthV (decide (ordV (l.getD 0 nullV) (l.getD 1 nullV) ≤ 0))).c) rfl ?_
                            rw [opV_cmp g (by omega)]
                            simp only [cmpV]
                            congr 3
                            clear g
                            simp only [decide_eq_true_eq, decide_eq_false_iff_not] at *
                            grind
                          · skip
                            refine skipT rfl rfl rfl rfl ?_
                            refine skipT rfl rfl rfl rfl ?_
                            refine goG rfl rfl ?_
                            iterate 2 refine pu (ev tab rfl) rfl ?_
                            refine pu (puCall rfl rfl rfl (truth_fn ..) rfl) rfl ?_
                            refine storeR tab rfl rfl rfl rfl rfl rfl rfl rfl ?_
                            refine WO.nil ?_
                            refine qs ?_
                            refine W.ret ?_
                            refine QV.ret0 tab trivial rfl ?_
                            first
                              | refine Eq.trans (b := A.ag (truthV true).c) rfl ?_
                              | refine Eq.trans (b := A.ag (truthV false).c) rfl ?_
                              | refine Eq.trans (b := A.ag (truthV (decide (ordV (l.getD 0 nullV) (l.getD 1 nullV) ≤ 0))).c) rfl ?_
                            rw [opV_cmp g (by omega)]
                            simp only [cmpV]
                            congr 3
                            clear g
                            simp only [decide_eq_true_eq, decide_eq_false_iff_not] at *
                            grind
                      · skip
                        refine skipT rfl rfl rfl rfl ?_
                        refine skipT rfl rfl rfl rfl ?_
                        refine goG rfl rfl ?_
                        iterate 3 refine pu (ev tab rfl) rfl ?_
                        refine goG rfl rfl ?_
                        refine pu (ev tab rfl) rfl ?_
                        refine goG rfl rfl ?_
                        first | refine pu (ev tab rfl) rfl ?_ | refine pu (loadRow tab rfl rfl rfl rfl) rfl ?_ | refine pu (loadBox tab rfl rfl rfl rfl rfl) rfl ?_
                        refine goG rfl rfl ?_
                        refine pu (ev tab rfl) rfl ?_
                        refine goG rfl rfl ?_
                        refine pu (ev tab rfl) rfl ?_
                        refine splitG rfl rfl (fun _ => ?_) (fun _ => ?_)
                        · skip
                          refine goG rfl rfl ?_
                          refine pu (ev tab rfl) rfl ?_
                          refine goG rfl rfl ?_
                          refine pu (ev tab rfl) rfl ?_
                          refine goG rfl rfl ?_
                          iterate 2 refine pu (ev tab rfl) rfl ?_
                          refine pu (puCall rfl rfl rfl (truth_fn ..) rfl) rfl ?_
                          refine storeR tab rfl rfl rfl rfl rfl rfl rfl rfl ?_
                          refine WO.nil ?_
                          refine qs ?_
                          refine W.ret ?_
                          refine QV.ret0 tab trivial rfl ?_
                          first
                            | refine Eq.trans (b := A.ag (truthV true).c) rfl ?_
                            | refine Eq.trans (b := A.ag (truthV false).c) rfl ?_
                            | refine Eq.trans (b := A.ag (truthV (decide (ordV (l.getD 0 nullV) (l.getD 1 nullV) ≤ 0))).c) rfl ?_
                          rw [opV_cmp g (by omega)]
                          simp only [cmpV]
                          congr 3
                          clear g
                          simp only [decide_eq_true_eq, decide_eq_false_iff_not] at *
                          grind
                        · skip
                          refine skipT rfl rfl rfl rfl ?_
                          refine skipT rfl rfl rfl rfl ?_
                          refine goG rfl rfl ?_
                          iterate 2 refine pu (ev tab rfl) rfl ?_
                          refine pu (puCall rfl rfl rfl (truth_fn ..) rfl) rfl ?_
                          refine storeR tab rfl rfl rfl rfl rfl rfl rfl rfl ?_
                          refine WO.nil ?_
                          refine qs ?_
                          refine W.ret ?_
                          refine QV.ret0 tab trivial rfl ?_
                          first
                            | refine Eq.trans (b := A.ag (truthV true).c) rfl ?_
                            | refine Eq.trans (b := A.ag (truthV false).c) rfl ?_
                            | refine Eq.trans (b := A.ag (truthV (decide (ordV (l.getD 0 nullV) (l.getD 1 nullV) ≤ 0))).c) rfl ?_
                          rw [opV_cmp g (by omega)]
                          simp only [cmpV]
                          congr 3
                          clear g
                          simp only [decide_eq_true_eq, decide_eq_false_iff_not] at *
                          grind
end Go.Proofs.YtaifpecinbjgcabGreat
namespace Go.Proofs.YtaifpecinbjgcabGreat
open Go.Ab Go.Tb
set_option maxRecDepth 10000
attribute [local irreducible] W WO Pu QS QB QL QF QV QV1 CH QE
theorem valueEq_fn (e : Ex) (x : Col) : Does Tryz.prog 44 [.ag x.c, .row (e.c.map .d)] (.d (.v (.bool (decide (x.name = e.name))))) 0 := by
  refine Does.of_W (n := 9) (ts := [3]) Tryz.func44 (by kernel_rfl) rfl Tryz.ntmps44 Tryz.results44 rfl rfl fun C hC hG => ?_
  refine W.seq ?_
  refine W.region ?_
  refine boxR rfl rfl rfl ?_
  refine pu (ev tab rfl) rfl ?_
  refine WO.nil ?_
  refine qs ?_
  refine W.seq ?_
  refine W.region ?_
  refine pu (ev tab rfl) rfl ?_
  first | refine pu (ev tab rfl) rfl ?_ | refine pu (loadRow tab rfl rfl rfl rfl) rfl ?_ | refine pu (loadBox tab rfl rfl rfl rfl rfl) rfl ?_
  refine pu (ev tab rfl) rfl ?_
  first | refine pu (ev tab rfl) rfl ?_ | refine pu (loadRow tab rfl rfl rfl rfl) rfl ?_ | refine pu (loadBox tab rfl rfl rfl rfl rfl) rfl ?_
  iterate 2 refine pu (ev tab rfl) rfl ?_
  refine WO.nil ?_
  refine qs ?_
  refine W.ret ?_
  refine QF.ret0 trivial rfl ?_
  rfl
theorem evalue_fn (cols : List Col) (row : List Val) (hf : fitsB cols row = true) : ∀ (e : Ex), nodesErr e = 0 → (typ cols e).2 = 0 → Does Tryz.prog 24 [.d (.sl (cols.map Col.c)), .d (.sl (row.map Val.c)), .ag e.c] (.ag (evalV cols row e).c) 0 := by
  refine Ex.ind fun e ih => ?_
  intro hv ht
  have hkv := valid_kids (valid_node hv)
  refine Does.of_V tab (n := 79) (rs := [.cell 6 27]) Tryz.func24 (by kernel_rfl) rfl Tryz.ntmps24 Tryz.results24 rfl fun C hC hG => ?_
  refine W.seq ?_
  refine W.region ?_
  refine boxR rfl rfl rfl ?_
  refine allocR tab rfl rfl rfl ?_
  refine WO.nil ?_
  refine qs ?_
  refine W.seq ?_
  refine W.seq ?_
  refine W.region ?_
  refine pu (ev tab rfl) rfl ?_
  first | refine pu (ev tab rfl) rfl ?_ | refine pu (loadRow tab rfl rfl rfl rfl) rfl ?_ | refine pu (loadBox tab rfl rfl rfl rfl rfl) rfl ?_
  refine WO.nil ?_
  refine qs ?_
  refine W.block ?_
  refine W.seq ?_
  refine W.region ?_
  iterate 2 refine pu (ev tab rfl) rfl ?_
  refine WO.nil ?_
  refine qs ?_
  refine condK rfl (fun h14 => ?_) (fun h14 => ?_)
  · skip
    have h14 : e.op = 1 := of_decide_eq_true h14
    refine W.seq ?_
    refine W.region ?_
    refine pu (ev tab rfl) rfl ?_
    first | refine pu (ev tab rfl) rfl ?_ | refine pu (loadRow tab rfl rfl rfl rfl) rfl ?_ | refine pu (loadBox tab rfl rfl rfl rfl rfl) rfl ?_
    refine storeR tab rfl rfl rfl rfl rfl rfl rfl rfl ?_
    refine WO.nil ?_
    refine qs ?_
    refine W.ret ?_
    refine qbRet ?_
    refine qsRet ?_
    refine QV.ret0 tab trivial rfl ?_
    rw [evalV_eq, if_pos h14]; rfl
  · skip
    have h14 : e.op ≠ 1 := of_decide_eq_false h14
    refine W.seq ?_
    refine W.region ?_
    iterate 2 refine pu (ev tab rfl) rfl ?_
    refine WO.nil ?_
    refine qs ?_
    refine condK rfl (fun h18 => ?_) (fun h18 => ?_)
    · skip
      have h18 : e.op = 2 := of_decide_eq_true h18
      obtain ⟨i, h3, h4⟩ := field_ok hf ht h18
      refine W.seq ?_
      refine W.region ?_
      iterate 3 refine pu (ev tab rfl) rfl ?_
      refine pu (puCall rfl rfl rfl (idxCol_fn _ _ ⟨fun _ _ => rfl, rfl⟩ _ (valueEq_fn e) cols) rfl) rfl ?_
      refine pu (indexAddr tab rfl rfl rfl rfl rfl rfl (i := idx _) (by rw [h3]; exact Int.natCast_nonneg _) (by rw [h3]; exact idx_map h4) rfl) rfl ?_
      first | refine pu (ev tab rfl) rfl ?_ | refine pu (loadRow tab rfl rfl rfl rfl) rfl ?_ | refine pu (loadBox tab rfl rfl rfl rfl rfl) rfl ?_
      refine storeR tab rfl rfl rfl rfl rfl rfl rfl rfl ?_
      refine WO.nil ?_
      refine qs ?_
      refine W.ret ?_
      refine qbRet ?_
      refine qsRet ?_
      refine QV.ret0 tab trivial rfl ?_
      rfl
    · skip
      have h18 : e.op ≠ 2 := of_decide_eq_false h18
      refine W.skip ?_
      refine qbN ?_
      refine qs ?_
      refine W.seq ?_
      refine W.region ?_
      refine pu (ev tab rfl) rfl ?_
      refine WO.nil ?_
      refine qs ?_
      refine W.seq ?_
      refine W.region ?_
      refine pu (ev tab rfl) rfl ?_
      refine WO.nil ?_
      refine qs ?_
      refine W.seq ?_
      refine W.seq ?_
      refine W.region ?_
      refine pu (ev tab rfl) rfl ?_
      first | refine pu (ev tab rfl) rfl ?_ | refine pu (loadRow tab rfl rfl rfl rfl) rfl ?_ | refine pu (loadBox tab rfl rfl rfl rfl rfl) rfl ?_
      iterate 2 refine pu (ev tab rfl) rfl ?_
      refine WO.nil ?_
      refine qs ?_
      refine W.block ?_
      refine ownNilR (d := 7) rfl rfl ?_
      refine W.len (t := 27) rfl rfl (fun hlen => ?_)
      try simp only [List.length_map, Ex.kc_len] at hlen
      refine W.loopR (ι := {x : Nat × List Val // match x with | (k, vs) => k ≤ e.kids.length ∧ vs = (e.kids.take k).map (evalV cols row)})
        (fun x => match x.1 with | (k, vs) => [(5, .ptr 0 0), (6, .ptr 1 0), (7, .own 2 (vs.map Val.c)), (8, .d (.v (.bool (vs.any (fun v => decide (v.kind = 0)))))), (29, .d (.v (.int .i64 ((k : Nat) : Int))))]) [(0, _), (1, _), (27, _), (28, _)]
        (fun x => match x.1 with | (k, vs) => []) [(0, _), (1, _)] [2] 3 (fun x => match x.1 with | (k, vs) => e.kids.length - k)
        [0, 1, 2] ⟨(0, []), ?_⟩ rfl ?_ ⟨rfl, rfl, rfl, rfl, rfl, rfl, rfl, rfl, trivial⟩ ?_ ⟨rfl, rfl, rfl, rfl, trivial⟩ rfl ?_
      · exact ⟨Nat.zero_le _, rfl⟩
      · repeat' first | exact trivial | refine ⟨rfl, ?_⟩ | refine ⟨step_nat (by assumption) (by assumption), ?_⟩
      · repeat' first | exact trivial | refine ⟨rfl, ?_⟩ | refine ⟨step_nat (by assumption) (by assumption), ?_⟩
      rintro ⟨⟨k, vs⟩, hk, hI⟩
      show W _ _ _ _ _ ⟨[(5, .ptr 0 0), (6, .ptr 1 0), (7, .own 2 (vs.map Val.c)), (8, .d (.v (.bool (vs.any (fun v => decide (v.kind = 0)))))), (29, .d (.v (.int .i64 ((k : Nat) : Int)))), (0, _), (1, _), (27, _), (28, _)], [(0, _), (1, _)], [2], 3⟩
      refine W.seq ?_
      refine W.region ?_
      refine pu (ev tab rfl) rfl ?_
      refine WO.nil ?_
      refine qs ?_
      refine W.seq ?_
      refine eachR (l := e.kids) (k := k) rfl (by simp [Ex.kc_len, bytes_len]) hk (fun x hx hd hlt => ?_) (fun he hd => ?_)
      · skip
        have hmem := List.mem_of_getElem? hx
        have hvl : vs.length ≤ 2 := by rw [hI, List.length_map, List.length_take]; have := hkv.2.2.2.2.1; omega
        refine W.skip ?_
        refine qs ?_
        refine W.seq ?_
        refine W.block ?_
        refine W.seq ?_
        refine W.region ?_
        refine pu (indexAddr tab rfl rfl rfl rfl rfl rfl (Int.natCast_nonneg _) (Ex.kc_idx hx) rfl) rfl ?_
        first | refine pu (ev tab rfl) rfl ?_ | refine pu (loadRow tab rfl rfl rfl rfl) rfl ?_ | refine pu (loadBox tab rfl rfl rfl rfl rfl) rfl ?_
        refine allocR tab rfl rfl rfl ?_
        refine storeR tab rfl rfl rfl rfl rfl rfl rfl rfl ?_
        refine WO.nil ?_
        refine qs ?_
        refine W.seq ?_
        refine W.region ?_
        iterate 2 refine pu (ev tab rfl) rfl ?_
        first | refine pu (ev tab rfl) rfl ?_ | refine pu (loadRow tab rfl rfl rfl rfl) rfl ?_ | refine pu (loadBox tab rfl rfl rfl rfl rfl) rfl ?_
        refine pu (puCall rfl rfl rfl (ih x hmem (valid_kid hv hmem) ((typ_kids ht h14 h18).1 x hmem)) rfl) rfl ?_
        refine allocR tab rfl rfl rfl ?_
        refine storeR tab rfl rfl rfl rfl rfl rfl rfl rfl ?_
        refine WO.nil ?_
        refine qs ?_
        refine W.seq ?_
        apply regionB; (case hb => rfl)
        · skip
          iterate 2 refine pu (ev tab rfl) rfl ?_
          apply splitJ; (case hj => rfl); (case hl => rfl)
          · skip
            refine skipT rfl rfl rfl rfl ?_
            refine skipT rfl rfl rfl rfl ?_
            refine skipT rfl rfl rfl rfl ?_
            iterate 2 refine pu (ev tab rfl) rfl ?_
            refine WO.nil ?_
            refine qv1 rfl rfl rfl
          · skip
            refine goG rfl rfl ?_
            refine pu (ev tab rfl) rfl ?_
            refine goG rfl rfl ?_
            first | refine pu (ev tab rfl) rfl ?_ | refine pu (loadRow tab rfl rfl rfl rfl) rfl ?_ | refine pu (loadBox tab rfl rfl rfl rfl rfl) rfl ?_
            refine goG rfl rfl ?_
            iterate 3 refine pu (ev tab rfl) rfl ?_
            refine WO.nil ?_
            refine qv1 rfl rfl rfl
        refine qs ?_
        refine W.region ?_
        refine pu (ev tab rfl) rfl ?_
        first | refine pu (ev tab rfl) rfl ?_ | refine pu (loadRow tab rfl rfl rfl rfl) rfl ?_ | refine pu (loadBox tab rfl rfl rfl rfl rfl) rfl ?_
        refine pu (buildV tab rfl rfl rfl rfl rfl rfl rfl rfl rfl) rfl ?_
        refine appendM tab rfl rfl rfl rfl rfl rfl rfl rfl rfl rfl (fun _ => rfl) (by show (vs.length + 1) * 32 ≤ _; omega) ?_
        refine pu (ev tab rfl) rfl ?_
        refine WO.nil ?_
        refine qbN ?_
        refine qs ?_
        refine W.region ?_
        iterate 2 refine pu (ev tab rfl) rfl ?_
        refine WO.nil ?_
        rw [bifOr, show (vs.any (fun v => decide (v.kind = 0)) || decide ((evalV cols row x).kind = 0)) = (vs ++ [evalV cols row x]).any (fun v => decide (v.kind = 0)) by simp]
        refine W.endR [0, 1, 5] ⟨(k + 1, vs ++ [evalV cols row x]), ?_⟩ ?_ rfl ?_ ⟨rfl, rfl, rfl, rfl, rfl, rfl, rfl, rfl, trivial⟩ ?_ ⟨rfl, rfl, rfl, rfl, trivial⟩ rfl
        · exact ⟨hlt, by rw [take_map_succ hx, hI]⟩
        · dsimp only; omega
        · repeat' first | exact trivial | refine ⟨rfl, ?_⟩ | refine ⟨step_nat (by assumption) (by assumption), ?_⟩
        · repeat' first | exact trivial | refine ⟨rfl, ?_⟩ | refine ⟨step_nat (by assumption) (by assumption), ?_⟩
      · skip
        have hI : vs = e.kids.map (evalV cols row) := by rw [hI, take_map_end he]
        refine W.exit ?_
        refine qsExit ?_
        refine qlExit ?_
        refine qbExit ?_
        refine qs ?_
        refine W.seq ?_
        refine W.block ?_
        refine W.seq ?_
        refine W.region ?_
        refine pu (ev tab rfl) rfl ?_
        first | refine pu (ev tab rfl) rfl ?_ | refine pu (loadRow tab rfl rfl rfl rfl) rfl ?_ | refine pu (loadBox tab rfl rfl rfl rfl rfl) rfl ?_
        iterate 2 refine pu (ev tab rfl) rfl ?_
        refine WO.nil ?_
        refine qs ?_
        refine condK rfl (fun h48 => ?_) (fun h48 => ?_)
        · skip
          have h48 : e.op = 14 := of_decide_eq_true h48
          obtain ⟨ka, kb, hk, ha, hb⟩ := logic_kids hf hv ht (.inl h48)
          rw [hk] at hI
          have hl2 : vs.length = 2 := by rw [hI]; rfl
          refine W.seq ?_
          refine W.regionE tab 7 0 (by kernel_rfl) rfl rfl ?_
          refine cePu rfl (ev tab rfl) rfl ?_
          refine cePu rfl (indexAddr tab rfl rfl rfl rfl rfl rfl (Int.le_refl _) (idx_map (l0 (by omega))) rfl) rfl ?_
          first | refine cePu rfl (ev tab rfl) rfl ?_ | refine cePu rfl (loadRow tab rfl rfl rfl rfl) rfl ?_ | refine cePu rfl (loadBox tab rfl rfl rfl rfl rfl) rfl ?_
          refine cePu rfl (ev tab rfl) rfl ?_
          refine cePu rfl (indexAddr tab rfl rfl rfl rfl rfl rfl (by decide) (idx_map (l1 (by omega))) rfl) rfl ?_
          first | refine cePu rfl (ev tab rfl) rfl ?_ | refine cePu rfl (loadRow tab rfl rfl rfl rfl) rfl ?_ | refine cePu rfl (loadBox tab rfl rfl rfl rfl rfl) rfl ?_
          refine cePu rfl (puCall rfl rfl rfl (eboth_fn ..) rfl) rfl ?_
          refine CE.nil ?_
          refine storeR tab rfl rfl rfl rfl rfl rfl rfl rfl ?_
          refine WO.nil ?_
          refine qs ?_
          refine W.ret ?_
          refine qbRet ?_
          refine qsRet ?_
          refine QV.ret0 tab trivial rfl ?_
          rw [evalV_op h14 h18, hk, ← show andV (evalV cols row ka) (evalV cols row kb) = opV e.op e.name ([ka, kb].map (evalV cols row)) by rw [h48, and_logic ha hb]; rfl, hI]; rfl
        · skip
          have h48 : e.op ≠ 14 := of_decide_eq_false h48
          refine W.seq ?_
          refine W.region ?_
          refine pu (ev tab rfl) rfl ?_
          first | refine pu (ev tab rfl) rfl ?_ | refine pu (loadRow tab rfl rfl rfl rfl) rfl ?_ | refine pu (loadBox tab rfl rfl rfl rfl rfl) rfl ?_
          iterate 2 refine pu (ev tab rfl) rfl ?_
          refine WO.nil ?_
          refine qs ?_
          refine condK rfl (fun h59 => ?_) (fun h59 => ?_)
          · skip
            have h59 : e.op = 15 := of_decide_eq_true h59
            obtain ⟨ka, kb, hk, ha, hb⟩ := logic_kids hf hv ht (.inr h59)
            rw [hk] at hI
            have hl2 : vs.length = 2 := by rw [hI]; rfl
            refine W.seq ?_
            refine W.regionE tab 10 0 (by kernel_rfl) rfl rfl ?_
            refine cePu rfl (ev tab rfl) rfl ?_
            refine cePu rfl (indexAddr tab rfl rfl rfl rfl rfl rfl (Int.le_refl _) (idx_map (l0 (by omega))) rfl) rfl ?_
            first | refine cePu rfl (ev tab rfl) rfl ?_ | refine cePu rfl (loadRow tab rfl rfl rfl rfl) rfl ?_ | refine cePu rfl (loadBox tab rfl rfl rfl rfl rfl) rfl ?_
            refine cePu rfl (puCall rfl rfl rfl (enot_fn ..) rfl) rfl ?_
            refine cePu rfl (ev tab rfl) rfl ?_
            refine cePu rfl (indexAddr tab rfl rfl rfl rfl rfl rfl (by decide) (idx_map (l1 (by omega))) rfl) rfl ?_
            first | refine cePu rfl (ev tab rfl) rfl ?_ | refine cePu rfl (loadRow tab rfl rfl rfl rfl) rfl ?_ | refine cePu rfl (loadBox tab rfl rfl rfl rfl rfl) rfl ?_
            refine cePu rfl (puCall rfl rfl rfl (enot_fn ..) rfl) rfl ?_
            refine cePu rfl (puCall rfl rfl rfl (eboth_fn ..) rfl) rfl ?_
            refine cePu rfl (puCall rfl rfl rfl (enot_fn ..) rfl) rfl ?_
            refine CE.nil ?_
            refine storeR tab rfl rfl rfl rfl rfl rfl rfl rfl ?_
            refine WO.nil ?_
            refine qs ?_
            refine W.ret ?_
            refine qbRet ?_
            refine qsRet ?_
            refine QV.ret0 tab trivial rfl ?_
            rw [evalV_op h14 h18, hk, ← show notV (andV (notV (evalV cols row ka)) (notV (evalV cols row kb))) = opV e.op e.name ([ka, kb].map (evalV cols row)) by rw [h59, or_logic ha hb]; rfl, hI]; rfl
          · skip
            have h59 : e.op ≠ 15 := of_decide_eq_false h59
            refine W.seq ?_
            refine W.region ?_
            iterate 2 refine pu (ev tab rfl) rfl ?_
            refine WO.nil ?_
            refine qs ?_
            refine condK rfl (fun h73 => ?_) (fun h73 => ?_)
            · skip
              refine W.seq ?_
              refine W.region ?_
              refine pu (build tab rfl rfl rfl rfl) rfl ?_
              refine storeR tab rfl rfl rfl rfl rfl rfl rfl rfl ?_
              refine WO.nil ?_
              refine qs ?_
              refine W.ret ?_
              refine qbRet ?_
              refine qsRet ?_
              refine QV.ret0 tab trivial rfl ?_
              rw [evalV_op h14 h18, opV_null h48 h59 (hI ▸ h73)]; rfl
            · skip
              refine W.skip ?_
              refine qbN ?_
              refine qs ?_
              refine W.seq ?_
              refine W.region ?_
              first | refine pu (ev tab rfl) rfl ?_ | refine pu (loadRow tab rfl rfl rfl rfl) rfl ?_ | refine pu (loadBox tab rfl rfl rfl rfl rfl) rfl ?_
              refine pu (ev tab rfl) rfl ?_
              refine pu (puCall rfl rfl rfl (operation_fn0 e vs (hI ▸ good_of hf hv ht h14 h18 h48 h59 (hI ▸ h73)) (by omega) h48 h59) rfl) rfl ?_
              refine storeR tab rfl rfl rfl rfl rfl rfl rfl rfl ?_
              refine WO.nil ?_
              refine qs ?_
              refine W.ret ?_
              refine QV.ret0 tab trivial rfl ?_
              rw [evalV_op h14 h18, ← hI]; rfl
theorem eexpr_fn (cols : List Col) (row : List Val) (e : Ex) : Does Tryz.prog 10 [.d (.sl (cols.map Col.c)), .d (.sl (row.map Val.c)), .ag e.c] (.ag (exprV cols row e).c) 0 := by
  refine Does.of_V tab (n := 28) (rs := [.cell 6 27]) Tryz.func10 (by kernel_rfl) rfl Tryz.ntmps10 Tryz.results10 rfl fun C hC hG => ?_
  refine W.seq ?_
  refine W.region ?_
  refine boxR rfl rfl rfl ?_
  refine allocR tab rfl rfl rfl ?_
  refine WO.nil ?_
  refine qs ?_
  refine W.seq ?_
  refine W.seq ?_
  refine W.region ?_
  refine pu (ev tab rfl) rfl ?_
  first | refine pu (ev tab rfl) rfl ?_ | refine pu (loadRow tab rfl rfl rfl rfl) rfl ?_ | refine pu (loadBox tab rfl rfl rfl rfl rfl) rfl ?_
  refine pu (puCall rfl rfl rfl (texpr_fn ..) rfl) rfl ?_
  iterate 5 refine pu (ev tab rfl) rfl ?_
  refine WO.nil ?_
  refine qs ?_
  refine W.seq ?_
  apply regionB; (case hb => rfl)
  · skip
    iterate 3 refine pu (ev tab rfl) rfl ?_
    apply splitJ; (case hj => rfl); (case hl => rfl)
    · skip
      refine skipT rfl rfl rfl rfl ?_
      refine skipT rfl rfl rfl rfl ?_
      refine skipT rfl rfl rfl rfl ?_
      refine skipT rfl rfl rfl rfl ?_
      refine pu (ev tab rfl) rfl ?_
      refine WO.nil ?_
      refine qv1 rfl rfl rfl
    · skip
      refine goG rfl rfl ?_
      refine pu (ev tab rfl) rfl ?_
      refine goG rfl rfl ?_
      refine pu (ev tab rfl) rfl ?_
      refine goG rfl rfl ?_
      refine pu (puCall rfl rfl rfl (efits_fn ..) rfl) rfl ?_
      refine goG rfl rfl ?_
      iterate 2 refine pu (ev tab rfl) rfl ?_
      refine WO.nil ?_
      refine qv1 rfl rfl rfl
  refine qs ?_
  refine condK rfl (fun h22 => ?_) (fun h22 => ?_)
  · skip
    rw [bifOr] at h22
    refine W.seq ?_
    refine W.region ?_
    refine pu (build tab rfl rfl rfl rfl) rfl ?_
    refine storeR tab rfl rfl rfl rfl rfl rfl rfl rfl ?_
    refine WO.nil ?_
    refine qs ?_
    refine W.ret ?_
    refine qsRet ?_
    refine QV.ret0 tab trivial rfl ?_
    rw [show exprV cols row e = nullV by simp only [exprV]; rw [if_neg]; rintro ⟨h1, h2⟩; simp [h1, h2] at h22]; rfl
  · skip
    rw [bifOr] at h22
    have hz : (exprT cols e).2 = 0 ∧ fitsB cols row = true := by simpa using h22
    have hz2 : exprErr e = 0 ∧ (typ cols e).2 = 0 := by
      have := hz.1
      simp only [exprT] at this
      split at this
      · rename_i hne; exact absurd this hne
      · rename_i hne; exact ⟨by simpa using hne, this⟩
    refine W.skip ?_
    refine qs ?_
    refine W.seq ?_
    refine W.region ?_
    iterate 2 refine pu (ev tab rfl) rfl ?_
    first | refine pu (ev tab rfl) rfl ?_ | refine pu (loadRow tab rfl rfl rfl rfl) rfl ?_ | refine pu (loadBox tab rfl rfl rfl rfl rfl) rfl ?_
    refine pu (puCall rfl rfl rfl (evalue_fn cols row hz.2 e (exprErr_zero hz2.1) hz2.2) rfl) rfl ?_
    refine storeR tab rfl rfl rfl rfl rfl rfl rfl rfl ?_
    refine WO.nil ?_
    refine qs ?_
    refine W.ret ?_
    refine QV.ret0 tab trivial rfl ?_
    rw [show exprV cols row e = evalV cols row e by simp only [exprV]; rw [if_pos hz]]; rfl
theorem econd_fn (cols : List Col) (row : List Val) (e : Ex) : Does Tryz.prog 16 [.d (.sl (cols.map Col.c)), .d (.sl (row.map Val.c)), .ag e.c] (.d (.v (.bool (decide (exprV cols row e = truthV true))))) 0 := by
  refine Does.of_W (n := 13) (ts := [6]) Tryz.func16 (by kernel_rfl) rfl Tryz.ntmps16 Tryz.results16 rfl rfl fun C hC hG => ?_
  refine W.seq ?_
  refine W.region ?_
  refine boxR rfl rfl rfl ?_
  refine pu (ev tab rfl) rfl ?_
  refine WO.nil ?_
  refine qs ?_
  refine W.seq ?_
  refine W.region ?_
  iterate 2 refine pu (ev tab rfl) rfl ?_
  first | refine pu (ev tab rfl) rfl ?_ | refine pu (loadRow tab rfl rfl rfl rfl) rfl ?_ | refine pu (loadBox tab rfl rfl rfl rfl rfl) rfl ?_
  refine pu (puCall rfl rfl rfl (eexpr_fn ..) rfl) rfl ?_
  refine pu (puCall rfl rfl rfl (truth_fn ..) rfl) rfl ?_
  iterate 2 refine pu (ev tab rfl) rfl ?_
  refine WO.nil ?_
  refine qs ?_
  refine W.ret ?_
  refine QF.ret0 trivial rfl ?_
  rw [← valEq]; rfl
end Go.Proofs.YtaifpecinbjgcabGreat
namespace Go.Proofs.YtaifpecinbjgcabGreat
open Go.Ab Go.Tb
set_option maxRecDepth 10000
attribute [local irreducible] W WO Pu QS QB QL QF QV QV1 CH QE
theorem esum_fn (l : List Val) (hl : l.length ≤ 1000000) (hnn : ∀ v ∈ l, v.kind ≠ 0) : Does Tryz.prog 27 [.d (.sl (l.map Val.c))] (.ag (sumV l).c) 0 := by
  refine Does.of_V tab (n := 50) (rs := [.cell 2 27]) Tryz.func27 (by kernel_rfl) rfl Tryz.ntmps27 Tryz.results27 rfl fun C hC hG => ?_
  refine W.seq ?_
  refine W.region ?_
  refine allocR tab rfl rfl rfl ?_
  refine WO.nil ?_
  refine qs ?_
  refine W.seq ?_
  refine W.region ?_
  iterate 2 refine pu (ev tab rfl) rfl ?_
  refine WO.nil ?_
  refine qs ?_
  refine W.seq ?_
  refine W.seq ?_
  refine W.region ?_
  iterate 3 refine pu (ev tab rfl) rfl ?_
  refine WO.nil ?_
  refine qs ?_
  refine W.block ?_
  refine W.len (t := 8) rfl rfl (fun hlen => ?_)
  try simp only [List.length_map, Ex.kc_len] at hlen
  refine W.loopR (ι := {x : Nat // match x with | k => k ≤ l.length ∧ (∀ v ∈ l.take k, v.kind = 2) ∧ (∀ v ∈ l.take k, okN v)})
    (fun x => match x.1 with | k => [(2, .ptr 0 0), (3, .d (.v (.int .i64 (hiS l k)))), (4, .d (.v (.int .i64 (loS l k)))), (10, .d (.v (.int .i64 ((k : Nat) : Int))))]) [(8, _), (9, _)]
    (fun x => match x.1 with | k => []) [(0, _)] [] 1 (fun x => match x.1 with | k => l.length - k)
    [0] ⟨0, ?_⟩ rfl ?_ ⟨rfl, rfl, rfl, rfl, trivial⟩ ?_ ⟨rfl, rfl, trivial⟩ rfl ?_
  · exact ⟨Nat.zero_le _, by simp, by simp⟩
  · repeat' first | exact trivial | refine ⟨rfl, ?_⟩ | refine ⟨step_nat (by assumption) (by assumption), ?_⟩
  · repeat' first | exact trivial | refine ⟨rfl, ?_⟩ | refine ⟨step_nat (by assumption) (by assumption), ?_⟩
  rintro ⟨k, hk, hI, hN⟩
  show W _ _ _ _ _ ⟨[(2, .ptr 0 0), (3, .d (.v (.int .i64 (hiS l k)))), (4, .d (.v (.int .i64 (loS l k)))), (10, .d (.v (.int .i64 ((k : Nat) : Int)))), (8, _), (9, _)], [(0, _)], [], 1⟩
  refine W.seq ?_
  refine W.region ?_
  refine pu (ev tab rfl) rfl ?_
  refine WO.nil ?_
  refine qs ?_
  refine W.seq ?_
  refine eachR (l := l) (k := k) rfl (by simp [Ex.kc_len, bytes_len]) hk (fun v hx hd hlt => ?_) (fun he hd => ?_)
  · skip
    refine W.skip ?_
    refine qs ?_
    refine W.seq ?_
    refine W.block ?_
    refine W.seq ?_
    refine W.region ?_
    refine pu (indexAddr tab rfl rfl rfl rfl rfl rfl (Int.natCast_nonneg _) (idx_map hx) rfl) rfl ?_
    first | refine pu (ev tab rfl) rfl ?_ | refine pu (loadRow tab rfl rfl rfl rfl) rfl ?_ | refine pu (loadBox tab rfl rfl rfl rfl rfl) rfl ?_
    refine allocR tab rfl rfl rfl ?_
    refine storeR tab rfl rfl rfl rfl rfl rfl rfl rfl ?_
    refine WO.nil ?_
    refine qs ?_
    refine W.seq ?_
    refine W.seq ?_
    refine inBox (g := 1) (j := 1) rfl rfl (fun hv => ?_)
    have hv := okc_i64 hv
    have hb := hiS_le hl hN
    have hlo := loS_le (k := k) hl
    have hp1 := hiP_bound hv
    have hp2 := loP_bound v.n
    refine W.region ?_
    refine pu (ev tab rfl) rfl ?_
    first | refine pu (ev tab rfl) rfl ?_ | refine pu (loadRow tab rfl rfl rfl rfl) rfl ?_ | refine pu (loadBox tab rfl rfl rfl rfl rfl) rfl ?_
    refine pu (ev tab rfl) rfl ?_
    refine WO.nil ?_
    refine qs ?_
    refine condK rfl (fun h16 => ?_) (fun h16 => ?_)
    · skip
      refine W.seq ?_
      refine W.region ?_
      refine pu (build tab rfl rfl rfl rfl) rfl ?_
      refine storeR tab rfl rfl rfl rfl rfl rfl rfl rfl ?_
      refine WO.nil ?_
      refine qs ?_
      refine W.ret ?_
      refine qsRet ?_
      refine qbRet ?_
      refine qsRet ?_
      refine qlRet ?_
      refine qbRet ?_
      refine qsRet ?_
      refine QV.ret0 tab trivial rfl ?_
      rw [show sumV l = nullV by simp only [sumV, intsV_none l v (List.mem_of_getElem? hx) (hnn v (List.mem_of_getElem? hx)) (by have := h16; simp at this; exact this)]]; rfl
    · skip
      refine W.skip ?_
      refine qs ?_
      refine W.seq ?_
      refine W.region ?_
      iterate 2 refine pu (ev tab rfl) rfl ?_
      first | refine pu (ev tab rfl) rfl ?_ | refine pu (loadRow tab rfl rfl rfl rfl) rfl ?_ | refine pu (loadBox tab rfl rfl rfl rfl rfl) rfl ?_
      refine pu (shrR rfl rfl (by decide) (shr32 _) (okc_hi hv)) rfl ?_
      refine pu (puI (ev tab rfl) ((wrap64 (by omega)).trans (hiS_succ hx).symm)) rfl ?_
      refine pu (ev tab rfl) rfl ?_
      refine WO.nil ?_
      refine qs ?_
      refine W.region ?_
      iterate 2 refine pu (ev tab rfl) rfl ?_
      first | refine pu (ev tab rfl) rfl ?_ | refine pu (loadRow tab rfl rfl rfl rfl) rfl ?_ | refine pu (loadBox tab rfl rfl rfl rfl rfl) rfl ?_
      refine pu (puI (ev tab rfl) (and32 _)) rfl ?_
      refine pu (puI (ev tab rfl) ((wrap64 (by omega)).trans (loS_succ hx).symm)) rfl ?_
      refine pu (ev tab rfl) rfl ?_
      refine WO.nil ?_
      refine qbN ?_
      refine qs ?_
      refine W.region ?_
      iterate 2 refine pu (ev tab rfl) rfl ?_
      refine WO.nil ?_
      refine W.endR [0] ⟨k + 1, ?_⟩ ?_ rfl ?_ ⟨rfl, rfl, rfl, rfl, trivial⟩ ?_ ⟨rfl, rfl, trivial⟩ rfl
      · exact ⟨hlt, mem_take_succ hx hI (by have := h16; simp at this; exact this), mem_take_succ hx hN hv⟩
      · dsimp only; omega
      · repeat' first | exact trivial | refine ⟨rfl, ?_⟩ | refine ⟨step_nat (by assumption) (by assumption), ?_⟩
      · repeat' first | exact trivial | refine ⟨rfl, ?_⟩ | refine ⟨step_nat (by assumption) (by assumption), ?_⟩
  · skip
    have hb := hiS_le hl hN
    have hlo := loS_le (k := k) hl
    have hfin := sum_end2 he hI hnn
    refine W.exit ?_
    refine qsExit ?_
    refine qlExit ?_
    refine qbExit ?_
    refine qs ?_
    refine W.seq ?_
    refine W.region ?_
    iterate 2 refine pu (ev tab rfl) rfl ?_
    refine pu (shrR rfl rfl (by decide) (shr32 _) (okc_hi (by omega))) rfl ?_
    refine pu (puI (ev tab rfl) (wrap64 (by simp only [hiP]; omega))) rfl ?_
    refine pu (ev tab rfl) rfl ?_
    refine WO.nil ?_
    refine qs ?_
    refine W.seq ?_
    refine W.region ?_
    refine pu (ev tab rfl) rfl ?_
    refine pu (puI (ev tab rfl) (and32 _)) rfl ?_
    refine pu (ev tab rfl) rfl ?_
    refine WO.nil ?_
    refine qs ?_
    refine W.seq ?_
    refine W.seq ?_
    apply regionB; (case hb => rfl)
    · skip
      iterate 3 refine pu (ev tab rfl) rfl ?_
      apply splitJ; (case hj => rfl); (case hl => rfl)
      · skip
        refine skipT rfl rfl rfl rfl ?_
        refine skipT rfl rfl rfl rfl ?_
        refine pu (ev tab rfl) rfl ?_
        refine WO.nil ?_
        refine qv1 rfl rfl rfl
      · skip
        refine goG rfl rfl ?_
        refine pu (ev tab rfl) rfl ?_
        refine goG rfl rfl ?_
        iterate 2 refine pu (ev tab rfl) rfl ?_
        refine WO.nil ?_
        refine qv1 rfl rfl rfl
    refine qs ?_
    refine condK rfl (fun h40 => ?_) (fun h40 => ?_)
    · skip
      refine W.seq ?_
      refine W.region ?_
      refine pu (build tab rfl rfl rfl rfl) rfl ?_
      refine storeR tab rfl rfl rfl rfl rfl rfl rfl rfl ?_
      refine WO.nil ?_
      refine qs ?_
      refine W.ret ?_
      refine qsRet ?_
      refine QV.ret0 tab trivial rfl ?_
      rw [← hfin, if_pos (by rw [bifOr, Bool.or_eq_true, decide_eq_true_eq, decide_eq_true_eq] at h40; exact h40)]; rfl
    · skip
      rw [bifOr] at h40
      have h40 : ¬ (1048576 < hiS l k + hiP (loS l k) ∨ hiS l k + hiP (loS l k) < -1048576) := by simpa using h40
      refine W.skip ?_
      refine qs ?_
      refine W.seq ?_
      refine W.region ?_
      refine pu (ev tab rfl) rfl ?_
      refine pu (shlR (r := (hiS l k + hiP (loS l k)) * 4294967296) rfl rfl (by decide) (wrap64 (by show _ ≤ _ * 4294967296 ∧ _ * 4294967296 ≤ _; omega))) rfl ?_
      refine pu (ev tab rfl) rfl ?_
      refine pu (puI (ev tab rfl) (wrap64 (by have := loP_bound (loS l k); omega))) rfl ?_
      refine pu (ev tab rfl) rfl ?_
      refine WO.nil ?_
      refine qs ?_
      refine W.seq ?_
      refine W.region ?_
      iterate 2 refine pu (ev tab rfl) rfl ?_
      refine pu (puCall rfl rfl rfl (in_fn ..) rfl) rfl ?_
      refine pu (puCall rfl rfl rfl (enumber_fn ..) rfl) rfl ?_
      refine storeR tab rfl rfl rfl rfl rfl rfl rfl rfl ?_
      refine WO.nil ?_
      refine qs ?_
      refine W.ret ?_
      refine QV.ret0 tab trivial rfl ?_
      rw [← hfin, if_neg h40]; rfl
theorem minFunc_fn (l : List Val) (hl : l ≠ []) : Does Tryz.prog 28 [.d (.sl (l.map Val.c)), .clo 29 []] (.ag ((bestV lessV l none).getD nullV).c) 0 := by
  obtain ⟨a, r, rfl⟩ : ∃ a r, l = a :: r := by cases l with | nil => exact absurd rfl hl | cons a r => exact ⟨a, r, rfl⟩
  refine Does.of_V tab (n := 33) (rs := [.cell 4 27]) Tryz.func28 (by kernel_rfl) rfl Tryz.ntmps28 Tryz.results28 rfl fun C hC hG => ?_
  refine W.seq ?_
  refine W.region ?_
  refine allocR tab rfl rfl rfl ?_
  refine WO.nil ?_
  refine qs ?_
  refine W.seq ?_
  refine W.seq ?_
  refine W.region ?_
  iterate 3 refine pu (ev tab rfl) rfl ?_
  refine WO.nil ?_
  refine qs ?_
  refine condK rfl (fun h9 => ?_) (fun h9 => ?_)
  · skip
    exfalso; simp at h9
    omega
  · skip
    refine W.skip ?_
    refine qs ?_
    refine W.seq ?_
    refine W.region ?_
    refine pu (ev tab rfl) rfl ?_
    refine pu (indexAddr tab rfl rfl rfl rfl rfl rfl (Int.le_refl _) (idx_map (l := a :: r) (i := 0) rfl) rfl) rfl ?_
    first | refine pu (ev tab rfl) rfl ?_ | refine pu (loadRow tab rfl rfl rfl rfl) rfl ?_ | refine pu (loadBox tab rfl rfl rfl rfl rfl) rfl ?_
    refine allocR tab rfl rfl rfl ?_
    refine storeR tab rfl rfl rfl rfl rfl rfl rfl rfl ?_
    refine WO.nil ?_
    refine qs ?_
    refine W.seq ?_
    refine W.seq ?_
    refine W.region ?_
    refine pu (ev tab rfl) rfl ?_
    refine WO.nil ?_
    refine qs ?_
    refine W.block ?_
    refine W.len (t := 0) rfl rfl (fun hlen => ?_)
    try simp only [List.length_map, Ex.kc_len] at hlen
    refine W.loopR (ι := {x : Nat × Val // match x with | (k, m) => k ≤ r.length ∧ bestV lessV (r.drop k) (some m) = bestV lessV (a :: r) none})
      (fun x => match x.1 with | (k, m) => [(4, .ptr 0 0), (5, .ptr 1 0), (6, .d (.v (.int .i64 (((k + 1) : Nat) : Int))))]) [(0, _), (1, _)]
      (fun x => match x.1 with | (k, m) => [(1, m.c.map .d)]) [(0, _)] [] 2 (fun x => match x.1 with | (k, m) => r.length - k)
      [0, 1] ⟨(0, a), ?_⟩ rfl ?_ ⟨rfl, rfl, rfl, rfl, trivial⟩ ?_ ⟨rfl, rfl, trivial⟩ rfl ?_
    · first | exact ⟨Nat.zero_le _, rfl⟩ | exact trivial | simp
    · repeat' first | exact trivial | refine ⟨rfl, ?_⟩ | refine ⟨step_nat (by assumption) (by assumption), ?_⟩
    · repeat' first | exact trivial | refine ⟨rfl, ?_⟩ | refine ⟨step_nat (by assumption) (by assumption), ?_⟩
    rintro ⟨⟨k, m⟩, hk, hI⟩
    show W _ _ _ _ _ ⟨[(4, .ptr 0 0), (5, .ptr 1 0), (6, .d (.v (.int .i64 (((k + 1) : Nat) : Int)))), (0, _), (1, _)], [(1, m.c.map .d), (0, _)], [], 2⟩
    refine W.seq ?_
    refine W.seq ?_
    refine W.region ?_
    iterate 4 refine pu (ev tab rfl) rfl ?_
    refine WO.nil ?_
    refine qs ?_
    refine eachR (l := r) (k := k) rfl (by simp) hk (fun v hx hd hlt => ?_) (fun he hd => ?_)
    · skip
      rw [hd] at hI
      simp only [bestV] at hI
      have hlt2 : k + 1 < (a :: r).length := by simpa using hlt
      refine W.skip ?_
      refine qs ?_
      refine W.seq ?_
      refine W.block ?_
      refine W.seq ?_
      refine W.regionD tab (by kernel_rfl) ?_
      refine chPu (ev tab rfl) rfl ?_
      refine chPu (ev tab rfl) rfl ?_
      refine chPu (ev tab rfl) rfl ?_
      refine chPu (indexAddr tab rfl rfl rfl rfl rfl rfl (Int.natCast_nonneg _) (idx_map (l := a :: r) (i := k + 1) hx) rfl) rfl ?_
      first | refine chPu (ev tab rfl) rfl ?_ | refine chPu (loadRow tab rfl rfl rfl rfl) rfl ?_ | refine chPu (loadBox tab rfl rfl rfl rfl rfl) rfl ?_
      first | refine chPu (ev tab rfl) rfl ?_ | refine chPu (loadRow tab rfl rfl rfl rfl) rfl ?_ | refine chPu (loadBox tab rfl rfl rfl rfl rfl) rfl ?_
      refine chPu (puCall rfl rfl rfl (order_fn v m) rfl) rfl ?_
      refine chPu (ev tab rfl) rfl ?_
      refine CH.nil ?_
      refine qs ?_
      refine condK rfl (fun h27 => ?_) (fun h27 => ?_)
      · skip
        rw [if_pos (show lessV v m = true from h27)] at hI
        let nx := v
        refine W.region ?_
        iterate 2 refine pu (ev tab rfl) rfl ?_
        refine pu (indexAddr tab rfl rfl rfl rfl rfl rfl (Int.natCast_nonneg _) (idx_map (l := a :: r) (i := k + 1) hx) rfl) rfl ?_
        first | refine pu (ev tab rfl) rfl ?_ | refine pu (loadRow tab rfl rfl rfl rfl) rfl ?_ | refine pu (loadBox tab rfl rfl rfl rfl rfl) rfl ?_
        refine storeR tab rfl rfl rfl rfl rfl rfl rfl rfl ?_
        refine WO.nil ?_
        refine qbN ?_
        refine qs ?_
        refine W.region ?_
        iterate 3 refine pu (ev tab rfl) rfl ?_
        refine WO.nil ?_
        refine W.endR [0, 1] ⟨(k + 1, nx), ?_⟩ ?_ rfl ?_ ⟨rfl, rfl, rfl, rfl, trivial⟩ ?_ ⟨rfl, rfl, trivial⟩ rfl
        · exact ⟨hlt, hI⟩
        · dsimp only; omega
        · repeat' first | exact trivial | refine ⟨rfl, ?_⟩ | refine ⟨step_nat (by assumption) (by assumption), ?_⟩
        · repeat' first | exact trivial | refine ⟨rfl, ?_⟩ | refine ⟨step_nat (by assumption) (by assumption), ?_⟩
      · skip
        rw [if_neg (show ¬ lessV v m = true by rw [show lessV v m = false from h27]; decide)] at hI
        let nx := m
        refine W.skip ?_
        refine qbN ?_
        refine qs ?_
        refine W.region ?_
        iterate 3 refine pu (ev tab rfl) rfl ?_
        refine WO.nil ?_
        refine W.endR [0, 1] ⟨(k + 1, nx), ?_⟩ ?_ rfl ?_ ⟨rfl, rfl, rfl, rfl, trivial⟩ ?_ ⟨rfl, rfl, trivial⟩ rfl
        · exact ⟨hlt, hI⟩
        · dsimp only; omega
        · repeat' first | exact trivial | refine ⟨rfl, ?_⟩ | refine ⟨step_nat (by assumption) (by assumption), ?_⟩
        · repeat' first | exact trivial | refine ⟨rfl, ?_⟩ | refine ⟨step_nat (by assumption) (by assumption), ?_⟩
    · skip
      rw [hd] at hI
      refine W.exit ?_
      refine qsExit ?_
      refine qlExit ?_
      refine qbExit ?_
      refine qs ?_
      refine W.seq ?_
      refine W.region ?_
      first | refine pu (ev tab rfl) rfl ?_ | refine pu (loadRow tab rfl rfl rfl rfl) rfl ?_ | refine pu (loadBox tab rfl rfl rfl rfl rfl) rfl ?_
      refine storeR tab rfl rfl rfl rfl rfl rfl rfl rfl ?_
      refine WO.nil ?_
      refine qs ?_
      refine W.ret ?_
      refine QV.ret0 tab trivial rfl ?_
      rw [← hI]; rfl
theorem maxFunc_fn (l : List Val) (hl : l ≠ []) : Does Tryz.prog 30 [.d (.sl (l.map Val.c)), .clo 29 []] (.ag ((bestV moreV l none).getD nullV).c) 0 := by
  obtain ⟨a, r, rfl⟩ : ∃ a r, l = a :: r := by cases l with | nil => exact absurd rfl hl | cons a r => exact ⟨a, r, rfl⟩
  refine Does.of_V tab (n := 33) (rs := [.cell 4 27]) Tryz.func30 (by kernel_rfl) rfl Tryz.ntmps30 Tryz.results30 rfl fun C hC hG => ?_
  refine W.seq ?_
  refine W.region ?_
  refine allocR tab rfl rfl rfl ?_
  refine WO.nil ?_
  refine qs ?_
  refine W.seq ?_
  refine W.seq ?_
  refine W.region ?_
  iterate 3 refine pu (ev tab rfl) rfl ?_
  refine WO.nil ?_
  refine qs ?_
  refine condK rfl (fun h9 => ?_) (fun h9 => ?_)
  · skip
    exfalso; simp at h9
    omega
  · skip
    refine W.skip ?_
    refine qs ?_
    refine W.seq ?_
    refine W.region ?_
    refine pu (ev tab rfl) rfl ?_
    refine pu (indexAddr tab rfl rfl rfl rfl rfl rfl (Int.le_refl _) (idx_map (l := a :: r) (i := 0) rfl) rfl) rfl ?_
    first | refine pu (ev tab rfl) rfl ?_ | refine pu (loadRow tab rfl rfl rfl rfl) rfl ?_ | refine pu (loadBox tab rfl rfl rfl rfl rfl) rfl ?_
    refine allocR tab rfl rfl rfl ?_
    refine storeR tab rfl rfl rfl rfl rfl rfl rfl rfl ?_
    refine WO.nil ?_
    refine qs ?_
    refine W.seq ?_
    refine W.seq ?_
    refine W.region ?_
    refine pu (ev tab rfl) rfl ?_
    refine WO.nil ?_
    refine qs ?_
    refine W.block ?_
    refine W.len (t := 0) rfl rfl (fun hlen => ?_)
    try simp only [List.length_map, Ex.kc_len] at hlen
    refine W.loopR (ι := {x : Nat × Val // match x with | (k, m) => k ≤ r.length ∧ bestV moreV (r.drop k) (some m) = bestV moreV (a :: r) none})
      (fun x => match x.1 with | (k, m) => [(4, .ptr 0 0), (5, .ptr 1 0), (6, .d (.v (.int .i64 (((k + 1) : Nat) : Int))))]) [(0, _), (1, _)]
      (fun x => match x.1 with | (k, m) => [(1, m.c.map .d)]) [(0, _)] [] 2 (fun x => match x.1 with | (k, m) => r.length - k)
      [0, 1] ⟨(0, a), ?_⟩ rfl ?_ ⟨rfl, rfl, rfl, rfl, trivial⟩ ?_ ⟨rfl, rfl, trivial⟩ rfl ?_
    · first | exact ⟨Nat.zero_le _, rfl⟩ | exact trivial | simp
    · repeat' first | exact trivial | refine ⟨rfl, ?_⟩ | refine ⟨step_nat (by assumption) (by assumption), ?_⟩
    · repeat' first | exact trivial | refine ⟨rfl, ?_⟩ | refine ⟨step_nat (by assumption) (by assumption), ?_⟩
    rintro ⟨⟨k, m⟩, hk, hI⟩
    show W _ _ _ _ _ ⟨[(4, .ptr 0 0), (5, .ptr 1 0), (6, .d (.v (.int .i64 (((k + 1) : Nat) : Int)))), (0, _), (1, _)], [(1, m.c.map .d), (0, _)], [], 2⟩
    refine W.seq ?_
    refine W.seq ?_
    refine W.region ?_
    iterate 4 refine pu (ev tab rfl) rfl ?_
    refine WO.nil ?_
    refine qs ?_
    refine eachR (l := r) (k := k) rfl (by simp) hk (fun v hx hd hlt => ?_) (fun he hd => ?_)
    · skip
      rw [hd] at hI
      simp only [bestV] at hI
      have hlt2 : k + 1 < (a :: r).length := by simpa using hlt
      refine W.skip ?_
      refine qs ?_
      refine W.seq ?_
      refine W.block ?_
      refine W.seq ?_
      refine W.regionD tab (by kernel_rfl) ?_
      refine chPu (ev tab rfl) rfl ?_
      refine chPu (ev tab rfl) rfl ?_
      refine chPu (ev tab rfl) rfl ?_
      refine chPu (indexAddr tab rfl rfl rfl rfl rfl rfl (Int.natCast_nonneg _) (idx_map (l := a :: r) (i := k + 1) hx) rfl) rfl ?_
      first | refine chPu (ev tab rfl) rfl ?_ | refine chPu (loadRow tab rfl rfl rfl rfl) rfl ?_ | refine chPu (loadBox tab rfl rfl rfl rfl rfl) rfl ?_
      first | refine chPu (ev tab rfl) rfl ?_ | refine chPu (loadRow tab rfl rfl rfl rfl) rfl ?_ | refine chPu (loadBox tab rfl rfl rfl rfl rfl) rfl ?_
      refine chPu (puCall rfl rfl rfl (order_fn v m) rfl) rfl ?_
      refine chPu (ev tab rfl) rfl ?_
      refine CH.nil ?_
      refine qs ?_
      refine condK rfl (fun h27 => ?_) (fun h27 => ?_)
      · skip
        rw [if_pos (show moreV v m = true from h27)] at hI
        let nx := v
        refine W.region ?_
        iterate 2 refine pu (ev tab rfl) rfl ?_
        refine pu (indexAddr tab rfl rfl rfl rfl rfl rfl (Int.natCast_nonneg _) (idx_map (l := a :: r) (i := k + 1) hx) rfl) rfl ?_
        first | refine pu (ev tab rfl) rfl ?_ | refine pu (loadRow tab rfl rfl rfl rfl) rfl ?_ | refine pu (loadBox tab rfl rfl rfl rfl rfl) rfl ?_
        refine storeR tab rfl rfl rfl rfl rfl rfl rfl rfl ?_
        refine WO.nil ?_
        refine qbN ?_
        refine qs ?_
        refine W.region ?_
        iterate 3 refine pu (ev tab rfl) rfl ?_
        refine WO.nil ?_
        refine W.endR [0, 1] ⟨(k + 1, nx), ?_⟩ ?_ rfl ?_ ⟨rfl, rfl, rfl, rfl, trivial⟩ ?_ ⟨rfl, rfl, trivial⟩ rfl
        · exact ⟨hlt, hI⟩
        · dsimp only; omega
        · repeat' first | exact trivial | refine ⟨rfl, ?_⟩ | refine ⟨step_nat (by assumption) (by assumption), ?_⟩
        · repeat' first | exact trivial | refine ⟨rfl, ?_⟩ | refine ⟨step_nat (by assumption) (by assumption), ?_⟩
      · skip
        rw [if_neg (show ¬ moreV v m = true by rw [show moreV v m = false from h27]; decide)] at hI
        let nx := m
        refine W.skip ?_
        refine qbN ?_
        refine qs ?_
        refine W.region ?_
        iterate 3 refine pu (ev tab rfl) rfl ?_
        refine WO.nil ?_
        refine W.endR [0, 1] ⟨(k + 1, nx), ?_⟩ ?_ rfl ?_ ⟨rfl, rfl, rfl, rfl, trivial⟩ ?_ ⟨rfl, rfl, trivial⟩ rfl
        · exact ⟨hlt, hI⟩
        · dsimp only; omega
        · repeat' first | exact trivial | refine ⟨rfl, ?_⟩ | refine ⟨step_nat (by assumption) (by assumption), ?_⟩
        · repeat' first | exact trivial | refine ⟨rfl, ?_⟩ | refine ⟨step_nat (by assumption) (by assumption), ?_⟩
    · skip
      rw [hd] at hI
      refine W.exit ?_
      refine qsExit ?_
      refine qlExit ?_
      refine qbExit ?_
      refine qs ?_
      refine W.seq ?_
      refine W.region ?_
      first | refine pu (ev tab rfl) rfl ?_ | refine pu (loadRow tab rfl rfl rfl rfl) rfl ?_ | refine pu (loadBox tab rfl rfl rfl rfl rfl) rfl ?_
      refine storeR tab rfl rfl rfl rfl rfl rfl rfl rfl ?_
      refine WO.nil ?_
      refine qs ?_
      refine W.ret ?_
      refine QV.ret0 tab trivial rfl ?_
      rw [← hI]; rfl
theorem eagg_fn (fn : ByteArray) (l : List Val) (hl : l.length ≤ 1000000) : Does Tryz.prog 17 [.d (.v (.string fn)), .d (.sl (l.map Val.c))] (.ag (aggV fn l).c) 0 := by
  refine Does.of_V tab (n := 65) (rs := [.cell 4 27]) Tryz.func17 (by kernel_rfl) rfl Tryz.ntmps17 Tryz.results17 rfl fun C hC hG => ?_
  refine W.seq ?_
  refine W.region ?_
  refine allocR tab rfl rfl rfl ?_
  refine WO.nil ?_
  refine qs ?_
  refine W.seq ?_
  refine W.region ?_
  refine pu (ev tab rfl) rfl ?_
  refine WO.nil ?_
  refine qs ?_
  refine W.seq ?_
  refine W.seq ?_
  refine W.region ?_
  iterate 3 refine pu (ev tab rfl) rfl ?_
  refine WO.nil ?_
  refine qs ?_
  refine W.block ?_
  refine ownNilR (d := 5) rfl rfl ?_
  refine W.len (t := 8) rfl rfl (fun hlen => ?_)
  try simp only [List.length_map, Ex.kc_len] at hlen
  refine W.loopR (ι := {x : Nat × List Val // match x with | (k, vs) => k ≤ l.length ∧ vs = someV (l.take k)})
    (fun x => match x.1 with | (k, vs) => [(4, .ptr 0 0), (5, .own 1 (vs.map Val.c)), (10, .d (.v (.int .i64 ((k : Nat) : Int))))]) [(0, _), (1, _), (8, _), (9, _)]
    (fun x => match x.1 with | (k, vs) => []) [(0, _)] [1] 2 (fun x => match x.1 with | (k, vs) => l.length - k)
    [0, 1] ⟨(0, []), ?_⟩ rfl ?_ ⟨rfl, rfl, rfl, rfl, rfl, rfl, rfl, rfl, trivial⟩ ?_ ⟨rfl, rfl, trivial⟩ rfl ?_
  · exact ⟨Nat.zero_le _, rfl⟩
  · repeat' first | exact trivial | refine ⟨rfl, ?_⟩ | refine ⟨step_nat (by assumption) (by assumption), ?_⟩
  · repeat' first | exact trivial | refine ⟨rfl, ?_⟩ | refine ⟨step_nat (by assumption) (by assumption), ?_⟩
  rintro ⟨⟨k, vs⟩, hk, hI⟩
  show W _ _ _ _ _ ⟨[(4, .ptr 0 0), (5, .own 1 (vs.map Val.c)), (10, .d (.v (.int .i64 ((k : Nat) : Int)))), (0, _), (1, _), (8, _), (9, _)], [(0, _)], [1], 2⟩
  refine W.seq ?_
  refine W.region ?_
  refine pu (ev tab rfl) rfl ?_
  refine WO.nil ?_
  refine qs ?_
  refine W.seq ?_
  refine eachR (l := l) (k := k) rfl (by simp [Ex.kc_len, bytes_len]) hk (fun v hx hd hlt => ?_) (fun he hd => ?_)
  · skip
    have hvl : vs.length ≤ 1000000 := by rw [hI]; exact Nat.le_trans (someV_len _) (by rw [List.length_take]; omega)
    refine W.skip ?_
    refine qs ?_
    refine W.seq ?_
    refine W.block ?_
    refine W.seq ?_
    refine W.region ?_
    refine pu (indexAddr tab rfl rfl rfl rfl rfl rfl (Int.natCast_nonneg _) (idx_map hx) rfl) rfl ?_
    first | refine pu (ev tab rfl) rfl ?_ | refine pu (loadRow tab rfl rfl rfl rfl) rfl ?_ | refine pu (loadBox tab rfl rfl rfl rfl rfl) rfl ?_
    refine allocR tab rfl rfl rfl ?_
    refine storeR tab rfl rfl rfl rfl rfl rfl rfl rfl ?_
    refine WO.nil ?_
    refine qs ?_
    refine W.seq ?_
    refine W.region ?_
    refine pu (ev tab rfl) rfl ?_
    first | refine pu (ev tab rfl) rfl ?_ | refine pu (loadRow tab rfl rfl rfl rfl) rfl ?_ | refine pu (loadBox tab rfl rfl rfl rfl rfl) rfl ?_
    refine pu (ev tab rfl) rfl ?_
    refine WO.nil ?_
    refine qs ?_
    refine condK rfl (fun h16 => ?_) (fun h16 => ?_)
    · skip
      have h16 : v.kind ≠ 0 := by simpa using h16
      refine W.region ?_
      refine pu (ev tab rfl) rfl ?_
      first | refine pu (ev tab rfl) rfl ?_ | refine pu (loadRow tab rfl rfl rfl rfl) rfl ?_ | refine pu (loadBox tab rfl rfl rfl rfl rfl) rfl ?_
      refine pu (buildV tab rfl rfl rfl rfl rfl rfl rfl rfl rfl) rfl ?_
      refine appendM tab rfl rfl rfl rfl rfl rfl rfl rfl rfl rfl (fun _ => rfl) (by show (vs.length + 1) * 32 ≤ _; omega) ?_
      refine pu (ev tab rfl) rfl ?_
      refine WO.nil ?_
      refine qbN ?_
      refine qs ?_
      refine W.region ?_
      iterate 2 refine pu (ev tab rfl) rfl ?_
      refine WO.nil ?_
      first | (refine W.endR [0, 3] ⟨(k + 1, vs ++ [v]), ?_⟩ ?_ rfl ?_ ⟨rfl, rfl, rfl, rfl, rfl, rfl, rfl, rfl, trivial⟩ ?_ ⟨rfl, rfl, trivial⟩ rfl) | (refine W.endR [0, 1] ⟨(k + 1, vs), ?_⟩ ?_ rfl ?_ ⟨rfl, rfl, rfl, rfl, rfl, rfl, rfl, rfl, trivial⟩ ?_ ⟨rfl, rfl, trivial⟩ rfl)
      · first | exact ⟨hlt, by rw [someV_succ hx, if_neg h16, hI]⟩ | exact ⟨hlt, by rw [someV_succ hx, if_pos h16, hI]⟩
      · dsimp only; omega
      · repeat' first | exact trivial | refine ⟨rfl, ?_⟩ | refine ⟨step_nat (by assumption) (by assumption), ?_⟩
      · repeat' first | exact trivial | refine ⟨rfl, ?_⟩ | refine ⟨step_nat (by assumption) (by assumption), ?_⟩
    · skip
      have h16 : v.kind = 0 := by simpa using h16
      refine W.skip ?_
      refine qbN ?_
      refine qs ?_
      refine W.region ?_
      iterate 2 refine pu (ev tab rfl) rfl ?_
      refine WO.nil ?_
      first | (refine W.endR [0, 3] ⟨(k + 1, vs ++ [v]), ?_⟩ ?_ rfl ?_ ⟨rfl, rfl, rfl, rfl, rfl, rfl, rfl, rfl, trivial⟩ ?_ ⟨rfl, rfl, trivial⟩ rfl) | (refine W.endR [0, 1] ⟨(k + 1, vs), ?_⟩ ?_ rfl ?_ ⟨rfl, rfl, rfl, rfl, rfl, rfl, rfl, rfl, trivial⟩ ?_ ⟨rfl, rfl, trivial⟩ rfl)
      · first | exact ⟨hlt, by rw [someV_succ hx, if_neg h16, hI]⟩ | exact ⟨hlt, by rw [someV_succ hx, if_pos h16, hI]⟩
      · dsimp only; omega
      · repeat' first | exact trivial | refine ⟨rfl, ?_⟩ | refine ⟨step_nat (by assumption) (by assumption), ?_⟩
      · repeat' first | exact trivial | refine ⟨rfl, ?_⟩ | refine ⟨step_nat (by assumption) (by assumption), ?_⟩
  · skip
    have hI : vs = someV l := by rw [hI, he, List.take_length]
    subst hI
    have hvl : (someV l).length ≤ 1000000 := Nat.le_trans (someV_len _) hl
    refine W.exit ?_
    refine qsExit ?_
    refine qlExit ?_
    refine qbExit ?_
    refine qs ?_
    refine W.seq ?_
    refine W.block ?_
    refine W.seq ?_
    refine W.region ?_
    iterate 3 refine pu (ev tab rfl) rfl ?_
    refine WO.nil ?_
    refine qs ?_
    refine condK rfl (fun h22 => ?_) (fun h22 => ?_)
    · skip
      have h22 : fn = wCount := of_decide_eq_true h22
      refine W.seq ?_
      refine W.region ?_
      iterate 2 refine pu (ev tab rfl) rfl ?_
      refine pu (puCall rfl rfl rfl (enumber_fn ..) rfl) rfl ?_
      refine storeR tab rfl rfl rfl rfl rfl rfl rfl rfl ?_
      refine WO.nil ?_
      refine qs ?_
      refine W.ret ?_
      refine qbRet ?_
      refine qsRet ?_
      refine QV.ret0 tab trivial rfl ?_
      rw [show aggV fn l = numV l.length by simp only [aggV, if_pos h22]]; simp only [List.length_map]; rfl
    · skip
      have h22 : fn ≠ wCount := of_decide_eq_false h22
      refine W.seq ?_
      refine W.region ?_
      iterate 3 refine pu (ev tab rfl) rfl ?_
      refine WO.nil ?_
      refine qs ?_
      refine condK rfl (fun h28 => ?_) (fun h28 => ?_)
      · skip
        have h28 : fn = wSum := of_decide_eq_true h28
        refine W.seq ?_
        refine W.region ?_
        refine pu (ev tab rfl) rfl ?_
        refine pu (puCall rfl rfl rfl (esum_fn (someV l) hvl someV_nn) rfl) rfl ?_
        refine storeR tab rfl rfl rfl rfl rfl rfl rfl rfl ?_
        refine WO.nil ?_
        refine qs ?_
        refine W.ret ?_
        refine qbRet ?_
        refine qsRet ?_
        refine QV.ret0 tab trivial rfl ?_
        rw [show aggV fn l = sumV (someV l) by simp only [aggV, if_neg h22, if_pos h28, sumV_some]]; rfl
      · skip
        have h28 : fn ≠ wSum := of_decide_eq_false h28
        refine W.seq ?_
        apply regionB; (case hb => rfl)
        · skip
          iterate 3 refine pu (ev tab rfl) rfl ?_
          apply splitJ; (case hj => rfl); (case hl => rfl)
          · skip
            refine goG rfl rfl ?_
            refine pu (ev tab rfl) rfl ?_
            refine goG rfl rfl ?_
            refine pu (ev tab rfl) rfl ?_
            refine goG rfl rfl ?_
            iterate 3 refine pu (ev tab rfl) rfl ?_
            refine WO.nil ?_
            refine qv1 rfl rfl rfl
          · skip
            refine skipT rfl rfl rfl rfl ?_
            refine skipT rfl rfl rfl rfl ?_
            refine skipT rfl rfl rfl rfl ?_
            iterate 2 refine pu (ev tab rfl) rfl ?_
            refine WO.nil ?_
            refine qv1 rfl rfl rfl
        refine qs ?_
        refine condK rfl (fun h33 => ?_) (fun h33 => ?_)
        · skip
          rw [bifAnd] at h33
          have h33 : fn = wFirst ∧ l ≠ [] := by simp at h33; exact ⟨h33.1, by rintro rfl; simp at h33⟩
          have hl0 : 1 ≤ l.length := by cases l with | nil => exact absurd rfl h33.2 | cons a r => simp
          refine W.seq ?_
          refine W.region ?_
          refine pu (ev tab rfl) rfl ?_
          refine pu (indexAddr tab rfl rfl rfl rfl rfl rfl (Int.le_refl _) (idx_map (l0 hl0)) rfl) rfl ?_
          first | refine pu (ev tab rfl) rfl ?_ | refine pu (loadRow tab rfl rfl rfl rfl) rfl ?_ | refine pu (loadBox tab rfl rfl rfl rfl rfl) rfl ?_
          refine storeR tab rfl rfl rfl rfl rfl rfl rfl rfl ?_
          refine WO.nil ?_
          refine qs ?_
          refine W.ret ?_
          refine qbRet ?_
          refine qsRet ?_
          refine QV.ret0 tab trivial rfl ?_
          rw [show aggV fn l = l.getD 0 nullV by simp only [aggV, if_neg h22, if_neg h28, if_pos h33]; cases l <;> rfl]; rfl
        · skip
          rw [bifAnd] at h33
          have h33 : ¬ (fn = wFirst ∧ l ≠ []) := by rintro ⟨h1, h2⟩; rw [h1] at h33; simp [wFirst] at h33; exact h2 h33
          refine W.seq ?_
          apply regionB; (case hb => rfl)
          · skip
            iterate 3 refine pu (ev tab rfl) rfl ?_
            apply splitJ; (case hj => rfl); (case hl => rfl)
            · skip
              refine goG rfl rfl ?_
              refine pu (ev tab rfl) rfl ?_
              refine goG rfl rfl ?_
              refine pu (ev tab rfl) rfl ?_
              refine goG rfl rfl ?_
              iterate 3 refine pu (ev tab rfl) rfl ?_
              refine WO.nil ?_
              refine qv1 rfl rfl rfl
            · skip
              refine skipT rfl rfl rfl rfl ?_
              refine skipT rfl rfl rfl rfl ?_
              refine skipT rfl rfl rfl rfl ?_
              iterate 2 refine pu (ev tab rfl) rfl ?_
              refine WO.nil ?_
              refine qv1 rfl rfl rfl
          refine qs ?_
          refine condK rfl (fun h44 => ?_) (fun h44 => ?_)
          · skip
            rw [bifAnd] at h44
            have h44 : fn = wMin ∧ someV l ≠ [] := by simp at h44; exact ⟨h44.1, by intro h; rw [h] at h44; simp at h44⟩
            refine W.seq ?_
            refine W.region ?_
            refine pu (ev tab rfl) rfl ?_
            refine pu (puCall rfl rfl rfl (minFunc_fn _ h44.2) rfl) rfl ?_
            refine storeR tab rfl rfl rfl rfl rfl rfl rfl rfl ?_
            refine WO.nil ?_
            refine qs ?_
            refine W.ret ?_
            refine qbRet ?_
            refine qsRet ?_
            refine QV.ret0 tab trivial rfl ?_
            rw [aggV_best (.inl h44.1), h44.1, better_min]; rfl
          · skip
            rw [bifAnd] at h44
            have h44 : fn = wMin → someV l = [] := by intro h1; rw [h1] at h44; simp [wMin] at h44; exact h44
            refine W.seq ?_
            apply regionB; (case hb => rfl)
            · skip
              iterate 3 refine pu (ev tab rfl) rfl ?_
              apply splitJ; (case hj => rfl); (case hl => rfl)
              · skip
                refine goG rfl rfl ?_
                refine pu (ev tab rfl) rfl ?_
                refine goG rfl rfl ?_
                refine pu (ev tab rfl) rfl ?_
                refine goG rfl rfl ?_
                iterate 3 refine pu (ev tab rfl) rfl ?_
                refine WO.nil ?_
                refine qv1 rfl rfl rfl
              · skip
                refine skipT rfl rfl rfl rfl ?_
                refine skipT rfl rfl rfl rfl ?_
                refine skipT rfl rfl rfl rfl ?_
                iterate 2 refine pu (ev tab rfl) rfl ?_
                refine WO.nil ?_
                refine qv1 rfl rfl rfl
            refine qs ?_
            refine condK rfl (fun h54 => ?_) (fun h54 => ?_)
            · skip
              rw [bifAnd] at h54
              have h54 : fn = wMax ∧ someV l ≠ [] := by simp at h54; exact ⟨h54.1, by intro h; rw [h] at h54; simp at h54⟩
              refine W.seq ?_
              refine W.region ?_
              refine pu (ev tab rfl) rfl ?_
              refine pu (puCall rfl rfl rfl (maxFunc_fn _ h54.2) rfl) rfl ?_
              refine storeR tab rfl rfl rfl rfl rfl rfl rfl rfl ?_
              refine WO.nil ?_
              refine qs ?_
              refine W.ret ?_
              refine qbRet ?_
              refine qsRet ?_
              refine QV.ret0 tab trivial rfl ?_
              rw [aggV_best (.inr h54.1), h54.1, better_max]; rfl
            · skip
              rw [bifAnd] at h54
              have h54 : fn = wMax → someV l = [] := by intro h1; rw [h1] at h54; simp [wMax] at h54; exact h54
              refine W.skip ?_
              refine qbN ?_
              refine qs ?_
              refine W.seq ?_
              refine W.region ?_
              refine pu (build tab rfl rfl rfl rfl) rfl ?_
              refine storeR tab rfl rfl rfl rfl rfl rfl rfl rfl ?_
              refine WO.nil ?_
              refine qs ?_
              refine W.ret ?_
              refine QV.ret0 tab trivial rfl ?_
              rw [show aggV fn l = nullV by
                  by_cases h1 : fn = wMin
                  · rw [aggV_best (.inl h1), h44 h1]; rfl
                  · by_cases h2 : fn = wMax
                    · rw [aggV_best (.inr h2), h54 h2]; rfl
                    · exact aggV_other h22 h28 h33 h1 h2]; rfl
end Go.Proofs.YtaifpecinbjgcabGreat
namespace Go.Proofs.YtaifpecinbjgcabGreat
open Go.Ab Go.Tb
set_option maxRecDepth 10000
attribute [local irreducible] W WO Pu QS QB QL QF QV QV1 CH QE
end Go.Proofs.YtaifpecinbjgcabGreat
