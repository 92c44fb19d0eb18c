import Derived.Test.YtaifpecinbjgcabGreatQ5
namespace Go.Proofs.YtaifpecinbjgcabGreat
open Go.Ab Go.Tb
set_option maxRecDepth 10000
attribute [local irreducible] W WO Pu QS QB QL QF QV QV1 CH QE
theorem texprN_fn (e : Ex) : Does Tryz.prog 9 [.d (.v (.slice none 0 0)), .ag e.c] (.tup [.d (.v (.int .i64 (exprT [] e).1)), .d (.v (.int .i64 (exprT [] e).2))]) 0 :=
  Does.nilAt (xs := []) (texpr_fn [] e)
theorem evalueN_fn (e : Ex) (hv : nodesErr e = 0) (ht : (typ [] e).2 = 0) : Does Tryz.prog 24 [.d (.v (.slice none 0 0)), .d (.v (.slice none 0 0)), .ag e.c] (.ag (evalV [] [] e).c) 0 :=
  Does.nilAt (xs := []) (Does.nilAt (xs := [.d (.sl [])]) (evalue_fn [] [] rfl e hv ht))
theorem efold_fn : ∀ (e : Ex), nodesErr e = 0 → Does Tryz.prog 19 [.ag e.c] (.ag (foldE e).c) 0 := by
  refine Ex.ind fun e ih => ?_
  intro hv
  have hkv := valid_kids (valid_node hv)
  have hq := foldE_eq e
  refine Does.of_V tab (n := 56) (rs := [.cell 2 30]) Tryz.func19 (by kernel_rfl) rfl Tryz.ntmps19 Tryz.results19 rfl fun C hC hG => ?_
  refine W.seq ?_
  refine W.region ?_
  refine boxR rfl rfl rfl ?_
  refine allocR tab rfl rfl rfl ?_
  refine WO.nil ?_
  refine qs ?_
  refine W.seq ?_
  refine W.seq ?_
  refine W.region ?_
  refine pu (ev tab rfl) rfl ?_
  first | refine pu (ev tab rfl) rfl ?_ | refine pu (loadRow tab rfl rfl rfl rfl) rfl ?_ | refine pu (loadBox tab rfl rfl rfl rfl rfl) rfl ?_
  iterate 2 refine pu (ev tab rfl) rfl ?_
  refine WO.nil ?_
  refine qs ?_
  refine condK rfl (fun h13 => ?_) (fun h13 => ?_)
  · skip
    have h13 : e.kids.length = 0 := by rw [Ex.kc_len] at h13; simpa using h13
    rw [if_pos h13] at hq
    refine W.seq ?_
    refine W.region ?_
    first | refine pu (ev tab rfl) rfl ?_ | refine pu (loadRow tab rfl rfl rfl rfl) rfl ?_ | refine pu (loadBox tab rfl rfl rfl rfl rfl) rfl ?_
    refine storeR tab rfl rfl rfl rfl rfl rfl rfl rfl ?_
    refine WO.nil ?_
    refine qs ?_
    try refine nilBox 1 5 rfl rfl rfl ?_
    refine W.ret ?_
    refine qsRet ?_
    refine QV.ret0 tab trivial rfl ?_
    rw [hq]; rfl
  · skip
    have h13 : ¬ e.kids.length = 0 := by rw [Ex.kc_len] at h13; simpa using h13
    rw [if_neg h13] at hq
    have hop := kids_op hv h13
    refine W.skip ?_
    refine qs ?_
    refine W.seq ?_
    refine W.region ?_
    refine pu (ev tab rfl) rfl ?_
    first | refine pu (ev tab rfl) rfl ?_ | refine pu (loadRow tab rfl rfl rfl rfl) rfl ?_ | refine pu (loadBox tab rfl rfl rfl rfl rfl) rfl ?_
    refine pu (ev tab rfl) rfl ?_
    first | refine pu (ev tab rfl) rfl ?_ | refine pu (loadRow tab rfl rfl rfl rfl) rfl ?_ | refine pu (loadBox tab rfl rfl rfl rfl rfl) rfl ?_
    refine pu (build tab rfl rfl rfl rfl) rfl ?_
    refine allocR tab rfl rfl rfl ?_
    refine storeR tab rfl rfl rfl rfl rfl rfl rfl rfl ?_
    refine WO.nil ?_
    refine qs ?_
    refine W.seq ?_
    refine W.region ?_
    refine pu (ev tab rfl) rfl ?_
    refine WO.nil ?_
    refine qs ?_
    refine W.seq ?_
    refine W.seq ?_
    refine W.region ?_
    refine pu (ev tab rfl) rfl ?_
    first | refine pu (ev tab rfl) rfl ?_ | refine pu (loadRow tab rfl rfl rfl rfl) rfl ?_ | refine pu (loadBox tab rfl rfl rfl rfl rfl) rfl ?_
    iterate 2 refine pu (ev tab rfl) rfl ?_
    refine WO.nil ?_
    refine qs ?_
    refine W.block ?_
    refine ownNilBox 2 5 rfl rfl rfl ?_
    refine W.len (t := 21) rfl rfl (fun hlen => ?_)
    try simp only [List.length_map, Ex.kc_len] at hlen
    refine W.loopR (ι := {x : Nat × List Ex // match x with | (k, ks) => k ≤ e.kids.length ∧ ks = (e.kids.take k).map foldE})
      (fun x => match x.1 with | (k, ks) => [(2, .ptr 1 0), (3, .ptr 2 0), (4, .d (.v (.bool (ks.all isC)))), (23, .d (.v (.int .i64 ((k : Nat) : Int))))]) [(21, _), (22, _)]
      (fun x => match x.1 with | (k, ks) => [(2, [.d (ci e.op), .d (cs e.name), .d (ci 0), .d (ci 0), .d (cs (B #[])), .own 3 (ks.map Ex.c)])]) [(0, _), (1, _)] [3] 4 (fun x => match x.1 with | (k, ks) => e.kids.length - k)
      [0, 1, 2, 3] ⟨(0, []), ?_⟩ rfl ?_ ⟨rfl, rfl, rfl, rfl, trivial⟩ ?_ ⟨rfl, rfl, rfl, rfl, trivial⟩ rfl ?_
    · exact ⟨Nat.zero_le _, rfl⟩
    · repeat' first | exact trivial | refine ⟨rfl, ?_⟩ | refine ⟨step_nat (by assumption) (by assumption), ?_⟩
    · repeat' first | exact trivial | refine ⟨rfl, ?_⟩ | refine ⟨step_nat (by assumption) (by assumption), ?_⟩
    rintro ⟨⟨k, ks⟩, hk, hI⟩
    show W _ _ _ _ _ ⟨[(2, .ptr 1 0), (3, .ptr 2 0), (4, .d (.v (.bool (ks.all isC)))), (23, .d (.v (.int .i64 ((k : Nat) : Int)))), (21, _), (22, _)], [(2, [.d (ci e.op), .d (cs e.name), .d (ci 0), .d (ci 0), .d (cs (B #[])), .own 3 (ks.map Ex.c)]), (0, _), (1, _)], [3], 4⟩
    refine W.seq ?_
    refine W.region ?_
    refine pu (ev tab rfl) rfl ?_
    refine WO.nil ?_
    refine qs ?_
    refine W.seq ?_
    refine eachR (l := e.kids) (k := k) rfl (by simp [Ex.kc_len, bytes_len]) hk (fun x hx hd hlt => ?_) (fun he hd => ?_)
    · skip
      have hmem := List.mem_of_getElem? hx
      have hkl : ks.length ≤ 2 := by rw [hI, List.length_map, List.length_take]; have := hkv.2.2.2.2.1; omega
      refine W.skip ?_
      refine qs ?_
      refine W.seq ?_
      refine W.block ?_
      refine W.seq ?_
      refine W.region ?_
      refine pu (indexAddr tab rfl rfl rfl rfl rfl rfl (Int.natCast_nonneg _) (Ex.kc_idx hx) rfl) rfl ?_
      first | refine pu (ev tab rfl) rfl ?_ | refine pu (loadRow tab rfl rfl rfl rfl) rfl ?_ | refine pu (loadBox tab rfl rfl rfl rfl rfl) rfl ?_
      refine allocR tab rfl rfl rfl ?_
      refine storeR tab rfl rfl rfl rfl rfl rfl rfl rfl ?_
      refine WO.nil ?_
      refine qs ?_
      refine W.seq ?_
      refine W.region ?_
      first | refine pu (ev tab rfl) rfl ?_ | refine pu (loadRow tab rfl rfl rfl rfl) rfl ?_ | refine pu (loadBox tab rfl rfl rfl rfl rfl) rfl ?_
      refine pu (puCall rfl rfl rfl (ih x hmem (valid_kid hv hmem)) rfl) rfl ?_
      refine allocR tab rfl rfl rfl ?_
      refine storeR tab rfl rfl rfl rfl rfl rfl rfl rfl ?_
      refine WO.nil ?_
      refine qs ?_
      refine W.seq ?_
      apply regionB; (case hb => rfl)
      · skip
        iterate 2 refine pu (ev tab rfl) rfl ?_
        apply splitJ; (case hj => rfl); (case hl => rfl)
        · skip
          refine goG rfl rfl ?_
          refine pu (ev tab rfl) rfl ?_
          refine goG rfl rfl ?_
          first | refine pu (ev tab rfl) rfl ?_ | refine pu (loadRow tab rfl rfl rfl rfl) rfl ?_ | refine pu (loadBox tab rfl rfl rfl rfl rfl) rfl ?_
          refine goG rfl rfl ?_
          iterate 3 refine pu (ev tab rfl) rfl ?_
          refine WO.nil ?_
          refine qv1 rfl rfl rfl
        · skip
          refine skipT rfl rfl rfl rfl ?_
          refine skipT rfl rfl rfl rfl ?_
          refine skipT rfl rfl rfl rfl ?_
          iterate 2 refine pu (ev tab rfl) rfl ?_
          refine WO.nil ?_
          refine qv1 rfl rfl rfl
      refine qs ?_
      refine W.region ?_
      refine pu (ev tab rfl) rfl ?_
      first | refine pu (ev tab rfl) rfl ?_ | refine pu (loadRow tab rfl rfl rfl rfl) rfl ?_ | refine pu (loadBox tab rfl rfl rfl rfl rfl) rfl ?_
      first | refine pu (ev tab rfl) rfl ?_ | refine pu (loadRow tab rfl rfl rfl rfl) rfl ?_ | refine pu (loadBox tab rfl rfl rfl rfl rfl) rfl ?_
      refine pu (buildV tab rfl rfl rfl rfl rfl rfl rfl rfl rfl) rfl ?_
      refine appendM tab rfl rfl rfl rfl rfl rfl rfl rfl rfl rfl (fun _ => rfl) (by show (ks.length + 1) * 80 ≤ _; omega) ?_
      refine pu (ev tab rfl) rfl ?_
      refine storeR tab rfl rfl rfl rfl rfl rfl rfl rfl ?_
      refine WO.nil ?_
      refine qbN ?_
      refine qs ?_
      refine W.region ?_
      iterate 2 refine pu (ev tab rfl) rfl ?_
      refine WO.nil ?_
      rw [bifAnd, show (ks.all isC && decide ((foldE x).op = 1)) = (ks ++ [foldE x]).all isC by simp [isC]]
      refine W.endR [0, 1, 2, 6] ⟨(k + 1, ks ++ [foldE x]), ?_⟩ ?_ rfl ?_ ⟨rfl, rfl, rfl, rfl, trivial⟩ ?_ ⟨rfl, rfl, rfl, rfl, trivial⟩ rfl
      · exact ⟨hlt, by rw [take_map_succ hx, hI]⟩
      · dsimp only; omega
      · repeat' first | exact trivial | refine ⟨rfl, ?_⟩ | refine ⟨step_nat (by assumption) (by assumption), ?_⟩
      · repeat' first | exact trivial | refine ⟨rfl, ?_⟩ | refine ⟨step_nat (by assumption) (by assumption), ?_⟩
    · skip
      have hI : ks = e.kids.map foldE := by rw [hI, take_map_end he]
      rw [← Ex.kcs_eq]
      refine W.exit ?_
      refine qsExit ?_
      refine qlExit ?_
      refine qbExit ?_
      refine qs ?_
      refine W.seq ?_
      refine W.seq ?_
      refine W.region ?_
      iterate 2 refine pu (ev tab rfl) rfl ?_
      refine WO.nil ?_
      refine qs ?_
      refine condK rfl (fun h43 => ?_) (fun h43 => ?_)
      · skip
        have h43 : ks.all isC = false := by simpa using h43
        refine W.seq ?_
        refine W.region ?_
        first | refine pu (ev tab rfl) rfl ?_ | refine pu (loadRow tab rfl rfl rfl rfl) rfl ?_ | refine pu (loadBox tab rfl rfl rfl rfl rfl) rfl ?_
        refine storeR tab rfl rfl rfl rfl rfl rfl rfl rfl ?_
        refine WO.nil ?_
        refine qs ?_
        try refine nilBox 1 5 rfl rfl rfl ?_
        refine W.ret ?_
        refine qsRet ?_
        refine QV.ret0 tab trivial rfl ?_
        rw [hq, ← hI, show foldN e ks = outE e ks by simp only [foldN, if_pos h43]]; rfl
      · skip
        have h43 : ¬ ks.all isC = false := by simpa using h43
        refine W.skip ?_
        refine qs ?_
        refine W.seq ?_
        refine W.seq ?_
        refine W.region ?_
        first | refine pu (ev tab rfl) rfl ?_ | refine pu (loadRow tab rfl rfl rfl rfl) rfl ?_ | refine pu (loadBox tab rfl rfl rfl rfl rfl) rfl ?_
        refine pu (puCall rfl rfl rfl (texprN_fn (outE e ks)) rfl) rfl ?_
        iterate 5 refine pu (ev tab rfl) rfl ?_
        refine WO.nil ?_
        refine qs ?_
        refine W.seq ?_
        refine W.region ?_
        iterate 2 refine pu (ev tab rfl) rfl ?_
        refine WO.nil ?_
        refine qs ?_
        refine condK rfl (fun h51 => ?_) (fun h51 => ?_)
        · skip
          have h51 : (exprT [] (outE e ks)).2 ≠ 0 := by simpa using h51
          refine W.seq ?_
          refine W.region ?_
          first | refine pu (ev tab rfl) rfl ?_ | refine pu (loadRow tab rfl rfl rfl rfl) rfl ?_ | refine pu (loadBox tab rfl rfl rfl rfl rfl) rfl ?_
          refine storeR tab rfl rfl rfl rfl rfl rfl rfl rfl ?_
          refine WO.nil ?_
          refine qs ?_
          try refine nilBox 1 5 rfl rfl rfl ?_
          refine W.ret ?_
          refine qsRet ?_
          refine QV.ret0 tab trivial rfl ?_
          rw [hq, ← hI, show foldN e ks = outE e ks by simp only [foldN, if_neg h43, if_pos h51]]; rfl
        · skip
          have h51 : (exprT [] (outE e ks)).2 = 0 := by simpa using h51
          have ho := exprT_ok h51
          refine W.skip ?_
          refine qs ?_
          refine W.seq ?_
          refine W.region ?_
          first | refine pu (ev tab rfl) rfl ?_ | refine pu (loadRow tab rfl rfl rfl rfl) rfl ?_ | refine pu (loadBox tab rfl rfl rfl rfl rfl) rfl ?_
          refine pu (puCall rfl rfl rfl (evalueN_fn (outE e ks) (exprErr_zero ho.1) ho.2) rfl) rfl ?_
          refine pu (build tab rfl rfl rfl rfl) rfl ?_
          refine storeR tab rfl rfl rfl rfl rfl rfl rfl rfl ?_
          refine WO.nil ?_
          refine qs ?_
          try refine nilBox 1 5 rfl rfl rfl ?_
          refine W.ret ?_
          refine QV.ret0 tab trivial rfl ?_
          rw [hq, ← hI, show foldN e ks = .mk 1 (B #[]) (evalV [] [] (outE e ks)) [] by simp only [foldN, if_neg h43]; rw [if_neg (by simpa using h51)]]
          rfl
theorem eFold_fn (e : Ex) : Does Tryz.prog 6 [.ag e.c] (.ag (foldX e).c) 0 := by
  refine Does.of_V tab (n := 9) (rs := [.cell 2 30]) Tryz.func6 (by kernel_rfl) rfl Tryz.ntmps6 Tryz.results6 rfl fun C hC hG => ?_
  refine W.seq ?_
  refine W.region ?_
  refine boxR rfl rfl rfl ?_
  refine allocR tab rfl rfl rfl ?_
  refine WO.nil ?_
  refine qs ?_
  refine W.seq ?_
  refine W.seq ?_
  refine W.region ?_
  first | refine pu (ev tab rfl) rfl ?_ | refine pu (loadRow tab rfl rfl rfl rfl) rfl ?_ | refine pu (loadBox tab rfl rfl rfl rfl rfl) rfl ?_
  refine pu (puCall rfl rfl rfl (expr_fn ..) rfl) rfl ?_
  refine pu (ev tab rfl) rfl ?_
  refine WO.nil ?_
  refine qs ?_
  refine condK rfl (fun h5 => ?_) (fun h5 => ?_)
  · skip
    have h5 : exprErr e ≠ 0 := by simpa using h5
    refine W.seq ?_
    refine W.region ?_
    first | refine pu (ev tab rfl) rfl ?_ | refine pu (loadRow tab rfl rfl rfl rfl) rfl ?_ | refine pu (loadBox tab rfl rfl rfl rfl rfl) rfl ?_
    refine storeR tab rfl rfl rfl rfl rfl rfl rfl rfl ?_
    refine WO.nil ?_
    refine qs ?_
    refine W.ret ?_
    refine qsRet ?_
    refine QV.ret0 tab trivial rfl ?_
    rw [show foldX e = e by simp only [foldX, if_pos h5]]; rfl
  · skip
    have h5 : ¬ exprErr e ≠ 0 := by simpa using h5
    refine W.skip ?_
    refine qs ?_
    refine W.seq ?_
    refine W.region ?_
    first | refine pu (ev tab rfl) rfl ?_ | refine pu (loadRow tab rfl rfl rfl rfl) rfl ?_ | refine pu (loadBox tab rfl rfl rfl rfl rfl) rfl ?_
    refine pu (puCall rfl rfl rfl (efold_fn e (exprErr_zero (by simpa using h5))) rfl) rfl ?_
    refine storeR tab rfl rfl rfl rfl rfl rfl rfl rfl ?_
    refine WO.nil ?_
    refine qs ?_
    refine W.ret ?_
    refine QV.ret0 tab trivial rfl ?_
    rw [show foldX e = foldE e by simp only [foldX, if_neg h5]]; rfl
theorem same_fn : ∀ (a b : Ex), Does Tryz.prog 7 [.ag a.c, .ag b.c] (.d (.v (.bool (sameE a b)))) 0 := by
  refine Ex.ind fun a ih => ?_
  intro b
  have hq := sameE_eq a b
  refine Does.of_W (n := 53) (ts := [4]) Tryz.func7 (by kernel_rfl) rfl Tryz.ntmps7 Tryz.results7 rfl rfl fun C hC hG => ?_
  refine W.seq ?_
  refine W.region ?_
  refine boxR rfl rfl rfl ?_
  refine boxR rfl rfl rfl ?_
  refine pu (ev tab rfl) rfl ?_
  refine WO.nil ?_
  refine qs ?_
  refine W.seq ?_
  refine W.seq ?_
  apply regionB; (case hb => rfl)
  · skip
    refine pu (ev tab rfl) rfl ?_
    first | refine pu (ev tab rfl) rfl ?_ | refine pu (loadRow tab rfl rfl rfl rfl) rfl ?_ | refine pu (loadBox tab rfl rfl rfl rfl rfl) rfl ?_
    refine pu (ev tab rfl) rfl ?_
    first | refine pu (ev tab rfl) rfl ?_ | refine pu (loadRow tab rfl rfl rfl rfl) rfl ?_ | refine pu (loadBox tab rfl rfl rfl rfl rfl) rfl ?_
    iterate 2 refine pu (ev tab rfl) rfl ?_
    apply splitJ; (case hj => rfl); (case hl => rfl)
    · skip
      refine skipT rfl rfl rfl rfl ?_
      refine skipT rfl rfl rfl rfl ?_
      refine skipT rfl rfl rfl rfl ?_
      refine skipT rfl rfl rfl rfl ?_
      refine skipT rfl rfl rfl rfl ?_
      iterate 2 refine pu (ev tab rfl) rfl ?_
      refine skipT rfl rfl rfl rfl ?_
      refine skipT rfl rfl rfl rfl ?_
      refine skipT rfl rfl rfl rfl ?_
      refine skipT rfl rfl rfl rfl ?_
      refine skipT rfl rfl rfl rfl ?_
      iterate 2 refine pu (ev tab rfl) rfl ?_
      refine skipT rfl rfl rfl rfl ?_
      refine skipT rfl rfl rfl rfl ?_
      refine skipT rfl rfl rfl rfl ?_
      refine skipT rfl rfl rfl rfl ?_
      refine skipT rfl rfl rfl rfl ?_
      refine skipT rfl rfl rfl rfl ?_
      refine skipT rfl rfl rfl rfl ?_
      refine pu (ev tab rfl) rfl ?_
      refine WO.nil ?_
      refine qv1 rfl rfl rfl
    · skip
      refine goG rfl rfl ?_
      refine pu (ev tab rfl) rfl ?_
      refine goG rfl rfl ?_
      first | refine pu (ev tab rfl) rfl ?_ | refine pu (loadRow tab rfl rfl rfl rfl) rfl ?_ | refine pu (loadBox tab rfl rfl rfl rfl rfl) rfl ?_
      refine goG rfl rfl ?_
      refine pu (ev tab rfl) rfl ?_
      refine goG rfl rfl ?_
      first | refine pu (ev tab rfl) rfl ?_ | refine pu (loadRow tab rfl rfl rfl rfl) rfl ?_ | refine pu (loadBox tab rfl rfl rfl rfl rfl) rfl ?_
      refine goG rfl rfl ?_
      iterate 3 refine pu (ev tab rfl) rfl ?_
      apply splitJ; (case hj => rfl); (case hl => rfl)
      · skip
        refine skipT rfl rfl rfl rfl ?_
        refine skipT rfl rfl rfl rfl ?_
        refine skipT rfl rfl rfl rfl ?_
        refine skipT rfl rfl rfl rfl ?_
        refine skipT rfl rfl rfl rfl ?_
        iterate 2 refine pu (ev tab rfl) rfl ?_
        refine skipT rfl rfl rfl rfl ?_
        refine skipT rfl rfl rfl rfl ?_
        refine skipT rfl rfl rfl rfl ?_
        refine skipT rfl rfl rfl rfl ?_
        refine skipT rfl rfl rfl rfl ?_
        refine skipT rfl rfl rfl rfl ?_
        refine skipT rfl rfl rfl rfl ?_
        refine pu (ev tab rfl) rfl ?_
        refine WO.nil ?_
        refine qv1 rfl rfl rfl
      · skip
        refine goG rfl rfl ?_
        refine pu (ev tab rfl) rfl ?_
        refine goG rfl rfl ?_
        first | refine pu (ev tab rfl) rfl ?_ | refine pu (loadRow tab rfl rfl rfl rfl) rfl ?_ | refine pu (loadBox tab rfl rfl rfl rfl rfl) rfl ?_
        refine goG rfl rfl ?_
        refine pu (ev tab rfl) rfl ?_
        refine goG rfl rfl ?_
        first | refine pu (ev tab rfl) rfl ?_ | refine pu (loadRow tab rfl rfl rfl rfl) rfl ?_ | refine pu (loadBox tab rfl rfl rfl rfl rfl) rfl ?_
        refine goG rfl rfl ?_
        iterate 3 refine pu (ev tab rfl) rfl ?_
        apply splitJ; (case hj => rfl); (case hl => rfl)
        · skip
          refine skipT rfl rfl rfl rfl ?_
          refine skipT rfl rfl rfl rfl ?_
          refine skipT rfl rfl rfl rfl ?_
          refine skipT rfl rfl rfl rfl ?_
          refine skipT rfl rfl rfl rfl ?_
          refine skipT rfl rfl rfl rfl ?_
          refine skipT rfl rfl rfl rfl ?_
          refine pu (ev tab rfl) rfl ?_
          refine WO.nil ?_
          refine qv1 rfl rfl rfl
        · skip
          refine goG rfl rfl ?_
          refine pu (ev tab rfl) rfl ?_
          refine goG rfl rfl ?_
          first | refine pu (ev tab rfl) rfl ?_ | refine pu (loadRow tab rfl rfl rfl rfl) rfl ?_ | refine pu (loadBox tab rfl rfl rfl rfl rfl) rfl ?_
          refine goG rfl rfl ?_
          refine pu (ev tab rfl) rfl ?_
          refine goG rfl rfl ?_
          refine pu (ev tab rfl) rfl ?_
          refine goG rfl rfl ?_
          first | refine pu (ev tab rfl) rfl ?_ | refine pu (loadRow tab rfl rfl rfl rfl) rfl ?_ | refine pu (loadBox tab rfl rfl rfl rfl rfl) rfl ?_
          refine goG rfl rfl ?_
          refine pu (ev tab rfl) rfl ?_
          refine goG rfl rfl ?_
          iterate 2 refine pu (ev tab rfl) rfl ?_
          refine WO.nil ?_
          refine qv1 rfl rfl rfl
  refine qs ?_
  refine condK rfl (fun h33 => ?_) (fun h33 => ?_)
  · skip
    rw [valEq, lenEq, same_cond] at h33
    refine W.seq ?_
    refine W.region ?_
    refine pu (ev tab rfl) rfl ?_
    refine WO.nil ?_
    refine qs ?_
    refine W.ret ?_
    refine qsRet ?_
    refine QF.ret0 trivial rfl ?_
    rw [hq, show (decide (a.op = b.op) && decide (a.name = b.name) && decide (a.v = b.v) && decide (a.kids.length = b.kids.length)) = false by rw [← Bool.not_eq_true', h33]]; rfl
  · skip
    rw [valEq, lenEq, same_cond, Bool.not_eq_false'] at h33
    have h33l : a.kids.length = b.kids.length := by simp only [Bool.and_eq_true, decide_eq_true_eq] at h33; exact h33.2
    refine W.skip ?_
    refine qs ?_
    refine W.seq ?_
    refine W.seq ?_
    refine W.region ?_
    refine pu (ev tab rfl) rfl ?_
    refine WO.nil ?_
    refine qs ?_
    refine W.block ?_
    refine lenBox (g := 0) (j := 5) rfl rfl (fun hlen => ?_)
    rw [Ex.kc_len] at hlen
    refine W.loopR (ι := {x : Nat // match x with | k => k ≤ a.kids.length ∧ sameL (a.kids.drop k) (b.kids.drop k) = sameL a.kids b.kids})
      (fun x => match x.1 with | k => [(2, .ptr 0 0), (3, .ptr 1 0), (5, .d (.v (.int .i64 ((k : Nat) : Int))))]) []
      (fun x => match x.1 with | k => []) [(0, _), (1, _)] [] 2 (fun x => match x.1 with | k => a.kids.length - k)
      [0, 1] ⟨0, ?_⟩ rfl ?_ trivial ?_ ⟨rfl, rfl, rfl, rfl, trivial⟩ rfl ?_
    · first | exact ⟨Nat.zero_le _, rfl⟩ | exact trivial | simp
    · repeat' first | exact trivial | refine ⟨rfl, ?_⟩ | refine ⟨step_nat (by assumption) (by assumption), ?_⟩
    · repeat' first | exact trivial | refine ⟨rfl, ?_⟩ | refine ⟨step_nat (by assumption) (by assumption), ?_⟩
    rintro ⟨k, hk, hI⟩
    show W _ _ _ _ _ ⟨[(2, .ptr 0 0), (3, .ptr 1 0), (5, .d (.v (.int .i64 ((k : Nat) : Int))))], [(0, _), (1, _)], [], 2⟩
    refine W.seq ?_
    refine W.seq ?_
    refine W.region ?_
    iterate 2 refine pu (ev tab rfl) rfl ?_
    first | refine pu (ev tab rfl) rfl ?_ | refine pu (loadRow tab rfl rfl rfl rfl) rfl ?_ | refine pu (loadBox tab rfl rfl rfl rfl rfl) rfl ?_
    iterate 2 refine pu (ev tab rfl) rfl ?_
    refine WO.nil ?_
    refine qs ?_
    refine eachR (l := a.kids) (k := k) rfl (by simp [Ex.kc_len, bytes_len]) hk (fun x hx hd hlt => ?_) (fun he hd => ?_)
    · skip
      obtain ⟨y, hy, hyd⟩ := exAt (l := b.kids) (k := k) (by omega)
      rw [hd, hyd] at hI
      simp only [sameL, List.headD_cons, List.tail_cons] at hI
      refine W.skip ?_
      refine qs ?_
      refine W.seq ?_
      refine W.block ?_
      refine W.seq ?_
      refine W.regionD tab (by kernel_rfl) ?_
      refine chPu (ev tab rfl) rfl ?_
      first | refine chPu (ev tab rfl) rfl ?_ | refine chPu (loadRow tab rfl rfl rfl rfl) rfl ?_ | refine chPu (loadBox tab rfl rfl rfl rfl rfl) rfl ?_
      refine chPu (ev tab rfl) rfl ?_
      refine chPu (indexAddr tab rfl rfl rfl rfl rfl rfl (Int.natCast_nonneg _) (Ex.kc_idx hx) rfl) rfl ?_
      first | refine chPu (ev tab rfl) rfl ?_ | refine chPu (loadRow tab rfl rfl rfl rfl) rfl ?_ | refine chPu (loadBox tab rfl rfl rfl rfl rfl) rfl ?_
      refine chPu (ev tab rfl) rfl ?_
      first | refine chPu (ev tab rfl) rfl ?_ | refine chPu (loadRow tab rfl rfl rfl rfl) rfl ?_ | refine chPu (loadBox tab rfl rfl rfl rfl rfl) rfl ?_
      refine chPu (ev tab rfl) rfl ?_
      refine chPu (indexAddr tab rfl rfl rfl rfl rfl rfl (Int.natCast_nonneg _) (Ex.kc_idx hy) rfl) rfl ?_
      first | refine chPu (ev tab rfl) rfl ?_ | refine chPu (loadRow tab rfl rfl rfl rfl) rfl ?_ | refine chPu (loadBox tab rfl rfl rfl rfl rfl) rfl ?_
      refine chPu (puCall rfl rfl rfl (ih x (List.mem_of_getElem? hx) y) rfl) rfl ?_
      refine chPu (ev tab rfl) rfl ?_
      refine CH.nil ?_
      refine qs ?_
      refine condK rfl (fun h52 => ?_) (fun h52 => ?_)
      · skip
        have h52 : sameE x y = false := by simpa using h52
        refine W.seq ?_
        refine W.region ?_
        refine pu (ev tab rfl) rfl ?_
        refine WO.nil ?_
        refine qs ?_
        refine W.ret ?_
        refine qbRet ?_
        refine qsRet ?_
        refine qlRet ?_
        refine qbRet ?_
        refine qsRet ?_
        refine QF.ret0 trivial rfl ?_
        rw [hq, ← hI, h52, Bool.false_and, Bool.and_false]; rfl
      · skip
        have h52 : sameE x y = true := by simpa using h52
        rw [h52, Bool.true_and] at hI
        refine W.skip ?_
        refine qbN ?_
        refine qs ?_
        refine W.region ?_
        iterate 3 refine pu (ev tab rfl) rfl ?_
        refine WO.nil ?_
        refine W.endR [0, 1] ⟨k + 1, ?_⟩ ?_ rfl ?_ trivial ?_ ⟨rfl, rfl, rfl, rfl, trivial⟩ rfl
        · exact ⟨hlt, hI⟩
        · dsimp only; omega
        · repeat' first | exact trivial | refine ⟨rfl, ?_⟩ | refine ⟨step_nat (by assumption) (by assumption), ?_⟩
        · repeat' first | exact trivial | refine ⟨rfl, ?_⟩ | refine ⟨step_nat (by assumption) (by assumption), ?_⟩
    · skip
      rw [hd] at hI
      refine W.exit ?_
      refine qsExit ?_
      refine qlExit ?_
      refine qbExit ?_
      refine qs ?_
      refine W.seq ?_
      refine W.region ?_
      refine pu (ev tab rfl) rfl ?_
      refine WO.nil ?_
      refine qs ?_
      refine W.ret ?_
      refine QF.ret0 trivial rfl ?_
      rw [hq, ← hI, h33]; rfl
theorem texts_fn : ∀ (e : Ex), Does Tryz.prog 12 [.ag e.c] (.d (.v (.bool (textsE e)))) 0 := by
  refine Ex.ind fun e ih => ?_
  have hq := textsE_eq e
  refine Does.of_W (n := 23) (ts := [2]) Tryz.func12 (by kernel_rfl) rfl Tryz.ntmps12 Tryz.results12 rfl rfl fun C hC hG => ?_
  refine W.seq ?_
  refine W.region ?_
  refine boxR rfl rfl rfl ?_
  refine pu (ev tab rfl) rfl ?_
  refine WO.nil ?_
  refine qs ?_
  refine W.seq ?_
  refine W.seq ?_
  refine W.region ?_
  refine pu (ev tab rfl) rfl ?_
  refine WO.nil ?_
  refine qs ?_
  refine W.block ?_
  refine lenBox (g := 0) (j := 5) rfl rfl (fun hlen => ?_)
  rw [Ex.kc_len] at hlen
  refine W.loopR (ι := {x : Nat // match x with | k => k ≤ e.kids.length ∧ textsL (e.kids.drop k) = textsL e.kids})
    (fun x => match x.1 with | k => [(1, .ptr 0 0), (3, .d (.v (.int .i64 ((k : Nat) : Int))))]) []
    (fun x => match x.1 with | k => []) [(0, _)] [] 1 (fun x => match x.1 with | k => e.kids.length - k)
    [0] ⟨0, ?_⟩ rfl ?_ trivial ?_ ⟨rfl, rfl, trivial⟩ rfl ?_
  · first | exact ⟨Nat.zero_le _, rfl⟩ | exact trivial | simp
  · repeat' first | exact trivial | refine ⟨rfl, ?_⟩ | refine ⟨step_nat (by assumption) (by assumption), ?_⟩
  · repeat' first | exact trivial | refine ⟨rfl, ?_⟩ | refine ⟨step_nat (by assumption) (by assumption), ?_⟩
  rintro ⟨k, hk, hI⟩
  show W _ _ _ _ _ ⟨[(1, .ptr 0 0), (3, .d (.v (.int .i64 ((k : Nat) : Int))))], [(0, _)], [], 1⟩
  refine W.seq ?_
  refine W.seq ?_
  refine W.region ?_
  iterate 2 refine pu (ev tab rfl) rfl ?_
  first | refine pu (ev tab rfl) rfl ?_ | refine pu (loadRow tab rfl rfl rfl rfl) rfl ?_ | refine pu (loadBox tab rfl rfl rfl rfl rfl) rfl ?_
  iterate 2 refine pu (ev tab rfl) rfl ?_
  refine WO.nil ?_
  refine qs ?_
  refine eachR (l := e.kids) (k := k) rfl (by simp [Ex.kc_len, bytes_len]) hk (fun x hx hd hlt => ?_) (fun he hd => ?_)
  · skip
    rw [hd] at hI
    simp only [textsL] at hI
    refine W.skip ?_
    refine qs ?_
    refine W.seq ?_
    refine W.block ?_
    refine W.seq ?_
    refine W.region ?_
    refine pu (ev tab rfl) rfl ?_
    first | refine pu (ev tab rfl) rfl ?_ | refine pu (loadRow tab rfl rfl rfl rfl) rfl ?_ | refine pu (loadBox tab rfl rfl rfl rfl rfl) rfl ?_
    refine pu (ev tab rfl) rfl ?_
    refine pu (indexAddr tab rfl rfl rfl rfl rfl rfl (Int.natCast_nonneg _) (Ex.kc_idx hx) rfl) rfl ?_
    first | refine pu (ev tab rfl) rfl ?_ | refine pu (loadRow tab rfl rfl rfl rfl) rfl ?_ | refine pu (loadBox tab rfl rfl rfl rfl rfl) rfl ?_
    refine pu (puCall rfl rfl rfl (ih x (List.mem_of_getElem? hx)) rfl) rfl ?_
    refine pu (ev tab rfl) rfl ?_
    refine WO.nil ?_
    refine qs ?_
    refine condK rfl (fun h17 => ?_) (fun h17 => ?_)
    · skip
      have h17 : textsE x = false := by simpa using h17
      refine W.seq ?_
      refine W.region ?_
      refine pu (ev tab rfl) rfl ?_
      refine WO.nil ?_
      refine qs ?_
      refine W.ret ?_
      refine qbRet ?_
      refine qsRet ?_
      refine qlRet ?_
      refine qbRet ?_
      refine qsRet ?_
      refine QF.ret0 trivial rfl ?_
      rw [hq, ← hI, h17]; rfl
    · skip
      have h17 : textsE x = true := by simpa using h17
      rw [h17, Bool.true_and] at hI
      refine W.skip ?_
      refine qbN ?_
      refine qs ?_
      refine W.region ?_
      iterate 3 refine pu (ev tab rfl) rfl ?_
      refine WO.nil ?_
      refine W.endR [0] ⟨k + 1, ?_⟩ ?_ rfl ?_ trivial ?_ ⟨rfl, rfl, trivial⟩ rfl
      · exact ⟨hlt, hI⟩
      · dsimp only; omega
      · repeat' first | exact trivial | refine ⟨rfl, ?_⟩ | refine ⟨step_nat (by assumption) (by assumption), ?_⟩
      · repeat' first | exact trivial | refine ⟨rfl, ?_⟩ | refine ⟨step_nat (by assumption) (by assumption), ?_⟩
  · skip
    rw [hd] at hI
    refine W.exit ?_
    refine qsExit ?_
    refine qlExit ?_
    refine qbExit ?_
    refine qs ?_
    refine W.seq ?_
    refine W.region ?_
    iterate 2 refine pu (ev tab rfl) rfl ?_
    first | refine pu (ev tab rfl) rfl ?_ | refine pu (loadRow tab rfl rfl rfl rfl) rfl ?_ | refine pu (loadBox tab rfl rfl rfl rfl rfl) rfl ?_
    iterate 3 refine pu (ev tab rfl) rfl ?_
    refine WO.nil ?_
    refine qs ?_
    refine W.ret ?_
    refine QF.ret0 trivial rfl ?_
    rw [hq, ← hI]; rfl
theorem few_fn (cols : List Col) (row : List Val) (e : Ex) : Does Tryz.prog 4 [.d (.sl (cols.map Col.c)), .d (.sl (row.map Val.c)), .ag e.c] (.d (.v (.bool (fewE cols row e)))) 0 := by
  refine Does.of_W (n := 36) (ts := [6]) Tryz.func4 (by kernel_rfl) rfl Tryz.ntmps4 Tryz.results4 rfl rfl fun C hC hG => ?_
  refine W.seq ?_
  refine W.region ?_
  refine boxR rfl rfl rfl ?_
  refine pu (ev tab rfl) rfl ?_
  refine WO.nil ?_
  refine qs ?_
  refine W.seq ?_
  refine W.seq ?_
  apply regionB; (case hb => rfl)
  · skip
    iterate 4 refine pu (ev tab rfl) rfl ?_
    apply splitJ; (case hj => rfl); (case hl => rfl)
    · skip
      refine skipT rfl rfl rfl rfl ?_
      refine skipT rfl rfl rfl rfl ?_
      refine skipT rfl rfl rfl rfl ?_
      iterate 2 refine pu (ev tab rfl) rfl ?_
      refine skipT rfl rfl rfl rfl ?_
      refine skipT rfl rfl rfl rfl ?_
      refine skipT rfl rfl rfl rfl ?_
      refine pu (ev tab rfl) rfl ?_
      refine WO.nil ?_
      refine qv1 rfl rfl rfl
    · skip
      refine goG rfl rfl ?_
      refine pu (ev tab rfl) rfl ?_
      refine goG rfl rfl ?_
      refine pu (ev tab rfl) rfl ?_
      refine goG rfl rfl ?_
      iterate 3 refine pu (ev tab rfl) rfl ?_
      apply splitJ; (case hj => rfl); (case hl => rfl)
      · skip
        refine skipT rfl rfl rfl rfl ?_
        refine skipT rfl rfl rfl rfl ?_
        refine skipT rfl rfl rfl rfl ?_
        refine pu (ev tab rfl) rfl ?_
        refine WO.nil ?_
        refine qv1 rfl rfl rfl
      · skip
        refine goG rfl rfl ?_
        first | refine pu (ev tab rfl) rfl ?_ | refine pu (loadRow tab rfl rfl rfl rfl) rfl ?_ | refine pu (loadBox tab rfl rfl rfl rfl rfl) rfl ?_
        refine goG rfl rfl ?_
        refine pu (puCall rfl rfl rfl (count_fn e 200 (by decide) (by decide)) rfl) rfl ?_
        refine goG rfl rfl ?_
        iterate 2 refine pu (ev tab rfl) rfl ?_
        refine WO.nil ?_
        refine qv1 rfl rfl rfl
  refine qs ?_
  refine condK rfl (fun h20 => ?_) (fun h20 => ?_)
  · skip
    simp only [bifOr, List.length_map] at h20
    refine W.seq ?_
    refine W.region ?_
    refine pu (ev tab rfl) rfl ?_
    refine WO.nil ?_
    refine qs ?_
    refine W.ret ?_
    refine qsRet ?_
    refine QF.ret0 trivial rfl ?_
    rw [show fewE cols row e = false by simp only [fewE, h20]; rfl]; rfl
  · skip
    simp only [bifOr, List.length_map] at h20
    refine W.skip ?_
    refine qs ?_
    refine W.seq ?_
    refine W.seq ?_
    refine W.region ?_
    refine pu (ev tab rfl) rfl ?_
    refine WO.nil ?_
    refine qs ?_
    refine W.block ?_
    refine W.len (t := 1) rfl rfl (fun hlen => ?_)
    try simp only [List.length_map, Ex.kc_len] at hlen
    refine W.loopR (ι := {x : Nat // match x with | k => k ≤ row.length ∧ fewV (row.drop k) = fewV row})
      (fun x => match x.1 with | k => [(5, .ptr 0 0), (7, .d (.v (.int .i64 ((k : Nat) : Int))))]) [(1, _)]
      (fun x => match x.1 with | k => []) [(0, _)] [] 1 (fun x => match x.1 with | k => row.length - k)
      [0] ⟨0, ?_⟩ rfl ?_ ⟨rfl, rfl, trivial⟩ ?_ ⟨rfl, rfl, trivial⟩ rfl ?_
    · first | exact ⟨Nat.zero_le _, rfl⟩ | exact trivial | simp
    · repeat' first | exact trivial | refine ⟨rfl, ?_⟩ | refine ⟨step_nat (by assumption) (by assumption), ?_⟩
    · repeat' first | exact trivial | refine ⟨rfl, ?_⟩ | refine ⟨step_nat (by assumption) (by assumption), ?_⟩
    rintro ⟨k, hk, hI⟩
    show W _ _ _ _ _ ⟨[(5, .ptr 0 0), (7, .d (.v (.int .i64 ((k : Nat) : Int)))), (1, _)], [(0, _)], [], 1⟩
    refine W.seq ?_
    refine W.seq ?_
    refine W.region ?_
    iterate 4 refine pu (ev tab rfl) rfl ?_
    refine WO.nil ?_
    refine qs ?_
    refine eachR (l := row) (k := k) rfl (by simp [Ex.kc_len, bytes_len]) hk (fun v hx hd hlt => ?_) (fun he hd => ?_)
    · skip
      rw [hd] at hI
      simp only [fewV, List.all_cons] at hI
      refine W.skip ?_
      refine qs ?_
      refine W.seq ?_
      refine W.block ?_
      refine W.seq ?_
      refine W.region ?_
      iterate 2 refine pu (ev tab rfl) rfl ?_
      refine pu (indexAddr tab rfl rfl rfl rfl rfl rfl (Int.natCast_nonneg _) (idx_map hx) rfl) rfl ?_
      refine pu (ev tab rfl) rfl ?_
      first | refine pu (ev tab rfl) rfl ?_ | refine pu (loadRow tab rfl rfl rfl rfl) rfl ?_ | refine pu (loadBox tab rfl rfl rfl rfl rfl) rfl ?_
      iterate 2 refine pu (ev tab rfl) rfl ?_
      refine WO.nil ?_
      refine qs ?_
      refine condK rfl (fun h33 => ?_) (fun h33 => ?_)
      · skip
        rw [h33] at hI
        refine W.seq ?_
        refine W.region ?_
        refine pu (ev tab rfl) rfl ?_
        refine WO.nil ?_
        refine qs ?_
        refine W.ret ?_
        refine qbRet ?_
        refine qsRet ?_
        refine qlRet ?_
        refine qbRet ?_
        refine qsRet ?_
        refine QF.ret0 trivial rfl ?_
        rw [show fewE cols row e = false by simp only [fewE, h20, fewV, ← hI]; rfl]; rfl
      · skip
        rw [h33] at hI
        refine W.skip ?_
        refine qbN ?_
        refine qs ?_
        refine W.region ?_
        iterate 3 refine pu (ev tab rfl) rfl ?_
        refine WO.nil ?_
        refine W.endR [0] ⟨k + 1, ?_⟩ ?_ rfl ?_ ⟨rfl, rfl, trivial⟩ ?_ ⟨rfl, rfl, trivial⟩ rfl
        · exact ⟨hlt, hI⟩
        · dsimp only; omega
        · repeat' first | exact trivial | refine ⟨rfl, ?_⟩ | refine ⟨step_nat (by assumption) (by assumption), ?_⟩
        · repeat' first | exact trivial | refine ⟨rfl, ?_⟩ | refine ⟨step_nat (by assumption) (by assumption), ?_⟩
    · skip
      rw [hd] at hI
      refine W.exit ?_
      refine qsExit ?_
      refine qlExit ?_
      refine qbExit ?_
      refine qs ?_
      refine W.seq ?_
      refine W.region ?_
      first | refine pu (ev tab rfl) rfl ?_ | refine pu (loadRow tab rfl rfl rfl rfl) rfl ?_ | refine pu (loadBox tab rfl rfl rfl rfl rfl) rfl ?_
      refine pu (puCall rfl rfl rfl (texts_fn ..) rfl) rfl ?_
      refine pu (ev tab rfl) rfl ?_
      refine WO.nil ?_
      refine qs ?_
      refine W.ret ?_
      refine QF.ret0 trivial rfl ?_
      rw [show fewE cols row e = textsE e by simp only [fewE, h20, ← hI]; rfl]; rfl
def bK : ByteArray := B #[107]
def lCols : List Col := [⟨bK, 2⟩]
def lRow : List Val := [numV 7]
def lK : Ex := .mk 2 bK nullV []
def lN (n : Int) : Ex := .mk 1 (B #[]) (numV n) []
def l2 (op : Int) (a b : Ex) : Ex := .mk op (B #[]) nullV [a, b]
theorem e1 : exprV lCols lRow (l2 8 lK (lN (-2))) = numV (-3) := by kernel_rfl
theorem e2 : exprV lCols lRow (l2 9 lK (lN (-2))) = numV 1 := by kernel_rfl
theorem e3 : decide (exprV lCols lRow (l2 12 lK (lN 8)) = truthV true) = true := by kernel_rfl
theorem e4 : aggV wSum [numV 1000000000000000, numV 1, numV (-1)] = numV 1000000000000000 := by kernel_rfl
theorem e5 : foldX (l2 5 lK (l2 7 (lN 2) (lN 3))) = l2 5 lK (lN 6) := by kernel_rfl
theorem lives_fn : Does Tryz.prog 5 [] (.d (.v (.bool true))) 0 := by
  have a1 := eexpr_fn lCols lRow (l2 8 lK (lN (-2)))
  have a2 := eexpr_fn lCols lRow (l2 9 lK (lN (-2)))
  have a3 := econd_fn lCols lRow (l2 12 lK (lN 8))
  have a4 := eagg_fn wSum [numV 1000000000000000, numV 1, numV (-1)] (by decide)
  have a5 := eFold_fn (l2 5 lK (l2 7 (lN 2) (lN 3)))
  have a6 := same_fn (l2 5 lK (lN 6)) (l2 5 lK (lN 6))
  rw [e1] at a1
  rw [e2] at a2
  rw [e3] at a3
  rw [e4] at a4
  rw [e5] at a5
  rw [sameE_self] at a6
  refine Does.of_W (n := 58) (ts := [0]) Tryz.func5 (by kernel_rfl) rfl Tryz.ntmps5 Tryz.results5 rfl rfl fun C hC hG => ?_
  refine W.seq ?_
  refine W.region ?_
  refine pu (ev tab rfl) rfl ?_
  refine WO.nil ?_
  refine qs ?_
  refine W.seq ?_
  refine W.region ?_
  refine pu (build tab rfl rfl rfl rfl) rfl ?_
  refine pu (buildV tab rfl rfl rfl rfl rfl rfl rfl rfl rfl) rfl ?_
  refine pu (puCall rfl rfl rfl (rnumber_fn ..) rfl) rfl ?_
  refine pu (buildV tab rfl rfl rfl rfl rfl rfl rfl rfl rfl) rfl ?_
  iterate 2 refine pu (ev tab rfl) rfl ?_
  refine WO.nil ?_
  refine qs ?_
  refine W.seq ?_
  refine W.region ?_
  refine pu (build tab rfl rfl rfl rfl) rfl ?_
  refine allocR tab rfl rfl rfl ?_
  refine storeR tab rfl rfl rfl rfl rfl rfl rfl rfl ?_
  refine WO.nil ?_
  refine qs ?_
  refine W.seq ?_
  refine nilBox 0 5 rfl rfl rfl ?_
  refine W.regionE tab 7 1 (by kernel_rfl) rfl rfl ?_
  first | refine cePu rfl (ev tab rfl) rfl ?_ | refine cePu rfl (loadRow tab rfl rfl rfl rfl) rfl ?_ | refine cePu rfl (loadBox tab rfl rfl rfl rfl rfl) rfl ?_
  refine cePu rfl (puCall rfl rfl rfl (lnumber_fn ..) rfl) rfl ?_
  refine cePu rfl (puCall rfl rfl rfl (lnumber_fn ..) rfl) rfl ?_
  refine cePu rfl (puCall rfl rfl rfl (two_fn ..) rfl) rfl ?_
  refine cePu rfl (puCall rfl rfl rfl (two_fn 5 lK (l2 7 (lN 2) (lN 3))) rfl) rfl ?_
  refine cePu rfl (puCallN rfl rfl rfl a5 rfl) rfl ?_
  refine ceAlloc 0 rfl rfl rfl rfl rfl rfl ?_
  refine CE.nil ?_
  refine storeR tab rfl rfl rfl rfl rfl rfl rfl rfl ?_
  refine WO.nil ?_
  refine qs ?_
  refine W.seq ?_
  apply regionDB tab; (case hb => rfl); (case hB => kernel_rfl)
  · skip
    refine chPu (ev tab rfl) rfl ?_
    refine chPu (ev tab rfl) rfl ?_
    first | refine chPu (ev tab rfl) rfl ?_ | refine chPu (loadRow tab rfl rfl rfl rfl) rfl ?_ | refine chPu (loadBox tab rfl rfl rfl rfl rfl) rfl ?_
    refine chPu (puCall rfl rfl rfl (lnumber_fn ..) rfl) rfl ?_
    refine chPu (puCall rfl rfl rfl (two_fn 8 lK (lN (-2))) rfl) rfl ?_
    refine chPu (puCallN rfl rfl rfl a1 rfl) rfl ?_
    refine chPu (puCall rfl rfl rfl (rnumber_fn ..) rfl) rfl ?_
    refine chPu (ev tab rfl) rfl ?_
    refine chPu (ev tab rfl) rfl ?_
    apply chSplitJ; (case hj => rfl); (case hl => rfl)
    · skip
      refine chGo rfl rfl (ev tab rfl) rfl ?_
      refine chGo rfl rfl (ev tab rfl) rfl ?_
      first | refine chGo rfl rfl (ev tab rfl) rfl ?_ | refine chGo rfl rfl (loadRow tab rfl rfl rfl rfl) rfl ?_ | refine chGo rfl rfl (loadBox tab rfl rfl rfl rfl rfl) rfl ?_
      refine chGo rfl rfl (puCall rfl rfl rfl (lnumber_fn ..) rfl) rfl ?_
      refine chGo rfl rfl (puCall rfl rfl rfl (two_fn 9 lK (lN (-2))) rfl) rfl ?_
      refine chGo rfl rfl (puCallN rfl rfl rfl a2 rfl) rfl ?_
      refine chGo rfl rfl (puCall rfl rfl rfl (rnumber_fn ..) rfl) rfl ?_
      refine chGo rfl rfl (ev tab rfl) rfl ?_
      refine chPu (ev tab rfl) rfl ?_
      refine chPu (ev tab rfl) rfl ?_
      apply chSplitJ; (case hj => rfl); (case hl => rfl)
      · skip
        refine chGo rfl rfl (ev tab rfl) rfl ?_
        refine chGo rfl rfl (ev tab rfl) rfl ?_
        first | refine chGo rfl rfl (ev tab rfl) rfl ?_ | refine chGo rfl rfl (loadRow tab rfl rfl rfl rfl) rfl ?_ | refine chGo rfl rfl (loadBox tab rfl rfl rfl rfl rfl) rfl ?_
        refine chGo rfl rfl (puCall rfl rfl rfl (lnumber_fn ..) rfl) rfl ?_
        refine chGo rfl rfl (puCall rfl rfl rfl (two_fn 12 lK (lN 8)) rfl) rfl ?_
        refine chGo rfl rfl (puCallN rfl rfl rfl a3 rfl) rfl ?_
        refine chPu (ev tab rfl) rfl ?_
        refine chPu (ev tab rfl) rfl ?_
        apply chSplitJ; (case hj => rfl); (case hl => rfl)
        · skip
          refine chGo rfl rfl (puCall rfl rfl rfl (rnumber_fn ..) rfl) rfl ?_
          refine chGo rfl rfl (puCall rfl rfl rfl (rnumber_fn ..) rfl) rfl ?_
          refine chGo rfl rfl (puCall rfl rfl rfl (rnumber_fn ..) rfl) rfl ?_
          refine chGo rfl rfl (buildV tab rfl rfl rfl rfl rfl rfl rfl rfl rfl) rfl ?_
          refine chGo rfl rfl (puCallN rfl rfl rfl a4 rfl) rfl ?_
          refine chGo rfl rfl (puCall rfl rfl rfl (rnumber_fn ..) rfl) rfl ?_
          refine chGo rfl rfl (ev tab rfl) rfl ?_
          refine chPu (ev tab rfl) rfl ?_
          refine chPu (ev tab rfl) rfl ?_
          apply chSplitJ; (case hj => rfl); (case hl => rfl)
          · skip
            first | refine chGo rfl rfl (ev tab rfl) rfl ?_ | refine chGo rfl rfl (loadRow tab rfl rfl rfl rfl) rfl ?_ | refine chGo rfl rfl (loadBox tab rfl rfl rfl rfl rfl) rfl ?_
            first | refine chGo rfl rfl (ev tab rfl) rfl ?_ | refine chGo rfl rfl (loadRow tab rfl rfl rfl rfl) rfl ?_ | refine chGo rfl rfl (loadBox tab rfl rfl rfl rfl rfl) rfl ?_
            refine chGo rfl rfl (puCall rfl rfl rfl (lnumber_fn ..) rfl) rfl ?_
            refine chGo rfl rfl (puCall rfl rfl rfl (two_fn 5 lK (lN 6)) rfl) rfl ?_
            refine chGo rfl rfl (puCallN rfl rfl rfl a6 rfl) rfl ?_
            refine chPu (ev tab rfl) rfl ?_
            refine chPu (ev tab rfl) rfl ?_
            refine CH.nil ?_
            refine qv1 rfl rfl rfl
          · skip
            refine chSkip rfl rfl rfl rfl ?_
            refine chSkip rfl rfl rfl rfl ?_
            refine chSkip rfl rfl rfl rfl ?_
            refine chSkip rfl rfl rfl rfl ?_
            refine chSkip rfl rfl rfl rfl ?_
            refine chPu (ev tab rfl) rfl ?_
            refine chPu (ev tab rfl) rfl ?_
            refine CH.nil ?_
            refine qv1 rfl rfl rfl
        · skip
          refine chSkip rfl rfl rfl rfl ?_
          refine chSkip rfl rfl rfl rfl ?_
          refine chSkip rfl rfl rfl rfl ?_
          refine chSkip rfl rfl rfl rfl ?_
          refine chSkip rfl rfl rfl rfl ?_
          refine chSkip rfl rfl rfl rfl ?_
          refine chSkip rfl rfl rfl rfl ?_
          refine chPu (ev tab rfl) rfl ?_
          refine chPu (ev tab rfl) rfl ?_
          refine chSkip rfl rfl rfl rfl ?_
          refine chSkip rfl rfl rfl rfl ?_
          refine chSkip rfl rfl rfl rfl ?_
          refine chSkip rfl rfl rfl rfl ?_
          refine chSkip rfl rfl rfl rfl ?_
          refine chPu (ev tab rfl) rfl ?_
          refine chPu (ev tab rfl) rfl ?_
          refine CH.nil ?_
          refine qv1 rfl rfl rfl
      · skip
        refine chSkip rfl rfl rfl rfl ?_
        refine chSkip rfl rfl rfl rfl ?_
        refine chSkip rfl rfl rfl rfl ?_
        refine chSkip rfl rfl rfl rfl ?_
        refine chSkip rfl rfl rfl rfl ?_
        refine chSkip rfl rfl rfl rfl ?_
        refine chPu (ev tab rfl) rfl ?_
        refine chPu (ev tab rfl) rfl ?_
        refine chSkip rfl rfl rfl rfl ?_
        refine chSkip rfl rfl rfl rfl ?_
        refine chSkip rfl rfl rfl rfl ?_
        refine chSkip rfl rfl rfl rfl ?_
        refine chSkip rfl rfl rfl rfl ?_
        refine chSkip rfl rfl rfl rfl ?_
        refine chSkip rfl rfl rfl rfl ?_
        refine chPu (ev tab rfl) rfl ?_
        refine chPu (ev tab rfl) rfl ?_
        refine chSkip rfl rfl rfl rfl ?_
        refine chSkip rfl rfl rfl rfl ?_
        refine chSkip rfl rfl rfl rfl ?_
        refine chSkip rfl rfl rfl rfl ?_
        refine chSkip rfl rfl rfl rfl ?_
        refine chPu (ev tab rfl) rfl ?_
        refine chPu (ev tab rfl) rfl ?_
        refine CH.nil ?_
        refine qv1 rfl rfl rfl
    · skip
      refine chSkip rfl rfl rfl rfl ?_
      refine chSkip rfl rfl rfl rfl ?_
      refine chSkip rfl rfl rfl rfl ?_
      refine chSkip rfl rfl rfl rfl ?_
      refine chSkip rfl rfl rfl rfl ?_
      refine chSkip rfl rfl rfl rfl ?_
      refine chSkip rfl rfl rfl rfl ?_
      refine chSkip rfl rfl rfl rfl ?_
      refine chPu (ev tab rfl) rfl ?_
      refine chPu (ev tab rfl) rfl ?_
      refine chSkip rfl rfl rfl rfl ?_
      refine chSkip rfl rfl rfl rfl ?_
      refine chSkip rfl rfl rfl rfl ?_
      refine chSkip rfl rfl rfl rfl ?_
      refine chSkip rfl rfl rfl rfl ?_
      refine chSkip rfl rfl rfl rfl ?_
      refine chPu (ev tab rfl) rfl ?_
      refine chPu (ev tab rfl) rfl ?_
      refine chSkip rfl rfl rfl rfl ?_
      refine chSkip rfl rfl rfl rfl ?_
      refine chSkip rfl rfl rfl rfl ?_
      refine chSkip rfl rfl rfl rfl ?_
      refine chSkip rfl rfl rfl rfl ?_
      refine chSkip rfl rfl rfl rfl ?_
      refine chSkip rfl rfl rfl rfl ?_
      refine chPu (ev tab rfl) rfl ?_
      refine chPu (ev tab rfl) rfl ?_
      refine chSkip rfl rfl rfl rfl ?_
      refine chSkip rfl rfl rfl rfl ?_
      refine chSkip rfl rfl rfl rfl ?_
      refine chSkip rfl rfl rfl rfl ?_
      refine chSkip rfl rfl rfl rfl ?_
      refine chPu (ev tab rfl) rfl ?_
      refine chPu (ev tab rfl) rfl ?_
      refine CH.nil ?_
      refine qv1 rfl rfl rfl
  refine qs ?_
  refine W.ret ?_
  refine QF.ret0 trivial rfl ?_
  rfl
end Go.Proofs.YtaifpecinbjgcabGreat
namespace Go.Proofs.YtaifpecinbjgcabGreat
open Go.Ab Go.Tb
set_option maxRecDepth 10000
attribute [local irreducible] W WO Pu QS QB QL QF QV QV1 CH QE
theorem rfitsR_fn (cols : List Col) (row : List Val) : Does Tryz.prog 55 [.d (.sl (cols.map Col.c)), .d (.sl (row.map Val.c))] (.d (.v (.bool (fitsB cols row)))) 0 := by
  refine Does.of_W (n := 28) (ts := [4]) Tryz.func55 (by kernel_rfl) rfl Tryz.ntmps55 Tryz.results55 rfl rfl fun C hC hG => ?_
  refine W.seq ?_
  refine W.region ?_
  refine pu (ev tab rfl) rfl ?_
  refine WO.nil ?_
  refine qs ?_
  refine W.seq ?_
  refine W.seq ?_
  refine W.region ?_
  iterate 5 refine pu (ev tab rfl) rfl ?_
  refine WO.nil ?_
  refine qs ?_
  refine condK rfl (fun h10 => ?_) (fun h10 => ?_)
  · skip
    refine W.seq ?_
    refine W.region ?_
    refine pu (ev tab rfl) rfl ?_
    refine WO.nil ?_
    refine qs ?_
    refine W.ret ?_
    refine qsRet ?_
    refine QF.ret0 trivial rfl ?_
    rw [show fitsB cols row = false by simp at h10; rw [fitsB_eq]; simp; intro h; omega]; rfl
  · skip
    have hl : row.length = cols.length := by simp at h10; omega
    refine W.skip ?_
    refine qs ?_
    refine W.seq ?_
    refine W.seq ?_
    refine W.region ?_
    refine pu (ev tab rfl) rfl ?_
    refine WO.nil ?_
    refine qs ?_
    refine W.block ?_
    refine W.len (t := 0) rfl rfl (fun hlen => ?_)
    try simp only [List.length_map, Ex.kc_len] at hlen
    refine W.loopR (ι := {x : Nat // match x with | k => k ≤ cols.length ∧ ((cols.drop k).zip (row.drop k)).all fitP = (cols.zip row).all fitP})
      (fun x => match x.1 with | k => [(5, .d (.v (.int .i64 ((k : Nat) : Int))))]) [(0, _), (1, _)]
      (fun x => match x.1 with | k => []) [] [] 0 (fun x => match x.1 with | k => cols.length - k)
      [] ⟨0, ?_⟩ rfl ?_ ⟨rfl, rfl, rfl, rfl, trivial⟩ ?_ trivial rfl ?_
    · first | exact ⟨Nat.zero_le _, rfl⟩ | exact trivial | simp
    · repeat' first | exact trivial | refine ⟨rfl, ?_⟩ | refine ⟨step_nat (by assumption) (by assumption), ?_⟩
    · repeat' first | exact trivial | refine ⟨rfl, ?_⟩ | refine ⟨step_nat (by assumption) (by assumption), ?_⟩
    rintro ⟨k, hk, hI⟩
    show W _ _ _ _ _ ⟨[(5, .d (.v (.int .i64 ((k : Nat) : Int)))), (0, _), (1, _)], [], [], 0⟩
    refine W.seq ?_
    refine W.seq ?_
    refine W.region ?_
    iterate 4 refine pu (ev tab rfl) rfl ?_
    refine WO.nil ?_
    refine qs ?_
    refine eachR (l := cols) (k := k) rfl (by simp [Ex.kc_len, bytes_len]) hk (fun c hx hd hlt => ?_) (fun he hd => ?_)
    · skip
      obtain ⟨v, hc, hcd⟩ := exAt (l := row) (k := k) (by omega)
      rw [hd, hcd] at hI
      simp only [List.zip_cons_cons, List.all_cons] at hI
      refine W.skip ?_
      refine qs ?_
      refine W.seq ?_
      refine W.block ?_
      refine W.seq ?_
      refine W.regionD tab (by kernel_rfl) ?_
      refine chPu (ev tab rfl) rfl ?_
      refine chPu (ev tab rfl) rfl ?_
      refine chPu (indexAddr tab rfl rfl rfl rfl rfl rfl (Int.natCast_nonneg _) (idx_map hx) rfl) rfl ?_
      refine chPu (ev tab rfl) rfl ?_
      first | refine chPu (ev tab rfl) rfl ?_ | refine chPu (loadRow tab rfl rfl rfl rfl) rfl ?_ | refine chPu (loadBox tab rfl rfl rfl rfl rfl) rfl ?_
      refine chPu (ev tab rfl) rfl ?_
      refine chPu (ev tab rfl) rfl ?_
      refine chPu (indexAddr tab rfl rfl rfl rfl rfl rfl (Int.natCast_nonneg _) (idx_map hc) rfl) rfl ?_
      first | refine chPu (ev tab rfl) rfl ?_ | refine chPu (loadRow tab rfl rfl rfl rfl) rfl ?_ | refine chPu (loadBox tab rfl rfl rfl rfl rfl) rfl ?_
      refine chPu (puCall rfl rfl rfl (rvalue_fn ..) rfl) rfl ?_
      refine chPu (ev tab rfl) rfl ?_
      refine CH.nil ?_
      refine qs ?_
      refine condK rfl (fun h27 => ?_) (fun h27 => ?_)
      · skip
        refine W.seq ?_
        refine W.region ?_
        refine pu (ev tab rfl) rfl ?_
        refine WO.nil ?_
        refine qs ?_
        refine W.ret ?_
        refine qbRet ?_
        refine qsRet ?_
        refine qlRet ?_
        refine qbRet ?_
        refine qsRet ?_
        refine QF.ret0 trivial rfl ?_
        rw [show fitsB cols row = false by rw [fitsB_eq, ← hI]; simp only [fitP]; simp_all]; rfl
      · skip
        refine W.skip ?_
        refine qbN ?_
        refine qs ?_
        refine W.region ?_
        iterate 3 refine pu (ev tab rfl) rfl ?_
        refine WO.nil ?_
        refine W.endR [] ⟨k + 1, ?_⟩ ?_ rfl ?_ ⟨rfl, rfl, rfl, rfl, trivial⟩ ?_ trivial rfl
        · exact ⟨hlt, by rw [← hI]; simp_all [fitP]⟩
        · dsimp only; omega
        · repeat' first | exact trivial | refine ⟨rfl, ?_⟩ | refine ⟨step_nat (by assumption) (by assumption), ?_⟩
        · repeat' first | exact trivial | refine ⟨rfl, ?_⟩ | refine ⟨step_nat (by assumption) (by assumption), ?_⟩
    · skip
      rw [hd] at hI
      refine W.exit ?_
      refine qsExit ?_
      refine qlExit ?_
      refine qbExit ?_
      refine qs ?_
      refine W.seq ?_
      refine W.region ?_
      refine pu (ev tab rfl) rfl ?_
      refine WO.nil ?_
      refine qs ?_
      refine W.ret ?_
      refine QF.ret0 trivial rfl ?_
      rw [show fitsB cols row = true by rw [fitsB_eq, ← hI]; simp [hl]]; rfl
theorem rmagn_fn (n : Int) (h : inR n = true) : Does Tryz.prog 93 [.d (.v (.int .i64 n))] (.d (.v (.int .i64 (n.natAbs : Int)))) 0 := by
  have hr := inR_iff.1 h
  refine Does.of_W (n := 8) (ts := [2]) Tryz.func93 (by kernel_rfl) rfl Tryz.ntmps93 Tryz.results93 rfl rfl fun C hC hG => ?_
  refine W.seq ?_
  refine W.region ?_
  refine pu (ev tab rfl) rfl ?_
  refine WO.nil ?_
  refine qs ?_
  refine W.seq ?_
  refine W.seq ?_
  refine W.region ?_
  iterate 2 refine pu (ev tab rfl) rfl ?_
  refine WO.nil ?_
  refine qs ?_
  refine condK rfl (fun h4 => ?_) (fun h4 => ?_)
  · skip
    have h4 : n < 0 := of_decide_eq_true h4
    refine W.seq ?_
    refine W.region ?_
    iterate 3 refine pu (ev tab rfl) rfl ?_
    refine WO.nil ?_
    refine qs ?_
    refine W.ret ?_
    refine qsRet ?_
    refine QF.ret0 trivial rfl ?_
    rw [show (n.natAbs : Int) = IntKind.i64.wrap (0 - n) by rw [neg_in h]; omega]; rfl
  · skip
    have h4 : ¬ n < 0 := of_decide_eq_false h4
    refine W.skip ?_
    refine qs ?_
    refine W.seq ?_
    refine W.region ?_
    iterate 2 refine pu (ev tab rfl) rfl ?_
    refine WO.nil ?_
    refine qs ?_
    refine W.ret ?_
    refine QF.ret0 trivial rfl ?_
    rw [show (n.natAbs : Int) = n by omega]; rfl
theorem rquo_fn (a b : Int) (ha : inR a = true) (hb : inR b = true) (h0 : b ≠ 0) : Does Tryz.prog 100 [.d (.v (.int .i64 a)), .d (.v (.int .i64 b))] (.d (.v (.int .i64 (a.tdiv b)))) 0 := by
  have ha' := inR_iff.1 ha
  have hb' := inR_iff.1 hb
  have hd := Nat.div_le_self a.natAbs b.natAbs
  have hs := tdiv_signs a b
  refine Does.of_W (n := 19) (ts := [4]) Tryz.func100 (by kernel_rfl) rfl Tryz.ntmps100 Tryz.results100 rfl rfl fun C hC hG => ?_
  refine W.seq ?_
  refine W.region ?_
  refine pu (ev tab rfl) rfl ?_
  refine WO.nil ?_
  refine qs ?_
  refine W.seq ?_
  refine W.region ?_
  refine pu (ev tab rfl) rfl ?_
  refine pu (puCall rfl rfl rfl (rmagn_fn a ha) rfl) rfl ?_
  refine pu (ev tab rfl) rfl ?_
  refine pu (puCall rfl rfl rfl (rmagn_fn b hb) rfl) rfl ?_
  refine pu (puI (quoR rfl rfl (by omega) (okc_wrap _ _)) (show _ = ((a.natAbs / b.natAbs : Nat) : Int) by rw [← Int.ofNat_tdiv]; generalize a.natAbs / b.natAbs = z at *; exact wrap64 (by omega))) rfl ?_
  refine pu (ev tab rfl) rfl ?_
  refine WO.nil ?_
  refine qs ?_
  refine W.seq ?_
  refine W.seq ?_
  refine W.region ?_
  iterate 5 refine pu (ev tab rfl) rfl ?_
  refine WO.nil ?_
  refine qs ?_
  refine condK rfl (fun h15 => ?_) (fun h15 => ?_)
  · skip
    rw [if_neg (by simpa using h15)] at hs
    refine W.seq ?_
    refine W.region ?_
    refine pu (ev tab rfl) rfl ?_
    refine pu (puI (ev tab rfl) (show _ = -((a.natAbs / b.natAbs : Nat) : Int) by generalize a.natAbs / b.natAbs = z at *; rw [wrap64 (by omega)]; omega)) rfl ?_
    refine pu (ev tab rfl) rfl ?_
    refine WO.nil ?_
    refine qs ?_
    refine W.ret ?_
    refine qsRet ?_
    refine QF.ret0 trivial rfl ?_
    rw [hs]; rfl
  · skip
    rw [if_pos (by simpa using h15)] at hs
    refine W.skip ?_
    refine qs ?_
    refine W.seq ?_
    refine W.region ?_
    iterate 2 refine pu (ev tab rfl) rfl ?_
    refine WO.nil ?_
    refine qs ?_
    refine W.ret ?_
    refine QF.ret0 trivial rfl ?_
    rw [hs]; rfl
theorem rprod_fn (a b : Int) (ha : inR a = true) (hb : inR b = true) : Does Tryz.prog 99 [.d (.v (.int .i64 a)), .d (.v (.int .i64 b))] (.ag (prodS a b).c) 0 := by
  have ha' := inR_iff.1 ha
  have hb' := inR_iff.1 hb
  refine Does.of_V tab (n := 15) (rs := [.cell 4 104]) Tryz.func99 (by kernel_rfl) rfl Tryz.ntmps99 Tryz.results99 rfl fun C hC hG => ?_
  refine W.seq ?_
  refine W.region ?_
  refine allocR tab rfl rfl rfl ?_
  refine WO.nil ?_
  refine qs ?_
  refine W.seq ?_
  refine W.seq ?_
  refine W.region ?_
  iterate 2 refine pu (ev tab rfl) rfl ?_
  refine WO.nil ?_
  refine qs ?_
  refine condK rfl (fun h6 => ?_) (fun h6 => ?_)
  · skip
    refine W.seq ?_
    refine W.region ?_
    refine pu (ev tab rfl) rfl ?_
    refine pu (puI (ev tab rfl) (neg_in ha)) rfl ?_
    refine pu (ev tab rfl) rfl ?_
    refine pu (puI (ev tab rfl) (neg_in hb)) rfl ?_
    refine pu (puCall rfl rfl rfl (scaled2_fn (-a) (-b) (by omega) (by omega)) rfl) rfl ?_
    refine storeR tab rfl rfl rfl rfl rfl rfl rfl rfl ?_
    refine WO.nil ?_
    refine qs ?_
    refine W.ret ?_
    refine qsRet ?_
    refine QV.ret0 tab trivial rfl ?_
    rw [show prodS a b = scaledS (-a) (-b) by simp only [prodS, if_pos (of_decide_eq_true h6)]]; rfl
  · skip
    refine W.skip ?_
    refine qs ?_
    refine W.seq ?_
    refine W.region ?_
    iterate 2 refine pu (ev tab rfl) rfl ?_
    refine pu (puCall rfl rfl rfl (scaled2_fn a b (by omega) (by omega)) rfl) rfl ?_
    refine storeR tab rfl rfl rfl rfl rfl rfl rfl rfl ?_
    refine WO.nil ?_
    refine qs ?_
    refine W.ret ?_
    refine QV.ret0 tab trivial rfl ?_
    rw [show prodS a b = scaledS a b by simp only [prodS, if_neg (of_decide_eq_false h6)]]; rfl
theorem rarith_fn (op a b : Int) (ha : inR a = true) (hb : inR b = true) (ho : 5 ≤ op ∧ op ≤ 9) : Does Tryz.prog 82 [.d (.v (.int .i64 op)), .d (.v (.int .i64 a)), .d (.v (.int .i64 b))] (.ag (arithV op a b).c) 0 := by
  have ha' := inR_iff.1 ha
  have hb' := inR_iff.1 hb
  have s1 := scaled1_n (n := a) (by omega)
  have s2 := scaled1_n (n := b) (by omega)
  have s3 := scaled1_n (n := -b) (by omega)
  refine Does.of_V tab (n := 52) (rs := [.cell 6 27]) Tryz.func82 (by kernel_rfl) rfl Tryz.ntmps82 Tryz.results82 rfl fun C hC hG => ?_
  refine W.seq ?_
  refine W.region ?_
  refine allocR tab rfl rfl rfl ?_
  refine WO.nil ?_
  refine qs ?_
  refine W.seq ?_
  refine W.block ?_
  refine W.seq ?_
  refine W.region ?_
  iterate 3 refine pu (ev tab rfl) rfl ?_
  refine WO.nil ?_
  refine qs ?_
  refine condK rfl (fun h7 => ?_) (fun h7 => ?_)
  · skip
    have h7 : op = 5 := of_decide_eq_true h7
    refine W.seq ?_
    refine W.region ?_
    refine pu (ev tab rfl) rfl ?_
    refine pu (puCall rfl rfl rfl (scaled2_fn a 1 (by omega) (by decide)) rfl) rfl ?_
    refine pu (ev tab rfl) rfl ?_
    refine pu (puCall rfl rfl rfl (scaled2_fn b 1 (by omega) (by decide)) rfl) rfl ?_
    refine pu (puCall rfl rfl rfl (both2_fn (scaledS a 1) (scaledS b 1) (by omega)) rfl) rfl ?_
    refine pu (puCall rfl rfl rfl (integer_fn _ (by have := sumS_n (scaledS a 1) (scaledS b 1); omega)) rfl) rfl ?_
    refine storeR tab rfl rfl rfl rfl rfl rfl rfl rfl ?_
    refine WO.nil ?_
    refine qs ?_
    refine W.ret ?_
    refine qbRet ?_
    refine qsRet ?_
    refine QV.ret0 tab trivial rfl ?_
    rw [show arithV op a b = intV (sumS (scaledS a 1) (scaledS b 1)).val by rw [sumS_val, scaledS_val (by decide), scaledS_val (by decide), h7]; simp [arithV]]; rfl
  · skip
    have h7 : op ≠ 5 := of_decide_eq_false h7
    refine W.seq ?_
    refine W.region ?_
    iterate 3 refine pu (ev tab rfl) rfl ?_
    refine WO.nil ?_
    refine qs ?_
    refine condK rfl (fun h16 => ?_) (fun h16 => ?_)
    · skip
      have h16 : op = 6 := of_decide_eq_true h16
      refine W.seq ?_
      refine W.region ?_
      refine pu (ev tab rfl) rfl ?_
      refine pu (puCall rfl rfl rfl (scaled2_fn a 1 (by omega) (by decide)) rfl) rfl ?_
      refine pu (ev tab rfl) rfl ?_
      refine pu (puI (ev tab rfl) (neg_in hb)) rfl ?_
      refine pu (puCall rfl rfl rfl (scaled2_fn (-b) 1 (by omega) (by decide)) rfl) rfl ?_
      refine pu (puCall rfl rfl rfl (both2_fn (scaledS a 1) (scaledS (-b) 1) (by omega)) rfl) rfl ?_
      refine pu (puCall rfl rfl rfl (integer_fn _ (by have := sumS_n (scaledS a 1) (scaledS (-b) 1); omega)) rfl) rfl ?_
      refine storeR tab rfl rfl rfl rfl rfl rfl rfl rfl ?_
      refine WO.nil ?_
      refine qs ?_
      refine W.ret ?_
      refine qbRet ?_
      refine qsRet ?_
      refine QV.ret0 tab trivial rfl ?_
      rw [show arithV op a b = intV (sumS (scaledS a 1) (scaledS (-b) 1)).val by rw [sumS_val, scaledS_val (by decide), scaledS_val (by decide), h16]; simp [arithV, Int.sub_eq_add_neg]]; rfl
    · skip
      have h16 : op ≠ 6 := of_decide_eq_false h16
      refine W.seq ?_
      refine W.region ?_
      iterate 3 refine pu (ev tab rfl) rfl ?_
      refine WO.nil ?_
      refine qs ?_
      refine condK rfl (fun h26 => ?_) (fun h26 => ?_)
      · skip
        have h26 : op = 7 := of_decide_eq_true h26
        refine W.seq ?_
        refine W.region ?_
        iterate 2 refine pu (ev tab rfl) rfl ?_
        refine pu (puCall rfl rfl rfl (rprod_fn a b ha hb) rfl) rfl ?_
        refine pu (puCall rfl rfl rfl (integer_fn _ (by have := prodS_n ha hb; omega)) rfl) rfl ?_
        refine storeR tab rfl rfl rfl rfl rfl rfl rfl rfl ?_
        refine WO.nil ?_
        refine qs ?_
        refine W.ret ?_
        refine qbRet ?_
        refine qsRet ?_
        refine QV.ret0 tab trivial rfl ?_
        rw [show arithV op a b = intV (prodS a b).val by rw [prodS_val, h26]; simp [arithV]]; rfl
      · skip
        have h26 : op ≠ 7 := of_decide_eq_false h26
        refine W.seq ?_
        refine W.region ?_
        iterate 3 refine pu (ev tab rfl) rfl ?_
        refine WO.nil ?_
        refine qs ?_
        refine condK rfl (fun h33 => ?_) (fun h33 => ?_)
        · skip
          have h33 : b = 0 := of_decide_eq_true h33
          refine W.seq ?_
          refine W.region ?_
          refine pu (build tab rfl rfl rfl rfl) rfl ?_
          refine storeR tab rfl rfl rfl rfl rfl rfl rfl rfl ?_
          refine WO.nil ?_
          refine qs ?_
          refine W.ret ?_
          refine qbRet ?_
          refine qsRet ?_
          refine QV.ret0 tab trivial rfl ?_
          rw [show arithV op a b = nullV by simp only [arithV, if_neg h7, if_neg h16, if_neg h26, if_pos h33]]; rfl
        · skip
          have h33 : b ≠ 0 := of_decide_eq_false h33
          have hm : b * a.tdiv b + a.tmod b = a := Int.mul_tdiv_add_tmod a b
          have hm2 : (a.tmod b).natAbs ≤ a.natAbs := by rw [Int.natAbs_tmod]; exact Nat.mod_le _ _
          refine W.seq ?_
          refine W.region ?_
          iterate 3 refine pu (ev tab rfl) rfl ?_
          refine WO.nil ?_
          refine qs ?_
          refine condK rfl (fun h37 => ?_) (fun h37 => ?_)
          · skip
            have h37 : op = 8 := of_decide_eq_true h37
            refine W.seq ?_
            refine W.region ?_
            iterate 2 refine pu (ev tab rfl) rfl ?_
            refine pu (puCall rfl rfl rfl (rquo_fn a b ha hb h33) rfl) rfl ?_
            refine pu (puCall rfl rfl rfl (rnumber_fn ..) rfl) rfl ?_
            refine storeR tab rfl rfl rfl rfl rfl rfl rfl rfl ?_
            refine WO.nil ?_
            refine qs ?_
            refine W.ret ?_
            refine qbRet ?_
            refine qsRet ?_
            refine QV.ret0 tab trivial rfl ?_
            rw [show arithV op a b = numV (a.tdiv b) by simp only [arithV, if_neg h7, if_neg h16, if_neg h26, if_neg h33, if_pos h37]]; rfl
          · skip
            have h37 : op = 9 := by have := of_decide_eq_false h37; omega
            refine W.skip ?_
            refine qbN ?_
            refine qs ?_
            refine W.seq ?_
            refine W.region ?_
            iterate 4 refine pu (ev tab rfl) rfl ?_
            refine pu (puCall rfl rfl rfl (rquo_fn a b ha hb h33) rfl) rfl ?_
            refine pu (ev tab rfl) rfl ?_
            refine pu (puI (ev tab rfl) (show _ = a.tmod b by rw [wrap64 (show _ ≤ b * a.tdiv b ∧ b * a.tdiv b ≤ _ by omega), wrap64 (by omega)]; omega)) rfl ?_
            refine pu (puCall rfl rfl rfl (rnumber_fn ..) rfl) rfl ?_
            refine storeR tab rfl rfl rfl rfl rfl rfl rfl rfl ?_
            refine WO.nil ?_
            refine qs ?_
            refine W.ret ?_
            refine QV.ret0 tab trivial rfl ?_
            rw [show arithV op a b = numV (a.tmod b) by simp only [arithV, if_neg h7, if_neg h16, if_neg h26, if_neg h33]; rw [if_neg (by omega)]]; rfl
theorem rcmp_fn (op : Int) (a b : Val) : Does Tryz.prog 81 [.d (.v (.int .i64 op)), .ag a.c, .ag b.c] (.ag (cmpV op a b).c) 0 := by
  refine Does.of_V tab (n := 30) (rs := [.cell 6 27]) Tryz.func81 (by kernel_rfl) rfl Tryz.ntmps81 Tryz.results81 rfl fun C hC hG => ?_
  refine W.seq ?_
  refine W.region ?_
  refine boxR rfl rfl rfl ?_
  refine boxR rfl rfl rfl ?_
  refine allocR tab rfl rfl rfl ?_
  refine WO.nil ?_
  refine qs ?_
  refine W.seq ?_
  refine W.region ?_
  first | refine pu (ev tab rfl) rfl ?_ | refine pu (loadRow tab rfl rfl rfl rfl) rfl ?_ | refine pu (loadBox tab rfl rfl rfl rfl rfl) rfl ?_
  first | refine pu (ev tab rfl) rfl ?_ | refine pu (loadRow tab rfl rfl rfl rfl) rfl ?_ | refine pu (loadBox tab rfl rfl rfl rfl rfl) rfl ?_
  refine pu (puCall rfl rfl rfl (rorder_fn ..) rfl) rfl ?_
  refine pu (ev tab rfl) rfl ?_
  refine WO.nil ?_
  refine qs ?_
  refine W.seq ?_
  refine W.seq ?_
  refine W.region ?_
  refine pu (ev tab rfl) rfl ?_
  refine WO.nil ?_
  refine qs ?_
  refine W.block ?_
  refine W.seq ?_
  refine W.region ?_
  iterate 2 refine pu (ev tab rfl) rfl ?_
  refine WO.nil ?_
  refine qs ?_
  refine condK rfl (fun h12 => ?_) (fun h12 => ?_)
  · skip
    have h12 : op = 10 := of_decide_eq_true h12
    refine W.seq ?_
    refine W.region ?_
    iterate 2 refine pu (ev tab rfl) rfl ?_
    refine pu (puCall rfl rfl rfl (rtruth_fn ..) rfl) rfl ?_
    refine storeR tab rfl rfl rfl rfl rfl rfl rfl rfl ?_
    refine WO.nil ?_
    refine qs ?_
    refine W.ret ?_
    refine qbRet ?_
    refine qsRet ?_
    refine QV.ret0 tab trivial rfl ?_
    simp only [cmpV, if_pos h12]; rfl
  · skip
    have h12 : op ≠ 10 := of_decide_eq_false h12
    refine W.seq ?_
    refine W.region ?_
    iterate 2 refine pu (ev tab rfl) rfl ?_
    refine WO.nil ?_
    refine qs ?_
    refine condK rfl (fun h17 => ?_) (fun h17 => ?_)
    · skip
      have h17 : op = 11 := of_decide_eq_true h17
      refine W.seq ?_
      refine W.region ?_
      iterate 2 refine pu (ev tab rfl) rfl ?_
      refine pu (puCall rfl rfl rfl (rtruth_fn ..) rfl) rfl ?_
      refine storeR tab rfl rfl rfl rfl rfl rfl rfl rfl ?_
      refine WO.nil ?_
      refine qs ?_
      refine W.ret ?_
      refine qbRet ?_
      refine qsRet ?_
      refine QV.ret0 tab trivial rfl ?_
      simp only [cmpV, if_neg h12, if_pos h17]; rfl
    · skip
      have h17 : op ≠ 11 := of_decide_eq_false h17
      refine W.seq ?_
      refine W.region ?_
      iterate 2 refine pu (ev tab rfl) rfl ?_
      refine WO.nil ?_
      refine qs ?_
      refine condK rfl (fun h22 => ?_) (fun h22 => ?_)
      · skip
        have h22 : op = 12 := of_decide_eq_true h22
        refine W.seq ?_
        refine W.region ?_
        iterate 2 refine pu (ev tab rfl) rfl ?_
        refine pu (puCall rfl rfl rfl (rtruth_fn ..) rfl) rfl ?_
        refine storeR tab rfl rfl rfl rfl rfl rfl rfl rfl ?_
        refine WO.nil ?_
        refine qs ?_
        refine W.ret ?_
        refine qbRet ?_
        refine qsRet ?_
        refine QV.ret0 tab trivial rfl ?_
        simp only [cmpV, if_neg h12, if_neg h17, if_pos h22]; rfl
      · skip
        have h22 : op ≠ 12 := of_decide_eq_false h22
        refine W.skip ?_
        refine qbN ?_
        refine qs ?_
        refine W.seq ?_
        refine W.region ?_
        iterate 2 refine pu (ev tab rfl) rfl ?_
        refine pu (puCall rfl rfl rfl (rtruth_fn ..) rfl) rfl ?_
        refine storeR tab rfl rfl rfl rfl rfl rfl rfl rfl ?_
        refine WO.nil ?_
        refine qs ?_
        refine W.ret ?_
        refine QV.ret0 tab trivial rfl ?_
        simp only [cmpV, if_neg h12, if_neg h17, if_neg h22]; rfl
theorem occurs_fn (s p : ByteArray) (start : Bool) (hs : s.size ≤ 1000000) (hp : p.size ≤ 1000000) : Does Tryz.prog 94 [.d (.v (.string s)), .d (.v (.string p)), .d (.v (.bool start))] (.d (.v (.bool (occS s p start)))) 0 := by
  refine Does.of_W (n := 27) (ts := [6]) Tryz.func94 (by kernel_rfl) rfl Tryz.ntmps94 Tryz.results94 rfl rfl fun C hC hG => ?_
  refine W.seq ?_
  refine W.region ?_
  refine pu (ev tab rfl) rfl ?_
  refine WO.nil ?_
  refine qs ?_
  refine W.seq ?_
  refine W.seq ?_
  refine W.region ?_
  refine pu (ev tab rfl) rfl ?_
  refine WO.nil ?_
  refine qs ?_
  refine W.block ?_
  refine W.loopR (ι := {x : Nat // match x with | k => k ≤ s.size ∧ (start = true → k = 0) ∧ occAt s p k = occB s p})
    (fun x => match x.1 with | k => [(7, .d (.v (.int .i64 ((k : Nat) : Int))))]) [(0, _), (1, _), (2, _)]
    (fun x => match x.1 with | k => []) [] [] 0 (fun x => match x.1 with | k => s.size + 1 - k)
    [] ⟨0, ?_⟩ rfl ?_ ⟨rfl, rfl, rfl, rfl, rfl, rfl, trivial⟩ ?_ trivial rfl ?_
  · exact ⟨Nat.zero_le _, fun _ => rfl, rfl⟩
  · repeat' first | exact trivial | refine ⟨rfl, ?_⟩ | refine ⟨step_nat (by assumption) (by assumption), ?_⟩
  · repeat' first | exact trivial | refine ⟨rfl, ?_⟩ | refine ⟨step_nat (by assumption) (by assumption), ?_⟩
  rintro ⟨k, hk, hz, hI⟩
  show W _ _ _ _ _ ⟨[(7, .d (.v (.int .i64 ((k : Nat) : Int)))), (0, _), (1, _), (2, _)], [], [], 0⟩
  refine W.seq ?_
  refine W.seq ?_
  refine W.region ?_
  iterate 3 refine pu (ev tab rfl) rfl ?_
  refine pu (puI (ev tab rfl) (wrap64 (by omega))) rfl ?_
  iterate 3 refine pu (ev tab rfl) rfl ?_
  refine WO.nil ?_
  refine qs ?_
  refine condK rfl (fun h14 => ?_) (fun h14 => ?_)
  · skip
    have h14 : k + p.size ≤ s.size := by simp at h14; omega
    refine W.skip ?_
    refine qs ?_
    refine W.seq ?_
    refine W.block ?_
    refine W.seq ?_
    refine W.seq ?_
    refine W.region ?_
    iterate 5 refine pu (ev tab rfl) rfl ?_
    refine pu (puI (ev tab rfl) (wrap64 (by omega))) rfl ?_
    refine pu (strPart tab rfl rfl rfl rfl rfl (Int.natCast_nonneg _) (by omega) (by omega)) rfl ?_
    iterate 2 refine pu (ev tab rfl) rfl ?_
    refine WO.nil ?_
    refine qs ?_
    refine condK rfl (fun h25 => ?_) (fun h25 => ?_)
    · skip
      have h25 : (bys p).isPrefixOf ((bys s).drop k) = true := by rw [← extract_at h14]; exact h25
      refine W.seq ?_
      refine W.region ?_
      refine pu (ev tab rfl) rfl ?_
      refine WO.nil ?_
      refine qs ?_
      refine W.ret ?_
      refine qsRet ?_
      refine qbRet ?_
      refine qsRet ?_
      refine qlRet ?_
      refine qbRet ?_
      refine qsRet ?_
      refine QF.ret0 trivial rfl ?_
      rw [show occS s p start = true by
          simp only [occS]
          split
          · rename_i h; have := hz h; subst this; simpa [startB] using h25
          · rw [← hI]; exact occAt_hit h25]; rfl
    · skip
      have h25 : (bys p).isPrefixOf ((bys s).drop k) = false := by rw [← extract_at h14]; exact h25
      have hpp := prefix_nonempty h25
      refine W.skip ?_
      refine qs ?_
      refine W.seq ?_
      refine W.region ?_
      refine pu (ev tab rfl) rfl ?_
      refine WO.nil ?_
      refine qs ?_
      refine condK rfl (fun h26 => ?_) (fun h26 => ?_)
      · skip
        refine W.seq ?_
        refine W.region ?_
        refine pu (ev tab rfl) rfl ?_
        refine WO.nil ?_
        refine qs ?_
        refine W.ret ?_
        refine qbRet ?_
        refine qsRet ?_
        refine qlRet ?_
        refine qbRet ?_
        refine qsRet ?_
        refine QF.ret0 trivial rfl ?_
        rw [show occS s p start = false by
            have h26 : start = true := h26
            have := hz h26; subst this; simp only [occS, h26, if_true]; simpa [startB] using h25]; rfl
      · skip
        refine W.skip ?_
        refine qbN ?_
        refine qs ?_
        refine W.region ?_
        refine pu (ev tab rfl) rfl ?_
        refine pu (puI (ev tab rfl) (wrap64 (by omega))) rfl ?_
        refine pu (ev tab rfl) rfl ?_
        refine WO.nil ?_
        refine W.endR [] ⟨k + 1, ?_⟩ ?_ rfl ?_ ⟨rfl, rfl, rfl, rfl, rfl, rfl, trivial⟩ ?_ trivial rfl
        · exact ⟨by omega, fun h => absurd h (by simp_all), by rw [← occAt_step h25 (by omega), hI]⟩
        · dsimp only; omega
        · repeat' first | exact trivial | refine ⟨rfl, ?_⟩ | refine ⟨step_nat (by assumption) (by assumption), ?_⟩
        · repeat' first | exact trivial | refine ⟨rfl, ?_⟩ | refine ⟨step_nat (by assumption) (by assumption), ?_⟩
  · skip
    have h14 : s.size < k + p.size := by simp at h14; omega
    refine W.exit ?_
    refine qsExit ?_
    refine qlExit ?_
    refine qbExit ?_
    refine qs ?_
    refine W.seq ?_
    refine W.region ?_
    refine pu (ev tab rfl) rfl ?_
    refine WO.nil ?_
    refine qs ?_
    refine W.ret ?_
    refine QF.ret0 trivial rfl ?_
    rw [show occS s p start = false by
        simp only [occS]
        split
        · rename_i h; have := hz h; subst this; exact starts_long (by omega)
        · rw [← hI]; exact occAt_end h14 hk]; rfl
theorem rcalled_fn (name : ByteArray) (l : List Val) (hn : (l.length : Int) = arity name ∧ arity name ≠ 0) (ha : name = wAbs → ∀ v ∈ l, inR v.n = true) (hs : name = wHas ∨ name = wStarts → ∀ v ∈ l, v.s.size ≤ 200) :
    Does Tryz.prog 80 [.d (.v (.string name)), .d (.sl (l.map Val.c))] (.ag (callV name (l.getD 0 nullV) (l.getD 1 nullV)).c) 0 := by
  have hl1 : 1 ≤ l.length := by
    have : 0 ≤ arity name := by simp only [arity]; split <;> (try split) <;> omega
    omega
  have hl2 : name ≠ wAbs → name ≠ wLen → 2 ≤ l.length := fun h1 h2 => by have := arity2 hn.2 h1 h2; omega
  refine Does.of_V tab (n := 63) (rs := [.cell 4 27]) Tryz.func80 (by kernel_rfl) rfl Tryz.ntmps80 Tryz.results80 rfl fun C hC hG => ?_
  refine W.seq ?_
  refine W.region ?_
  refine allocR tab rfl rfl rfl ?_
  refine WO.nil ?_
  refine qs ?_
  refine W.seq ?_
  refine W.seq ?_
  refine W.region ?_
  refine pu (ev tab rfl) rfl ?_
  refine WO.nil ?_
  refine qs ?_
  refine W.block ?_
  refine W.seq ?_
  refine W.region ?_
  iterate 2 refine pu (ev tab rfl) rfl ?_
  refine WO.nil ?_
  refine qs ?_
  refine condK rfl (fun h6 => ?_) (fun h6 => ?_)
  · skip
    have h6 : name = wAbs := of_decide_eq_true h6
    refine W.seq ?_
    refine W.region ?_
    refine pu (ev tab rfl) rfl ?_
    refine pu (indexAddr tab rfl rfl rfl rfl rfl rfl (Int.le_refl _) (idx_map (l0 hl1)) rfl) rfl ?_
    refine pu (ev tab rfl) rfl ?_
    first | refine pu (ev tab rfl) rfl ?_ | refine pu (loadRow tab rfl rfl rfl rfl) rfl ?_ | refine pu (loadBox tab rfl rfl rfl rfl rfl) rfl ?_
    refine pu (puCall rfl rfl rfl (rmagn_fn _ (ha h6 _ (mem0 hl1))) rfl) rfl ?_
    refine pu (puCall rfl rfl rfl (rnumber_fn ..) rfl) rfl ?_
    refine storeR tab rfl rfl rfl rfl rfl rfl rfl rfl ?_
    refine WO.nil ?_
    refine qs ?_
    refine W.ret ?_
    refine qbRet ?_
    refine qsRet ?_
    refine QV.ret0 tab trivial rfl ?_
    rw [show callV name (l.getD 0 nullV) (l.getD 1 nullV) = numV (l.getD 0 nullV).n.natAbs by simp only [callV, if_pos h6]]; rfl
  · skip
    have h6 : name ≠ wAbs := of_decide_eq_false h6
    refine W.seq ?_
    refine W.region ?_
    iterate 2 refine pu (ev tab rfl) rfl ?_
    refine WO.nil ?_
    refine qs ?_
    refine condK rfl (fun h14 => ?_) (fun h14 => ?_)
    · skip
      have h14 : name = wLen := of_decide_eq_true h14
      refine W.seq ?_
      refine W.region ?_
      refine pu (ev tab rfl) rfl ?_
      refine pu (indexAddr tab rfl rfl rfl rfl rfl rfl (Int.le_refl _) (idx_map (l0 hl1)) rfl) rfl ?_
      refine pu (ev tab rfl) rfl ?_
      first | refine pu (ev tab rfl) rfl ?_ | refine pu (loadRow tab rfl rfl rfl rfl) rfl ?_ | refine pu (loadBox tab rfl rfl rfl rfl rfl) rfl ?_
      refine pu (ev tab rfl) rfl ?_
      refine pu (puCall rfl rfl rfl (rnumber_fn ..) rfl) rfl ?_
      refine storeR tab rfl rfl rfl rfl rfl rfl rfl rfl ?_
      refine WO.nil ?_
      refine qs ?_
      refine W.ret ?_
      refine qbRet ?_
      refine qsRet ?_
      refine QV.ret0 tab trivial rfl ?_
      rw [show callV name (l.getD 0 nullV) (l.getD 1 nullV) = numV (l.getD 0 nullV).s.size by simp only [callV, if_neg h6, if_pos h14]]; rfl
    · skip
      have h14 : name ≠ wLen := of_decide_eq_false h14
      have hl2 := hl2 h6 h14
      refine W.seq ?_
      refine W.region ?_
      iterate 2 refine pu (ev tab rfl) rfl ?_
      refine WO.nil ?_
      refine qs ?_
      refine condK rfl (fun h22 => ?_) (fun h22 => ?_)
      · skip
        have h22 : name = wHas := of_decide_eq_true h22
        have q1 := hs (.inl h22) _ (mem0 hl1)
        have q2 := hs (.inl h22) _ (mem1 hl2)
        refine W.seq ?_
        refine W.regionE tab 10 0 (by kernel_rfl) rfl rfl ?_
        refine cePu rfl (ev tab rfl) rfl ?_
        refine cePu rfl (indexAddr tab rfl rfl rfl rfl rfl rfl (Int.le_refl _) (idx_map (l0 hl1)) rfl) rfl ?_
        refine cePu rfl (ev tab rfl) rfl ?_
        first | refine cePu rfl (ev tab rfl) rfl ?_ | refine cePu rfl (loadRow tab rfl rfl rfl rfl) rfl ?_ | refine cePu rfl (loadBox tab rfl rfl rfl rfl rfl) rfl ?_
        refine cePu rfl (ev tab rfl) rfl ?_
        refine cePu rfl (indexAddr tab rfl rfl rfl rfl rfl rfl (by decide) (idx_map (l1 hl2)) rfl) rfl ?_
        refine cePu rfl (ev tab rfl) rfl ?_
        first | refine cePu rfl (ev tab rfl) rfl ?_ | refine cePu rfl (loadRow tab rfl rfl rfl rfl) rfl ?_ | refine cePu rfl (loadBox tab rfl rfl rfl rfl rfl) rfl ?_
        refine cePu rfl (puCall rfl rfl rfl (occurs_fn _ _ _ (by omega) (by omega)) rfl) rfl ?_
        refine cePu rfl (puCall rfl rfl rfl (rtruth_fn ..) rfl) rfl ?_
        refine CE.nil ?_
        refine storeR tab rfl rfl rfl rfl rfl rfl rfl rfl ?_
        refine WO.nil ?_
        refine qs ?_
        refine W.ret ?_
        refine qbRet ?_
        refine qsRet ?_
        refine QV.ret0 tab trivial rfl ?_
        rw [show callV name (l.getD 0 nullV) (l.getD 1 nullV) = truthV (occS (l.getD 0 nullV).s (l.getD 1 nullV).s false) by simp only [callV, if_neg h6, if_neg h14, if_pos h22]; rfl]; rfl
      · skip
        have h22 : name ≠ wHas := of_decide_eq_false h22
        refine W.seq ?_
        refine W.region ?_
        iterate 2 refine pu (ev tab rfl) rfl ?_
        refine WO.nil ?_
        refine qs ?_
        refine condK rfl (fun h34 => ?_) (fun h34 => ?_)
        · skip
          have h34 : name = wStarts := of_decide_eq_true h34
          have q1 := hs (.inr h34) _ (mem0 hl1)
          have q2 := hs (.inr h34) _ (mem1 hl2)
          refine W.seq ?_
          refine W.regionE tab 10 0 (by kernel_rfl) rfl rfl ?_
          refine cePu rfl (ev tab rfl) rfl ?_
          refine cePu rfl (indexAddr tab rfl rfl rfl rfl rfl rfl (Int.le_refl _) (idx_map (l0 hl1)) rfl) rfl ?_
          refine cePu rfl (ev tab rfl) rfl ?_
          first | refine cePu rfl (ev tab rfl) rfl ?_ | refine cePu rfl (loadRow tab rfl rfl rfl rfl) rfl ?_ | refine cePu rfl (loadBox tab rfl rfl rfl rfl rfl) rfl ?_
          refine cePu rfl (ev tab rfl) rfl ?_
          refine cePu rfl (indexAddr tab rfl rfl rfl rfl rfl rfl (by decide) (idx_map (l1 hl2)) rfl) rfl ?_
          refine cePu rfl (ev tab rfl) rfl ?_
          first | refine cePu rfl (ev tab rfl) rfl ?_ | refine cePu rfl (loadRow tab rfl rfl rfl rfl) rfl ?_ | refine cePu rfl (loadBox tab rfl rfl rfl rfl rfl) rfl ?_
          refine cePu rfl (puCall rfl rfl rfl (occurs_fn _ _ _ (by omega) (by omega)) rfl) rfl ?_
          refine cePu rfl (puCall rfl rfl rfl (rtruth_fn ..) rfl) rfl ?_
          refine CE.nil ?_
          refine storeR tab rfl rfl rfl rfl rfl rfl rfl rfl ?_
          refine WO.nil ?_
          refine qs ?_
          refine W.ret ?_
          refine qbRet ?_
          refine qsRet ?_
          refine QV.ret0 tab trivial rfl ?_
          rw [show callV name (l.getD 0 nullV) (l.getD 1 nullV) = truthV (occS (l.getD 0 nullV).s (l.getD 1 nullV).s true) by simp only [callV, if_neg h6, if_neg h14, if_neg h22, if_pos h34]; rfl]; rfl
        · skip
          have h34 : name ≠ wStarts := of_decide_eq_false h34
          refine W.skip ?_
          refine qbN ?_
          refine qs ?_
          refine W.seq ?_
          refine W.seq ?_
          refine W.regionD tab (by kernel_rfl) ?_
          refine chPu (ev tab rfl) rfl ?_
          refine chPu (indexAddr tab rfl rfl rfl rfl rfl rfl (Int.le_refl _) (idx_map (l0 hl1)) rfl) rfl ?_
          first | refine chPu (ev tab rfl) rfl ?_ | refine chPu (loadRow tab rfl rfl rfl rfl) rfl ?_ | refine chPu (loadBox tab rfl rfl rfl rfl rfl) rfl ?_
          refine chPu (ev tab rfl) rfl ?_
          refine chPu (indexAddr tab rfl rfl rfl rfl rfl rfl (by decide) (idx_map (l1 hl2)) rfl) rfl ?_
          first | refine chPu (ev tab rfl) rfl ?_ | refine chPu (loadRow tab rfl rfl rfl rfl) rfl ?_ | refine chPu (loadBox tab rfl rfl rfl rfl rfl) rfl ?_
          refine chPu (puCall rfl rfl rfl (rorder_fn ..) rfl) rfl ?_
          refine chPu (ev tab rfl) rfl ?_
          refine chPu (ev tab rfl) rfl ?_
          refine chPu (ev tab rfl) rfl ?_
          refine chPu (ev tab rfl) rfl ?_
          refine CH.nil ?_
          refine qs ?_
          refine condK rfl (fun h56 => ?_) (fun h56 => ?_)
          · skip
            refine W.seq ?_
            refine W.region ?_
            refine pu (ev tab rfl) rfl ?_
            refine pu (indexAddr tab rfl rfl rfl rfl rfl rfl (Int.le_refl _) (idx_map (l0 hl1)) rfl) rfl ?_
            first | refine pu (ev tab rfl) rfl ?_ | refine pu (loadRow tab rfl rfl rfl rfl) rfl ?_ | refine pu (loadBox tab rfl rfl rfl rfl rfl) rfl ?_
            refine storeR tab rfl rfl rfl rfl rfl rfl rfl rfl ?_
            refine WO.nil ?_
            refine qs ?_
            refine W.ret ?_
            refine qsRet ?_
            refine QV.ret0 tab trivial rfl ?_
            rw [show callV name (l.getD 0 nullV) (l.getD 1 nullV) = l.getD 0 nullV by simp only [callV, if_neg h6, if_neg h14, if_neg h22, if_neg h34]; rw [if_pos]; exact of_decide_eq_true h56]; rfl
          · skip
            refine W.skip ?_
            refine qs ?_
            refine W.seq ?_
            refine W.region ?_
            refine pu (ev tab rfl) rfl ?_
            refine pu (indexAddr tab rfl rfl rfl rfl rfl rfl (by decide) (idx_map (l1 hl2)) rfl) rfl ?_
            first | refine pu (ev tab rfl) rfl ?_ | refine pu (loadRow tab rfl rfl rfl rfl) rfl ?_ | refine pu (loadBox tab rfl rfl rfl rfl rfl) rfl ?_
            refine storeR tab rfl rfl rfl rfl rfl rfl rfl rfl ?_
            refine WO.nil ?_
            refine qs ?_
            refine W.ret ?_
            refine QV.ret0 tab trivial rfl ?_
            rw [show callV name (l.getD 0 nullV) (l.getD 1 nullV) = l.getD 1 nullV by simp only [callV, if_neg h6, if_neg h14, if_neg h22, if_neg h34]; rw [if_neg]; exact of_decide_eq_false h56]; rfl
theorem rlogic_fn (a b s : Val) : Does Tryz.prog 77 [.ag a.c, .ag b.c, .ag s.c] (.ag (logicV a b s).c) 0 := by
  refine Does.of_V tab (n := 28) (rs := [.cell 6 27]) Tryz.func77 (by kernel_rfl) rfl Tryz.ntmps77 Tryz.results77 rfl fun C hC hG => ?_
  refine W.seq ?_
  refine W.region ?_
  refine boxR rfl rfl rfl ?_
  refine boxR rfl rfl rfl ?_
  refine boxR rfl rfl rfl ?_
  refine allocR tab rfl rfl rfl ?_
  refine WO.nil ?_
  refine qs ?_
  refine W.seq ?_
  refine W.block ?_
  refine W.seq ?_
  apply regionB; (case hb => rfl)
  · skip
    first | refine pu (ev tab rfl) rfl ?_ | refine pu (loadRow tab rfl rfl rfl rfl) rfl ?_ | refine pu (loadBox tab rfl rfl rfl rfl rfl) rfl ?_
    first | refine pu (ev tab rfl) rfl ?_ | refine pu (loadRow tab rfl rfl rfl rfl) rfl ?_ | refine pu (loadBox tab rfl rfl rfl rfl rfl) rfl ?_
    iterate 2 refine pu (ev tab rfl) rfl ?_
    apply splitJ; (case hj => rfl); (case hl => rfl)
    · skip
      refine skipT rfl rfl rfl rfl ?_
      refine skipT rfl rfl rfl rfl ?_
      refine skipT rfl rfl rfl rfl ?_
      iterate 2 refine pu (ev tab rfl) rfl ?_
      refine WO.nil ?_
      refine qv1 rfl rfl rfl
    · skip
      refine goG rfl rfl ?_
      first | refine pu (ev tab rfl) rfl ?_ | refine pu (loadRow tab rfl rfl rfl rfl) rfl ?_ | refine pu (loadBox tab rfl rfl rfl rfl rfl) rfl ?_
      refine goG rfl rfl ?_
      first | refine pu (ev tab rfl) rfl ?_ | refine pu (loadRow tab rfl rfl rfl rfl) rfl ?_ | refine pu (loadBox tab rfl rfl rfl rfl rfl) rfl ?_
      refine goG rfl rfl ?_
      iterate 3 refine pu (ev tab rfl) rfl ?_
      refine WO.nil ?_
      refine qv1 rfl rfl rfl
  refine qs ?_
  refine condK rfl (fun h7 => ?_) (fun h7 => ?_)
  · skip
    rw [valEq, valEq, bifOr, Bool.or_eq_true, decide_eq_true_eq, decide_eq_true_eq] at h7
    refine W.seq ?_
    refine W.region ?_
    first | refine pu (ev tab rfl) rfl ?_ | refine pu (loadRow tab rfl rfl rfl rfl) rfl ?_ | refine pu (loadBox tab rfl rfl rfl rfl rfl) rfl ?_
    refine storeR tab rfl rfl rfl rfl rfl rfl rfl rfl ?_
    refine WO.nil ?_
    refine qs ?_
    refine W.ret ?_
    refine qbRet ?_
    refine qsRet ?_
    refine QV.ret0 tab trivial rfl ?_
    rw [show logicV a b s = s by simp only [logicV, if_pos h7]]; rfl
  · skip
    rw [valEq, valEq, bifOr, Bool.or_eq_false_iff, decide_eq_false_iff_not, decide_eq_false_iff_not] at h7
    refine W.seq ?_
    apply regionB; (case hb => rfl)
    · skip
      first | refine pu (ev tab rfl) rfl ?_ | refine pu (loadRow tab rfl rfl rfl rfl) rfl ?_ | refine pu (loadBox tab rfl rfl rfl rfl rfl) rfl ?_
      refine pu (build tab rfl rfl rfl rfl) rfl ?_
      iterate 2 refine pu (ev tab rfl) rfl ?_
      apply splitJ; (case hj => rfl); (case hl => rfl)
      · skip
        refine skipT rfl rfl rfl rfl ?_
        refine skipT rfl rfl rfl rfl ?_
        refine skipT rfl rfl rfl rfl ?_
        iterate 2 refine pu (ev tab rfl) rfl ?_
        refine WO.nil ?_
        refine qv1 rfl rfl rfl
      · skip
        refine goG rfl rfl ?_
        first | refine pu (ev tab rfl) rfl ?_ | refine pu (loadRow tab rfl rfl rfl rfl) rfl ?_ | refine pu (loadBox tab rfl rfl rfl rfl rfl) rfl ?_
        refine goG rfl rfl ?_
        refine pu (build tab rfl rfl rfl rfl) rfl ?_
        refine goG rfl rfl ?_
        iterate 3 refine pu (ev tab rfl) rfl ?_
        refine WO.nil ?_
        refine qv1 rfl rfl rfl
    refine qs ?_
    refine condK rfl (fun h17 => ?_) (fun h17 => ?_)
    · skip
      refine W.seq ?_
      refine W.region ?_
      refine pu (build tab rfl rfl rfl rfl) rfl ?_
      refine storeR tab rfl rfl rfl rfl rfl rfl rfl rfl ?_
      refine WO.nil ?_
      refine qs ?_
      refine W.ret ?_
      refine qbRet ?_
      refine qsRet ?_
      refine QV.ret0 tab trivial rfl ?_
      rw [show logicV a b s = nullV by
          have h17 : a = nullV ∨ b = nullV := by
            have h := h17
            rw [show (decide (a.kind = 0) && (decide (a.n = 0) && (decide (a.s = B #[]) && true))) = decide (a = nullV) from valEq a nullV, show (decide (b.kind = 0) && (decide (b.n = 0) && (decide (b.s = B #[]) && true))) = decide (b = nullV) from valEq b nullV, bifOr, Bool.or_eq_true, decide_eq_true_eq, decide_eq_true_eq] at h
            exact h
          simp only [logicV, if_neg (not_or.2 h7), if_pos h17]]; rfl
    · skip
      refine W.skip ?_
      refine qbN ?_
      refine qs ?_
      refine W.seq ?_
      refine W.region ?_
      first | refine pu (ev tab rfl) rfl ?_ | refine pu (loadRow tab rfl rfl rfl rfl) rfl ?_ | refine pu (loadBox tab rfl rfl rfl rfl rfl) rfl ?_
      refine storeR tab rfl rfl rfl rfl rfl rfl rfl rfl ?_
      refine WO.nil ?_
      refine qs ?_
      refine W.ret ?_
      refine QV.ret0 tab trivial rfl ?_
      rw [show logicV a b s = a by
          have h17 : ¬ a = nullV ∧ ¬ b = nullV := by
            have h := h17
            rw [show (decide (a.kind = 0) && (decide (a.n = 0) && (decide (a.s = B #[]) && true))) = decide (a = nullV) from valEq a nullV, show (decide (b.kind = 0) && (decide (b.n = 0) && (decide (b.s = B #[]) && true))) = decide (b = nullV) from valEq b nullV, bifOr, Bool.or_eq_false_iff, decide_eq_false_iff_not, decide_eq_false_iff_not] at h
            exact h
          simp only [logicV, if_neg (not_or.2 h7), if_neg (not_or.2 h17)]]; rfl
theorem ranyNull_fn (l : List Val) : Does Tryz.prog 79 [.d (.sl (l.map Val.c))] (.d (.v (.bool (l.any fun v => decide (v.kind = 0))))) 0 := by
  refine Does.of_W (n := 16) (ts := [2]) Tryz.func79 (by kernel_rfl) rfl Tryz.ntmps79 Tryz.results79 rfl rfl fun C hC hG => ?_
  refine W.seq ?_
  refine W.region ?_
  refine pu (ev tab rfl) rfl ?_
  refine WO.nil ?_
  refine qs ?_
  refine W.seq ?_
  refine W.seq ?_
  refine W.region ?_
  refine pu (ev tab rfl) rfl ?_
  refine WO.nil ?_
  refine qs ?_
  refine W.block ?_
  refine W.len (t := 0) rfl rfl (fun hlen => ?_)
  try simp only [List.length_map, Ex.kc_len] at hlen
  refine W.loopR (ι := {x : Nat // match x with | k => k ≤ l.length ∧ (l.drop k).any (fun v => decide (v.kind = 0)) = l.any (fun v => decide (v.kind = 0))})
    (fun x => match x.1 with | k => [(3, .d (.v (.int .i64 ((k : Nat) : Int))))]) [(0, _)]
    (fun x => match x.1 with | k => []) [] [] 0 (fun x => match x.1 with | k => l.length - k)
    [] ⟨0, ?_⟩ rfl ?_ ⟨rfl, rfl, trivial⟩ ?_ trivial rfl ?_
  · first | exact ⟨Nat.zero_le _, rfl⟩ | exact trivial | simp
  · repeat' first | exact trivial | refine ⟨rfl, ?_⟩ | refine ⟨step_nat (by assumption) (by assumption), ?_⟩
  · repeat' first | exact trivial | refine ⟨rfl, ?_⟩ | refine ⟨step_nat (by assumption) (by assumption), ?_⟩
  rintro ⟨k, hk, hI⟩
  show W _ _ _ _ _ ⟨[(3, .d (.v (.int .i64 ((k : Nat) : Int)))), (0, _)], [], [], 0⟩
  refine W.seq ?_
  refine W.seq ?_
  refine W.region ?_
  iterate 4 refine pu (ev tab rfl) rfl ?_
  refine WO.nil ?_
  refine qs ?_
  refine eachR (l := l) (k := k) rfl (by simp [Ex.kc_len, bytes_len]) hk (fun v hx hd hlt => ?_) (fun he hd => ?_)
  · skip
    rw [hd, List.any_cons] at hI
    refine W.skip ?_
    refine qs ?_
    refine W.seq ?_
    refine W.block ?_
    refine W.seq ?_
    refine W.region ?_
    iterate 2 refine pu (ev tab rfl) rfl ?_
    refine pu (indexAddr tab rfl rfl rfl rfl rfl rfl (Int.natCast_nonneg _) (idx_map hx) rfl) rfl ?_
    refine pu (ev tab rfl) rfl ?_
    first | refine pu (ev tab rfl) rfl ?_ | refine pu (loadRow tab rfl rfl rfl rfl) rfl ?_ | refine pu (loadBox tab rfl rfl rfl rfl rfl) rfl ?_
    refine pu (ev tab rfl) rfl ?_
    refine WO.nil ?_
    refine qs ?_
    refine condK rfl (fun h15 => ?_) (fun h15 => ?_)
    · skip
      rw [h15, Bool.true_or] at hI
      refine W.seq ?_
      refine W.region ?_
      refine pu (ev tab rfl) rfl ?_
      refine WO.nil ?_
      refine qs ?_
      refine W.ret ?_
      refine qbRet ?_
      refine qsRet ?_
      refine qlRet ?_
      refine qbRet ?_
      refine qsRet ?_
      refine QF.ret0 trivial rfl ?_
      rw [← hI]; rfl
    · skip
      rw [h15, Bool.false_or] at hI
      refine W.skip ?_
      refine qbN ?_
      refine qs ?_
      refine W.region ?_
      iterate 3 refine pu (ev tab rfl) rfl ?_
      refine WO.nil ?_
      refine W.endR [] ⟨k + 1, ?_⟩ ?_ rfl ?_ ⟨rfl, rfl, trivial⟩ ?_ trivial rfl
      · exact ⟨hlt, hI⟩
      · dsimp only; omega
      · repeat' first | exact trivial | refine ⟨rfl, ?_⟩ | refine ⟨step_nat (by assumption) (by assumption), ?_⟩
      · repeat' first | exact trivial | refine ⟨rfl, ?_⟩ | refine ⟨step_nat (by assumption) (by assumption), ?_⟩
  · skip
    rw [hd] at hI
    refine W.exit ?_
    refine qsExit ?_
    refine qlExit ?_
    refine qbExit ?_
    refine qs ?_
    refine W.seq ?_
    refine W.region ?_
    refine pu (ev tab rfl) rfl ?_
    refine WO.nil ?_
    refine qs ?_
    refine W.ret ?_
    refine QF.ret0 trivial rfl ?_
    rw [← hI]; rfl
end Go.Proofs.YtaifpecinbjgcabGreat
namespace Go.Proofs.YtaifpecinbjgcabGreat
open Go.Ab Go.Tb
set_option maxRecDepth 10000
attribute [local irreducible] W WO Pu QS QB QL QF QV QV1 CH QE
theorem rvalue2_fn (cols : List Col) (row : List Val) (hf : fitsB cols row = true) : ∀ (e : Ex), nodesErr e = 0 → (typ cols e).2 = 0 → Does Tryz.prog 56 [.d (.sl (cols.map Col.c)), .d (.sl (row.map Val.c)), .ag e.c] (.ag (evalV cols row e).c) 0 := by
  refine Ex.ind fun e ih => ?_
  intro hv ht
  have hkv := valid_kids (valid_node hv)
  refine Does.of_V tab (n := 127) (rs := [.cell 6 27]) Tryz.func56 (by kernel_rfl) rfl Tryz.ntmps56 Tryz.results56 rfl fun C hC hG => ?_
  refine W.seq ?_
  refine W.region ?_
  refine boxR rfl rfl rfl ?_
  refine allocR tab rfl rfl rfl ?_
  refine WO.nil ?_
  refine qs ?_
  refine W.seq ?_
  refine W.seq ?_
  refine W.region ?_
  refine pu (ev tab rfl) rfl ?_
  first | refine pu (ev tab rfl) rfl ?_ | refine pu (loadRow tab rfl rfl rfl rfl) rfl ?_ | refine pu (loadBox tab rfl rfl rfl rfl rfl) rfl ?_
  refine pu (ev tab rfl) rfl ?_
  refine WO.nil ?_
  refine qs ?_
  refine condK rfl (fun h11 => ?_) (fun h11 => ?_)
  · skip
    have h11 : e.op = 1 := of_decide_eq_true h11
    refine W.seq ?_
    refine W.region ?_
    refine pu (ev tab rfl) rfl ?_
    first | refine pu (ev tab rfl) rfl ?_ | refine pu (loadRow tab rfl rfl rfl rfl) rfl ?_ | refine pu (loadBox tab rfl rfl rfl rfl rfl) rfl ?_
    refine storeR tab rfl rfl rfl rfl rfl rfl rfl rfl ?_
    refine WO.nil ?_
    refine qs ?_
    refine W.ret ?_
    refine qsRet ?_
    refine QV.ret0 tab trivial rfl ?_
    rw [evalV_eq, if_pos h11]; rfl
  · skip
    have h11 : e.op ≠ 1 := of_decide_eq_false h11
    refine W.skip ?_
    refine qs ?_
    refine W.seq ?_
    refine W.seq ?_
    refine W.region ?_
    refine pu (ev tab rfl) rfl ?_
    first | refine pu (ev tab rfl) rfl ?_ | refine pu (loadRow tab rfl rfl rfl rfl) rfl ?_ | refine pu (loadBox tab rfl rfl rfl rfl rfl) rfl ?_
    refine pu (ev tab rfl) rfl ?_
    refine WO.nil ?_
    refine qs ?_
    refine condK rfl (fun h16 => ?_) (fun h16 => ?_)
    · skip
      have h16 : e.op = 2 := of_decide_eq_true h16
      obtain ⟨i, h3, h4⟩ := field_ok hf ht h16
      refine W.seq ?_
      refine W.region ?_
      iterate 3 refine pu (ev tab rfl) rfl ?_
      first | refine pu (ev tab rfl) rfl ?_ | refine pu (loadRow tab rfl rfl rfl rfl) rfl ?_ | refine pu (loadBox tab rfl rfl rfl rfl rfl) rfl ?_
      refine pu (puCall rfl rfl rfl (rfind_fn ..) rfl) rfl ?_
      refine pu (indexAddr tab rfl rfl rfl rfl rfl rfl (i := idx _) (by rw [h3]; exact Int.natCast_nonneg _) (by rw [h3]; exact idx_map h4) rfl) rfl ?_
      first | refine pu (ev tab rfl) rfl ?_ | refine pu (loadRow tab rfl rfl rfl rfl) rfl ?_ | refine pu (loadBox tab rfl rfl rfl rfl rfl) rfl ?_
      refine storeR tab rfl rfl rfl rfl rfl rfl rfl rfl ?_
      refine WO.nil ?_
      refine qs ?_
      refine W.ret ?_
      refine qsRet ?_
      refine QV.ret0 tab trivial rfl ?_
      rfl
    · skip
      have h16 : e.op ≠ 2 := of_decide_eq_false h16
      refine W.skip ?_
      refine qs ?_
      refine W.seq ?_
      refine W.region ?_
      refine pu (ev tab rfl) rfl ?_
      refine WO.nil ?_
      refine qs ?_
      refine W.seq ?_
      refine W.seq ?_
      refine W.region ?_
      refine pu (ev tab rfl) rfl ?_
      refine WO.nil ?_
      refine qs ?_
      refine W.block ?_
      refine lenBox (g := 0) (j := 5) rfl rfl (fun hlen => ?_)
      rw [Ex.kc_len] at hlen
      refine ownNilR (d := 7) rfl rfl ?_
      refine W.loopR (ι := {x : Nat × List Val // match x with | (k, vs) => k ≤ e.kids.length ∧ vs = (e.kids.take k).map (evalV cols row)})
        (fun x => match x.1 with | (k, vs) => [(5, .ptr 0 0), (6, .ptr 1 0), (7, .own 2 (vs.map Val.c)), (8, .d (.v (.int .i64 ((k : Nat) : Int))))]) [(0, _), (1, _)]
        (fun x => match x.1 with | (k, vs) => []) [(0, _), (1, _)] [2] 3 (fun x => match x.1 with | (k, vs) => e.kids.length - k)
        [0, 1, 2] ⟨(0, []), ?_⟩ rfl ?_ ⟨rfl, rfl, rfl, rfl, trivial⟩ ?_ ⟨rfl, rfl, rfl, rfl, trivial⟩ rfl ?_
      · exact ⟨Nat.zero_le _, rfl⟩
      · repeat' first | exact trivial | refine ⟨rfl, ?_⟩ | refine ⟨step_nat (by assumption) (by assumption), ?_⟩
      · repeat' first | exact trivial | refine ⟨rfl, ?_⟩ | refine ⟨step_nat (by assumption) (by assumption), ?_⟩
      rintro ⟨⟨k, vs⟩, hk, hI⟩
      show W _ _ _ _ _ ⟨[(5, .ptr 0 0), (6, .ptr 1 0), (7, .own 2 (vs.map Val.c)), (8, .d (.v (.int .i64 ((k : Nat) : Int)))), (0, _), (1, _)], [(0, _), (1, _)], [2], 3⟩
      refine W.seq ?_
      refine W.seq ?_
      refine W.region ?_
      iterate 2 refine pu (ev tab rfl) rfl ?_
      first | refine pu (ev tab rfl) rfl ?_ | refine pu (loadRow tab rfl rfl rfl rfl) rfl ?_ | refine pu (loadBox tab rfl rfl rfl rfl rfl) rfl ?_
      iterate 2 refine pu (ev tab rfl) rfl ?_
      refine WO.nil ?_
      refine qs ?_
      refine eachR (l := e.kids) (k := k) rfl (by simp [Ex.kc_len, bytes_len]) hk (fun x hx hd hlt => ?_) (fun he hd => ?_)
      · skip
        have hmem := List.mem_of_getElem? hx
        have hvl : vs.length ≤ 2 := by rw [hI, List.length_map, List.length_take]; have := hkv.2.2.2.2.1; omega
        refine W.skip ?_
        refine qs ?_
        refine W.seq ?_
        refine W.block ?_
        refine W.region ?_
        iterate 4 refine pu (ev tab rfl) rfl ?_
        first | refine pu (ev tab rfl) rfl ?_ | refine pu (loadRow tab rfl rfl rfl rfl) rfl ?_ | refine pu (loadBox tab rfl rfl rfl rfl rfl) rfl ?_
        refine pu (ev tab rfl) rfl ?_
        refine pu (indexAddr tab rfl rfl rfl rfl rfl rfl (Int.natCast_nonneg _) (Ex.kc_idx hx) rfl) rfl ?_
        first | refine pu (ev tab rfl) rfl ?_ | refine pu (loadRow tab rfl rfl rfl rfl) rfl ?_ | refine pu (loadBox tab rfl rfl rfl rfl rfl) rfl ?_
        refine pu (puCall rfl rfl rfl (ih x hmem (valid_kid hv hmem) ((typ_kids ht h11 h16).1 x hmem)) rfl) rfl ?_
        refine pu (buildV tab rfl rfl rfl rfl rfl rfl rfl rfl rfl) rfl ?_
        refine appendM tab rfl rfl rfl rfl rfl rfl rfl rfl rfl rfl (fun _ => rfl) (by show (vs.length + 1) * 32 ≤ _; omega) ?_
        refine pu (ev tab rfl) rfl ?_
        refine WO.nil ?_
        refine qbN ?_
        refine qs ?_
        refine W.region ?_
        iterate 3 refine pu (ev tab rfl) rfl ?_
        refine WO.nil ?_
        refine W.endR [0, 1, 3] ⟨(k + 1, vs ++ [evalV cols row x]), ?_⟩ ?_ rfl ?_ ⟨rfl, rfl, rfl, rfl, trivial⟩ ?_ ⟨rfl, rfl, rfl, rfl, trivial⟩ rfl
        · exact ⟨hlt, by rw [take_map_succ hx, hI]⟩
        · dsimp only; omega
        · repeat' first | exact trivial | refine ⟨rfl, ?_⟩ | refine ⟨step_nat (by assumption) (by assumption), ?_⟩
        · repeat' first | exact trivial | refine ⟨rfl, ?_⟩ | refine ⟨step_nat (by assumption) (by assumption), ?_⟩
      · skip
        have hI : vs = e.kids.map (evalV cols row) := by rw [hI, take_map_end he]
        refine W.exit ?_
        refine qsExit ?_
        refine qlExit ?_
        refine qbExit ?_
        refine qs ?_
        refine W.seq ?_
        refine W.block ?_
        refine W.seq ?_
        refine W.region ?_
        refine pu (ev tab rfl) rfl ?_
        first | refine pu (ev tab rfl) rfl ?_ | refine pu (loadRow tab rfl rfl rfl rfl) rfl ?_ | refine pu (loadBox tab rfl rfl rfl rfl rfl) rfl ?_
        iterate 2 refine pu (ev tab rfl) rfl ?_
        refine WO.nil ?_
        refine qs ?_
        refine condK rfl (fun h42 => ?_) (fun h42 => ?_)
        · skip
          have h42 : e.op = 14 := of_decide_eq_true h42
          obtain ⟨ka, kb, hk, ha, hb⟩ := logic_kids hf hv ht (.inl h42)
          rw [hk] at hI
          have hl2 : vs.length = 2 := by rw [hI]; rfl
          refine W.seq ?_
          refine W.regionE tab 8 0 (by kernel_rfl) rfl rfl ?_
          refine cePu rfl (ev tab rfl) rfl ?_
          refine cePu rfl (indexAddr tab rfl rfl rfl rfl rfl rfl (Int.le_refl _) (idx_map (l0 (by omega))) rfl) rfl ?_
          first | refine cePu rfl (ev tab rfl) rfl ?_ | refine cePu rfl (loadRow tab rfl rfl rfl rfl) rfl ?_ | refine cePu rfl (loadBox tab rfl rfl rfl rfl rfl) rfl ?_
          refine cePu rfl (ev tab rfl) rfl ?_
          refine cePu rfl (indexAddr tab rfl rfl rfl rfl rfl rfl (by decide) (idx_map (l1 (by omega))) rfl) rfl ?_
          first | refine cePu rfl (ev tab rfl) rfl ?_ | refine cePu rfl (loadRow tab rfl rfl rfl rfl) rfl ?_ | refine cePu rfl (loadBox tab rfl rfl rfl rfl rfl) rfl ?_
          refine cePu rfl (puCall rfl rfl rfl (rtruth_fn ..) rfl) rfl ?_
          refine cePu rfl (puCall rfl rfl rfl (rlogic_fn ..) rfl) rfl ?_
          refine CE.nil ?_
          refine storeR tab rfl rfl rfl rfl rfl rfl rfl rfl ?_
          refine WO.nil ?_
          refine qs ?_
          refine W.ret ?_
          refine qbRet ?_
          refine qsRet ?_
          refine QV.ret0 tab trivial rfl ?_
          rw [evalV_op h11 h16, hk, h42, show opV 14 e.name ([ka, kb].map (evalV cols row)) = logicV (evalV cols row ka) (evalV cols row kb) (truthV false) by simp [opV], hI]; rfl
        · skip
          have h42 : e.op ≠ 14 := of_decide_eq_false h42
          refine W.seq ?_
          refine W.region ?_
          refine pu (ev tab rfl) rfl ?_
          first | refine pu (ev tab rfl) rfl ?_ | refine pu (loadRow tab rfl rfl rfl rfl) rfl ?_ | refine pu (loadBox tab rfl rfl rfl rfl rfl) rfl ?_
          iterate 2 refine pu (ev tab rfl) rfl ?_
          refine WO.nil ?_
          refine qs ?_
          refine condK rfl (fun h54 => ?_) (fun h54 => ?_)
          · skip
            have h54 : e.op = 15 := of_decide_eq_true h54
            obtain ⟨ka, kb, hk, ha, hb⟩ := logic_kids hf hv ht (.inr h54)
            rw [hk] at hI
            have hl2 : vs.length = 2 := by rw [hI]; rfl
            refine W.seq ?_
            refine W.regionE tab 8 0 (by kernel_rfl) rfl rfl ?_
            refine cePu rfl (ev tab rfl) rfl ?_
            refine cePu rfl (indexAddr tab rfl rfl rfl rfl rfl rfl (Int.le_refl _) (idx_map (l0 (by omega))) rfl) rfl ?_
            first | refine cePu rfl (ev tab rfl) rfl ?_ | refine cePu rfl (loadRow tab rfl rfl rfl rfl) rfl ?_ | refine cePu rfl (loadBox tab rfl rfl rfl rfl rfl) rfl ?_
            refine cePu rfl (ev tab rfl) rfl ?_
            refine cePu rfl (indexAddr tab rfl rfl rfl rfl rfl rfl (by decide) (idx_map (l1 (by omega))) rfl) rfl ?_
            first | refine cePu rfl (ev tab rfl) rfl ?_ | refine cePu rfl (loadRow tab rfl rfl rfl rfl) rfl ?_ | refine cePu rfl (loadBox tab rfl rfl rfl rfl rfl) rfl ?_
            refine cePu rfl (puCall rfl rfl rfl (rtruth_fn ..) rfl) rfl ?_
            refine cePu rfl (puCall rfl rfl rfl (rlogic_fn ..) rfl) rfl ?_
            refine CE.nil ?_
            refine storeR tab rfl rfl rfl rfl rfl rfl rfl rfl ?_
            refine WO.nil ?_
            refine qs ?_
            refine W.ret ?_
            refine qbRet ?_
            refine qsRet ?_
            refine QV.ret0 tab trivial rfl ?_
            rw [evalV_op h11 h16, hk, h54, show opV 15 e.name ([ka, kb].map (evalV cols row)) = logicV (evalV cols row ka) (evalV cols row kb) (truthV true) by simp [opV], hI]; rfl
          · skip
            have h54 : e.op ≠ 15 := of_decide_eq_false h54
            refine W.seq ?_
            refine W.region ?_
            refine pu (ev tab rfl) rfl ?_
            refine pu (puCall rfl rfl rfl (ranyNull_fn ..) rfl) rfl ?_
            refine pu (ev tab rfl) rfl ?_
            refine WO.nil ?_
            refine qs ?_
            refine condK rfl (fun h66 => ?_) (fun h66 => ?_)
            · skip
              refine W.seq ?_
              refine W.region ?_
              refine pu (build tab rfl rfl rfl rfl) rfl ?_
              refine storeR tab rfl rfl rfl rfl rfl rfl rfl rfl ?_
              refine WO.nil ?_
              refine qs ?_
              refine W.ret ?_
              refine qbRet ?_
              refine qsRet ?_
              refine QV.ret0 tab trivial rfl ?_
              rw [evalV_op h11 h16, opV_null h42 h54 (hI ▸ h66)]; rfl
            · skip
              have g : GoodL e.op e.name vs := hI ▸ good_of hf hv ht h11 h16 h42 h54 (hI ▸ h66)
              have hl1 := g.len1
              refine W.seq ?_
              refine W.region ?_
              refine pu (ev tab rfl) rfl ?_
              first | refine pu (ev tab rfl) rfl ?_ | refine pu (loadRow tab rfl rfl rfl rfl) rfl ?_ | refine pu (loadBox tab rfl rfl rfl rfl rfl) rfl ?_
              iterate 2 refine pu (ev tab rfl) rfl ?_
              refine WO.nil ?_
              refine qs ?_
              refine condK rfl (fun h70 => ?_) (fun h70 => ?_)
              · skip
                have h70 : e.op = 3 := of_decide_eq_true h70
                refine W.seq ?_
                refine W.region ?_
                refine pu (ev tab rfl) rfl ?_
                refine pu (indexAddr tab rfl rfl rfl rfl rfl rfl (Int.le_refl _) (idx_map (l0 hl1)) rfl) rfl ?_
                refine pu (ev tab rfl) rfl ?_
                first | refine pu (ev tab rfl) rfl ?_ | refine pu (loadRow tab rfl rfl rfl rfl) rfl ?_ | refine pu (loadBox tab rfl rfl rfl rfl rfl) rfl ?_
                refine pu (ev tab rfl) rfl ?_
                refine pu (puCall rfl rfl rfl (rtruth_fn ..) rfl) rfl ?_
                refine storeR tab rfl rfl rfl rfl rfl rfl rfl rfl ?_
                refine WO.nil ?_
                refine qs ?_
                refine W.ret ?_
                refine qbRet ?_
                refine qsRet ?_
                refine QV.ret0 tab trivial rfl ?_
                rw [evalV_op h11 h16, ← hI, show opV e.op e.name vs = truthV (decide ((vs.getD 0 nullV).n = 0)) by rw [opV_not g h70, notV, if_neg (g.nn _ (mem0 hl1))]]; rfl
              · skip
                have h70 : e.op ≠ 3 := of_decide_eq_false h70
                refine W.seq ?_
                refine W.region ?_
                refine pu (ev tab rfl) rfl ?_
                first | refine pu (ev tab rfl) rfl ?_ | refine pu (loadRow tab rfl rfl rfl rfl) rfl ?_ | refine pu (loadBox tab rfl rfl rfl rfl rfl) rfl ?_
                iterate 2 refine pu (ev tab rfl) rfl ?_
                refine WO.nil ?_
                refine qs ?_
                refine condK rfl (fun h80 => ?_) (fun h80 => ?_)
                · skip
                  have h80 : e.op = 4 := of_decide_eq_true h80
                  refine W.seq ?_
                  refine W.region ?_
                  refine pu (ev tab rfl) rfl ?_
                  refine pu (indexAddr tab rfl rfl rfl rfl rfl rfl (Int.le_refl _) (idx_map (l0 hl1)) rfl) rfl ?_
                  refine pu (ev tab rfl) rfl ?_
                  first | refine pu (ev tab rfl) rfl ?_ | refine pu (loadRow tab rfl rfl rfl rfl) rfl ?_ | refine pu (loadBox tab rfl rfl rfl rfl rfl) rfl ?_
                  refine pu (puI (ev tab rfl) (neg_in (g.num (by omega) (by omega) _ (mem0 hl1)))) rfl ?_
                  refine pu (puCall rfl rfl rfl (rnumber_fn ..) rfl) rfl ?_
                  refine storeR tab rfl rfl rfl rfl rfl rfl rfl rfl ?_
                  refine WO.nil ?_
                  refine qs ?_
                  refine W.ret ?_
                  refine qbRet ?_
                  refine qsRet ?_
                  refine QV.ret0 tab trivial rfl ?_
                  rw [evalV_op h11 h16, ← hI, opV_neg g h80]; rfl
                · skip
                  have h80 : e.op ≠ 4 := of_decide_eq_false h80
                  refine W.seq ?_
                  refine W.region ?_
                  refine pu (ev tab rfl) rfl ?_
                  first | refine pu (ev tab rfl) rfl ?_ | refine pu (loadRow tab rfl rfl rfl rfl) rfl ?_ | refine pu (loadBox tab rfl rfl rfl rfl rfl) rfl ?_
                  iterate 2 refine pu (ev tab rfl) rfl ?_
                  refine WO.nil ?_
                  refine qs ?_
                  refine condK rfl (fun h90 => ?_) (fun h90 => ?_)
                  · skip
                    have h90 : e.op = 16 := of_decide_eq_true h90
                    refine W.seq ?_
                    refine W.region ?_
                    refine pu (ev tab rfl) rfl ?_
                    first | refine pu (ev tab rfl) rfl ?_ | refine pu (loadRow tab rfl rfl rfl rfl) rfl ?_ | refine pu (loadBox tab rfl rfl rfl rfl rfl) rfl ?_
                    refine pu (ev tab rfl) rfl ?_
                    refine pu (puCall rfl rfl rfl (rcalled_fn e.name vs (g.call h90) (g.abs h90) (g.has h90)) rfl) rfl ?_
                    refine storeR tab rfl rfl rfl rfl rfl rfl rfl rfl ?_
                    refine WO.nil ?_
                    refine qs ?_
                    refine W.ret ?_
                    refine qbRet ?_
                    refine qsRet ?_
                    refine QV.ret0 tab trivial rfl ?_
                    rw [evalV_op h11 h16, ← hI, opV_call g h90]; rfl
                  · skip
                    have h90 : e.op ≠ 16 := of_decide_eq_false h90
                    have hl2 := g.len2 h70 h80 h90
                    refine W.seq ?_
                    apply regionB; (case hb => rfl)
                    · skip
                      refine pu (ev tab rfl) rfl ?_
                      first | refine pu (ev tab rfl) rfl ?_ | refine pu (loadRow tab rfl rfl rfl rfl) rfl ?_ | refine pu (loadBox tab rfl rfl rfl rfl rfl) rfl ?_
                      iterate 2 refine pu (ev tab rfl) rfl ?_
                      apply splitJ; (case hj => rfl); (case hl => rfl)
                      · skip
                        refine goG rfl rfl ?_
                        refine pu (ev tab rfl) rfl ?_
                        refine goG rfl rfl ?_
                        first | refine pu (ev tab rfl) rfl ?_ | refine pu (loadRow tab rfl rfl rfl rfl) rfl ?_ | refine pu (loadBox tab rfl rfl rfl rfl rfl) rfl ?_
                        refine goG rfl rfl ?_
                        iterate 3 refine pu (ev tab rfl) rfl ?_
                        refine WO.nil ?_
                        refine qv1 rfl rfl rfl
                      · skip
                        refine skipT rfl rfl rfl rfl ?_
                        refine skipT rfl rfl rfl rfl ?_
                        refine skipT rfl rfl rfl rfl ?_
                        iterate 2 refine pu (ev tab rfl) rfl ?_
                        refine WO.nil ?_
                        refine qv1 rfl rfl rfl
                    refine qs ?_
                    refine condK rfl (fun h98 => ?_) (fun h98 => ?_)
                    · skip
                      have h98 : 10 ≤ e.op ∧ e.op ≤ 13 := by rw [bifAnd] at h98; simp at h98; exact h98
                      refine W.seq ?_
                      refine W.regionE tab 9 0 (by kernel_rfl) rfl rfl ?_
                      refine cePu rfl (ev tab rfl) rfl ?_
                      first | refine cePu rfl (ev tab rfl) rfl ?_ | refine cePu rfl (loadRow tab rfl rfl rfl rfl) rfl ?_ | refine cePu rfl (loadBox tab rfl rfl rfl rfl rfl) rfl ?_
                      refine cePu rfl (ev tab rfl) rfl ?_
                      refine cePu rfl (indexAddr tab rfl rfl rfl rfl rfl rfl (Int.le_refl _) (idx_map (l0 hl1)) rfl) rfl ?_
                      first | refine cePu rfl (ev tab rfl) rfl ?_ | refine cePu rfl (loadRow tab rfl rfl rfl rfl) rfl ?_ | refine cePu rfl (loadBox tab rfl rfl rfl rfl rfl) rfl ?_
                      refine cePu rfl (ev tab rfl) rfl ?_
                      refine cePu rfl (indexAddr tab rfl rfl rfl rfl rfl rfl (by decide) (idx_map (l1 hl2)) rfl) rfl ?_
                      first | refine cePu rfl (ev tab rfl) rfl ?_ | refine cePu rfl (loadRow tab rfl rfl rfl rfl) rfl ?_ | refine cePu rfl (loadBox tab rfl rfl rfl rfl rfl) rfl ?_
                      refine cePu rfl (puCall rfl rfl rfl (rcmp_fn ..) rfl) rfl ?_
                      refine CE.nil ?_
                      refine storeR tab rfl rfl rfl rfl rfl rfl rfl rfl ?_
                      refine WO.nil ?_
                      refine qs ?_
                      refine W.ret ?_
                      refine qbRet ?_
                      refine qsRet ?_
                      refine QV.ret0 tab trivial rfl ?_
                      rw [evalV_op h11 h16, ← hI, opV_cmp g h98]; rfl
                    · skip
                      have h98 : 5 ≤ e.op ∧ e.op ≤ 9 := by rw [bifAnd] at h98; simp at h98; have := hkv.2.2.2.2.2; omega
                      have q1 := g.num (by omega) (by omega) _ (mem0 hl1)
                      have q2 := g.num (by omega) (by omega) _ (mem1 hl2)
                      refine W.skip ?_
                      refine qbN ?_
                      refine qs ?_
                      refine W.seq ?_
                      refine W.regionE tab 11 0 (by kernel_rfl) rfl rfl ?_
                      refine cePu rfl (ev tab rfl) rfl ?_
                      first | refine cePu rfl (ev tab rfl) rfl ?_ | refine cePu rfl (loadRow tab rfl rfl rfl rfl) rfl ?_ | refine cePu rfl (loadBox tab rfl rfl rfl rfl rfl) rfl ?_
                      refine cePu rfl (ev tab rfl) rfl ?_
                      refine cePu rfl (indexAddr tab rfl rfl rfl rfl rfl rfl (Int.le_refl _) (idx_map (l0 hl1)) rfl) rfl ?_
                      refine cePu rfl (ev tab rfl) rfl ?_
                      first | refine cePu rfl (ev tab rfl) rfl ?_ | refine cePu rfl (loadRow tab rfl rfl rfl rfl) rfl ?_ | refine cePu rfl (loadBox tab rfl rfl rfl rfl rfl) rfl ?_
                      refine cePu rfl (ev tab rfl) rfl ?_
                      refine cePu rfl (indexAddr tab rfl rfl rfl rfl rfl rfl (by decide) (idx_map (l1 hl2)) rfl) rfl ?_
                      refine cePu rfl (ev tab rfl) rfl ?_
                      first | refine cePu rfl (ev tab rfl) rfl ?_ | refine cePu rfl (loadRow tab rfl rfl rfl rfl) rfl ?_ | refine cePu rfl (loadBox tab rfl rfl rfl rfl rfl) rfl ?_
                      refine cePu rfl (puCall rfl rfl rfl (rarith_fn e.op _ _ q1 q2 h98) rfl) rfl ?_
                      refine CE.nil ?_
                      refine storeR tab rfl rfl rfl rfl rfl rfl rfl rfl ?_
                      refine WO.nil ?_
                      refine qs ?_
                      refine W.ret ?_
                      refine QV.ret0 tab trivial rfl ?_
                      rw [evalV_op h11 h16, ← hI, opV_arith g h98]; rfl
theorem rexprv_fn (cols : List Col) (row : List Val) (e : Ex) : Does Tryz.prog 36 [.d (.sl (cols.map Col.c)), .d (.sl (row.map Val.c)), .ag e.c] (.ag (exprV cols row e).c) 0 := by
  refine Does.of_V tab (n := 28) (rs := [.cell 6 27]) Tryz.func36 (by kernel_rfl) rfl Tryz.ntmps36 Tryz.results36 rfl fun C hC hG => ?_
  refine W.seq ?_
  refine W.region ?_
  refine boxR rfl rfl rfl ?_
  refine allocR tab rfl rfl rfl ?_
  refine WO.nil ?_
  refine qs ?_
  refine W.seq ?_
  refine W.region ?_
  refine pu (ev tab rfl) rfl ?_
  first | refine pu (ev tab rfl) rfl ?_ | refine pu (loadRow tab rfl rfl rfl rfl) rfl ?_ | refine pu (loadBox tab rfl rfl rfl rfl rfl) rfl ?_
  refine pu (puCall rfl rfl rfl (rtexpr_fn ..) rfl) rfl ?_
  iterate 5 refine pu (ev tab rfl) rfl ?_
  refine WO.nil ?_
  refine qs ?_
  refine W.seq ?_
  refine W.seq ?_
  apply regionB; (case hb => rfl)
  · skip
    iterate 3 refine pu (ev tab rfl) rfl ?_
    apply splitJ; (case hj => rfl); (case hl => rfl)
    · skip
      refine skipT rfl rfl rfl rfl ?_
      refine skipT rfl rfl rfl rfl ?_
      refine skipT rfl rfl rfl rfl ?_
      refine skipT rfl rfl rfl rfl ?_
      refine pu (ev tab rfl) rfl ?_
      refine WO.nil ?_
      refine qv1 rfl rfl rfl
    · skip
      refine goG rfl rfl ?_
      refine pu (ev tab rfl) rfl ?_
      refine goG rfl rfl ?_
      refine pu (ev tab rfl) rfl ?_
      refine goG rfl rfl ?_
      refine pu (puCall rfl rfl rfl (rfitsR_fn ..) rfl) rfl ?_
      refine goG rfl rfl ?_
      iterate 2 refine pu (ev tab rfl) rfl ?_
      refine WO.nil ?_
      refine qv1 rfl rfl rfl
  refine qs ?_
  refine condK rfl (fun h22 => ?_) (fun h22 => ?_)
  · skip
    rw [bifOr] at h22
    refine W.seq ?_
    refine W.region ?_
    refine pu (build tab rfl rfl rfl rfl) rfl ?_
    refine storeR tab rfl rfl rfl rfl rfl rfl rfl rfl ?_
    refine WO.nil ?_
    refine qs ?_
    refine W.ret ?_
    refine qsRet ?_
    refine QV.ret0 tab trivial rfl ?_
    rw [show exprV cols row e = nullV by simp only [exprV]; rw [if_neg]; rintro ⟨h1, h2⟩; simp [h1, h2] at h22]; rfl
  · skip
    rw [bifOr] at h22
    have hz : (exprT cols e).2 = 0 ∧ fitsB cols row = true := by simpa using h22
    have hz2 := exprT_ok hz.1
    refine W.skip ?_
    refine qs ?_
    refine W.seq ?_
    refine W.region ?_
    iterate 2 refine pu (ev tab rfl) rfl ?_
    first | refine pu (ev tab rfl) rfl ?_ | refine pu (loadRow tab rfl rfl rfl rfl) rfl ?_ | refine pu (loadBox tab rfl rfl rfl rfl rfl) rfl ?_
    refine pu (puCall rfl rfl rfl (rvalue2_fn cols row hz.2 e (exprErr_zero hz2.1) hz2.2) rfl) rfl ?_
    refine storeR tab rfl rfl rfl rfl rfl rfl rfl rfl ?_
    refine WO.nil ?_
    refine qs ?_
    refine W.ret ?_
    refine QV.ret0 tab trivial rfl ?_
    rw [show exprV cols row e = evalV cols row e by simp only [exprV]; rw [if_pos hz]]; rfl
end Go.Proofs.YtaifpecinbjgcabGreat
namespace Go.Proofs.YtaifpecinbjgcabGreat
open Go.Ab Go.Tb
set_option maxRecDepth 10000
attribute [local irreducible] W WO Pu QS QB QL QF QV QV1 CH QE
theorem rtexprN_fn (e : Ex) : Does Tryz.prog 35 [.d (.v (.slice none 0 0)), .ag e.c] (.tup [.d (.v (.int .i64 (exprT [] e).1)), .d (.v (.int .i64 (exprT [] e).2))]) 0 :=
  Does.nilAt (xs := []) (rtexpr_fn [] e)
theorem rexprvN_fn (e : Ex) : Does Tryz.prog 36 [.d (.v (.slice none 0 0)), .d (.v (.slice none 0 0)), .ag e.c] (.ag (exprV [] [] e).c) 0 :=
  Does.nilAt (xs := []) (Does.nilAt (xs := [.d (.sl [])]) (rexprv_fn [] [] e))
theorem rfold_fn : ∀ (e : Ex), nodesErr e = 0 → Does Tryz.prog 21 [.ag e.c] (.ag (foldE e).c) 0 := by
  refine Ex.ind fun e ih => ?_
  intro hv
  have hkv := valid_kids (valid_node hv)
  have hq := foldE_eq e
  refine Does.of_V tab (n := 61) (rs := [.cell 2 30]) Tryz.func21 (by kernel_rfl) rfl Tryz.ntmps21 Tryz.results21 rfl fun C hC hG => ?_
  refine W.seq ?_
  refine W.region ?_
  refine boxR rfl rfl rfl ?_
  refine allocR tab rfl rfl rfl ?_
  refine WO.nil ?_
  refine qs ?_
  refine W.seq ?_
  refine W.seq ?_
  refine W.region ?_
  refine pu (ev tab rfl) rfl ?_
  first | refine pu (ev tab rfl) rfl ?_ | refine pu (loadRow tab rfl rfl rfl rfl) rfl ?_ | refine pu (loadBox tab rfl rfl rfl rfl rfl) rfl ?_
  iterate 2 refine pu (ev tab rfl) rfl ?_
  refine WO.nil ?_
  refine qs ?_
  refine condK rfl (fun h12 => ?_) (fun h12 => ?_)
  · skip
    have h12 : e.kids.length = 0 := by rw [Ex.kc_len] at h12; simpa using h12
    rw [if_pos h12] at hq
    refine W.seq ?_
    refine W.region ?_
    first | refine pu (ev tab rfl) rfl ?_ | refine pu (loadRow tab rfl rfl rfl rfl) rfl ?_ | refine pu (loadBox tab rfl rfl rfl rfl rfl) rfl ?_
    refine storeR tab rfl rfl rfl rfl rfl rfl rfl rfl ?_
    refine WO.nil ?_
    refine qs ?_
    try refine nilBox 1 5 rfl rfl rfl ?_
    refine W.ret ?_
    refine qsRet ?_
    refine QV.ret0 tab trivial rfl ?_
    rw [hq]; rfl
  · skip
    have h12 : ¬ e.kids.length = 0 := by rw [Ex.kc_len] at h12; simpa using h12
    rw [if_neg h12] at hq
    have hop := kids_op hv h12
    have hz := valid_zero hv hop
    refine W.skip ?_
    refine qs ?_
    refine W.seq ?_
    refine W.region ?_
    refine pu (ev tab rfl) rfl ?_
    first | refine pu (ev tab rfl) rfl ?_ | refine pu (loadRow tab rfl rfl rfl rfl) rfl ?_ | refine pu (loadBox tab rfl rfl rfl rfl rfl) rfl ?_
    refine pu (ev tab rfl) rfl ?_
    first | refine pu (ev tab rfl) rfl ?_ | refine pu (loadRow tab rfl rfl rfl rfl) rfl ?_ | refine pu (loadBox tab rfl rfl rfl rfl rfl) rfl ?_
    refine pu (ev tab rfl) rfl ?_
    first | refine pu (ev tab rfl) rfl ?_ | refine pu (loadRow tab rfl rfl rfl rfl) rfl ?_ | refine pu (loadBox tab rfl rfl rfl rfl rfl) rfl ?_
    refine pu (build tab rfl rfl rfl rfl) rfl ?_
    refine allocR tab rfl rfl rfl ?_
    refine storeR tab rfl rfl rfl rfl rfl rfl rfl rfl ?_
    refine WO.nil ?_
    refine qs ?_
    refine W.seq ?_
    refine W.region ?_
    refine pu (ev tab rfl) rfl ?_
    refine WO.nil ?_
    refine qs ?_
    refine W.seq ?_
    refine W.seq ?_
    refine W.region ?_
    refine pu (ev tab rfl) rfl ?_
    refine WO.nil ?_
    refine qs ?_
    refine W.block ?_
    refine lenBox (g := 0) (j := 5) rfl rfl (fun hlen => ?_)
    rw [Ex.kc_len] at hlen
    rw [hz]
    refine ownNilBox 2 5 rfl rfl rfl ?_
    refine W.loopR (ι := {x : Nat × List Ex // match x with | (k, ks) => k ≤ e.kids.length ∧ ks = (e.kids.take k).map foldE})
      (fun x => match x.1 with | (k, ks) => [(1, .ptr 0 0), (2, .ptr 1 0), (3, .ptr 2 0), (4, .d (.v (.bool (ks.all isC)))), (5, .d (.v (.int .i64 ((k : Nat) : Int))))]) []
      (fun x => match x.1 with | (k, ks) => [(2, [.d (ci e.op), .d (cs e.name), .d (ci 0), .d (ci 0), .d (cs (B #[])), .own 3 (ks.map Ex.c)])]) [(0, _), (1, _)] [3] 4 (fun x => match x.1 with | (k, ks) => e.kids.length - k)
      [0, 1, 2, 3] ⟨(0, []), ?_⟩ rfl ?_ trivial ?_ ⟨rfl, rfl, rfl, rfl, trivial⟩ rfl ?_
    · exact ⟨Nat.zero_le _, rfl⟩
    · repeat' first | exact trivial | refine ⟨rfl, ?_⟩ | refine ⟨step_nat (by assumption) (by assumption), ?_⟩
    · repeat' first | exact trivial | refine ⟨rfl, ?_⟩ | refine ⟨step_nat (by assumption) (by assumption), ?_⟩
    rintro ⟨⟨k, ks⟩, hk, hI⟩
    show W _ _ _ _ _ ⟨[(1, .ptr 0 0), (2, .ptr 1 0), (3, .ptr 2 0), (4, .d (.v (.bool (ks.all isC)))), (5, .d (.v (.int .i64 ((k : Nat) : Int))))], [(2, [.d (ci e.op), .d (cs e.name), .d (ci 0), .d (ci 0), .d (cs (B #[])), .own 3 (ks.map Ex.c)]), (0, _), (1, _)], [3], 4⟩
    refine W.seq ?_
    refine W.seq ?_
    refine W.region ?_
    iterate 2 refine pu (ev tab rfl) rfl ?_
    first | refine pu (ev tab rfl) rfl ?_ | refine pu (loadRow tab rfl rfl rfl rfl) rfl ?_ | refine pu (loadBox tab rfl rfl rfl rfl rfl) rfl ?_
    iterate 2 refine pu (ev tab rfl) rfl ?_
    refine WO.nil ?_
    refine qs ?_
    refine eachR (l := e.kids) (k := k) rfl (by simp [Ex.kc_len, bytes_len]) hk (fun x hx hd hlt => ?_) (fun he hd => ?_)
    · skip
      have hmem := List.mem_of_getElem? hx
      have hkl : ks.length ≤ 2 := by rw [hI, List.length_map, List.length_take]; have := hkv.2.2.2.2.1; omega
      refine W.skip ?_
      refine qs ?_
      refine W.seq ?_
      refine W.block ?_
      refine W.seq ?_
      refine W.region ?_
      refine pu (ev tab rfl) rfl ?_
      first | refine pu (ev tab rfl) rfl ?_ | refine pu (loadRow tab rfl rfl rfl rfl) rfl ?_ | refine pu (loadBox tab rfl rfl rfl rfl rfl) rfl ?_
      refine pu (ev tab rfl) rfl ?_
      refine pu (indexAddr tab rfl rfl rfl rfl rfl rfl (Int.natCast_nonneg _) (Ex.kc_idx hx) rfl) rfl ?_
      first | refine pu (ev tab rfl) rfl ?_ | refine pu (loadRow tab rfl rfl rfl rfl) rfl ?_ | refine pu (loadBox tab rfl rfl rfl rfl rfl) rfl ?_
      refine pu (puCall rfl rfl rfl (ih x hmem (valid_kid hv hmem)) rfl) rfl ?_
      refine allocR tab rfl rfl rfl ?_
      refine storeR tab rfl rfl rfl rfl rfl rfl rfl rfl ?_
      refine WO.nil ?_
      refine qs ?_
      refine W.seq ?_
      refine W.region ?_
      refine pu (ev tab rfl) rfl ?_
      first | refine pu (ev tab rfl) rfl ?_ | refine pu (loadRow tab rfl rfl rfl rfl) rfl ?_ | refine pu (loadBox tab rfl rfl rfl rfl rfl) rfl ?_
      first | refine pu (ev tab rfl) rfl ?_ | refine pu (loadRow tab rfl rfl rfl rfl) rfl ?_ | refine pu (loadBox tab rfl rfl rfl rfl rfl) rfl ?_
      refine pu (buildV tab rfl rfl rfl rfl rfl rfl rfl rfl rfl) rfl ?_
      refine appendM tab rfl rfl rfl rfl rfl rfl rfl rfl rfl rfl (fun _ => rfl) (by show (ks.length + 1) * 80 ≤ _; omega) ?_
      refine pu (ev tab rfl) rfl ?_
      refine storeR tab rfl rfl rfl rfl rfl rfl rfl rfl ?_
      refine WO.nil ?_
      refine qs ?_
      apply regionB; (case hb => rfl)
      · skip
        iterate 2 refine pu (ev tab rfl) rfl ?_
        apply splitJ; (case hj => rfl); (case hl => rfl)
        · skip
          refine goG rfl rfl ?_
          refine pu (ev tab rfl) rfl ?_
          refine goG rfl rfl ?_
          first | refine pu (ev tab rfl) rfl ?_ | refine pu (loadRow tab rfl rfl rfl rfl) rfl ?_ | refine pu (loadBox tab rfl rfl rfl rfl rfl) rfl ?_
          refine goG rfl rfl ?_
          iterate 3 refine pu (ev tab rfl) rfl ?_
          refine WO.nil ?_
          refine qv1 rfl rfl rfl
        · skip
          refine skipT rfl rfl rfl rfl ?_
          refine skipT rfl rfl rfl rfl ?_
          refine skipT rfl rfl rfl rfl ?_
          iterate 2 refine pu (ev tab rfl) rfl ?_
          refine WO.nil ?_
          refine qv1 rfl rfl rfl
      refine qbN ?_
      refine qs ?_
      refine W.region ?_
      iterate 3 refine pu (ev tab rfl) rfl ?_
      refine WO.nil ?_
      rw [bifAnd, show (ks.all isC && decide ((foldE x).op = 1)) = (ks ++ [foldE x]).all isC by simp [isC]]
      refine W.endR [0, 1, 2, 5] ⟨(k + 1, ks ++ [foldE x]), ?_⟩ ?_ rfl ?_ trivial ?_ ⟨rfl, rfl, rfl, rfl, trivial⟩ rfl
      · exact ⟨hlt, by rw [take_map_succ hx, hI]⟩
      · dsimp only; omega
      · repeat' first | exact trivial | refine ⟨rfl, ?_⟩ | refine ⟨step_nat (by assumption) (by assumption), ?_⟩
      · repeat' first | exact trivial | refine ⟨rfl, ?_⟩ | refine ⟨step_nat (by assumption) (by assumption), ?_⟩
    · skip
      have hI : ks = e.kids.map foldE := by rw [hI, take_map_end he]
      rw [← Ex.kcs_eq]
      refine W.exit ?_
      refine qsExit ?_
      refine qlExit ?_
      refine qbExit ?_
      refine qs ?_
      refine W.seq ?_
      refine W.region ?_
      first | refine pu (ev tab rfl) rfl ?_ | refine pu (loadRow tab rfl rfl rfl rfl) rfl ?_ | refine pu (loadBox tab rfl rfl rfl rfl rfl) rfl ?_
      refine pu (puCall rfl rfl rfl (rtexprN_fn (outE e ks)) rfl) rfl ?_
      iterate 5 refine pu (ev tab rfl) rfl ?_
      refine WO.nil ?_
      refine qs ?_
      refine W.seq ?_
      refine W.seq ?_
      apply regionB; (case hb => rfl)
      · skip
        iterate 3 refine pu (ev tab rfl) rfl ?_
        apply splitJ; (case hj => rfl); (case hl => rfl)
        · skip
          refine skipT rfl rfl rfl rfl ?_
          refine skipT rfl rfl rfl rfl ?_
          refine pu (ev tab rfl) rfl ?_
          refine WO.nil ?_
          refine qv1 rfl rfl rfl
        · skip
          refine goG rfl rfl ?_
          refine pu (ev tab rfl) rfl ?_
          refine goG rfl rfl ?_
          iterate 2 refine pu (ev tab rfl) rfl ?_
          refine WO.nil ?_
          refine qv1 rfl rfl rfl
      refine qs ?_
      refine condK rfl (fun h56 => ?_) (fun h56 => ?_)
      · skip
        have h56 : foldN e ks = outE e ks := by
          rw [bifOr] at h56
          simp only [foldN]
          split
          · rfl
          · rename_i hc
            have h3 : (exprT [] (outE e ks)).2 ≠ 0 := by simpa [hc] using h56
            rw [if_pos h3]
        refine W.seq ?_
        refine W.region ?_
        first | refine pu (ev tab rfl) rfl ?_ | refine pu (loadRow tab rfl rfl rfl rfl) rfl ?_ | refine pu (loadBox tab rfl rfl rfl rfl rfl) rfl ?_
        refine storeR tab rfl rfl rfl rfl rfl rfl rfl rfl ?_
        refine WO.nil ?_
        refine qs ?_
        try refine nilBox 1 5 rfl rfl rfl ?_
        refine W.ret ?_
        refine qsRet ?_
        refine QV.ret0 tab trivial rfl ?_
        rw [hq, ← hI, h56]; rfl
      · skip
        rw [bifOr] at h56
        have h56 : ¬ ks.all isC = false ∧ (exprT [] (outE e ks)).2 = 0 := by simpa using h56
        have ho := exprT_ok h56.2
        refine W.skip ?_
        refine qs ?_
        refine W.seq ?_
        refine W.region ?_
        first | refine pu (ev tab rfl) rfl ?_ | refine pu (loadRow tab rfl rfl rfl rfl) rfl ?_ | refine pu (loadBox tab rfl rfl rfl rfl rfl) rfl ?_
        refine pu (puCall rfl rfl rfl (rexprvN_fn (outE e ks)) rfl) rfl ?_
        refine pu (build tab rfl rfl rfl rfl) rfl ?_
        refine storeR tab rfl rfl rfl rfl rfl rfl rfl rfl ?_
        refine WO.nil ?_
        refine qs ?_
        try refine nilBox 1 5 rfl rfl rfl ?_
        refine W.ret ?_
        refine QV.ret0 tab trivial rfl ?_
        rw [hq, ← hI, show foldN e ks = .mk 1 (B #[]) (exprV [] [] (outE e ks)) [] by
            simp only [foldN, if_neg h56.1]
            rw [if_neg (by simpa using h56.2)]
            congr 1
            simp only [exprV]
            rw [if_pos ⟨h56.2, rfl⟩]]
        rfl
theorem rFold_fn (e : Ex) : Does Tryz.prog 8 [.ag e.c] (.ag (foldX e).c) 0 := by
  refine Does.of_V tab (n := 9) (rs := [.cell 2 30]) Tryz.func8 (by kernel_rfl) rfl Tryz.ntmps8 Tryz.results8 rfl fun C hC hG => ?_
  refine W.seq ?_
  refine W.region ?_
  refine boxR rfl rfl rfl ?_
  refine allocR tab rfl rfl rfl ?_
  refine WO.nil ?_
  refine qs ?_
  refine W.seq ?_
  refine W.seq ?_
  refine W.region ?_
  first | refine pu (ev tab rfl) rfl ?_ | refine pu (loadRow tab rfl rfl rfl rfl) rfl ?_ | refine pu (loadBox tab rfl rfl rfl rfl rfl) rfl ?_
  refine pu (puCall rfl rfl rfl (rexpr_fn ..) rfl) rfl ?_
  refine pu (ev tab rfl) rfl ?_
  refine WO.nil ?_
  refine qs ?_
  refine condK rfl (fun h5 => ?_) (fun h5 => ?_)
  · skip
    have h5 : exprErr e ≠ 0 := by simpa using h5
    refine W.seq ?_
    refine W.region ?_
    first | refine pu (ev tab rfl) rfl ?_ | refine pu (loadRow tab rfl rfl rfl rfl) rfl ?_ | refine pu (loadBox tab rfl rfl rfl rfl rfl) rfl ?_
    refine storeR tab rfl rfl rfl rfl rfl rfl rfl rfl ?_
    refine WO.nil ?_
    refine qs ?_
    refine W.ret ?_
    refine qsRet ?_
    refine QV.ret0 tab trivial rfl ?_
    rw [show foldX e = e by simp only [foldX, if_pos h5]]; rfl
  · skip
    have h5 : ¬ exprErr e ≠ 0 := by simpa using h5
    refine W.skip ?_
    refine qs ?_
    refine W.seq ?_
    refine W.region ?_
    first | refine pu (ev tab rfl) rfl ?_ | refine pu (loadRow tab rfl rfl rfl rfl) rfl ?_ | refine pu (loadBox tab rfl rfl rfl rfl rfl) rfl ?_
    refine pu (puCall rfl rfl rfl (rfold_fn e (exprErr_zero (by simpa using h5))) rfl) rfl ?_
    refine storeR tab rfl rfl rfl rfl rfl rfl rfl rfl ?_
    refine WO.nil ?_
    refine qs ?_
    refine W.ret ?_
    refine QV.ret0 tab trivial rfl ?_
    rw [show foldX e = foldE e by simp only [foldX, if_neg h5]]; rfl
theorem folds_fn (cols : List Col) (row : List Val) (e : Ex) : Does Tryz.prog 3 [.d (.sl (cols.map Col.c)), .d (.sl (row.map Val.c)), .ag e.c] (.d (.v (.bool true))) 0 := by
  refine Does.of_W (n := 57) (ts := [6]) Tryz.func3 (by kernel_rfl) rfl Tryz.ntmps3 Tryz.results3 rfl rfl fun C hC hG => ?_
  refine W.seq ?_
  refine W.region ?_
  refine boxR rfl rfl rfl ?_
  refine pu (ev tab rfl) rfl ?_
  refine WO.nil ?_
  refine qs ?_
  refine W.seq ?_
  refine W.seq ?_
  refine W.region ?_
  iterate 2 refine pu (ev tab rfl) rfl ?_
  first | refine pu (ev tab rfl) rfl ?_ | refine pu (loadRow tab rfl rfl rfl rfl) rfl ?_ | refine pu (loadBox tab rfl rfl rfl rfl rfl) rfl ?_
  refine pu (puCall rfl rfl rfl (few_fn ..) rfl) rfl ?_
  refine pu (ev tab rfl) rfl ?_
  refine WO.nil ?_
  refine qs ?_
  refine condK rfl (fun h16 => ?_) (fun h16 => ?_)
  · skip
    refine W.seq ?_
    refine W.region ?_
    refine pu (puCall rfl rfl rfl (lives_fn ..) rfl) rfl ?_
    refine pu (ev tab rfl) rfl ?_
    refine WO.nil ?_
    refine qs ?_
    refine W.ret ?_
    refine qsRet ?_
    refine QF.ret0 trivial rfl ?_
    rfl
  · skip
    refine W.skip ?_
    refine qs ?_
    refine W.seq ?_
    refine W.region ?_
    first | refine pu (ev tab rfl) rfl ?_ | refine pu (loadRow tab rfl rfl rfl rfl) rfl ?_ | refine pu (loadBox tab rfl rfl rfl rfl rfl) rfl ?_
    refine pu (puCall rfl rfl rfl (eFold_fn ..) rfl) rfl ?_
    refine allocR tab rfl rfl rfl ?_
    refine storeR tab rfl rfl rfl rfl rfl rfl rfl rfl ?_
    refine WO.nil ?_
    refine qs ?_
    refine W.seq ?_
    refine W.seq ?_
    refine W.regionD tab (by kernel_rfl) ?_
    first | refine chPu (ev tab rfl) rfl ?_ | refine chPu (loadRow tab rfl rfl rfl rfl) rfl ?_ | refine chPu (loadBox tab rfl rfl rfl rfl rfl) rfl ?_
    first | refine chPu (ev tab rfl) rfl ?_ | refine chPu (loadRow tab rfl rfl rfl rfl) rfl ?_ | refine chPu (loadBox tab rfl rfl rfl rfl rfl) rfl ?_
    refine chPu (puCall rfl rfl rfl (rFold_fn ..) rfl) rfl ?_
    refine chPu (puCall rfl rfl rfl (same_fn (foldX e) (foldX e)) rfl) rfl ?_
    refine chPu (ev tab rfl) rfl ?_
    refine CH.nil ?_
    refine qs ?_
    refine condK rfl (fun h24 => ?_) (fun h24 => ?_)
    · skip
      exfalso; rw [sameE_self] at h24; simp at h24
    · skip
      refine W.skip ?_
      refine qs ?_
      refine W.seq ?_
      refine W.region ?_
      refine pu (ev tab rfl) rfl ?_
      first | refine pu (ev tab rfl) rfl ?_ | refine pu (loadRow tab rfl rfl rfl rfl) rfl ?_ | refine pu (loadBox tab rfl rfl rfl rfl rfl) rfl ?_
      refine pu (puCall rfl rfl rfl (texpr_fn ..) rfl) rfl ?_
      iterate 5 refine pu (ev tab rfl) rfl ?_
      refine WO.nil ?_
      refine qs ?_
      refine W.seq ?_
      refine W.region ?_
      refine pu (ev tab rfl) rfl ?_
      first | refine pu (ev tab rfl) rfl ?_ | refine pu (loadRow tab rfl rfl rfl rfl) rfl ?_ | refine pu (loadBox tab rfl rfl rfl rfl rfl) rfl ?_
      refine pu (puCall rfl rfl rfl (texpr_fn cols (foldX e)) rfl) rfl ?_
      iterate 5 refine pu (ev tab rfl) rfl ?_
      refine WO.nil ?_
      refine qs ?_
      refine W.seq ?_
      apply regionDB tab; (case hb => rfl); (case hB => kernel_rfl)
      · skip
        refine chPu (ev tab rfl) rfl ?_
        refine chPu (ev tab rfl) rfl ?_
        refine chPu (ev tab rfl) rfl ?_
        apply chSplitJ; (case hj => rfl); (case hl => rfl)
        · skip
          refine chSkip rfl rfl rfl rfl ?_
          refine chSkip rfl rfl rfl rfl ?_
          refine chSkip rfl rfl rfl rfl ?_
          refine chSkipU rfl rfl rfl ?_
          refine chSkipU rfl rfl rfl ?_
          refine chSkipU rfl rfl rfl ?_
          refine chSkipU rfl rfl rfl ?_
          refine chSkipU rfl rfl rfl ?_
          refine chSkipU rfl rfl rfl ?_
          refine chSkipU rfl rfl rfl ?_
          refine chSkipU rfl rfl rfl ?_
          refine chSkipU rfl rfl rfl ?_
          refine chSkip rfl rfl rfl rfl ?_
          refine chPu (ev tab rfl) rfl ?_
          refine chPu (ev tab rfl) rfl ?_
          refine chGo rfl rfl (puCall rfl rfl rfl (lives_fn ..) rfl) rfl ?_
          refine chPu (ev tab rfl) rfl ?_
          refine chPu (ev tab rfl) rfl ?_
          refine CH.nil ?_
          refine qv1 rfl rfl rfl
        · skip
          refine chGo rfl rfl (ev tab rfl) rfl ?_
          refine chGo rfl rfl (ev tab rfl) rfl ?_
          refine chGo rfl rfl (ev tab rfl) rfl ?_
          apply chSplitJ; (case hj => rfl); (case hl => rfl)
          · skip
            refine chGo rfl rfl (ev tab rfl) rfl ?_
            refine chGo rfl rfl (ev tab rfl) rfl ?_
            first | refine chGo rfl rfl (ev tab rfl) rfl ?_ | refine chGo rfl rfl (loadRow tab rfl rfl rfl rfl) rfl ?_ | refine chGo rfl rfl (loadBox tab rfl rfl rfl rfl rfl) rfl ?_
            refine chGo rfl rfl (puCall rfl rfl rfl (eexpr_fn cols row (foldX e)) rfl) rfl ?_
            refine chGo rfl rfl (ev tab rfl) rfl ?_
            refine chGo rfl rfl (ev tab rfl) rfl ?_
            first | refine chGo rfl rfl (ev tab rfl) rfl ?_ | refine chGo rfl rfl (loadRow tab rfl rfl rfl rfl) rfl ?_ | refine chGo rfl rfl (loadBox tab rfl rfl rfl rfl rfl) rfl ?_
            refine chGo rfl rfl (puCall rfl rfl rfl (eexpr_fn ..) rfl) rfl ?_
            refine chGo rfl rfl (ev tab rfl) rfl ?_
            refine chGo rfl rfl (ev tab rfl) rfl ?_
            refine chPu (ev tab rfl) rfl ?_
            refine chPu (ev tab rfl) rfl ?_
            apply chSplitJ; (case hj => rfl); (case hl => rfl)
            · skip
              refine chGo rfl rfl (puCall rfl rfl rfl (lives_fn ..) rfl) rfl ?_
              refine chPu (ev tab rfl) rfl ?_
              refine chPu (ev tab rfl) rfl ?_
              refine CH.nil ?_
              refine qv1 rfl rfl rfl
            · skip
              refine chSkip rfl rfl rfl rfl ?_
              refine chPu (ev tab rfl) rfl ?_
              refine chPu (ev tab rfl) rfl ?_
              refine CH.nil ?_
              refine qv1 rfl rfl rfl
          · skip
            refine chSkip rfl rfl rfl rfl ?_
            refine chSkip rfl rfl rfl rfl ?_
            refine chSkip rfl rfl rfl rfl ?_
            refine chSkip rfl rfl rfl rfl ?_
            refine chSkip rfl rfl rfl rfl ?_
            refine chSkip rfl rfl rfl rfl ?_
            refine chSkip rfl rfl rfl rfl ?_
            refine chSkip rfl rfl rfl rfl ?_
            refine chSkip rfl rfl rfl rfl ?_
            refine chGo rfl rfl (ev tab rfl) rfl ?_
            refine chPu (ev tab rfl) rfl ?_
            refine chPu (ev tab rfl) rfl ?_
            refine chSkip rfl rfl rfl rfl ?_
            refine chPu (ev tab rfl) rfl ?_
            refine chPu (ev tab rfl) rfl ?_
            refine CH.nil ?_
            refine qv1 rfl rfl rfl
      refine qs ?_
      refine W.ret ?_
      refine QF.ret0 trivial rfl ?_
      rw [valEq]
      by_cases h : (exprT cols e).2 = 0
      · simp [norm, oneA, boolA, fold_accepted h, fold_same h]
      · simp [norm, oneA, boolA, h]
end Go.Proofs.YtaifpecinbjgcabGreat
