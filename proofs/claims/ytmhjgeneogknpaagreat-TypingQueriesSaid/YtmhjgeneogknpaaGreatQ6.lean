import Derived.Test.YtmhjgeneogknpaaGreatQ5
namespace Go.Proofs.YtmhjgeneogknpaaGreat
open Go.Ab Go.Tb
set_option maxRecDepth 10000
attribute [local irreducible] W WO Pu QS QB QL QF QV QV1 CH QE
theorem zero_fn (e : Ex) : Does Tryz.prog 82 [.ag e.c] (.d (.v (.bool (zeroE e)))) 0 := by
  refine Does.of_W (n := 23) (ts := [2]) Tryz.func82 (by kernel_rfl) rfl Tryz.ntmps82 Tryz.results82 rfl rfl fun C hC => ?_
  have hkl := Ex.kc_len e
  refine W.seq ?_
  refine W.region ?_
  refine boxR rfl rfl rfl ?_
  refine pu (ev tab rfl) rfl ?_
  refine WO.nil ?_
  refine qs ?_
  refine W.seq ?_
  apply regionB; (case hb => rfl)
  · skip
    refine pu (ev tab rfl) rfl ?_
    first | refine pu (ev tab rfl) rfl ?_ | refine pu (loadRow tab rfl rfl rfl rfl) rfl ?_ | refine pu (loadBox tab rfl rfl rfl rfl rfl) rfl ?_
    iterate 2 refine pu (ev tab rfl) rfl ?_
    apply splitJ; (case hj => rfl); (case hl => rfl)
    · skip
      refine goG rfl rfl ?_
      refine pu (ev tab rfl) rfl ?_
      refine goG rfl rfl ?_
      first | refine pu (ev tab rfl) rfl ?_ | refine pu (loadRow tab rfl rfl rfl rfl) rfl ?_ | refine pu (loadBox tab rfl rfl rfl rfl rfl) rfl ?_
      refine goG rfl rfl ?_
      iterate 3 refine pu (ev tab rfl) rfl ?_
      apply splitJ; (case hj => rfl); (case hl => rfl)
      · skip
        refine goG rfl rfl ?_
        refine pu (ev tab rfl) rfl ?_
        refine goG rfl rfl ?_
        first | refine pu (ev tab rfl) rfl ?_ | refine pu (loadRow tab rfl rfl rfl rfl) rfl ?_ | refine pu (loadBox tab rfl rfl rfl rfl rfl) rfl ?_
        refine goG rfl rfl ?_
        refine pu (build tab rfl rfl rfl rfl) rfl ?_
        refine goG rfl rfl ?_
        iterate 3 refine pu (ev tab rfl) rfl ?_
        apply splitJ; (case hj => rfl); (case hl => rfl)
        · skip
          refine goG rfl rfl ?_
          refine pu (ev tab rfl) rfl ?_
          refine goG rfl rfl ?_
          first | refine pu (ev tab rfl) rfl ?_ | refine pu (loadRow tab rfl rfl rfl rfl) rfl ?_ | refine pu (loadBox tab rfl rfl rfl rfl rfl) rfl ?_
          refine goG rfl rfl ?_
          refine pu (ev tab rfl) rfl ?_
          refine goG rfl rfl ?_
          iterate 3 refine pu (ev tab rfl) rfl ?_
          refine WO.nil ?_
          refine qv1 rfl rfl rfl
        · skip
          refine skipT rfl rfl rfl rfl ?_
          refine skipT rfl rfl rfl rfl ?_
          refine skipT rfl rfl rfl rfl ?_
          refine skipT rfl rfl rfl rfl ?_
          iterate 2 refine pu (ev tab rfl) rfl ?_
          refine WO.nil ?_
          refine qv1 rfl rfl rfl
      · skip
        refine skipT rfl rfl rfl rfl ?_
        refine skipT rfl rfl rfl rfl ?_
        refine skipT rfl rfl rfl rfl ?_
        refine skipT rfl rfl rfl rfl ?_
        iterate 2 refine pu (ev tab rfl) rfl ?_
        refine skipT rfl rfl rfl rfl ?_
        refine skipT rfl rfl rfl rfl ?_
        refine skipT rfl rfl rfl rfl ?_
        refine skipT rfl rfl rfl rfl ?_
        iterate 2 refine pu (ev tab rfl) rfl ?_
        refine WO.nil ?_
        refine qv1 rfl rfl rfl
    · skip
      refine skipT rfl rfl rfl rfl ?_
      refine skipT rfl rfl rfl rfl ?_
      refine skipT rfl rfl rfl rfl ?_
      iterate 2 refine pu (ev tab rfl) rfl ?_
      refine skipT rfl rfl rfl rfl ?_
      refine skipT rfl rfl rfl rfl ?_
      refine skipT rfl rfl rfl rfl ?_
      refine skipT rfl rfl rfl rfl ?_
      iterate 2 refine pu (ev tab rfl) rfl ?_
      refine skipT rfl rfl rfl rfl ?_
      refine skipT rfl rfl rfl rfl ?_
      refine skipT rfl rfl rfl rfl ?_
      refine skipT rfl rfl rfl rfl ?_
      iterate 2 refine pu (ev tab rfl) rfl ?_
      refine WO.nil ?_
      refine qv1 rfl rfl rfl
  refine qs ?_
  refine W.ret ?_
  refine QF.ret0 trivial rfl ?_
  simp only [norm, oneA, zeroE, zeroV, hkl, Int.natCast_eq_zero]; grind

theorem uses1_fn (l : List Int) (s : Stp) : Does Tryz.prog 80 [.d (.sl (l.map ic)), .row (s.c.map A.d)] (.d (.v (.bool (l.any fun x => decide (s.op = x))))) 0 := by
  refine Does.of_W (n := 8) (ts := [3]) Tryz.func80 (by kernel_rfl) rfl Tryz.ntmps80 Tryz.results80 rfl rfl fun C hC => ?_
  refine W.seq ?_
  refine W.region ?_
  refine pu (ev tab rfl) rfl ?_
  refine WO.nil ?_
  refine qs ?_
  refine W.seq ?_
  refine W.region ?_
  iterate 2 refine pu (ev tab rfl) rfl ?_
  first | refine pu (ev tab rfl) rfl ?_ | refine pu (loadRow tab rfl rfl rfl rfl) rfl ?_ | refine pu (loadBox tab rfl rfl rfl rfl rfl) rfl ?_
  refine pu (puCall rfl rfl rfl (containsOp_fn l s.op) rfl) rfl ?_
  refine pu (ev tab rfl) rfl ?_
  refine WO.nil ?_
  refine qs ?_
  refine W.ret ?_
  refine QF.ret0 trivial rfl ?_
  rfl
theorem items_fn (l : List Itm) (h : l.length ≤ 16) : Does Tryz.prog 46 [.d (.sl (l.map Itm.c))] (.d (.v (.int .i64 (selErr [] l)))) 0 := by
  refine Does.of_W (n := 27) (ts := [2]) Tryz.func46 (by kernel_rfl) rfl Tryz.ntmps46 Tryz.results46 rfl rfl fun C hC => ?_
  refine W.seq ?_
  refine W.region ?_
  refine pu (ev tab rfl) rfl ?_
  refine WO.nil ?_
  refine qs ?_
  refine W.seq ?_
  refine W.region ?_
  refine allocR tab rfl rfl rfl ?_
  refine WO.nil ?_
  refine qs ?_
  refine W.seq ?_
  refine W.seq ?_
  refine W.region ?_
  iterate 3 refine pu (ev tab rfl) rfl ?_
  refine WO.nil ?_
  refine qs ?_
  refine W.block ?_
  refine ownNilBox 0 0 rfl rfl rfl ?_
  refine W.len (t := 8) rfl rfl (fun hlen => ?_)
  try simp only [List.length_map, Ex.kc_len] at hlen
  refine W.loopR (ι := {x : Nat × List ByteArray // match x with | (k, ns) => k ≤ l.length ∧ selErr ns (l.drop k) = selErr [] l ∧ ns.length ≤ k})
    (fun x => match x.1 with | (k, ns) => [(3, .ptr 0 0), (10, .d (.v (.int .i64 ((k : Nat) : Int))))]) [(8, _), (9, _)]
    (fun x => match x.1 with | (k, ns) => [(0, [.own 1 (ns.map sc)])]) [] [1] 2 (fun x => match x.1 with | (k, ns) => l.length - k)
    [0, 1] ⟨(0, []), ?_⟩ rfl ?_ ⟨rfl, rfl, rfl, rfl, trivial⟩ ?_ trivial rfl ?_
  · exact ⟨Nat.zero_le _, rfl, Nat.le_refl _⟩
  · repeat' first | exact trivial | refine ⟨rfl, ?_⟩ | refine ⟨step_nat (by assumption) (by assumption), ?_⟩
  · repeat' first | exact trivial | refine ⟨rfl, ?_⟩ | refine ⟨step_nat (by assumption) (by assumption), ?_⟩
  rintro ⟨⟨k, ns⟩, hk, hI, hL⟩
  show W _ _ _ _ _ ⟨[(3, .ptr 0 0), (10, .d (.v (.int .i64 ((k : Nat) : Int)))), (8, _), (9, _)], [(0, [.own 1 (ns.map sc)])], [1], 2⟩
  refine W.seq ?_
  refine W.region ?_
  refine pu (ev tab rfl) rfl ?_
  refine WO.nil ?_
  refine qs ?_
  refine W.seq ?_
  refine eachR (l := l) (k := k) rfl (by simp [Ex.kc_len, bytes_len]) hk (fun x hx hd hlt => ?_) (fun he hd => ?_)
  · skip
    rw [hd] at hI
    simp only [selErr] at hI
    refine W.skip ?_
    refine qs ?_
    refine W.seq ?_
    refine W.block ?_
    refine W.seq ?_
    refine W.region ?_
    refine pu (indexAddr tab rfl rfl rfl rfl rfl rfl (Int.natCast_nonneg _) (idx_map hx) rfl) rfl ?_
    first | refine pu (ev tab rfl) rfl ?_ | refine pu (loadRow tab rfl rfl rfl rfl) rfl ?_ | refine pu (loadBox tab rfl rfl rfl rfl rfl) rfl ?_
    refine allocR tab rfl rfl rfl ?_
    refine storeR tab rfl rfl rfl rfl rfl rfl rfl rfl ?_
    refine WO.nil ?_
    refine qs ?_
    refine W.seq ?_
    refine W.seq ?_
    refine W.region ?_
    refine pu (ev tab rfl) rfl ?_
    first | refine pu (ev tab rfl) rfl ?_ | refine pu (loadRow tab rfl rfl rfl rfl) rfl ?_ | refine pu (loadBox tab rfl rfl rfl rfl rfl) rfl ?_
    refine pu (puCall rfl rfl rfl (expr_fn x.e) rfl) rfl ?_
    refine pu (ev tab rfl) rfl ?_
    refine WO.nil ?_
    refine qs ?_
    refine W.seq ?_
    refine W.region ?_
    iterate 2 refine pu (ev tab rfl) rfl ?_
    refine WO.nil ?_
    refine qs ?_
    refine condK rfl (fun h18 => ?_) (fun h18 => ?_)
    · skip
      rw [if_pos (by simpa using h18)] at hI
      refine W.seq ?_
      refine W.region ?_
      iterate 2 refine pu (ev tab rfl) rfl ?_
      refine WO.nil ?_
      refine qs ?_
      refine W.ret ?_
      refine qsRet ?_
      refine qbRet ?_
      refine qsRet ?_
      refine qlRet ?_
      refine qbRet ?_
      refine qsRet ?_
      refine QF.ret0 trivial rfl ?_
      rw [← hI]; rfl
    · skip
      rw [if_neg (by simpa using h18)] at hI
      refine W.skip ?_
      refine qs ?_
      refine W.seq ?_
      refine W.region ?_
      refine pu (ev tab rfl) rfl ?_
      first | refine pu (ev tab rfl) rfl ?_ | refine pu (loadRow tab rfl rfl rfl rfl) rfl ?_ | refine pu (loadBox tab rfl rfl rfl rfl rfl) rfl ?_
      refine callB [0] [1] rfl rfl rfl rfl rfl ((add_fn ns x.name (by omega))) rfl rfl (by rfl) (by rfl) rfl rfl rfl rfl ?_
      refine pu (ev tab rfl) rfl ?_
      refine WO.nil ?_
      refine qs ?_
      refine W.seq ?_
      refine W.region ?_
      iterate 2 refine pu (ev tab rfl) rfl ?_
      refine WO.nil ?_
      refine qs ?_
      refine condK rfl (fun h24 => ?_) (fun h24 => ?_)
      · skip
        have h24 : addErr ns x.name ≠ 0 := by simpa using h24
        rw [if_pos h24] at hI
        refine W.seq ?_
        refine W.region ?_
        iterate 2 refine pu (ev tab rfl) rfl ?_
        refine WO.nil ?_
        refine qs ?_
        refine W.ret ?_
        refine qbRet ?_
        refine qsRet ?_
        refine qlRet ?_
        refine qbRet ?_
        refine qsRet ?_
        refine QF.ret0 trivial rfl ?_
        rw [← hI]; rfl
      · skip
        have h24 : addErr ns x.name = 0 := by simpa using h24
        rw [if_neg (by simp [h24])] at hI
        have hto : addTo ns x.name = ns ++ [x.name] := by simp [addTo, h24]
        refine W.skip ?_
        refine qbN ?_
        refine qs ?_
        refine W.region ?_
        iterate 2 refine pu (ev tab rfl) rfl ?_
        refine WO.nil ?_
        refine W.endR [0, 4] ⟨(k + 1, addTo ns x.name), ?_⟩ ?_ rfl ?_ ⟨rfl, rfl, rfl, rfl, trivial⟩ ?_ trivial rfl
        · refine ⟨hlt, ?_, ?_⟩
          · rw [hto]; exact hI
          · rw [hto]; simp; omega
        · dsimp only; omega
        · repeat' first | exact trivial | refine ⟨rfl, ?_⟩ | refine ⟨step_nat (by assumption) (by assumption), ?_⟩
        · repeat' first | exact trivial | refine ⟨rfl, ?_⟩ | refine ⟨step_nat (by assumption) (by assumption), ?_⟩
  · skip
    rw [hd] at hI
    simp only [selErr] at hI
    refine W.exit ?_
    refine qsExit ?_
    refine qlExit ?_
    refine qbExit ?_
    refine qs ?_
    refine W.seq ?_
    refine W.region ?_
    refine pu (ev tab rfl) rfl ?_
    refine WO.nil ?_
    refine qs ?_
    refine W.ret ?_
    refine QF.ret0 trivial rfl ?_
    rw [← hI]; rfl

theorem group_fn (s : Stp) : Does Tryz.prog 47 [.ag s.c] (.d (.v (.int .i64 (groupErr s)))) 0 := by
  refine Does.of_W (n := 77) (ts := [2]) Tryz.func47 (by kernel_rfl) rfl Tryz.ntmps47 Tryz.results47 rfl rfl fun C hC => ?_
  refine W.seq ?_
  refine W.region ?_
  refine boxR rfl rfl rfl ?_
  refine pu (ev tab rfl) rfl ?_
  refine WO.nil ?_
  refine qs ?_
  refine W.seq ?_
  refine W.block ?_
  refine W.seq ?_
  refine lenBox (g := 0) (j := 8) rfl rfl (fun hl1 => ?_)
  refine lenBox (g := 0) (j := 9) rfl rfl (fun hl2 => ?_)
  simp only [List.length_map, maxLen] at hl1 hl2
  refine W.region ?_
  refine pu (ev tab rfl) rfl ?_
  first | refine pu (ev tab rfl) rfl ?_ | refine pu (loadRow tab rfl rfl rfl rfl) rfl ?_ | refine pu (loadBox tab rfl rfl rfl rfl rfl) rfl ?_
  iterate 2 refine pu (ev tab rfl) rfl ?_
  first | refine pu (ev tab rfl) rfl ?_ | refine pu (loadRow tab rfl rfl rfl rfl) rfl ?_ | refine pu (loadBox tab rfl rfl rfl rfl rfl) rfl ?_
  iterate 4 refine pu (ev tab rfl) rfl ?_
  refine WO.nil ?_
  refine qs ?_
  refine condK rfl (fun h9 => ?_) (fun h9 => ?_)
  · skip
    have h9 : s.cols.length + s.aggs.length = 0 := by have h9' := of_decide_eq_true h9; rw [wrap_zero (by omega) (by simp only [List.length_map]; omega)] at h9'; simp only [List.length_map] at h9'; omega
    refine W.seq ?_
    refine W.region ?_
    refine pu (ev tab rfl) rfl ?_
    refine WO.nil ?_
    refine qs ?_
    refine W.ret ?_
    refine qbRet ?_
    refine qsRet ?_
    refine QF.ret0 trivial rfl ?_
    simp only [norm, oneA, List.length_map] at *; grind [groupErr]
  · skip
    have h9 : ¬ (s.cols.length + s.aggs.length = 0) := by have h9' := of_decide_eq_false h9; rw [wrap_zero (by omega) (by simp only [List.length_map]; omega)] at h9'; simp only [List.length_map] at h9'; omega
    refine W.seq ?_
    apply regionB; (case hb => rfl)
    · skip
      refine pu (ev tab rfl) rfl ?_
      first | refine pu (ev tab rfl) rfl ?_ | refine pu (loadRow tab rfl rfl rfl rfl) rfl ?_ | refine pu (loadBox tab rfl rfl rfl rfl rfl) rfl ?_
      iterate 3 refine pu (ev tab rfl) rfl ?_
      apply splitJ; (case hj => rfl); (case hl => rfl)
      · skip
        refine skipT rfl rfl rfl rfl ?_
        refine skipT rfl rfl rfl rfl ?_
        refine skipT rfl rfl rfl rfl ?_
        refine skipT rfl rfl rfl rfl ?_
        iterate 2 refine pu (ev tab rfl) rfl ?_
        refine WO.nil ?_
        refine qv1 rfl rfl rfl
      · skip
        refine goG rfl rfl ?_
        refine pu (ev tab rfl) rfl ?_
        refine goG rfl rfl ?_
        first | refine pu (ev tab rfl) rfl ?_ | refine pu (loadRow tab rfl rfl rfl rfl) rfl ?_ | refine pu (loadBox tab rfl rfl rfl rfl rfl) rfl ?_
        refine goG rfl rfl ?_
        refine pu (ev tab rfl) rfl ?_
        refine goG rfl rfl ?_
        iterate 3 refine pu (ev tab rfl) rfl ?_
        refine WO.nil ?_
        refine qv1 rfl rfl rfl
    refine qs ?_
    refine condK rfl (fun h18 => ?_) (fun h18 => ?_)
    · skip
      refine W.seq ?_
      refine W.region ?_
      refine pu (ev tab rfl) rfl ?_
      refine WO.nil ?_
      refine qs ?_
      refine W.ret ?_
      refine qbRet ?_
      refine qsRet ?_
      refine QF.ret0 trivial rfl ?_
      simp only [norm, oneA, List.length_map] at *; grind [groupErr]
    · skip
      have h18 : ¬ (16 < s.cols.length ∨ 16 < s.aggs.length) := by simp only [List.length_map] at h18; intro h; simp at h18; omega
      have hge : groupErr s = if allErr [] s.cols ≠ 0 then allErr [] s.cols else aggErr s.cols s.aggs := by unfold groupErr; rw [if_neg h9, if_neg h18]
      refine W.skip ?_
      refine qbN ?_
      refine qs ?_
      refine W.seq ?_
      refine W.region ?_
      refine allocR tab rfl rfl rfl ?_
      refine WO.nil ?_
      refine qs ?_
      refine W.seq ?_
      refine W.seq ?_
      refine W.region ?_
      refine ownNilBoxO 1 0 rfl rfl rfl ?_
      refine pu (ev tab rfl) rfl ?_
      first | refine pu (ev tab rfl) rfl ?_ | refine pu (loadRow tab rfl rfl rfl rfl) rfl ?_ | refine pu (loadBox tab rfl rfl rfl rfl rfl) rfl ?_
      refine callB [1] [2] rfl rfl rfl rfl rfl ((allNames_fn [] s.cols (by simp; omega))) rfl rfl (by rfl) (by rfl) rfl rfl rfl rfl ?_
      refine pu (ev tab rfl) rfl ?_
      refine WO.nil ?_
      refine qs ?_
      refine W.seq ?_
      refine W.region ?_
      iterate 2 refine pu (ev tab rfl) rfl ?_
      refine WO.nil ?_
      refine qs ?_
      refine condK rfl (fun h33 => ?_) (fun h33 => ?_)
      · skip
        rw [if_pos (by simpa using h33)] at hge
        refine W.seq ?_
        refine W.region ?_
        iterate 2 refine pu (ev tab rfl) rfl ?_
        refine WO.nil ?_
        refine qs ?_
        refine W.ret ?_
        refine qsRet ?_
        refine QF.ret0 trivial rfl ?_
        rw [hge]; rfl
      · skip
        have h33 : allErr [] s.cols = 0 := by simpa using h33
        rw [if_neg (by simp [h33])] at hge
        have hto := allTo_ok [] s.cols h33
        refine W.skip ?_
        refine qs ?_
        refine W.seq ?_
        refine W.seq ?_
        refine W.region ?_
        refine pu (ev tab rfl) rfl ?_
        first | refine pu (ev tab rfl) rfl ?_ | refine pu (loadRow tab rfl rfl rfl rfl) rfl ?_ | refine pu (loadBox tab rfl rfl rfl rfl rfl) rfl ?_
        iterate 2 refine pu (ev tab rfl) rfl ?_
        refine WO.nil ?_
        refine qs ?_
        refine W.block ?_
        refine W.loopR (ι := {x : Nat × List ByteArray // match x with | (k, ns) => k ≤ s.aggs.length ∧ aggErr ns (s.aggs.drop k) = aggErr s.cols s.aggs ∧ ns.length ≤ s.cols.length + k})
          (fun x => match x.1 with | (k, ns) => [(3, .ptr 0 0), (38, .d (.v (.int .i64 ((k : Nat) : Int))))]) [(36, _), (37, _)]
          (fun x => match x.1 with | (k, ns) => [(0, [.own 1 (ns.map sc)])]) [] [1] 2 (fun x => match x.1 with | (k, ns) => s.aggs.length - k)
          [1, 4] ⟨(0, allTo [] s.cols), ?_⟩ rfl ?_ ⟨rfl, rfl, rfl, rfl, trivial⟩ ?_ trivial rfl ?_
        · exact ⟨Nat.zero_le _, by rw [hto]; rfl, by rw [hto]; simp⟩
        · repeat' first | exact trivial | refine ⟨rfl, ?_⟩ | refine ⟨step_nat (by assumption) (by assumption), ?_⟩
        · repeat' first | exact trivial | refine ⟨rfl, ?_⟩ | refine ⟨step_nat (by assumption) (by assumption), ?_⟩
        rintro ⟨⟨k, ns⟩, hk, hI, hL⟩
        show W _ _ _ _ _ ⟨[(3, .ptr 0 0), (38, .d (.v (.int .i64 ((k : Nat) : Int)))), (36, _), (37, _)], [(0, [.own 1 (ns.map sc)])], [1], 2⟩
        refine W.seq ?_
        refine W.region ?_
        refine pu (ev tab rfl) rfl ?_
        refine WO.nil ?_
        refine qs ?_
        refine W.seq ?_
        refine eachR (l := s.aggs) (k := k) rfl (by simp [Ex.kc_len, bytes_len]) hk (fun x hx hd hlt => ?_) (fun he hd => ?_)
        · skip
          rw [hd] at hI
          simp only [aggErr] at hI
          refine W.skip ?_
          refine qs ?_
          refine W.seq ?_
          refine W.block ?_
          refine W.seq ?_
          refine W.region ?_
          refine pu (indexAddr tab rfl rfl rfl rfl rfl rfl (Int.natCast_nonneg _) (idx_map hx) rfl) rfl ?_
          first | refine pu (ev tab rfl) rfl ?_ | refine pu (loadRow tab rfl rfl rfl rfl) rfl ?_ | refine pu (loadBox tab rfl rfl rfl rfl rfl) rfl ?_
          refine allocR tab rfl rfl rfl ?_
          refine storeR tab rfl rfl rfl rfl rfl rfl rfl rfl ?_
          refine WO.nil ?_
          refine qs ?_
          refine W.seq ?_
          refine W.region ?_
          refine pu (ev tab rfl) rfl ?_
          first | refine pu (ev tab rfl) rfl ?_ | refine pu (loadRow tab rfl rfl rfl rfl) rfl ?_ | refine pu (loadBox tab rfl rfl rfl rfl rfl) rfl ?_
          iterate 2 refine pu (ev tab rfl) rfl ?_
          refine WO.nil ?_
          refine qs ?_
          refine W.seq ?_
          refine W.seq ?_
          apply regionB; (case hb => rfl)
          · skip
            iterate 3 refine pu (ev tab rfl) rfl ?_
            apply splitJ; (case hj => rfl); (case hl => rfl)
            · skip
              refine goG rfl rfl ?_
              refine pu (buildV tab rfl rfl rfl rfl rfl rfl rfl rfl rfl) rfl ?_
              refine goG rfl rfl ?_
              refine pu (ev tab rfl) rfl ?_
              refine goG rfl rfl ?_
              first | refine pu (ev tab rfl) rfl ?_ | refine pu (loadRow tab rfl rfl rfl rfl) rfl ?_ | refine pu (loadBox tab rfl rfl rfl rfl rfl) rfl ?_
              refine goG rfl rfl ?_
              refine pu (puCall rfl rfl rfl (contains_fn [wSum, wMin, wMax, wFirst] x.fn) rfl) rfl ?_
              refine goG rfl rfl ?_
              iterate 3 refine pu (ev tab rfl) rfl ?_
              apply splitJ; (case hj => rfl); (case hl => rfl)
              · skip
                refine skipT rfl rfl rfl rfl ?_
                refine skipT rfl rfl rfl rfl ?_
                refine skipT rfl rfl rfl rfl ?_
                refine skipT rfl rfl rfl rfl ?_
                refine skipT rfl rfl rfl rfl ?_
                refine pu (ev tab rfl) rfl ?_
                refine WO.nil ?_
                refine qv1 rfl rfl rfl
              · skip
                refine goG rfl rfl ?_
                refine pu (ev tab rfl) rfl ?_
                refine goG rfl rfl ?_
                refine pu (ev tab rfl) rfl ?_
                refine goG rfl rfl ?_
                first | refine pu (ev tab rfl) rfl ?_ | refine pu (loadRow tab rfl rfl rfl rfl) rfl ?_ | refine pu (loadBox tab rfl rfl rfl rfl rfl) rfl ?_
                refine goG rfl rfl ?_
                refine pu (ev tab rfl) rfl ?_
                refine goG rfl rfl ?_
                iterate 2 refine pu (ev tab rfl) rfl ?_
                refine WO.nil ?_
                refine qv1 rfl rfl rfl
            · skip
              refine skipT rfl rfl rfl rfl ?_
              refine skipT rfl rfl rfl rfl ?_
              refine skipT rfl rfl rfl rfl ?_
              refine skipT rfl rfl rfl rfl ?_
              refine skipT rfl rfl rfl rfl ?_
              iterate 2 refine pu (ev tab rfl) rfl ?_
              refine goG rfl rfl ?_
              refine pu (ev tab rfl) rfl ?_
              refine goG rfl rfl ?_
              refine pu (ev tab rfl) rfl ?_
              refine goG rfl rfl ?_
              first | refine pu (ev tab rfl) rfl ?_ | refine pu (loadRow tab rfl rfl rfl rfl) rfl ?_ | refine pu (loadBox tab rfl rfl rfl rfl rfl) rfl ?_
              refine goG rfl rfl ?_
              refine pu (ev tab rfl) rfl ?_
              refine goG rfl rfl ?_
              iterate 2 refine pu (ev tab rfl) rfl ?_
              refine WO.nil ?_
              refine qv1 rfl rfl rfl
          refine qs ?_
          refine condK rfl (fun h60 => ?_) (fun h60 => ?_)
          · skip
            have h60 : badAgg x = true := by revert h60; simp only [badAgg, knownAgg, wCount]; by_cases q : x.fn = B #[99, 111, 117, 110, 116] <;> by_cases q2 : x.col = B #[] <;> simp [q, q2] <;> grind
            rw [if_pos h60] at hI
            refine W.seq ?_
            refine W.region ?_
            refine pu (ev tab rfl) rfl ?_
            refine WO.nil ?_
            refine qs ?_
            refine W.ret ?_
            refine qsRet ?_
            refine qbRet ?_
            refine qsRet ?_
            refine qlRet ?_
            refine qbRet ?_
            refine qsRet ?_
            refine QF.ret0 trivial rfl ?_
            rw [hge, ← hI]; rfl
          · skip
            have h60 : ¬ (badAgg x = true) := by revert h60; simp only [badAgg, knownAgg, wCount]; by_cases q : x.fn = B #[99, 111, 117, 110, 116] <;> by_cases q2 : x.col = B #[] <;> simp [q, q2] <;> grind
            rw [if_neg h60] at hI
            refine W.skip ?_
            refine qs ?_
            refine W.seq ?_
            refine W.seq ?_
            apply regionB; (case hb => rfl)
            · skip
              refine pu (ev tab rfl) rfl ?_
              first | refine pu (ev tab rfl) rfl ?_ | refine pu (loadRow tab rfl rfl rfl rfl) rfl ?_ | refine pu (loadBox tab rfl rfl rfl rfl rfl) rfl ?_
              iterate 2 refine pu (ev tab rfl) rfl ?_
              apply splitJ; (case hj => rfl); (case hl => rfl)
              · skip
                refine goG rfl rfl ?_
                refine pu (ev tab rfl) rfl ?_
                refine goG rfl rfl ?_
                first | refine pu (ev tab rfl) rfl ?_ | refine pu (loadRow tab rfl rfl rfl rfl) rfl ?_ | refine pu (loadBox tab rfl rfl rfl rfl rfl) rfl ?_
                refine goG rfl rfl ?_
                refine pu (puCall rfl rfl rfl (identifier_fn ..) rfl) rfl ?_
                refine goG rfl rfl ?_
                iterate 2 refine pu (ev tab rfl) rfl ?_
                refine WO.nil ?_
                refine qv1 rfl rfl rfl
              · skip
                refine skipT rfl rfl rfl rfl ?_
                refine skipT rfl rfl rfl rfl ?_
                refine skipT rfl rfl rfl rfl ?_
                refine skipT rfl rfl rfl rfl ?_
                refine pu (ev tab rfl) rfl ?_
                refine WO.nil ?_
                refine qv1 rfl rfl rfl
            refine qs ?_
            refine condK rfl (fun h69 => ?_) (fun h69 => ?_)
            · skip
              have h69 : x.col ≠ B #[] ∧ identB x.col = false := by revert h69; by_cases q2 : x.col = B #[] <;> simp [q2]
              rw [if_pos h69] at hI
              refine W.seq ?_
              refine W.region ?_
              refine pu (ev tab rfl) rfl ?_
              refine WO.nil ?_
              refine qs ?_
              refine W.ret ?_
              refine qsRet ?_
              refine qbRet ?_
              refine qsRet ?_
              refine qlRet ?_
              refine qbRet ?_
              refine qsRet ?_
              refine QF.ret0 trivial rfl ?_
              rw [hge, ← hI]; rfl
            · skip
              have h69 : ¬ (x.col ≠ B #[] ∧ identB x.col = false) := by revert h69; by_cases q2 : x.col = B #[] <;> simp [q2]
              rw [if_neg h69] at hI
              refine W.skip ?_
              refine qs ?_
              refine W.seq ?_
              refine W.region ?_
              refine pu (ev tab rfl) rfl ?_
              first | refine pu (ev tab rfl) rfl ?_ | refine pu (loadRow tab rfl rfl rfl rfl) rfl ?_ | refine pu (loadBox tab rfl rfl rfl rfl rfl) rfl ?_
              refine callB [0] [1] rfl rfl rfl rfl rfl ((add_fn ns x.name (by omega))) rfl rfl (by rfl) (by rfl) rfl rfl rfl rfl ?_
              refine pu (ev tab rfl) rfl ?_
              refine WO.nil ?_
              refine qs ?_
              refine W.seq ?_
              refine W.region ?_
              iterate 2 refine pu (ev tab rfl) rfl ?_
              refine WO.nil ?_
              refine qs ?_
              refine condK rfl (fun h74 => ?_) (fun h74 => ?_)
              · skip
                rw [if_pos (by simpa using h74)] at hI
                refine W.seq ?_
                refine W.region ?_
                iterate 2 refine pu (ev tab rfl) rfl ?_
                refine WO.nil ?_
                refine qs ?_
                refine W.ret ?_
                refine qbRet ?_
                refine qsRet ?_
                refine qlRet ?_
                refine qbRet ?_
                refine qsRet ?_
                refine QF.ret0 trivial rfl ?_
                rw [hge, ← hI]; rfl
              · skip
                have h74 : addErr ns x.name = 0 := by simpa using h74
                rw [if_neg (by simp [h74])] at hI
                have hto : addTo ns x.name = ns ++ [x.name] := by simp [addTo, h74]
                refine W.skip ?_
                refine qbN ?_
                refine qs ?_
                refine W.region ?_
                iterate 2 refine pu (ev tab rfl) rfl ?_
                refine WO.nil ?_
                refine W.endR [0, 4] ⟨(k + 1, addTo ns x.name), ?_⟩ ?_ rfl ?_ ⟨rfl, rfl, rfl, rfl, trivial⟩ ?_ trivial rfl
                · refine ⟨hlt, ?_, ?_⟩
                  · rw [hto]; exact hI
                  · rw [hto]; simp; omega
                · dsimp only; omega
                · repeat' first | exact trivial | refine ⟨rfl, ?_⟩ | refine ⟨step_nat (by assumption) (by assumption), ?_⟩
                · repeat' first | exact trivial | refine ⟨rfl, ?_⟩ | refine ⟨step_nat (by assumption) (by assumption), ?_⟩
        · skip
          rw [hd] at hI
          simp only [aggErr] at hI
          refine W.exit ?_
          refine qsExit ?_
          refine qlExit ?_
          refine qbExit ?_
          refine qs ?_
          refine W.seq ?_
          refine W.region ?_
          refine pu (ev tab rfl) rfl ?_
          refine WO.nil ?_
          refine qs ?_
          refine W.ret ?_
          refine QF.ret0 trivial rfl ?_
          rw [hge, ← hI]; rfl
end Go.Proofs.YtmhjgeneogknpaaGreat
namespace Go.Proofs.YtmhjgeneogknpaaGreat
open Go.Ab Go.Tb
set_option maxRecDepth 10000
attribute [local irreducible] W WO Pu QS QB QL QF QV QV1 CH QE
theorem uses_fn (s : Stp) : Does Tryz.prog 44 [.ag s.c] (.d (.v (.bool (usesB s)))) 0 := by
  refine Does.of_W (n := 83) (ts := [2]) Tryz.func44 (by kernel_rfl) rfl Tryz.ntmps44 Tryz.results44 rfl rfl fun C hC => ?_
  refine W.seq ?_
  refine W.region ?_
  refine boxR rfl rfl rfl ?_
  refine pu (ev tab rfl) rfl ?_
  refine WO.nil ?_
  refine qs ?_
  refine W.seq ?_
  refine W.region ?_
  iterate 2 refine pu (ev tab rfl) rfl ?_
  refine WO.nil ?_
  refine qs ?_
  refine W.seq ?_
  refine W.block ?_
  refine W.seq ?_
  apply regionB; (case hb => rfl)
  · skip
    refine pu (ev tab rfl) rfl ?_
    first | refine pu (ev tab rfl) rfl ?_ | refine pu (loadRow tab rfl rfl rfl rfl) rfl ?_ | refine pu (loadBox tab rfl rfl rfl rfl rfl) rfl ?_
    iterate 2 refine pu (ev tab rfl) rfl ?_
    apply splitJ; (case hj => rfl); (case hl => rfl)
    · skip
      refine skipT rfl rfl rfl rfl ?_
      refine skipT rfl rfl rfl rfl ?_
      refine skipT rfl rfl rfl rfl ?_
      iterate 2 refine pu (ev tab rfl) rfl ?_
      refine WO.nil ?_
      refine qv1 rfl rfl rfl
    · skip
      refine goG rfl rfl ?_
      refine pu (ev tab rfl) rfl ?_
      refine goG rfl rfl ?_
      first | refine pu (ev tab rfl) rfl ?_ | refine pu (loadRow tab rfl rfl rfl rfl) rfl ?_ | refine pu (loadBox tab rfl rfl rfl rfl rfl) rfl ?_
      refine goG rfl rfl ?_
      iterate 3 refine pu (ev tab rfl) rfl ?_
      refine WO.nil ?_
      refine qv1 rfl rfl rfl
  refine qs ?_
  refine condK rfl (fun h5 => ?_) (fun h5 => ?_)
  · skip
    refine W.seq ?_
    refine W.region ?_
    refine pu (ev tab rfl) rfl ?_
    refine WO.nil ?_
    refine qs ?_
    refine W.ret ?_
    refine qbRet ?_
    refine qsRet ?_
    refine QF.ret0 trivial rfl ?_
    simp only [norm, oneA, List.length_map, List.any_cons, List.any_nil, Bool.or_false] at *; congr 3; simp only [usesB, tableOp]; grind
  · skip
    refine W.seq ?_
    refine W.seq ?_
    apply regionB; (case hb => rfl)
    · skip
      refine pu (ev tab rfl) rfl ?_
      refine pu (buildV tab rfl rfl rfl rfl rfl rfl rfl rfl rfl) rfl ?_
      refine pu (puCall rfl rfl rfl (uses1_fn [1] s) rfl) rfl ?_
      iterate 2 refine pu (ev tab rfl) rfl ?_
      apply splitJ; (case hj => rfl); (case hl => rfl)
      · skip
        refine goG rfl rfl ?_
        refine pu (ev tab rfl) rfl ?_
        refine goG rfl rfl ?_
        first | refine pu (ev tab rfl) rfl ?_ | refine pu (loadRow tab rfl rfl rfl rfl) rfl ?_ | refine pu (loadBox tab rfl rfl rfl rfl rfl) rfl ?_
        refine goG rfl rfl ?_
        refine pu (puCall rfl rfl rfl (zero_fn s.cond) rfl) rfl ?_
        refine goG rfl rfl ?_
        iterate 3 refine pu (ev tab rfl) rfl ?_
        refine WO.nil ?_
        refine qv1 rfl rfl rfl
      · skip
        refine skipT rfl rfl rfl rfl ?_
        refine skipT rfl rfl rfl rfl ?_
        refine skipT rfl rfl rfl rfl ?_
        refine skipT rfl rfl rfl rfl ?_
        iterate 2 refine pu (ev tab rfl) rfl ?_
        refine WO.nil ?_
        refine qv1 rfl rfl rfl
    refine qs ?_
    refine condK rfl (fun h14 => ?_) (fun h14 => ?_)
    · skip
      refine W.skip ?_
      refine qs ?_
      refine W.condT rfl ?_
      refine W.seq ?_
      refine W.region ?_
      refine pu (ev tab rfl) rfl ?_
      refine WO.nil ?_
      refine qs ?_
      refine W.ret ?_
      refine qbRet ?_
      refine qsRet ?_
      refine QF.ret0 trivial rfl ?_
      simp only [norm, oneA, List.length_map, List.any_cons, List.any_nil, Bool.or_false] at *; congr 3; simp only [usesB, tableOp]; grind
    · skip
      refine W.seq ?_
      apply regionB; (case hb => rfl)
      · skip
        refine pu (ev tab rfl) rfl ?_
        refine pu (buildV tab rfl rfl rfl rfl rfl rfl rfl rfl rfl) rfl ?_
        refine pu (puCall rfl rfl rfl (uses1_fn [2] s) rfl) rfl ?_
        iterate 2 refine pu (ev tab rfl) rfl ?_
        apply splitJ; (case hj => rfl); (case hl => rfl)
        · skip
          refine goG rfl rfl ?_
          refine pu (ev tab rfl) rfl ?_
          refine goG rfl rfl ?_
          first | refine pu (ev tab rfl) rfl ?_ | refine pu (loadRow tab rfl rfl rfl rfl) rfl ?_ | refine pu (loadBox tab rfl rfl rfl rfl rfl) rfl ?_
          refine goG rfl rfl ?_
          refine pu (ev tab rfl) rfl ?_
          refine goG rfl rfl ?_
          iterate 3 refine pu (ev tab rfl) rfl ?_
          refine WO.nil ?_
          refine qv1 rfl rfl rfl
        · skip
          refine skipT rfl rfl rfl rfl ?_
          refine skipT rfl rfl rfl rfl ?_
          refine skipT rfl rfl rfl rfl ?_
          refine skipT rfl rfl rfl rfl ?_
          iterate 2 refine pu (ev tab rfl) rfl ?_
          refine WO.nil ?_
          refine qv1 rfl rfl rfl
      refine qs ?_
      refine condK rfl (fun h14 => ?_) (fun h14 => ?_)
      · skip
        refine W.skip ?_
        refine qs ?_
        refine W.condT rfl ?_
        refine W.seq ?_
        refine W.region ?_
        refine pu (ev tab rfl) rfl ?_
        refine WO.nil ?_
        refine qs ?_
        refine W.ret ?_
        refine qbRet ?_
        refine qsRet ?_
        refine QF.ret0 trivial rfl ?_
        simp only [norm, oneA, List.length_map, List.any_cons, List.any_nil, Bool.or_false] at *; congr 3; simp only [usesB, tableOp]; grind
      · skip
        refine W.seq ?_
        apply regionB; (case hb => rfl)
        · skip
          refine pu (ev tab rfl) rfl ?_
          refine pu (buildV tab rfl rfl rfl rfl rfl rfl rfl rfl rfl) rfl ?_
          refine pu (puCall rfl rfl rfl (uses1_fn [3] s) rfl) rfl ?_
          iterate 2 refine pu (ev tab rfl) rfl ?_
          apply splitJ; (case hj => rfl); (case hl => rfl)
          · skip
            refine goG rfl rfl ?_
            refine pu (ev tab rfl) rfl ?_
            refine goG rfl rfl ?_
            first | refine pu (ev tab rfl) rfl ?_ | refine pu (loadRow tab rfl rfl rfl rfl) rfl ?_ | refine pu (loadBox tab rfl rfl rfl rfl rfl) rfl ?_
            refine goG rfl rfl ?_
            refine pu (ev tab rfl) rfl ?_
            refine goG rfl rfl ?_
            iterate 3 refine pu (ev tab rfl) rfl ?_
            refine WO.nil ?_
            refine qv1 rfl rfl rfl
          · skip
            refine skipT rfl rfl rfl rfl ?_
            refine skipT rfl rfl rfl rfl ?_
            refine skipT rfl rfl rfl rfl ?_
            refine skipT rfl rfl rfl rfl ?_
            iterate 2 refine pu (ev tab rfl) rfl ?_
            refine WO.nil ?_
            refine qv1 rfl rfl rfl
        refine qs ?_
        refine condK rfl (fun h14 => ?_) (fun h14 => ?_)
        · skip
          refine W.skip ?_
          refine qs ?_
          refine W.condT rfl ?_
          refine W.seq ?_
          refine W.region ?_
          refine pu (ev tab rfl) rfl ?_
          refine WO.nil ?_
          refine qs ?_
          refine W.ret ?_
          refine qbRet ?_
          refine qsRet ?_
          refine QF.ret0 trivial rfl ?_
          simp only [norm, oneA, List.length_map, List.any_cons, List.any_nil, Bool.or_false] at *; congr 3; simp only [usesB, tableOp]; grind
        · skip
          refine W.seq ?_
          apply regionB; (case hb => rfl)
          · skip
            refine pu (ev tab rfl) rfl ?_
            refine pu (buildV tab rfl rfl rfl rfl rfl rfl rfl rfl rfl) rfl ?_
            refine pu (puCall rfl rfl rfl (uses1_fn [4] s) rfl) rfl ?_
            iterate 2 refine pu (ev tab rfl) rfl ?_
            apply splitJ; (case hj => rfl); (case hl => rfl)
            · skip
              refine goG rfl rfl ?_
              refine pu (ev tab rfl) rfl ?_
              refine goG rfl rfl ?_
              first | refine pu (ev tab rfl) rfl ?_ | refine pu (loadRow tab rfl rfl rfl rfl) rfl ?_ | refine pu (loadBox tab rfl rfl rfl rfl rfl) rfl ?_
              refine goG rfl rfl ?_
              refine pu (ev tab rfl) rfl ?_
              refine goG rfl rfl ?_
              iterate 3 refine pu (ev tab rfl) rfl ?_
              refine WO.nil ?_
              refine qv1 rfl rfl rfl
            · skip
              refine skipT rfl rfl rfl rfl ?_
              refine skipT rfl rfl rfl rfl ?_
              refine skipT rfl rfl rfl rfl ?_
              refine skipT rfl rfl rfl rfl ?_
              iterate 2 refine pu (ev tab rfl) rfl ?_
              refine WO.nil ?_
              refine qv1 rfl rfl rfl
          refine qs ?_
          refine condK rfl (fun h14 => ?_) (fun h14 => ?_)
          · skip
            refine W.skip ?_
            refine qs ?_
            refine W.condT rfl ?_
            refine W.seq ?_
            refine W.region ?_
            refine pu (ev tab rfl) rfl ?_
            refine WO.nil ?_
            refine qs ?_
            refine W.ret ?_
            refine qbRet ?_
            refine qsRet ?_
            refine QF.ret0 trivial rfl ?_
            simp only [norm, oneA, List.length_map, List.any_cons, List.any_nil, Bool.or_false] at *; congr 3; simp only [usesB, tableOp]; grind
          · skip
            apply regionB; (case hb => rfl)
            · skip
              refine pu (ev tab rfl) rfl ?_
              refine pu (buildV tab rfl rfl rfl rfl rfl rfl rfl rfl rfl) rfl ?_
              refine pu (puCall rfl rfl rfl (uses1_fn [5] s) rfl) rfl ?_
              iterate 2 refine pu (ev tab rfl) rfl ?_
              apply splitJ; (case hj => rfl); (case hl => rfl)
              · skip
                refine goG rfl rfl ?_
                refine pu (ev tab rfl) rfl ?_
                refine goG rfl rfl ?_
                first | refine pu (ev tab rfl) rfl ?_ | refine pu (loadRow tab rfl rfl rfl rfl) rfl ?_ | refine pu (loadBox tab rfl rfl rfl rfl rfl) rfl ?_
                refine goG rfl rfl ?_
                iterate 3 refine pu (ev tab rfl) rfl ?_
                refine WO.nil ?_
                refine qv1 rfl rfl rfl
              · skip
                refine skipT rfl rfl rfl rfl ?_
                refine skipT rfl rfl rfl rfl ?_
                refine skipT rfl rfl rfl rfl ?_
                iterate 2 refine pu (ev tab rfl) rfl ?_
                refine WO.nil ?_
                refine qv1 rfl rfl rfl
            refine qs ?_
            refine condK rfl (fun h14 => ?_) (fun h14 => ?_)
            · skip
              refine W.seq ?_
              refine W.region ?_
              refine pu (ev tab rfl) rfl ?_
              refine WO.nil ?_
              refine qs ?_
              refine W.ret ?_
              refine qbRet ?_
              refine qsRet ?_
              refine QF.ret0 trivial rfl ?_
              simp only [norm, oneA, List.length_map, List.any_cons, List.any_nil, Bool.or_false] at *; congr 3; simp only [usesB, tableOp]; grind
            · skip
              refine W.seq ?_
              apply regionB; (case hb => rfl)
              · skip
                refine pu (ev tab rfl) rfl ?_
                refine pu (buildV tab rfl rfl rfl rfl rfl rfl rfl rfl rfl) rfl ?_
                refine pu (puCall rfl rfl rfl (uses1_fn [6, 7, 8] s) rfl) rfl ?_
                iterate 2 refine pu (ev tab rfl) rfl ?_
                apply splitJ; (case hj => rfl); (case hl => rfl)
                · skip
                  refine goG rfl rfl ?_
                  refine pu (ev tab rfl) rfl ?_
                  refine goG rfl rfl ?_
                  first | refine pu (ev tab rfl) rfl ?_ | refine pu (loadRow tab rfl rfl rfl rfl) rfl ?_ | refine pu (loadBox tab rfl rfl rfl rfl rfl) rfl ?_
                  refine goG rfl rfl ?_
                  iterate 3 refine pu (ev tab rfl) rfl ?_
                  refine WO.nil ?_
                  refine qv1 rfl rfl rfl
                · skip
                  refine skipT rfl rfl rfl rfl ?_
                  refine skipT rfl rfl rfl rfl ?_
                  refine skipT rfl rfl rfl rfl ?_
                  iterate 2 refine pu (ev tab rfl) rfl ?_
                  refine WO.nil ?_
                  refine qv1 rfl rfl rfl
              refine qs ?_
              refine condK rfl (fun h64 => ?_) (fun h64 => ?_)
              · skip
                refine W.seq ?_
                refine W.region ?_
                refine pu (ev tab rfl) rfl ?_
                refine WO.nil ?_
                refine qs ?_
                refine W.ret ?_
                refine qbRet ?_
                refine qsRet ?_
                refine QF.ret0 trivial rfl ?_
                simp only [norm, oneA, List.length_map, List.any_cons, List.any_nil, Bool.or_false] at *; congr 3; simp only [usesB, tableOp]; grind
              · skip
                refine W.skip ?_
                refine qbN ?_
                refine qs ?_
                refine W.seq ?_
                apply regionB; (case hb => rfl)
                · skip
                  refine pu (ev tab rfl) rfl ?_
                  refine pu (buildV tab rfl rfl rfl rfl rfl rfl rfl rfl rfl) rfl ?_
                  refine pu (puCall rfl rfl rfl (uses1_fn [3, 6, 7, 8, 9] s) rfl) rfl ?_
                  refine pu (ev tab rfl) rfl ?_
                  apply splitJ; (case hj => rfl); (case hl => rfl)
                  · skip
                    refine skipT rfl rfl rfl rfl ?_
                    refine skipT rfl rfl rfl rfl ?_
                    refine skipT rfl rfl rfl rfl ?_
                    refine skipT rfl rfl rfl rfl ?_
                    iterate 2 refine pu (ev tab rfl) rfl ?_
                    refine WO.nil ?_
                    refine qv1 rfl rfl rfl
                  · skip
                    refine goG rfl rfl ?_
                    refine pu (ev tab rfl) rfl ?_
                    refine goG rfl rfl ?_
                    first | refine pu (ev tab rfl) rfl ?_ | refine pu (loadRow tab rfl rfl rfl rfl) rfl ?_ | refine pu (loadBox tab rfl rfl rfl rfl rfl) rfl ?_
                    refine goG rfl rfl ?_
                    refine pu (ev tab rfl) rfl ?_
                    refine goG rfl rfl ?_
                    iterate 3 refine pu (ev tab rfl) rfl ?_
                    refine WO.nil ?_
                    refine qv1 rfl rfl rfl
                refine qs ?_
                refine W.ret ?_
                refine QF.ret0 trivial rfl ?_
                simp only [norm, oneA, List.length_map, List.any_cons, List.any_nil, Bool.or_false] at *; congr 3; simp only [usesB, tableOp]; grind

theorem step_fn (s : Stp) (hs : s.sorts.length ≤ 100000) : Does Tryz.prog 19 [.ag s.c] (.d (.v (.int .i64 (stepErr s)))) 0 := by
  refine Does.of_W (n := 77) (ts := [2]) Tryz.func19 (by kernel_rfl) rfl Tryz.ntmps19 Tryz.results19 rfl rfl fun C hC => ?_
  refine W.seq ?_
  refine W.region ?_
  refine boxR rfl rfl rfl ?_
  refine pu (ev tab rfl) rfl ?_
  refine WO.nil ?_
  refine qs ?_
  refine W.seq ?_
  refine W.seq ?_
  refine W.region ?_
  first | refine pu (ev tab rfl) rfl ?_ | refine pu (loadRow tab rfl rfl rfl rfl) rfl ?_ | refine pu (loadBox tab rfl rfl rfl rfl rfl) rfl ?_
  refine pu (puCall rfl rfl rfl (uses_fn s) rfl) rfl ?_
  refine pu (ev tab rfl) rfl ?_
  refine WO.nil ?_
  refine qs ?_
  refine condK rfl (fun h10 => ?_) (fun h10 => ?_)
  · skip
    have h10 : usesB s = false := by simpa using h10
    refine W.seq ?_
    refine W.region ?_
    refine pu (ev tab rfl) rfl ?_
    refine WO.nil ?_
    refine qs ?_
    refine W.ret ?_
    refine qsRet ?_
    refine QF.ret0 trivial rfl ?_
    simp only [norm, oneA, List.length_map] at *; grind [stepErr]
  · skip
    have h10 : usesB s = true := by simpa using h10
    refine W.skip ?_
    refine qs ?_
    refine W.seq ?_
    refine W.seq ?_
    refine W.region ?_
    refine pu (ev tab rfl) rfl ?_
    first | refine pu (ev tab rfl) rfl ?_ | refine pu (loadRow tab rfl rfl rfl rfl) rfl ?_ | refine pu (loadBox tab rfl rfl rfl rfl rfl) rfl ?_
    refine WO.nil ?_
    refine qs ?_
    refine W.block ?_
    refine W.seq ?_
    refine W.region ?_
    iterate 2 refine pu (ev tab rfl) rfl ?_
    refine WO.nil ?_
    refine qs ?_
    refine condK rfl (fun h13 => ?_) (fun h13 => ?_)
    · skip
      refine W.seq ?_
      refine W.region ?_
      refine pu (ev tab rfl) rfl ?_
      first | refine pu (ev tab rfl) rfl ?_ | refine pu (loadRow tab rfl rfl rfl rfl) rfl ?_ | refine pu (loadBox tab rfl rfl rfl rfl rfl) rfl ?_
      refine pu (puCall rfl rfl rfl (expr_fn s.cond) rfl) rfl ?_
      refine pu (ev tab rfl) rfl ?_
      refine WO.nil ?_
      refine qs ?_
      refine W.ret ?_
      refine qbRet ?_
      refine qsRet ?_
      refine QF.ret0 trivial rfl ?_
      simp only [norm, oneA, List.length_map] at *; grind [stepErr]
    · skip
      refine W.seq ?_
      refine W.region ?_
      iterate 2 refine pu (ev tab rfl) rfl ?_
      refine WO.nil ?_
      refine qs ?_
      refine condK rfl (fun h18 => ?_) (fun h18 => ?_)
      · skip
        refine W.seq ?_
        refine W.seq ?_
        refine W.region ?_
        refine pu (ev tab rfl) rfl ?_
        first | refine pu (ev tab rfl) rfl ?_ | refine pu (loadRow tab rfl rfl rfl rfl) rfl ?_ | refine pu (loadBox tab rfl rfl rfl rfl rfl) rfl ?_
        refine pu (ev tab rfl) rfl ?_
        refine pu (puCall rfl rfl rfl (size_fn ..) rfl) rfl ?_
        refine pu (ev tab rfl) rfl ?_
        refine WO.nil ?_
        refine qs ?_
        refine W.seq ?_
        refine W.region ?_
        iterate 2 refine pu (ev tab rfl) rfl ?_
        refine WO.nil ?_
        refine qs ?_
        refine condK rfl (fun h25 => ?_) (fun h25 => ?_)
        · skip
          refine W.seq ?_
          refine W.region ?_
          iterate 2 refine pu (ev tab rfl) rfl ?_
          refine WO.nil ?_
          refine qs ?_
          refine W.ret ?_
          refine qsRet ?_
          refine qbRet ?_
          refine qsRet ?_
          refine QF.ret0 trivial rfl ?_
          simp only [norm, oneA, List.length_map] at *; grind [stepErr]
        · skip
          have h25 : sizeErr s.items.length 1 = 0 := by simpa using h25
          have hl16 : s.items.length ≤ 16 := by unfold sizeErr at h25; split at h25; omega; split at h25 <;> omega
          refine W.skip ?_
          refine qs ?_
          refine W.seq ?_
          refine W.region ?_
          refine pu (ev tab rfl) rfl ?_
          first | refine pu (ev tab rfl) rfl ?_ | refine pu (loadRow tab rfl rfl rfl rfl) rfl ?_ | refine pu (loadBox tab rfl rfl rfl rfl rfl) rfl ?_
          refine pu (puCall rfl rfl rfl (items_fn s.items hl16) rfl) rfl ?_
          refine pu (ev tab rfl) rfl ?_
          refine WO.nil ?_
          refine qs ?_
          refine W.ret ?_
          refine qbRet ?_
          refine qsRet ?_
          refine QF.ret0 trivial rfl ?_
          simp only [norm, oneA, List.length_map] at *; grind [stepErr]
      · skip
        refine W.seq ?_
        refine W.region ?_
        iterate 2 refine pu (ev tab rfl) rfl ?_
        refine WO.nil ?_
        refine qs ?_
        refine condK rfl (fun h30 => ?_) (fun h30 => ?_)
        · skip
          refine W.seq ?_
          refine W.region ?_
          first | refine pu (ev tab rfl) rfl ?_ | refine pu (loadRow tab rfl rfl rfl rfl) rfl ?_ | refine pu (loadBox tab rfl rfl rfl rfl rfl) rfl ?_
          refine pu (puCall rfl rfl rfl (group_fn s) rfl) rfl ?_
          refine pu (ev tab rfl) rfl ?_
          refine WO.nil ?_
          refine qs ?_
          refine W.ret ?_
          refine qbRet ?_
          refine qsRet ?_
          refine QF.ret0 trivial rfl ?_
          simp only [norm, oneA, List.length_map] at *; grind [stepErr]
        · skip
          refine W.seq ?_
          refine W.region ?_
          iterate 2 refine pu (ev tab rfl) rfl ?_
          refine WO.nil ?_
          refine qs ?_
          refine condK rfl (fun h34 => ?_) (fun h34 => ?_)
          · skip
            refine W.seq ?_
            refine W.region ?_
            refine pu (ev tab rfl) rfl ?_
            refine WO.nil ?_
            refine qs ?_
            refine W.seq ?_
            refine W.seq ?_
            refine W.region ?_
            refine pu (ev tab rfl) rfl ?_
            first | refine pu (ev tab rfl) rfl ?_ | refine pu (loadRow tab rfl rfl rfl rfl) rfl ?_ | refine pu (loadBox tab rfl rfl rfl rfl rfl) rfl ?_
            iterate 2 refine pu (ev tab rfl) rfl ?_
            refine WO.nil ?_
            refine qs ?_
            refine W.block ?_
            refine ownNilR (d := 4) rfl rfl ?_
            refine W.len (t := 37) rfl rfl (fun hlen => ?_)
            try simp only [List.length_map, Ex.kc_len] at hlen
            refine W.loopR (ι := {x : Nat × List ByteArray // match x with | (k, ns) => k ≤ s.sorts.length ∧ ns = (s.sorts.take k).map Srt.col})
              (fun x => match x.1 with | (k, ns) => [(4, .own 0 (ns.map sc)), (39, .d (.v (.int .i64 ((k : Nat) : Int))))]) [(37, _), (38, _)]
              (fun x => match x.1 with | (k, ns) => []) [] [0] 1 (fun x => match x.1 with | (k, ns) => s.sorts.length - k)
              [1] ⟨(0, []), ?_⟩ rfl ?_ ⟨rfl, rfl, rfl, rfl, trivial⟩ ?_ trivial rfl ?_
            · exact ⟨Nat.zero_le _, rfl⟩
            · repeat' first | exact trivial | refine ⟨rfl, ?_⟩ | refine ⟨step_nat (by assumption) (by assumption), ?_⟩
            · repeat' first | exact trivial | refine ⟨rfl, ?_⟩ | refine ⟨step_nat (by assumption) (by assumption), ?_⟩
            rintro ⟨⟨k, ns⟩, hk, hI⟩
            show W _ _ _ _ _ ⟨[(4, .own 0 (ns.map sc)), (39, .d (.v (.int .i64 ((k : Nat) : Int)))), (37, _), (38, _)], [], [0], 1⟩
            refine W.seq ?_
            refine W.region ?_
            refine pu (ev tab rfl) rfl ?_
            refine WO.nil ?_
            refine qs ?_
            refine W.seq ?_
            refine eachR (l := s.sorts) (k := k) rfl (by simp [Ex.kc_len, bytes_len]) hk (fun x hx hd hlt => ?_) (fun he hd => ?_)
            · skip
              have hnl : ns.length = k := by rw [hI]; simp; omega
              refine W.skip ?_
              refine qs ?_
              refine W.seq ?_
              refine W.block ?_
              refine W.seq ?_
              refine W.region ?_
              refine pu (indexAddr tab rfl rfl rfl rfl rfl rfl (Int.natCast_nonneg _) (idx_map hx) rfl) rfl ?_
              first | refine pu (ev tab rfl) rfl ?_ | refine pu (loadRow tab rfl rfl rfl rfl) rfl ?_ | refine pu (loadBox tab rfl rfl rfl rfl rfl) rfl ?_
              refine allocR tab rfl rfl rfl ?_
              refine storeR tab rfl rfl rfl rfl rfl rfl rfl rfl ?_
              refine WO.nil ?_
              refine qs ?_
              refine W.region ?_
              iterate 2 refine pu (ev tab rfl) rfl ?_
              first | refine pu (ev tab rfl) rfl ?_ | refine pu (loadRow tab rfl rfl rfl rfl) rfl ?_ | refine pu (loadBox tab rfl rfl rfl rfl rfl) rfl ?_
              refine pu (buildV tab rfl rfl rfl rfl rfl rfl rfl rfl rfl) rfl ?_
              refine appendM tab rfl rfl rfl rfl rfl rfl rfl rfl rfl rfl (fun _ => rfl) (by show (ns.length + 1) * 16 ≤ _; omega) ?_
              refine pu (ev tab rfl) rfl ?_
              refine WO.nil ?_
              refine qbN ?_
              refine qs ?_
              refine W.region ?_
              iterate 2 refine pu (ev tab rfl) rfl ?_
              refine WO.nil ?_
              refine W.endR [2] ⟨(k + 1, ns ++ [x.col]), ?_⟩ ?_ rfl ?_ ⟨rfl, rfl, rfl, rfl, trivial⟩ ?_ trivial rfl
              · exact ⟨hlt, by rw [hI, List.take_add_one, hx]; simp⟩
              · dsimp only; omega
              · repeat' first | exact trivial | refine ⟨rfl, ?_⟩ | refine ⟨step_nat (by assumption) (by assumption), ?_⟩
              · repeat' first | exact trivial | refine ⟨rfl, ?_⟩ | refine ⟨step_nat (by assumption) (by assumption), ?_⟩
            · skip
              have hns : ns = s.sorts.map Srt.col := by rw [hI, he, List.take_length]
              refine W.exit ?_
              refine qsExit ?_
              refine qlExit ?_
              refine qbExit ?_
              refine qs ?_
              refine W.seq ?_
              refine W.region ?_
              refine pu (ev tab rfl) rfl ?_
              refine pu (puCall rfl rfl rfl (columns_fn ns 1) rfl) rfl ?_
              refine pu (ev tab rfl) rfl ?_
              refine WO.nil ?_
              refine qs ?_
              refine W.ret ?_
              refine qbRet ?_
              refine qsRet ?_
              refine QF.ret0 trivial rfl ?_
              simp only [norm, oneA, List.length_map] at *; grind [stepErr]
          · skip
            refine W.seq ?_
            refine W.region ?_
            iterate 2 refine pu (ev tab rfl) rfl ?_
            refine WO.nil ?_
            refine qs ?_
            refine condK rfl (fun h51 => ?_) (fun h51 => ?_)
            · skip
              refine W.seq ?_
              refine W.seq ?_
              apply regionB; (case hb => rfl)
              · skip
                refine pu (ev tab rfl) rfl ?_
                first | refine pu (ev tab rfl) rfl ?_ | refine pu (loadRow tab rfl rfl rfl rfl) rfl ?_ | refine pu (loadBox tab rfl rfl rfl rfl rfl) rfl ?_
                iterate 2 refine pu (ev tab rfl) rfl ?_
                apply splitJ; (case hj => rfl); (case hl => rfl)
                · skip
                  refine skipT rfl rfl rfl rfl ?_
                  refine skipT rfl rfl rfl rfl ?_
                  refine skipT rfl rfl rfl rfl ?_
                  refine pu (ev tab rfl) rfl ?_
                  refine WO.nil ?_
                  refine qv1 rfl rfl rfl
                · skip
                  refine goG rfl rfl ?_
                  refine pu (ev tab rfl) rfl ?_
                  refine goG rfl rfl ?_
                  first | refine pu (ev tab rfl) rfl ?_ | refine pu (loadRow tab rfl rfl rfl rfl) rfl ?_ | refine pu (loadBox tab rfl rfl rfl rfl rfl) rfl ?_
                  refine goG rfl rfl ?_
                  iterate 2 refine pu (ev tab rfl) rfl ?_
                  refine WO.nil ?_
                  refine qv1 rfl rfl rfl
              refine qs ?_
              refine condK rfl (fun h60 => ?_) (fun h60 => ?_)
              · skip
                refine W.seq ?_
                refine W.region ?_
                refine pu (ev tab rfl) rfl ?_
                refine WO.nil ?_
                refine qs ?_
                refine W.ret ?_
                refine qsRet ?_
                refine qbRet ?_
                refine qsRet ?_
                refine QF.ret0 trivial rfl ?_
                simp only [norm, oneA, List.length_map] at *; grind [stepErr]
              · skip
                refine W.skip ?_
                refine qs ?_
                refine W.seq ?_
                refine W.region ?_
                refine pu (ev tab rfl) rfl ?_
                refine WO.nil ?_
                refine qs ?_
                refine W.ret ?_
                refine qbRet ?_
                refine qsRet ?_
                refine QF.ret0 trivial rfl ?_
                simp only [norm, oneA, List.length_map] at *; grind [stepErr]
            · skip
              refine W.seq ?_
              refine W.region ?_
              iterate 2 refine pu (ev tab rfl) rfl ?_
              refine WO.nil ?_
              refine qs ?_
              refine condK rfl (fun h61 => ?_) (fun h61 => ?_)
              · skip
                refine W.seq ?_
                refine W.region ?_
                refine pu (ev tab rfl) rfl ?_
                first | refine pu (ev tab rfl) rfl ?_ | refine pu (loadRow tab rfl rfl rfl rfl) rfl ?_ | refine pu (loadBox tab rfl rfl rfl rfl rfl) rfl ?_
                refine pu (puCall rfl rfl rfl (columns_fn ..) rfl) rfl ?_
                refine pu (ev tab rfl) rfl ?_
                refine WO.nil ?_
                refine qs ?_
                refine W.ret ?_
                refine qbRet ?_
                refine qsRet ?_
                refine QF.ret0 trivial rfl ?_
                simp only [norm, oneA, List.length_map] at *; grind [stepErr]
              · skip
                refine W.skip ?_
                refine qbN ?_
                refine qs ?_
                refine W.seq ?_
                refine W.seq ?_
                refine W.region ?_
                refine pu (ev tab rfl) rfl ?_
                first | refine pu (ev tab rfl) rfl ?_ | refine pu (loadRow tab rfl rfl rfl rfl) rfl ?_ | refine pu (loadBox tab rfl rfl rfl rfl rfl) rfl ?_
                refine pu (puCall rfl rfl rfl (identifier_fn ..) rfl) rfl ?_
                refine pu (ev tab rfl) rfl ?_
                refine WO.nil ?_
                refine qs ?_
                refine condK rfl (fun h69 => ?_) (fun h69 => ?_)
                · skip
                  refine W.seq ?_
                  refine W.region ?_
                  refine pu (ev tab rfl) rfl ?_
                  refine WO.nil ?_
                  refine qs ?_
                  refine W.ret ?_
                  refine qsRet ?_
                  refine QF.ret0 trivial rfl ?_
                  simp only [norm, oneA, List.length_map] at *; grind [stepErr]
                · skip
                  refine W.skip ?_
                  refine qs ?_
                  refine W.seq ?_
                  refine W.region ?_
                  refine pu (ev tab rfl) rfl ?_
                  refine WO.nil ?_
                  refine qs ?_
                  refine W.seq ?_
                  refine W.seq ?_
                  refine W.region ?_
                  refine pu (ev tab rfl) rfl ?_
                  first | refine pu (ev tab rfl) rfl ?_ | refine pu (loadRow tab rfl rfl rfl rfl) rfl ?_ | refine pu (loadBox tab rfl rfl rfl rfl rfl) rfl ?_
                  refine pu (ev tab rfl) rfl ?_
                  refine WO.nil ?_
                  refine qs ?_
                  refine condK rfl (fun h72 => ?_) (fun h72 => ?_)
                  · skip
                    refine W.region ?_
                    refine pu (ev tab rfl) rfl ?_
                    refine WO.nil ?_
                    refine qs ?_
                    refine W.seq ?_
                    refine W.region ?_
                    refine pu (ev tab rfl) rfl ?_
                    first | refine pu (ev tab rfl) rfl ?_ | refine pu (loadRow tab rfl rfl rfl rfl) rfl ?_ | refine pu (loadBox tab rfl rfl rfl rfl rfl) rfl ?_
                    refine pu (ev tab rfl) rfl ?_
                    refine pu (puCall rfl rfl rfl (columns_fn ..) rfl) rfl ?_
                    refine pu (ev tab rfl) rfl ?_
                    refine WO.nil ?_
                    refine qs ?_
                    refine W.ret ?_
                    refine QF.ret0 trivial rfl ?_
                    simp only [norm, oneA, List.length_map] at *; grind [stepErr]
                  · skip
                    refine W.skip ?_
                    refine qs ?_
                    refine W.seq ?_
                    refine W.region ?_
                    refine pu (ev tab rfl) rfl ?_
                    first | refine pu (ev tab rfl) rfl ?_ | refine pu (loadRow tab rfl rfl rfl rfl) rfl ?_ | refine pu (loadBox tab rfl rfl rfl rfl rfl) rfl ?_
                    refine pu (ev tab rfl) rfl ?_
                    refine pu (puCall rfl rfl rfl (columns_fn ..) rfl) rfl ?_
                    refine pu (ev tab rfl) rfl ?_
                    refine WO.nil ?_
                    refine qs ?_
                    refine W.ret ?_
                    refine QF.ret0 trivial rfl ?_
                    simp only [norm, oneA, List.length_map] at *; grind [stepErr]
end Go.Proofs.YtmhjgeneogknpaaGreat
namespace Go.Proofs.YtmhjgeneogknpaaGreat
open Go.Ab Go.Tb
set_option maxRecDepth 10000
attribute [local irreducible] W WO Pu QS QB QL QF QV QV1 CH QE
theorem query_fn (q : Qry) (hs : ∀ s ∈ q.steps, s.sorts.length ≤ 100000) : Does Tryz.prog 38 [.ag q.c] (.d (.v (.int .i64 (queryErr q)))) 0 := by
  refine Does.of_W (n := 29) (ts := [2]) Tryz.func38 (by kernel_rfl) rfl Tryz.ntmps38 Tryz.results38 rfl rfl fun C hC => ?_
  refine W.seq ?_
  refine W.region ?_
  refine boxR rfl rfl rfl ?_
  refine pu (ev tab rfl) rfl ?_
  refine WO.nil ?_
  refine qs ?_
  refine W.seq ?_
  refine W.block ?_
  refine W.seq ?_
  refine W.region ?_
  refine pu (ev tab rfl) rfl ?_
  first | refine pu (ev tab rfl) rfl ?_ | refine pu (loadRow tab rfl rfl rfl rfl) rfl ?_ | refine pu (loadBox tab rfl rfl rfl rfl rfl) rfl ?_
  refine pu (puCall rfl rfl rfl (identifier_fn ..) rfl) rfl ?_
  iterate 2 refine pu (ev tab rfl) rfl ?_
  refine WO.nil ?_
  refine qs ?_
  refine condK rfl (fun h6 => ?_) (fun h6 => ?_)
  · skip
    refine W.seq ?_
    refine W.region ?_
    refine pu (ev tab rfl) rfl ?_
    refine WO.nil ?_
    refine qs ?_
    refine W.ret ?_
    refine qbRet ?_
    refine qsRet ?_
    refine QF.ret0 trivial rfl ?_
    simp only [norm, oneA] at *; grind [queryErr]
  · skip
    refine W.seq ?_
    refine W.region ?_
    refine pu (ev tab rfl) rfl ?_
    first | refine pu (ev tab rfl) rfl ?_ | refine pu (loadRow tab rfl rfl rfl rfl) rfl ?_ | refine pu (loadBox tab rfl rfl rfl rfl rfl) rfl ?_
    iterate 3 refine pu (ev tab rfl) rfl ?_
    refine WO.nil ?_
    refine qs ?_
    refine condK rfl (fun h11 => ?_) (fun h11 => ?_)
    · skip
      refine W.seq ?_
      refine W.region ?_
      refine pu (ev tab rfl) rfl ?_
      refine WO.nil ?_
      refine qs ?_
      refine W.ret ?_
      refine qbRet ?_
      refine qsRet ?_
      refine QF.ret0 trivial rfl ?_
      simp only [norm, oneA, List.length_map] at *; grind [queryErr]
    · skip
      have hq : queryErr q = stepsErr q.steps := by simp only [List.length_map] at *; grind [queryErr]
      refine W.skip ?_
      refine qbN ?_
      refine qs ?_
      refine W.seq ?_
      refine W.seq ?_
      refine W.region ?_
      refine pu (ev tab rfl) rfl ?_
      first | refine pu (ev tab rfl) rfl ?_ | refine pu (loadRow tab rfl rfl rfl rfl) rfl ?_ | refine pu (loadBox tab rfl rfl rfl rfl rfl) rfl ?_
      iterate 2 refine pu (ev tab rfl) rfl ?_
      refine WO.nil ?_
      refine qs ?_
      refine W.block ?_
      refine W.len (t := 17) rfl rfl (fun hlen => ?_)
      try simp only [List.length_map, Ex.kc_len] at hlen
      refine W.loopR (ι := {x : Nat // match x with | k => k ≤ q.steps.length ∧ stepsErr (q.steps.drop k) = stepsErr q.steps})
        (fun x => match x.1 with | k => [(19, .d (.v (.int .i64 ((k : Nat) : Int))))]) [(17, _), (18, _)]
        (fun x => match x.1 with | k => []) [] [] 0 (fun x => match x.1 with | k => q.steps.length - k)
        [] ⟨0, ?_⟩ rfl ?_ ⟨rfl, rfl, rfl, rfl, trivial⟩ ?_ trivial rfl ?_
      · first | exact ⟨Nat.zero_le _, rfl⟩ | exact trivial | simp
      · repeat' first | exact trivial | refine ⟨rfl, ?_⟩ | refine ⟨step_nat (by assumption) (by assumption), ?_⟩
      · repeat' first | exact trivial | refine ⟨rfl, ?_⟩ | refine ⟨step_nat (by assumption) (by assumption), ?_⟩
      rintro ⟨k, hk, hI⟩
      show W _ _ _ _ _ ⟨[(19, .d (.v (.int .i64 ((k : Nat) : Int)))), (17, _), (18, _)], [], [], 0⟩
      refine W.seq ?_
      refine W.region ?_
      refine pu (ev tab rfl) rfl ?_
      refine WO.nil ?_
      refine qs ?_
      refine W.seq ?_
      refine eachR (l := q.steps) (k := k) rfl (by simp [Ex.kc_len, bytes_len]) hk (fun x hx hd hlt => ?_) (fun he hd => ?_)
      · skip
        rw [hd] at hI
        simp only [stepsErr] at hI
        refine W.skip ?_
        refine qs ?_
        refine W.seq ?_
        refine W.block ?_
        refine W.seq ?_
        refine W.region ?_
        refine pu (indexAddr tab rfl rfl rfl rfl rfl rfl (Int.natCast_nonneg _) (idx_map hx) rfl) rfl ?_
        first | refine pu (ev tab rfl) rfl ?_ | refine pu (loadRow tab rfl rfl rfl rfl) rfl ?_ | refine pu (loadBox tab rfl rfl rfl rfl rfl) rfl ?_
        refine allocR tab rfl rfl rfl ?_
        refine storeR tab rfl rfl rfl rfl rfl rfl rfl rfl ?_
        refine WO.nil ?_
        refine qs ?_
        refine W.seq ?_
        refine W.region ?_
        first | refine pu (ev tab rfl) rfl ?_ | refine pu (loadRow tab rfl rfl rfl rfl) rfl ?_ | refine pu (loadBox tab rfl rfl rfl rfl rfl) rfl ?_
        refine pu (puCall rfl rfl rfl (step_fn x (hs x (List.mem_of_getElem? hx))) rfl) rfl ?_
        refine pu (ev tab rfl) rfl ?_
        refine WO.nil ?_
        refine qs ?_
        refine W.seq ?_
        refine W.region ?_
        iterate 2 refine pu (ev tab rfl) rfl ?_
        refine WO.nil ?_
        refine qs ?_
        refine condK rfl (fun h26 => ?_) (fun h26 => ?_)
        · skip
          rw [if_pos (by simpa using h26)] at hI
          refine W.seq ?_
          refine W.region ?_
          iterate 2 refine pu (ev tab rfl) rfl ?_
          refine WO.nil ?_
          refine qs ?_
          refine W.ret ?_
          refine qbRet ?_
          refine qsRet ?_
          refine qlRet ?_
          refine qbRet ?_
          refine qsRet ?_
          refine QF.ret0 trivial rfl ?_
          rw [hq, ← hI]; rfl
        · skip
          rw [if_neg (by simpa using h26)] at hI
          refine W.skip ?_
          refine qbN ?_
          refine qs ?_
          refine W.region ?_
          iterate 2 refine pu (ev tab rfl) rfl ?_
          refine WO.nil ?_
          refine W.endR [] ⟨k + 1, ?_⟩ ?_ rfl ?_ ⟨rfl, rfl, rfl, rfl, trivial⟩ ?_ trivial rfl
          · exact ⟨hlt, hI⟩
          · dsimp only; omega
          · repeat' first | exact trivial | refine ⟨rfl, ?_⟩ | refine ⟨step_nat (by assumption) (by assumption), ?_⟩
          · repeat' first | exact trivial | refine ⟨rfl, ?_⟩ | refine ⟨step_nat (by assumption) (by assumption), ?_⟩
      · skip
        rw [hd] at hI
        simp only [stepsErr] at hI
        refine W.exit ?_
        refine qsExit ?_
        refine qlExit ?_
        refine qbExit ?_
        refine qs ?_
        refine W.seq ?_
        refine W.region ?_
        refine pu (ev tab rfl) rfl ?_
        refine WO.nil ?_
        refine qs ?_
        refine W.ret ?_
        refine QF.ret0 trivial rfl ?_
        rw [hq, ← hI]; rfl

def tcells : Option Tbl → List D
  | some t => t.c
  | none => [.v (.slice none 0 0), .v (.slice none 0 0)]
theorem tcells2 (o : Option Tbl) : ∃ p q, tcells o = [p, q] := by cases o <;> exact ⟨_, _, rfl⟩
theorem find_fn (d : List Nmd) (name : ByteArray) : Does Tryz.prog 39 [.d (.sl (d.map Nmd.c)), .d (.v (.string name))] (.tup [.ag (tcells (findT d name)), .d (.v (.bool (findT d name).isSome))]) 0 := by
  refine Does.of_V tab (n := 22) (rs := [.cell 4 62, .tmp 5]) Tryz.func39 (by kernel_rfl) rfl Tryz.ntmps39 Tryz.results39 rfl fun C hC => ?_
  refine W.seq ?_
  refine W.region ?_
  refine allocR tab rfl rfl rfl ?_
  refine pu (ev tab rfl) rfl ?_
  refine WO.nil ?_
  refine qs ?_
  refine W.seq ?_
  refine W.seq ?_
  refine W.region ?_
  iterate 3 refine pu (ev tab rfl) rfl ?_
  refine WO.nil ?_
  refine qs ?_
  refine W.block ?_
  refine W.len (t := 8) rfl rfl (fun hlen => ?_)
  try simp only [List.length_map, Ex.kc_len] at hlen
  refine W.loopR (ι := {x : Nat // match x with | k => k ≤ d.length ∧ findT (d.drop k) name = findT d name})
    (fun x => match x.1 with | k => [(4, .ptr 0 0), (10, .d (.v (.int .i64 ((k : Nat) : Int))))]) [(1, _), (8, _), (9, _)]
    (fun x => match x.1 with | k => []) [(0, _)] [] 1 (fun x => match x.1 with | k => d.length - k)
    [0] ⟨0, ?_⟩ rfl ?_ ⟨rfl, rfl, rfl, rfl, rfl, rfl, trivial⟩ ?_ ⟨rfl, rfl, trivial⟩ rfl ?_
  · first | exact ⟨Nat.zero_le _, rfl⟩ | exact trivial | simp
  · repeat' first | exact trivial | refine ⟨rfl, ?_⟩ | refine ⟨step_nat (by assumption) (by assumption), ?_⟩
  · repeat' first | exact trivial | refine ⟨rfl, ?_⟩ | refine ⟨step_nat (by assumption) (by assumption), ?_⟩
  rintro ⟨k, hk, hI⟩
  show W _ _ _ _ _ ⟨[(4, .ptr 0 0), (10, .d (.v (.int .i64 ((k : Nat) : Int)))), (1, _), (8, _), (9, _)], [(0, _)], [], 1⟩
  refine W.seq ?_
  refine W.region ?_
  refine pu (ev tab rfl) rfl ?_
  refine WO.nil ?_
  refine qs ?_
  refine W.seq ?_
  refine eachR (l := d) (k := k) rfl (by simp [Ex.kc_len, bytes_len]) hk (fun x hx hd hlt => ?_) (fun he hd => ?_)
  · skip
    rw [hd] at hI
    simp only [findT, List.find?_cons] at hI
    refine W.skip ?_
    refine qs ?_
    refine W.seq ?_
    refine W.block ?_
    refine W.seq ?_
    refine W.region ?_
    refine pu (indexAddr tab rfl rfl rfl rfl rfl rfl (Int.natCast_nonneg _) (idx_map hx) rfl) rfl ?_
    first | refine pu (ev tab rfl) rfl ?_ | refine pu (loadRow tab rfl rfl rfl rfl) rfl ?_ | refine pu (loadBox tab rfl rfl rfl rfl rfl) rfl ?_
    refine allocR tab rfl rfl rfl ?_
    refine storeR tab rfl rfl rfl rfl rfl rfl rfl rfl ?_
    refine WO.nil ?_
    refine qs ?_
    refine W.seq ?_
    refine W.region ?_
    refine pu (ev tab rfl) rfl ?_
    first | refine pu (ev tab rfl) rfl ?_ | refine pu (loadRow tab rfl rfl rfl rfl) rfl ?_ | refine pu (loadBox tab rfl rfl rfl rfl rfl) rfl ?_
    iterate 2 refine pu (ev tab rfl) rfl ?_
    refine WO.nil ?_
    refine qs ?_
    refine condK rfl (fun h17 => ?_) (fun h17 => ?_)
    · skip
      rw [h17] at hI
      refine W.seq ?_
      refine W.region ?_
      refine pu (ev tab rfl) rfl ?_
      first | refine pu (ev tab rfl) rfl ?_ | refine pu (loadRow tab rfl rfl rfl rfl) rfl ?_ | refine pu (loadBox tab rfl rfl rfl rfl rfl) rfl ?_
      refine storeR tab rfl rfl rfl rfl rfl rfl rfl rfl ?_
      refine pu (ev tab rfl) rfl ?_
      refine WO.nil ?_
      refine qs ?_
      refine W.ret ?_
      refine qbRet ?_
      refine qsRet ?_
      refine qlRet ?_
      refine qbRet ?_
      refine qsRet ?_
      refine QV.ret0 tab trivial rfl ?_
      have h0 : findT d name = some x.table := hI.symm
      rw [h0]; rfl
    · skip
      rw [h17] at hI
      refine W.skip ?_
      refine qbN ?_
      refine qs ?_
      refine W.region ?_
      iterate 2 refine pu (ev tab rfl) rfl ?_
      refine WO.nil ?_
      refine W.endR [0] ⟨k + 1, ?_⟩ ?_ rfl ?_ ⟨rfl, rfl, rfl, rfl, rfl, rfl, trivial⟩ ?_ ⟨rfl, rfl, trivial⟩ rfl
      · exact ⟨hlt, hI⟩
      · dsimp only; omega
      · repeat' first | exact trivial | refine ⟨rfl, ?_⟩ | refine ⟨step_nat (by assumption) (by assumption), ?_⟩
      · repeat' first | exact trivial | refine ⟨rfl, ?_⟩ | refine ⟨step_nat (by assumption) (by assumption), ?_⟩
  · skip
    rw [hd] at hI
    refine W.exit ?_
    refine qsExit ?_
    refine qlExit ?_
    refine qbExit ?_
    refine qs ?_
    refine W.seq ?_
    refine W.region ?_
    refine pu (build tab rfl rfl rfl rfl) rfl ?_
    refine storeR tab rfl rfl rfl rfl rfl rfl rfl rfl ?_
    refine pu (ev tab rfl) rfl ?_
    refine WO.nil ?_
    refine qs ?_
    refine W.ret ?_
    refine QV.ret0 tab trivial rfl ?_
    have h0 : findT d name = none := hI.symm
    rw [h0]; rfl

theorem any_findIdx {α : Type} {p : α → Bool} {l : List α} : decide (0 ≤ idx (l.findIdx? p)) = l.any p := idx_nonneg

theorem tcolz_fn (cols : List Col) (z : D) (name : ByteArray) : Does Tryz.prog 95 [.ag [.sl (cols.map Col.c), z], .d (.v (.string name))] (.d (.v (.int .i64 (idx (cols.findIdx? fun x => decide (x.name = name)))))) 0 := by
  refine Does.of_W (n := 9) (ts := [4]) Tryz.func95 (by kernel_rfl) rfl Tryz.ntmps95 Tryz.results95 rfl rfl fun C hC => ?_
  refine W.seq ?_
  refine W.region ?_
  refine boxR rfl rfl rfl ?_
  refine boxR rfl rfl rfl ?_
  refine pu (ev tab rfl) rfl ?_
  refine WO.nil ?_
  refine qs ?_
  refine W.seq ?_
  refine W.region ?_
  refine pu (ev tab rfl) rfl ?_
  first | refine pu (ev tab rfl) rfl ?_ | refine pu (loadRow tab rfl rfl rfl rfl) rfl ?_ | refine pu (loadBox tab rfl rfl rfl rfl rfl) rfl ?_
  refine pu (ev tab rfl) rfl ?_
  refine pu (puCall rfl rfl rfl (idxCol_fn _ _ ⟨fun _ _ => rfl, rfl⟩ _ (tcolEq_fn name) cols) rfl) rfl ?_
  refine pu (ev tab rfl) rfl ?_
  refine WO.nil ?_
  refine qs ?_
  refine W.ret ?_
  refine QF.ret0 trivial rfl ?_
  rfl
theorem check_fn (t : Tbl) : Does Tryz.prog 75 [.ag t.c] (.d (.v (.int .i64 (tblErr t)))) 0 := by
  refine Does.of_W (n := 91) (ts := [2]) Tryz.func75 (by kernel_rfl) rfl Tryz.ntmps75 Tryz.results75 rfl rfl fun C hC => ?_
  refine W.seq ?_
  refine W.region ?_
  refine boxR rfl rfl rfl ?_
  refine pu (ev tab rfl) rfl ?_
  refine WO.nil ?_
  refine qs ?_
  refine W.seq ?_
  refine W.seq ?_
  apply regionB; (case hb => rfl)
  · skip
    refine pu (ev tab rfl) rfl ?_
    first | refine pu (ev tab rfl) rfl ?_ | refine pu (loadRow tab rfl rfl rfl rfl) rfl ?_ | refine pu (loadBox tab rfl rfl rfl rfl rfl) rfl ?_
    iterate 3 refine pu (ev tab rfl) rfl ?_
    apply splitJ; (case hj => rfl); (case hl => rfl)
    · skip
      refine skipT rfl rfl rfl rfl ?_
      refine skipT rfl rfl rfl rfl ?_
      refine skipT rfl rfl rfl rfl ?_
      refine skipT rfl rfl rfl rfl ?_
      refine pu (ev tab rfl) rfl ?_
      refine WO.nil ?_
      refine qv1 rfl rfl rfl
    · skip
      refine goG rfl rfl ?_
      refine pu (ev tab rfl) rfl ?_
      refine goG rfl rfl ?_
      first | refine pu (ev tab rfl) rfl ?_ | refine pu (loadRow tab rfl rfl rfl rfl) rfl ?_ | refine pu (loadBox tab rfl rfl rfl rfl rfl) rfl ?_
      refine goG rfl rfl ?_
      refine pu (ev tab rfl) rfl ?_
      refine goG rfl rfl ?_
      iterate 2 refine pu (ev tab rfl) rfl ?_
      refine WO.nil ?_
      refine qv1 rfl rfl rfl
  refine qs ?_
  refine condK rfl (fun h20 => ?_) (fun h20 => ?_)
  · skip
    refine W.seq ?_
    refine W.region ?_
    refine pu (ev tab rfl) rfl ?_
    refine WO.nil ?_
    refine qs ?_
    refine W.ret ?_
    refine qsRet ?_
    refine QF.ret0 trivial rfl ?_
    simp only [norm, oneA, List.length_map] at *; grind [tblErr]
  · skip
    have h20 : ¬ (32 < t.cols.length ∨ 20000 < t.rows.length) := by simp only [List.length_map] at h20; intro h; revert h20; grind
    have hq : tblErr t = if colsErr t.cols 0 t.cols ≠ 0 then colsErr t.cols 0 t.cols else rowsErr t.cols t.rows := by unfold tblErr; rw [if_neg h20]
    refine W.skip ?_
    refine qs ?_
    refine W.seq ?_
    refine W.seq ?_
    refine W.region ?_
    refine pu (ev tab rfl) rfl ?_
    first | refine pu (ev tab rfl) rfl ?_ | refine pu (loadRow tab rfl rfl rfl rfl) rfl ?_ | refine pu (loadBox tab rfl rfl rfl rfl rfl) rfl ?_
    iterate 2 refine pu (ev tab rfl) rfl ?_
    refine WO.nil ?_
    refine qs ?_
    refine W.block ?_
    refine W.len (t := 22) rfl rfl (fun hlen => ?_)
    try simp only [List.length_map, Ex.kc_len] at hlen
    refine W.loopR (ι := {x : Nat // match x with | k => k ≤ t.cols.length ∧ colsErr t.cols k (t.cols.drop k) = colsErr t.cols 0 t.cols})
      (fun x => match x.1 with | k => [(1, .ptr 0 0), (24, .d (.v (.int .i64 ((k : Nat) : Int))))]) [(22, _), (23, _)]
      (fun x => match x.1 with | k => []) [(0, _)] [] 1 (fun x => match x.1 with | k => t.cols.length - k)
      [0] ⟨0, ?_⟩ rfl ?_ ⟨rfl, rfl, rfl, rfl, trivial⟩ ?_ ⟨rfl, rfl, trivial⟩ rfl ?_
    · first | exact ⟨Nat.zero_le _, rfl⟩ | exact trivial | simp
    · repeat' first | exact trivial | refine ⟨rfl, ?_⟩ | refine ⟨step_nat (by assumption) (by assumption), ?_⟩
    · repeat' first | exact trivial | refine ⟨rfl, ?_⟩ | refine ⟨step_nat (by assumption) (by assumption), ?_⟩
    rintro ⟨k, hk, hI⟩
    show W _ _ _ _ _ ⟨[(1, .ptr 0 0), (24, .d (.v (.int .i64 ((k : Nat) : Int)))), (22, _), (23, _)], [(0, _)], [], 1⟩
    refine W.seq ?_
    refine W.region ?_
    refine pu (ev tab rfl) rfl ?_
    refine WO.nil ?_
    refine qs ?_
    refine W.seq ?_
    refine eachR (l := t.cols) (k := k) rfl (by simp [Ex.kc_len, bytes_len]) hk (fun x hx hd hlt => ?_) (fun he hd => ?_)
    · skip
      rw [hd] at hI
      simp only [colsErr] at hI
      refine W.skip ?_
      refine qs ?_
      refine W.seq ?_
      refine W.block ?_
      refine W.seq ?_
      refine W.region ?_
      refine pu (ev tab rfl) rfl ?_
      refine pu (indexAddr tab rfl rfl rfl rfl rfl rfl (Int.natCast_nonneg _) (idx_map hx) rfl) rfl ?_
      first | refine pu (ev tab rfl) rfl ?_ | refine pu (loadRow tab rfl rfl rfl rfl) rfl ?_ | refine pu (loadBox tab rfl rfl rfl rfl rfl) rfl ?_
      refine allocR tab rfl rfl rfl ?_
      refine pu (ev tab rfl) rfl ?_
      refine storeR tab rfl rfl rfl rfl rfl rfl rfl rfl ?_
      refine WO.nil ?_
      refine qs ?_
      refine W.seq ?_
      refine W.seq ?_
      refine W.region ?_
      refine pu (ev tab rfl) rfl ?_
      first | refine pu (ev tab rfl) rfl ?_ | refine pu (loadRow tab rfl rfl rfl rfl) rfl ?_ | refine pu (loadBox tab rfl rfl rfl rfl rfl) rfl ?_
      refine pu (puCall rfl rfl rfl (name_fn ..) rfl) rfl ?_
      refine pu (ev tab rfl) rfl ?_
      refine WO.nil ?_
      refine qs ?_
      refine W.seq ?_
      refine W.region ?_
      iterate 2 refine pu (ev tab rfl) rfl ?_
      refine WO.nil ?_
      refine qs ?_
      refine condK rfl (fun h33 => ?_) (fun h33 => ?_)
      · skip
        have h33 : nameErr x.name ≠ 0 := by simpa using h33
        have hB : colBad t.cols k x = nameErr x.name := by unfold colBad; rw [if_pos h33]
        simp only [hB] at hI
        rw [if_pos h33] at hI
        refine W.seq ?_
        refine W.region ?_
        iterate 2 refine pu (ev tab rfl) rfl ?_
        refine WO.nil ?_
        refine qs ?_
        refine W.ret ?_
        refine qsRet ?_
        refine qbRet ?_
        refine qsRet ?_
        refine qlRet ?_
        refine qbRet ?_
        refine qsRet ?_
        refine QF.ret0 trivial rfl ?_
        simp only [norm, oneA, List.length_map] at *; grind [tblErr]
      · skip
        have h33 : ¬ (nameErr x.name ≠ 0) := by simpa using h33
        refine W.skip ?_
        refine qs ?_
        refine W.seq ?_
        refine W.seq ?_
        refine W.regionD tab (by kernel_rfl) ?_
        refine chPu (ev tab rfl) rfl ?_
        first | refine chPu (ev tab rfl) rfl ?_ | refine chPu (loadRow tab rfl rfl rfl rfl) rfl ?_ | refine chPu (loadBox tab rfl rfl rfl rfl rfl) rfl ?_
        refine chPu (ev tab rfl) rfl ?_
        refine chPu (slToM (fn := Col.c) tab rfl rfl rfl rfl rfl rfl (fun _ => rfl) (by omega)) rfl ?_
        refine chPu (build tab rfl rfl rfl rfl) rfl ?_
        refine chPu (ev tab rfl) rfl ?_
        first | refine chPu (ev tab rfl) rfl ?_ | refine chPu (loadRow tab rfl rfl rfl rfl) rfl ?_ | refine chPu (loadBox tab rfl rfl rfl rfl rfl) rfl ?_
        refine chPu (puCall rfl rfl rfl (tcolz_fn (t.cols.take k) _ x.name) rfl) rfl ?_
        refine chPu (ev tab rfl) rfl ?_
        refine CH.nil ?_
        refine qs ?_
        refine condK rfl (fun h43 => ?_) (fun h43 => ?_)
        · skip
          have h43 : ((t.cols.take k).any fun y => decide (y.name = x.name)) = true := idx_nonneg.symm.trans h43
          have hB : colBad t.cols k x = 4 := by unfold colBad; rw [if_neg h33, if_pos h43]
          simp only [hB] at hI
          rw [if_pos (by decide)] at hI
          refine W.seq ?_
          refine W.region ?_
          refine pu (ev tab rfl) rfl ?_
          refine WO.nil ?_
          refine qs ?_
          refine W.ret ?_
          refine qsRet ?_
          refine qbRet ?_
          refine qsRet ?_
          refine qlRet ?_
          refine qbRet ?_
          refine qsRet ?_
          refine QF.ret0 trivial rfl ?_
          simp only [norm, oneA, List.length_map] at *; grind [tblErr]
        · skip
          have h43 : ¬ (((t.cols.take k).any fun y => decide (y.name = x.name)) = true) := by rw [(idx_nonneg.symm.trans h43 : ((t.cols.take k).any fun y => decide (y.name = x.name)) = false)]; decide
          refine W.skip ?_
          refine qs ?_
          refine W.seq ?_
          apply regionB; (case hb => rfl)
          · skip
            refine pu (ev tab rfl) rfl ?_
            first | refine pu (ev tab rfl) rfl ?_ | refine pu (loadRow tab rfl rfl rfl rfl) rfl ?_ | refine pu (loadBox tab rfl rfl rfl rfl rfl) rfl ?_
            iterate 2 refine pu (ev tab rfl) rfl ?_
            apply splitJ; (case hj => rfl); (case hl => rfl)
            · skip
              refine goG rfl rfl ?_
              refine pu (ev tab rfl) rfl ?_
              refine goG rfl rfl ?_
              first | refine pu (ev tab rfl) rfl ?_ | refine pu (loadRow tab rfl rfl rfl rfl) rfl ?_ | refine pu (loadBox tab rfl rfl rfl rfl rfl) rfl ?_
              refine goG rfl rfl ?_
              iterate 3 refine pu (ev tab rfl) rfl ?_
              apply splitJ; (case hj => rfl); (case hl => rfl)
              · skip
                refine goG rfl rfl ?_
                refine pu (ev tab rfl) rfl ?_
                refine goG rfl rfl ?_
                first | refine pu (ev tab rfl) rfl ?_ | refine pu (loadRow tab rfl rfl rfl rfl) rfl ?_ | refine pu (loadBox tab rfl rfl rfl rfl rfl) rfl ?_
                refine goG rfl rfl ?_
                iterate 2 refine pu (ev tab rfl) rfl ?_
                refine WO.nil ?_
                refine qv1 rfl rfl rfl
              · skip
                refine skipT rfl rfl rfl rfl ?_
                refine skipT rfl rfl rfl rfl ?_
                refine skipT rfl rfl rfl rfl ?_
                refine pu (ev tab rfl) rfl ?_
                refine WO.nil ?_
                refine qv1 rfl rfl rfl
            · skip
              refine skipT rfl rfl rfl rfl ?_
              refine skipT rfl rfl rfl rfl ?_
              refine skipT rfl rfl rfl rfl ?_
              iterate 2 refine pu (ev tab rfl) rfl ?_
              refine skipT rfl rfl rfl rfl ?_
              refine skipT rfl rfl rfl rfl ?_
              refine skipT rfl rfl rfl rfl ?_
              refine pu (ev tab rfl) rfl ?_
              refine WO.nil ?_
              refine qv1 rfl rfl rfl
          refine qs ?_
          refine condK rfl (fun h56 => ?_) (fun h56 => ?_)
          · skip
            have h56 : x.type ≠ 1 ∧ x.type ≠ 2 ∧ x.type ≠ 3 := by revert h56; grind
            have hB : colBad t.cols k x = 14 := by unfold colBad; rw [if_neg h33, if_neg h43, if_pos h56]
            simp only [hB] at hI
            rw [if_pos (by decide)] at hI
            refine W.seq ?_
            refine W.region ?_
            refine pu (ev tab rfl) rfl ?_
            refine WO.nil ?_
            refine qs ?_
            refine W.ret ?_
            refine qbRet ?_
            refine qsRet ?_
            refine qlRet ?_
            refine qbRet ?_
            refine qsRet ?_
            refine QF.ret0 trivial rfl ?_
            simp only [norm, oneA, List.length_map] at *; grind [tblErr]
          · skip
            have h56 : ¬ (x.type ≠ 1 ∧ x.type ≠ 2 ∧ x.type ≠ 3) := by revert h56; grind
            have hB : colBad t.cols k x = 0 := by unfold colBad; rw [if_neg h33, if_neg h43, if_neg h56]
            simp only [hB] at hI
            rw [if_neg (by decide)] at hI
            refine W.skip ?_
            refine qbN ?_
            refine qs ?_
            refine W.region ?_
            iterate 2 refine pu (ev tab rfl) rfl ?_
            refine WO.nil ?_
            refine W.endR [0] ⟨k + 1, ?_⟩ ?_ rfl ?_ ⟨rfl, rfl, rfl, rfl, trivial⟩ ?_ ⟨rfl, rfl, trivial⟩ rfl
            · exact ⟨hlt, by simpa using hI⟩
            · dsimp only; omega
            · repeat' first | exact trivial | refine ⟨rfl, ?_⟩ | refine ⟨step_nat (by assumption) (by assumption), ?_⟩
            · repeat' first | exact trivial | refine ⟨rfl, ?_⟩ | refine ⟨step_nat (by assumption) (by assumption), ?_⟩
    · skip
      rw [hd] at hI
      simp only [colsErr] at hI
      rw [← hI] at hq
      simp only [ne_eq, not_true_eq_false, if_false] at hq
      refine W.exit ?_
      refine qsExit ?_
      refine qlExit ?_
      refine qbExit ?_
      refine qs ?_
      refine W.seq ?_
      refine W.seq ?_
      refine W.region ?_
      refine pu (ev tab rfl) rfl ?_
      first | refine pu (ev tab rfl) rfl ?_ | refine pu (loadRow tab rfl rfl rfl rfl) rfl ?_ | refine pu (loadBox tab rfl rfl rfl rfl rfl) rfl ?_
      iterate 2 refine pu (ev tab rfl) rfl ?_
      refine WO.nil ?_
      refine qs ?_
      refine W.block ?_
      refine W.len (t := 59) rfl rfl (fun hlen => ?_)
      try simp only [List.length_map, Ex.kc_len] at hlen
      refine W.loopR (ι := {x : Nat // match x with | k => k ≤ t.rows.length ∧ rowsErr t.cols (t.rows.drop k) = rowsErr t.cols t.rows})
        (fun x => match x.1 with | k => [(1, .ptr 0 0), (61, .d (.v (.int .i64 ((k : Nat) : Int))))]) [(59, _), (60, _)]
        (fun x => match x.1 with | k => []) [(0, _)] [] 1 (fun x => match x.1 with | k => t.rows.length - k)
        [0] ⟨0, ?_⟩ rfl ?_ ⟨rfl, rfl, rfl, rfl, trivial⟩ ?_ ⟨rfl, rfl, trivial⟩ rfl ?_
      · first | exact ⟨Nat.zero_le _, rfl⟩ | exact trivial | simp
      · repeat' first | exact trivial | refine ⟨rfl, ?_⟩ | refine ⟨step_nat (by assumption) (by assumption), ?_⟩
      · repeat' first | exact trivial | refine ⟨rfl, ?_⟩ | refine ⟨step_nat (by assumption) (by assumption), ?_⟩
      rintro ⟨k, hk, hK⟩
      show W _ _ _ _ _ ⟨[(1, .ptr 0 0), (61, .d (.v (.int .i64 ((k : Nat) : Int)))), (59, _), (60, _)], [(0, _)], [], 1⟩
      refine W.seq ?_
      refine W.region ?_
      refine pu (ev tab rfl) rfl ?_
      refine WO.nil ?_
      refine qs ?_
      refine W.seq ?_
      refine eachR (l := t.rows) (k := k) rfl (by simp [Ex.kc_len, bytes_len]) hk (fun r hx hd hlt => ?_) (fun he hd => ?_)
      · skip
        rw [hd] at hK
        simp only [rowsErr] at hK
        refine W.skip ?_
        refine qs ?_
        refine W.seq ?_
        refine W.block ?_
        refine W.seq ?_
        refine W.region ?_
        refine pu (indexAddr tab rfl rfl rfl rfl rfl rfl (Int.natCast_nonneg _) (idx_map hx) rfl) rfl ?_
        first | refine pu (ev tab rfl) rfl ?_ | refine pu (loadRow tab rfl rfl rfl rfl) rfl ?_ | refine pu (loadBox tab rfl rfl rfl rfl rfl) rfl ?_
        refine pu (ev tab rfl) rfl ?_
        refine WO.nil ?_
        refine qs ?_
        refine W.seq ?_
        refine W.seq ?_
        refine W.region ?_
        iterate 3 refine pu (ev tab rfl) rfl ?_
        first | refine pu (ev tab rfl) rfl ?_ | refine pu (loadRow tab rfl rfl rfl rfl) rfl ?_ | refine pu (loadBox tab rfl rfl rfl rfl rfl) rfl ?_
        iterate 2 refine pu (ev tab rfl) rfl ?_
        refine WO.nil ?_
        refine qs ?_
        refine condK rfl (fun h70 => ?_) (fun h70 => ?_)
        · skip
          have h70 : r.length ≠ t.cols.length := by simp at h70; omega
          rw [if_pos h70] at hK
          refine W.seq ?_
          refine W.region ?_
          refine pu (ev tab rfl) rfl ?_
          refine WO.nil ?_
          refine qs ?_
          refine W.ret ?_
          refine qsRet ?_
          refine qbRet ?_
          refine qsRet ?_
          refine qlRet ?_
          refine qbRet ?_
          refine qsRet ?_
          refine QF.ret0 trivial rfl ?_
          simp only [norm, oneA, List.length_map] at *; grind [tblErr]
        · skip
          have h70 : ¬ (r.length ≠ t.cols.length) := by simp at h70 ⊢; omega
          rw [if_neg h70] at hK
          refine W.skip ?_
          refine qs ?_
          refine W.seq ?_
          refine W.region ?_
          iterate 3 refine pu (ev tab rfl) rfl ?_
          refine WO.nil ?_
          refine qs ?_
          refine W.block ?_
          refine W.len (t := 71) rfl rfl (fun hlen => ?_)
          try simp only [List.length_map, Ex.kc_len] at hlen
          refine W.loopR (ι := {x : Nat // match x with | j => j ≤ r.length ∧ cellsErr (t.cols.drop j) (r.drop j) = cellsErr t.cols r})
            (fun x => match x.1 with | j => [(1, .ptr 0 0), (73, .d (.v (.int .i64 ((j : Nat) : Int))))]) [(59, _), (60, _), (61, _), (71, _), (72, _)]
            (fun x => match x.1 with | j => []) [(0, _)] [] 1 (fun x => match x.1 with | j => r.length - j)
            [0] ⟨0, ?_⟩ rfl ?_ ⟨rfl, rfl, rfl, rfl, rfl, rfl, rfl, rfl, rfl, rfl, trivial⟩ ?_ ⟨rfl, rfl, trivial⟩ rfl ?_
          · first | exact ⟨Nat.zero_le _, rfl⟩ | exact trivial | simp
          · repeat' first | exact trivial | refine ⟨rfl, ?_⟩ | refine ⟨step_nat (by assumption) (by assumption), ?_⟩
          · repeat' first | exact trivial | refine ⟨rfl, ?_⟩ | refine ⟨step_nat (by assumption) (by assumption), ?_⟩
          rintro ⟨j, hk, hJ⟩
          show W _ _ _ _ _ ⟨[(1, .ptr 0 0), (73, .d (.v (.int .i64 ((j : Nat) : Int)))), (59, _), (60, _), (61, _), (71, _), (72, _)], [(0, _)], [], 1⟩
          refine W.seq ?_
          refine W.region ?_
          refine pu (ev tab rfl) rfl ?_
          refine WO.nil ?_
          refine qs ?_
          refine W.seq ?_
          refine eachR (l := r) (k := j) rfl (by simp [Ex.kc_len, bytes_len]) hk (fun v hx hd hlt => ?_) (fun he hd => ?_)
          · skip
            obtain ⟨c, hc, hcd⟩ := exAt (l := t.cols) (k := j) (by omega)
            rw [hd, hcd] at hJ
            simp only [cellsErr] at hJ
            refine W.skip ?_
            refine qs ?_
            refine W.seq ?_
            refine W.block ?_
            refine W.seq ?_
            refine W.region ?_
            refine pu (ev tab rfl) rfl ?_
            refine pu (indexAddr tab rfl rfl rfl rfl rfl rfl (Int.natCast_nonneg _) (idx_map hx) rfl) rfl ?_
            first | refine pu (ev tab rfl) rfl ?_ | refine pu (loadRow tab rfl rfl rfl rfl) rfl ?_ | refine pu (loadBox tab rfl rfl rfl rfl rfl) rfl ?_
            refine allocR tab rfl rfl rfl ?_
            refine pu (ev tab rfl) rfl ?_
            refine storeR tab rfl rfl rfl rfl rfl rfl rfl rfl ?_
            refine WO.nil ?_
            refine qs ?_
            refine W.seq ?_
            refine W.regionD tab (by kernel_rfl) ?_
            refine chPu (ev tab rfl) rfl ?_
            first | refine chPu (ev tab rfl) rfl ?_ | refine chPu (loadRow tab rfl rfl rfl rfl) rfl ?_ | refine chPu (loadBox tab rfl rfl rfl rfl rfl) rfl ?_
            refine chPu (ev tab rfl) rfl ?_
            refine chPu (indexAddr tab rfl rfl rfl rfl rfl rfl (Int.natCast_nonneg _) (idx_map hc) rfl) rfl ?_
            refine chPu (ev tab rfl) rfl ?_
            first | refine chPu (ev tab rfl) rfl ?_ | refine chPu (loadRow tab rfl rfl rfl rfl) rfl ?_ | refine chPu (loadBox tab rfl rfl rfl rfl rfl) rfl ?_
            first | refine chPu (ev tab rfl) rfl ?_ | refine chPu (loadRow tab rfl rfl rfl rfl) rfl ?_ | refine chPu (loadBox tab rfl rfl rfl rfl rfl) rfl ?_
            refine chPu (puCall rfl rfl rfl (value_fn c.type v) rfl) rfl ?_
            refine chPu (ev tab rfl) rfl ?_
            refine CH.nil ?_
            refine qs ?_
            refine W.seq ?_
            refine W.region ?_
            iterate 2 refine pu (ev tab rfl) rfl ?_
            refine WO.nil ?_
            refine qs ?_
            refine condK rfl (fun h87 => ?_) (fun h87 => ?_)
            · skip
              have h87 : valErr c.type v ≠ 0 := by simpa using h87
              rw [if_pos h87] at hJ
              simp only [← hJ] at hK
              rw [if_pos h87] at hK
              refine W.seq ?_
              refine W.region ?_
              iterate 2 refine pu (ev tab rfl) rfl ?_
              refine WO.nil ?_
              refine qs ?_
              refine W.ret ?_
              refine qbRet ?_
              refine qsRet ?_
              refine qlRet ?_
              refine qbRet ?_
              refine qbRet ?_
              refine qsRet ?_
              refine qlRet ?_
              refine qbRet ?_
              refine qsRet ?_
              refine QF.ret0 trivial rfl ?_
              simp only [norm, oneA, List.length_map] at *; grind [tblErr]
            · skip
              rw [if_neg (by simpa using h87)] at hJ
              refine W.skip ?_
              refine qbN ?_
              refine qs ?_
              refine W.region ?_
              iterate 2 refine pu (ev tab rfl) rfl ?_
              refine WO.nil ?_
              refine W.endR [0] ⟨j + 1, ?_⟩ ?_ rfl ?_ ⟨rfl, rfl, rfl, rfl, rfl, rfl, rfl, rfl, rfl, rfl, trivial⟩ ?_ ⟨rfl, rfl, trivial⟩ rfl
              · exact ⟨hlt, hJ⟩
              · dsimp only; omega
              · repeat' first | exact trivial | refine ⟨rfl, ?_⟩ | refine ⟨step_nat (by assumption) (by assumption), ?_⟩
              · repeat' first | exact trivial | refine ⟨rfl, ?_⟩ | refine ⟨step_nat (by assumption) (by assumption), ?_⟩
          · skip
            have hj0 : cellsErr t.cols r = 0 := by rw [← hJ, hd]; cases t.cols.drop j <;> rfl
            simp only [hj0] at hK
            rw [if_neg (by decide)] at hK
            refine W.exit ?_
            refine qsExit ?_
            refine qlExit ?_
            refine qbExit ?_
            refine qbN ?_
            refine qs ?_
            refine W.region ?_
            iterate 2 refine pu (ev tab rfl) rfl ?_
            refine WO.nil ?_
            refine W.endR [0] ⟨k + 1, ?_⟩ ?_ rfl ?_ ⟨rfl, rfl, rfl, rfl, trivial⟩ ?_ ⟨rfl, rfl, trivial⟩ rfl
            · exact ⟨hlt, hK⟩
            · dsimp only; omega
            · repeat' first | exact trivial | refine ⟨rfl, ?_⟩ | refine ⟨step_nat (by assumption) (by assumption), ?_⟩
            · repeat' first | exact trivial | refine ⟨rfl, ?_⟩ | refine ⟨step_nat (by assumption) (by assumption), ?_⟩
      · skip
        rw [hd] at hK
        simp only [rowsErr] at hK
        rw [← hK] at hq
        refine W.exit ?_
        refine qsExit ?_
        refine qlExit ?_
        refine qbExit ?_
        refine qs ?_
        refine W.seq ?_
        refine W.region ?_
        refine pu (ev tab rfl) rfl ?_
        refine WO.nil ?_
        refine qs ?_
        refine W.ret ?_
        refine QF.ret0 trivial rfl ?_
        simp only [norm, oneA, List.length_map] at *; grind [tblErr]

theorem findT_any (d : List Nmd) (name : ByteArray) : (findT d name).isSome = d.any fun y => decide (y.name = name) := by
  unfold findT
  rw [Option.isSome_map]
  induction d with
  | nil => rfl
  | cons x r ih => simp only [List.find?_cons, List.any_cons]; split <;> simp_all

theorem checkAll_fn (d : List Nmd) : Does Tryz.prog 37 [.d (.sl (d.map Nmd.c))] (.d (.v (.int .i64 (dataErr d)))) 0 := by
  refine Does.of_W (n := 42) (ts := [2]) Tryz.func37 (by kernel_rfl) rfl Tryz.ntmps37 Tryz.results37 rfl rfl fun C hC => ?_
  refine W.seq ?_
  refine W.region ?_
  refine pu (ev tab rfl) rfl ?_
  refine WO.nil ?_
  refine qs ?_
  refine W.seq ?_
  refine W.seq ?_
  refine W.region ?_
  iterate 3 refine pu (ev tab rfl) rfl ?_
  refine WO.nil ?_
  refine qs ?_
  refine condK rfl (fun h11 => ?_) (fun h11 => ?_)
  · skip
    refine W.seq ?_
    refine W.region ?_
    refine pu (ev tab rfl) rfl ?_
    refine WO.nil ?_
    refine qs ?_
    refine W.ret ?_
    refine qsRet ?_
    refine QF.ret0 trivial rfl ?_
    simp only [norm, oneA, List.length_map] at *; grind [dataErr]
  · skip
    have h11 : ¬ (32 < d.length) := by simp at h11; omega
    have hq : dataErr d = nmdsErr d 0 d := by unfold dataErr; rw [if_neg h11]
    refine W.skip ?_
    refine qs ?_
    refine W.seq ?_
    refine W.seq ?_
    refine W.region ?_
    iterate 3 refine pu (ev tab rfl) rfl ?_
    refine WO.nil ?_
    refine qs ?_
    refine W.block ?_
    refine W.len (t := 12) rfl rfl (fun hlen => ?_)
    try simp only [List.length_map, Ex.kc_len] at hlen
    refine W.loopR (ι := {x : Nat // match x with | k => k ≤ d.length ∧ nmdsErr d k (d.drop k) = nmdsErr d 0 d})
      (fun x => match x.1 with | k => [(14, .d (.v (.int .i64 ((k : Nat) : Int))))]) [(0, _), (12, _), (13, _)]
      (fun x => match x.1 with | k => []) [] [] 0 (fun x => match x.1 with | k => d.length - k)
      [] ⟨0, ?_⟩ rfl ?_ ⟨rfl, rfl, rfl, rfl, rfl, rfl, trivial⟩ ?_ trivial rfl ?_
    · first | exact ⟨Nat.zero_le _, rfl⟩ | exact trivial | simp
    · repeat' first | exact trivial | refine ⟨rfl, ?_⟩ | refine ⟨step_nat (by assumption) (by assumption), ?_⟩
    · repeat' first | exact trivial | refine ⟨rfl, ?_⟩ | refine ⟨step_nat (by assumption) (by assumption), ?_⟩
    rintro ⟨k, hk, hI⟩
    show W _ _ _ _ _ ⟨[(14, .d (.v (.int .i64 ((k : Nat) : Int)))), (0, _), (12, _), (13, _)], [], [], 0⟩
    refine W.seq ?_
    refine W.region ?_
    refine pu (ev tab rfl) rfl ?_
    refine WO.nil ?_
    refine qs ?_
    refine W.seq ?_
    refine eachR (l := d) (k := k) rfl (by simp [Ex.kc_len, bytes_len]) hk (fun x hx hd hlt => ?_) (fun he hd => ?_)
    · skip
      rw [hd] at hI
      simp only [nmdsErr] at hI
      refine W.skip ?_
      refine qs ?_
      refine W.seq ?_
      refine W.block ?_
      refine W.seq ?_
      refine W.region ?_
      refine pu (ev tab rfl) rfl ?_
      refine pu (indexAddr tab rfl rfl rfl rfl rfl rfl (Int.natCast_nonneg _) (idx_map hx) rfl) rfl ?_
      first | refine pu (ev tab rfl) rfl ?_ | refine pu (loadRow tab rfl rfl rfl rfl) rfl ?_ | refine pu (loadBox tab rfl rfl rfl rfl rfl) rfl ?_
      refine allocR tab rfl rfl rfl ?_
      refine pu (ev tab rfl) rfl ?_
      refine storeR tab rfl rfl rfl rfl rfl rfl rfl rfl ?_
      refine WO.nil ?_
      refine qs ?_
      refine W.seq ?_
      refine W.seq ?_
      refine W.region ?_
      refine pu (ev tab rfl) rfl ?_
      first | refine pu (ev tab rfl) rfl ?_ | refine pu (loadRow tab rfl rfl rfl rfl) rfl ?_ | refine pu (loadBox tab rfl rfl rfl rfl rfl) rfl ?_
      refine pu (puCall rfl rfl rfl (name_fn ..) rfl) rfl ?_
      refine pu (ev tab rfl) rfl ?_
      refine WO.nil ?_
      refine qs ?_
      refine W.seq ?_
      refine W.region ?_
      iterate 2 refine pu (ev tab rfl) rfl ?_
      refine WO.nil ?_
      refine qs ?_
      refine condK rfl (fun h23 => ?_) (fun h23 => ?_)
      · skip
        have h23 : nameErr x.name ≠ 0 := by simpa using h23
        have hB : nmdErr d k x = nameErr x.name := by unfold nmdErr; rw [if_pos h23]
        simp only [hB] at hI
        rw [if_pos h23] at hI
        refine W.seq ?_
        refine W.region ?_
        iterate 2 refine pu (ev tab rfl) rfl ?_
        refine WO.nil ?_
        refine qs ?_
        refine W.ret ?_
        refine qsRet ?_
        refine qbRet ?_
        refine qsRet ?_
        refine qlRet ?_
        refine qbRet ?_
        refine qsRet ?_
        refine QF.ret0 trivial rfl ?_
        rw [hq, ← hI]; rfl
      · skip
        have h23 : ¬ (nameErr x.name ≠ 0) := by simpa using h23
        refine W.skip ?_
        refine qs ?_
        refine W.seq ?_
        refine W.seq ?_
        obtain ⟨p, q, hpq⟩ := tcells2 (findT (d.take k) x.name)
        have hf := find_fn (d.take k) x.name
        rw [hpq] at hf
        refine W.regionE tab 11 1 (by kernel_rfl) rfl rfl ?_
        refine cePu rfl (ev tab rfl) rfl ?_
        refine cePu rfl (ev tab rfl) rfl ?_
        refine cePu rfl (slToM (fn := Nmd.c) tab rfl rfl rfl rfl rfl rfl (fun _ => rfl) (by omega)) rfl ?_
        refine cePu rfl (ev tab rfl) rfl ?_
        first | refine cePu rfl (ev tab rfl) rfl ?_ | refine cePu rfl (loadRow tab rfl rfl rfl rfl) rfl ?_ | refine cePu rfl (loadBox tab rfl rfl rfl rfl rfl) rfl ?_
        refine cePu rfl (puCall rfl rfl rfl hf rfl) rfl ?_
        refine cePu rfl (ev tab rfl) rfl ?_
        refine cePu rfl (ev tab rfl) rfl ?_
        refine cePu rfl (ev tab rfl) rfl ?_
        refine ceAlloc 0 rfl rfl rfl rfl rfl rfl ?_
        refine ceStore 9 0 rfl rfl rfl rfl rfl rfl rfl rfl rfl rfl rfl rfl ?_
        refine CE.nil ?_
        refine pu (ev tab rfl) rfl ?_
        refine WO.nil ?_
        refine qs ?_
        refine W.seq ?_
        refine W.region ?_
        refine pu (ev tab rfl) rfl ?_
        refine WO.nil ?_
        refine qs ?_
        refine condK rfl (fun h34 => ?_) (fun h34 => ?_)
        · skip
          have hB : nmdErr d k x = 4 := by unfold nmdErr; rw [if_neg h23, if_pos (by rw [← findT_any]; exact h34)]
          simp only [hB] at hI
          rw [if_pos (by decide)] at hI
          refine W.seq ?_
          refine W.region ?_
          refine pu (ev tab rfl) rfl ?_
          refine WO.nil ?_
          refine qs ?_
          refine W.ret ?_
          refine qsRet ?_
          refine qbRet ?_
          refine qsRet ?_
          refine qlRet ?_
          refine qbRet ?_
          refine qsRet ?_
          refine QF.ret0 trivial rfl ?_
          rw [hq, ← hI]; rfl
        · skip
          have hB : nmdErr d k x = tblErr x.table := by unfold nmdErr; rw [if_neg h23, if_neg (by rw [← findT_any]; simp [h34])]
          simp only [hB] at hI
          refine W.skip ?_
          refine qs ?_
          refine W.seq ?_
          refine W.region ?_
          refine pu (ev tab rfl) rfl ?_
          first | refine pu (ev tab rfl) rfl ?_ | refine pu (loadRow tab rfl rfl rfl rfl) rfl ?_ | refine pu (loadBox tab rfl rfl rfl rfl rfl) rfl ?_
          refine pu (puCall rfl rfl rfl (check_fn x.table) rfl) rfl ?_
          refine pu (ev tab rfl) rfl ?_
          refine WO.nil ?_
          refine qs ?_
          refine W.seq ?_
          refine W.region ?_
          iterate 2 refine pu (ev tab rfl) rfl ?_
          refine WO.nil ?_
          refine qs ?_
          refine condK rfl (fun h39 => ?_) (fun h39 => ?_)
          · skip
            rw [if_pos (by simpa using h39)] at hI
            refine W.seq ?_
            refine W.region ?_
            iterate 2 refine pu (ev tab rfl) rfl ?_
            refine WO.nil ?_
            refine qs ?_
            refine W.ret ?_
            refine qbRet ?_
            refine qsRet ?_
            refine qlRet ?_
            refine qbRet ?_
            refine qsRet ?_
            refine QF.ret0 trivial rfl ?_
            rw [hq, ← hI]; rfl
          · skip
            rw [if_neg (by simpa using h39)] at hI
            refine W.skip ?_
            refine qbN ?_
            refine qs ?_
            refine W.region ?_
            iterate 2 refine pu (ev tab rfl) rfl ?_
            refine WO.nil ?_
            refine W.endR [] ⟨k + 1, ?_⟩ ?_ rfl ?_ ⟨rfl, rfl, rfl, rfl, rfl, rfl, trivial⟩ ?_ trivial rfl
            · exact ⟨hlt, hI⟩
            · dsimp only; omega
            · repeat' first | exact trivial | refine ⟨rfl, ?_⟩ | refine ⟨step_nat (by assumption) (by assumption), ?_⟩
            · repeat' first | exact trivial | refine ⟨rfl, ?_⟩ | refine ⟨step_nat (by assumption) (by assumption), ?_⟩
    · skip
      rw [hd] at hI
      simp only [nmdsErr] at hI
      refine W.exit ?_
      refine qsExit ?_
      refine qlExit ?_
      refine qbExit ?_
      refine qs ?_
      refine W.seq ?_
      refine W.region ?_
      refine pu (ev tab rfl) rfl ?_
      refine WO.nil ?_
      refine qs ?_
      refine W.ret ?_
      refine QF.ret0 trivial rfl ?_
      rw [hq, ← hI]; rfl
end Go.Proofs.YtmhjgeneogknpaaGreat
namespace Go.Proofs.YtmhjgeneogknpaaGreat
open Go.Ab Go.Tb
set_option maxRecDepth 10000
attribute [local irreducible] W WO Pu QS QB QL QF QV QV1 CH QE
theorem clone_fn (l : List Col) (h : l.length ≤ 100000) : Does Tryz.prog 27 [.d (.sl (l.map Col.c))] (.own 0 (l.map Col.c)) 1 := by
  refine Does.of_W (n := 8) (ts := [2]) Tryz.func27 (by kernel_rfl) rfl Tryz.ntmps27 Tryz.results27 rfl rfl fun C hC => ?_
  refine W.seq ?_
  refine W.region ?_
  refine pu (ev tab rfl) rfl ?_
  refine WO.nil ?_
  refine qs ?_
  refine W.seq ?_
  refine W.seq ?_
  refine W.region ?_
  refine pu (ev tab rfl) rfl ?_
  refine nilTestR tab rfl rfl rfl rfl rfl (fun b4 hb4 => ?_)
  refine WO.nil ?_
  refine qs ?_
  refine condK rfl (fun h4 => ?_) (fun h4 => ?_)
  · skip
    refine W.seq ?_
    refine W.region ?_
    refine pu (ev tab rfl) rfl ?_
    refine WO.nil ?_
    refine qs ?_
    try refine ownNilR (d := 2) rfl rfl ?_
    refine W.ret ?_
    refine qsRet ?_
    refine QF.ret1 0 trivial rfl (by simp) ?_
    have hl0 := hb4 h4
    rw [hl0]; rfl
  · skip
    refine W.skip ?_
    refine qs ?_
    refine W.seq ?_
    refine W.region ?_
    refine buildO tab rfl rfl rfl rfl rfl rfl rfl rfl (by rfl) ?_
    refine pu (ev tab rfl) rfl ?_
    refine appendMs (l := []) (fn := Col.c) tab rfl rfl rfl rfl rfl rfl rfl rfl rfl rfl (fun _ => rfl) (by show (0 + l.length) * 24 ≤ _; omega) ?_
    refine pu (ev tab rfl) rfl ?_
    refine WO.nil ?_
    refine qs ?_
    try refine ownNilR (d := 2) rfl rfl ?_
    refine W.ret ?_
    refine QF.ret1 1 trivial rfl (by simp) ?_
    rfl

theorem take_fn (cols : List Col) (names : List ByteArray) (h : names.length ≤ 100000) : Does Tryz.prog 53 [.d (.sl (cols.map Col.c)), .d (.sl (names.map sc))]
    (.tup [.own 0 ((takeT cols [] names).1.map Col.c), .d (.v (.int .i64 (takeT cols [] names).2))]) 1 := by
  refine Does.of_W (n := 30) (ts := [4, 5]) Tryz.func53 (by kernel_rfl) rfl Tryz.ntmps53 Tryz.results53 rfl rfl fun C hC => ?_
  refine W.seq ?_
  refine W.region ?_
  iterate 2 refine pu (ev tab rfl) rfl ?_
  refine WO.nil ?_
  refine qs ?_
  refine W.seq ?_
  refine W.region ?_
  refine pu (ev tab rfl) rfl ?_
  refine WO.nil ?_
  refine qs ?_
  refine W.seq ?_
  refine W.seq ?_
  refine W.region ?_
  iterate 3 refine pu (ev tab rfl) rfl ?_
  refine WO.nil ?_
  refine qs ?_
  refine W.block ?_
  refine ownNilR (d := 6) rfl rfl ?_
  refine W.len (t := 10) rfl rfl (fun hlen => ?_)
  try simp only [List.length_map, Ex.kc_len] at hlen
  refine W.loopR (ι := {x : Nat × List Col // match x with | (k, out) => k ≤ names.length ∧ takeT cols out (names.drop k) = takeT cols [] names ∧ out.length = k})
    (fun x => match x.1 with | (k, out) => [(6, .own 0 (out.map Col.c)), (12, .d (.v (.int .i64 ((k : Nat) : Int))))]) [(0, _), (10, _), (11, _)]
    (fun x => match x.1 with | (k, out) => []) [] [0] 1 (fun x => match x.1 with | (k, out) => names.length - k)
    [0] ⟨(0, []), ?_⟩ rfl ?_ ⟨rfl, rfl, rfl, rfl, rfl, rfl, trivial⟩ ?_ trivial rfl ?_
  · exact ⟨Nat.zero_le _, rfl, rfl⟩
  · repeat' first | exact trivial | refine ⟨rfl, ?_⟩ | refine ⟨step_nat (by assumption) (by assumption), ?_⟩
  · repeat' first | exact trivial | refine ⟨rfl, ?_⟩ | refine ⟨step_nat (by assumption) (by assumption), ?_⟩
  rintro ⟨⟨k, out⟩, hk, hI, hL⟩
  show W _ _ _ _ _ ⟨[(6, .own 0 (out.map Col.c)), (12, .d (.v (.int .i64 ((k : Nat) : Int)))), (0, _), (10, _), (11, _)], [], [0], 1⟩
  refine W.seq ?_
  refine W.region ?_
  refine pu (ev tab rfl) rfl ?_
  refine WO.nil ?_
  refine qs ?_
  refine W.seq ?_
  refine eachR (l := names) (k := k) rfl (by simp [Ex.kc_len, bytes_len]) hk (fun x hx hd hlt => ?_) (fun he hd => ?_)
  · skip
    rw [hd] at hI
    simp only [takeT] at hI
    refine W.skip ?_
    refine qs ?_
    refine W.seq ?_
    refine W.block ?_
    refine W.seq ?_
    refine W.region ?_
    refine pu (indexAddr tab rfl rfl rfl rfl rfl rfl (Int.natCast_nonneg _) (idx_map hx) rfl) rfl ?_
    first | refine pu (ev tab rfl) rfl ?_ | refine pu (loadRow tab rfl rfl rfl rfl) rfl ?_ | refine pu (loadBox tab rfl rfl rfl rfl rfl) rfl ?_
    refine pu (ev tab rfl) rfl ?_
    refine WO.nil ?_
    refine qs ?_
    refine W.seq ?_
    refine W.region ?_
    iterate 2 refine pu (ev tab rfl) rfl ?_
    refine pu (puCall rfl rfl rfl (column_fn ..) rfl) rfl ?_
    refine pu (ev tab rfl) rfl ?_
    refine WO.nil ?_
    refine qs ?_
    refine W.seq ?_
    refine W.seq ?_
    refine W.region ?_
    iterate 2 refine pu (ev tab rfl) rfl ?_
    refine WO.nil ?_
    refine qs ?_
    refine condK rfl (fun h20 => ?_) (fun h20 => ?_)
    · skip
      have h5 : findCol cols x = none := find_none (of_decide_eq_true h20)
      rw [h5] at hI
      refine W.seq ?_
      refine W.region ?_
      iterate 2 refine pu (ev tab rfl) rfl ?_
      refine WO.nil ?_
      refine qs ?_
      try refine ownNilR (d := 4) rfl rfl ?_
      refine W.ret ?_
      refine qsRet ?_
      refine qbRet ?_
      refine qsRet ?_
      refine qlRet ?_
      refine qbRet ?_
      refine qsRet ?_
      refine QF.ret1 1 trivial rfl (by simp) ?_
      rw [← hI]; rfl
    · skip
      obtain ⟨i, c, h3, h4, h5, h6⟩ := find_some (of_decide_eq_false h20)
      have h5 : findCol cols x = some c := h5
      rw [h5] at hI
      refine W.skip ?_
      refine qs ?_
      refine W.region ?_
      iterate 3 refine pu (ev tab rfl) rfl ?_
      refine pu (indexAddr tab rfl rfl rfl rfl rfl rfl (i := idx _) (by rw [h3]; exact Int.natCast_nonneg _) (by rw [h3]; exact idx_map h4) rfl) rfl ?_
      first | refine pu (ev tab rfl) rfl ?_ | refine pu (loadRow tab rfl rfl rfl rfl) rfl ?_ | refine pu (loadBox tab rfl rfl rfl rfl rfl) rfl ?_
      refine pu (buildV tab rfl rfl rfl rfl rfl rfl rfl rfl rfl) rfl ?_
      refine appendM (fn := Col.c) (a := c) tab rfl rfl rfl rfl rfl rfl rfl rfl rfl rfl (fun _ => rfl) (by show (out.length + 1) * 24 ≤ _; omega) ?_
      refine pu (ev tab rfl) rfl ?_
      refine WO.nil ?_
      refine qbN ?_
      refine qs ?_
      refine W.region ?_
      iterate 2 refine pu (ev tab rfl) rfl ?_
      refine WO.nil ?_
      refine W.endR [1] ⟨(k + 1, out ++ [c]), ?_⟩ ?_ rfl ?_ ⟨rfl, rfl, rfl, rfl, rfl, rfl, trivial⟩ ?_ trivial rfl
      · exact ⟨hlt, hI, by simp [hL]⟩
      · dsimp only; omega
      · repeat' first | exact trivial | refine ⟨rfl, ?_⟩ | refine ⟨step_nat (by assumption) (by assumption), ?_⟩
      · repeat' first | exact trivial | refine ⟨rfl, ?_⟩ | refine ⟨step_nat (by assumption) (by assumption), ?_⟩
  · skip
    rw [hd] at hI
    simp only [takeT] at hI
    refine W.exit ?_
    refine qsExit ?_
    refine qlExit ?_
    refine qbExit ?_
    refine qs ?_
    refine W.seq ?_
    refine W.region ?_
    iterate 3 refine pu (ev tab rfl) rfl ?_
    refine WO.nil ?_
    refine qs ?_
    try refine ownNilR (d := 4) rfl rfl ?_
    refine W.ret ?_
    refine QF.ret1 0 trivial rfl (by simp) ?_
    rw [← hI]; rfl

theorem integer_fn (cols : List Col) (name : ByteArray) : Does Tryz.prog 57 [.d (.sl (cols.map Col.c)), .d (.v (.string name))] (.d (.v (.int .i64 (intErr cols name)))) 0 := by
  refine Does.of_W (n := 19) (ts := [4]) Tryz.func57 (by kernel_rfl) rfl Tryz.ntmps57 Tryz.results57 rfl rfl fun C hC => ?_
  refine W.seq ?_
  refine W.region ?_
  refine pu (ev tab rfl) rfl ?_
  refine WO.nil ?_
  refine qs ?_
  refine W.seq ?_
  refine W.region ?_
  iterate 2 refine pu (ev tab rfl) rfl ?_
  refine pu (puCall rfl rfl rfl (column_fn ..) rfl) rfl ?_
  refine pu (ev tab rfl) rfl ?_
  refine WO.nil ?_
  refine qs ?_
  refine W.seq ?_
  refine W.block ?_
  refine W.seq ?_
  refine W.region ?_
  iterate 3 refine pu (ev tab rfl) rfl ?_
  refine WO.nil ?_
  refine qs ?_
  refine condK rfl (fun h9 => ?_) (fun h9 => ?_)
  · skip
    have h5 : findCol cols name = none := find_none (of_decide_eq_true h9)
    refine W.seq ?_
    refine W.region ?_
    refine pu (ev tab rfl) rfl ?_
    refine WO.nil ?_
    refine qs ?_
    refine W.ret ?_
    refine qbRet ?_
    refine qsRet ?_
    refine QF.ret0 trivial rfl ?_
    simp only [norm, oneA, intErr, h5] <;> simp_all
  · skip
    obtain ⟨i, c, h3, h4, h5, h6⟩ := find_some (of_decide_eq_false h9)
    have h5 : findCol cols name = some c := h5
    refine W.seq ?_
    refine W.region ?_
    iterate 2 refine pu (ev tab rfl) rfl ?_
    refine pu (indexAddr tab rfl rfl rfl rfl rfl rfl (i := idx _) (by rw [h3]; exact Int.natCast_nonneg _) (by rw [h3]; exact idx_map h4) rfl) rfl ?_
    refine pu (ev tab rfl) rfl ?_
    first | refine pu (ev tab rfl) rfl ?_ | refine pu (loadRow tab rfl rfl rfl rfl) rfl ?_ | refine pu (loadBox tab rfl rfl rfl rfl rfl) rfl ?_
    iterate 2 refine pu (ev tab rfl) rfl ?_
    refine WO.nil ?_
    refine qs ?_
    refine condK rfl (fun h12 => ?_) (fun h12 => ?_)
    · skip
      refine W.seq ?_
      refine W.region ?_
      refine pu (ev tab rfl) rfl ?_
      refine WO.nil ?_
      refine qs ?_
      refine W.ret ?_
      refine qbRet ?_
      refine qsRet ?_
      refine QF.ret0 trivial rfl ?_
      simp only [norm, oneA, intErr, h5] <;> simp_all
    · skip
      refine W.skip ?_
      refine qbN ?_
      refine qs ?_
      refine W.seq ?_
      refine W.region ?_
      refine pu (ev tab rfl) rfl ?_
      refine WO.nil ?_
      refine qs ?_
      refine W.ret ?_
      refine QF.ret0 trivial rfl ?_
      simp only [norm, oneA, intErr, h5] <;> simp_all

theorem selected_fn (cols : List Col) (l : List Itm) (h : l.length ≤ 100000) (hv : ∀ x ∈ l, nodesErr x.e = 0) : Does Tryz.prog 22 [.d (.sl (cols.map Col.c)), .d (.sl (l.map Itm.c))]
    (.tup [.d (.sl ((selT cols [] l).1.map Col.c)), .d (.v (.int .i64 (selT cols [] l).2))]) 0 := by
  refine Does.of_W (n := 38) (ts := [4, 5]) Tryz.func22 (by kernel_rfl) rfl Tryz.ntmps22 Tryz.results22 rfl rfl fun C hC => ?_
  refine W.seq ?_
  refine W.region ?_
  iterate 2 refine pu (ev tab rfl) rfl ?_
  refine WO.nil ?_
  refine qs ?_
  refine W.seq ?_
  refine W.region ?_
  refine pu (ev tab rfl) rfl ?_
  refine WO.nil ?_
  refine qs ?_
  refine W.seq ?_
  refine W.seq ?_
  refine W.region ?_
  iterate 3 refine pu (ev tab rfl) rfl ?_
  refine WO.nil ?_
  refine qs ?_
  refine W.block ?_
  refine ownNilR (d := 6) rfl rfl ?_
  refine W.len (t := 11) rfl rfl (fun hlen => ?_)
  try simp only [List.length_map, Ex.kc_len] at hlen
  refine W.loopR (ι := {x : Nat × List Col // match x with | (k, out) => k ≤ l.length ∧ selT cols out (l.drop k) = selT cols [] l ∧ out.length = k})
    (fun x => match x.1 with | (k, out) => [(6, .own 0 (out.map Col.c)), (13, .d (.v (.int .i64 ((k : Nat) : Int))))]) [(0, _), (11, _), (12, _)]
    (fun x => match x.1 with | (k, out) => []) [] [0] 1 (fun x => match x.1 with | (k, out) => l.length - k)
    [0] ⟨(0, []), ?_⟩ rfl ?_ ⟨rfl, rfl, rfl, rfl, rfl, rfl, trivial⟩ ?_ trivial rfl ?_
  · exact ⟨Nat.zero_le _, rfl, rfl⟩
  · repeat' first | exact trivial | refine ⟨rfl, ?_⟩ | refine ⟨step_nat (by assumption) (by assumption), ?_⟩
  · repeat' first | exact trivial | refine ⟨rfl, ?_⟩ | refine ⟨step_nat (by assumption) (by assumption), ?_⟩
  rintro ⟨⟨k, out⟩, hk, hI, hL⟩
  show W _ _ _ _ _ ⟨[(6, .own 0 (out.map Col.c)), (13, .d (.v (.int .i64 ((k : Nat) : Int)))), (0, _), (11, _), (12, _)], [], [0], 1⟩
  refine W.seq ?_
  refine W.region ?_
  refine pu (ev tab rfl) rfl ?_
  refine WO.nil ?_
  refine qs ?_
  refine W.seq ?_
  refine eachR (l := l) (k := k) rfl (by simp [Ex.kc_len, bytes_len]) hk (fun x hx hd hlt => ?_) (fun he hd => ?_)
  · skip
    rw [hd] at hI
    simp only [selT] at hI
    refine W.skip ?_
    refine qs ?_
    refine W.seq ?_
    refine W.block ?_
    refine W.seq ?_
    refine W.region ?_
    refine pu (indexAddr tab rfl rfl rfl rfl rfl rfl (Int.natCast_nonneg _) (idx_map hx) rfl) rfl ?_
    first | refine pu (ev tab rfl) rfl ?_ | refine pu (loadRow tab rfl rfl rfl rfl) rfl ?_ | refine pu (loadBox tab rfl rfl rfl rfl rfl) rfl ?_
    refine allocR tab rfl rfl rfl ?_
    refine storeR tab rfl rfl rfl rfl rfl rfl rfl rfl ?_
    refine WO.nil ?_
    refine qs ?_
    refine W.seq ?_
    refine W.region ?_
    iterate 2 refine pu (ev tab rfl) rfl ?_
    first | refine pu (ev tab rfl) rfl ?_ | refine pu (loadRow tab rfl rfl rfl rfl) rfl ?_ | refine pu (loadBox tab rfl rfl rfl rfl rfl) rfl ?_
    refine pu (puCall rfl rfl rfl (tnode_fn cols x.e (hv x (List.mem_of_getElem? hx))) rfl) rfl ?_
    iterate 5 refine pu (ev tab rfl) rfl ?_
    refine WO.nil ?_
    refine qs ?_
    refine W.seq ?_
    refine W.seq ?_
    refine W.region ?_
    iterate 2 refine pu (ev tab rfl) rfl ?_
    refine WO.nil ?_
    refine qs ?_
    refine condK rfl (fun h25 => ?_) (fun h25 => ?_)
    · skip
      rw [if_pos (by simpa using h25)] at hI
      refine W.seq ?_
      refine W.region ?_
      iterate 3 refine pu (ev tab rfl) rfl ?_
      refine WO.nil ?_
      refine qs ?_
      try refine ownNilR (d := 4) rfl rfl ?_
      refine W.ret ?_
      refine qsRet ?_
      refine qbRet ?_
      refine qsRet ?_
      refine qlRet ?_
      refine qbRet ?_
      refine qsRet ?_
      refine QF.ret0 trivial rfl ?_
      rw [← hI]; rfl
    · skip
      rw [if_neg (by simpa using h25)] at hI
      refine W.skip ?_
      refine qs ?_
      refine W.seq ?_
      refine W.seq ?_
      refine W.region ?_
      iterate 2 refine pu (ev tab rfl) rfl ?_
      refine WO.nil ?_
      refine qs ?_
      refine condK rfl (fun h28 => ?_) (fun h28 => ?_)
      · skip
        rw [if_pos (by simpa using h28)] at hI
        refine W.seq ?_
        refine W.region ?_
        iterate 2 refine pu (ev tab rfl) rfl ?_
        refine WO.nil ?_
        refine qs ?_
        try refine ownNilR (d := 4) rfl rfl ?_
        refine W.ret ?_
        refine qsRet ?_
        refine qbRet ?_
        refine qsRet ?_
        refine qlRet ?_
        refine qbRet ?_
        refine qsRet ?_
        refine QF.ret0 trivial rfl ?_
        rw [← hI]; rfl
      · skip
        rw [if_neg (by simpa using h28)] at hI
        refine W.skip ?_
        refine qs ?_
        refine W.region ?_
        iterate 2 refine pu (ev tab rfl) rfl ?_
        first | refine pu (ev tab rfl) rfl ?_ | refine pu (loadRow tab rfl rfl rfl rfl) rfl ?_ | refine pu (loadBox tab rfl rfl rfl rfl rfl) rfl ?_
        refine pu (ev tab rfl) rfl ?_
        refine pu (build tab rfl rfl rfl rfl) rfl ?_
        refine pu (buildV tab rfl rfl rfl rfl rfl rfl rfl rfl rfl) rfl ?_
        refine appendM (fn := Col.c) (a := ⟨x.name, (typ cols x.e).1⟩) tab rfl rfl rfl rfl rfl rfl rfl rfl rfl rfl (fun _ => rfl) (by show (out.length + 1) * 24 ≤ _; omega) ?_
        refine pu (ev tab rfl) rfl ?_
        refine WO.nil ?_
        refine qbN ?_
        refine qs ?_
        refine W.region ?_
        iterate 2 refine pu (ev tab rfl) rfl ?_
        refine WO.nil ?_
        refine W.endR [2] ⟨(k + 1, out ++ [⟨x.name, (typ cols x.e).1⟩]), ?_⟩ ?_ rfl ?_ ⟨rfl, rfl, rfl, rfl, rfl, rfl, trivial⟩ ?_ trivial rfl
        · exact ⟨hlt, hI, by simp [hL]⟩
        · dsimp only; omega
        · repeat' first | exact trivial | refine ⟨rfl, ?_⟩ | refine ⟨step_nat (by assumption) (by assumption), ?_⟩
        · repeat' first | exact trivial | refine ⟨rfl, ?_⟩ | refine ⟨step_nat (by assumption) (by assumption), ?_⟩
  · skip
    rw [hd] at hI
    simp only [selT] at hI
    refine W.exit ?_
    refine qsExit ?_
    refine qlExit ?_
    refine qbExit ?_
    refine qs ?_
    refine W.seq ?_
    refine W.region ?_
    iterate 3 refine pu (ev tab rfl) rfl ?_
    refine WO.nil ?_
    refine qs ?_
    try refine ownNilR (d := 4) rfl rfl ?_
    refine W.ret ?_
    refine QF.ret0 trivial rfl ?_
    rw [← hI]; rfl
end Go.Proofs.YtmhjgeneogknpaaGreat
namespace Go.Proofs.YtmhjgeneogknpaaGreat
open Go.Ab Go.Tb
set_option maxRecDepth 10000
attribute [local irreducible] W WO Pu QS QB QL QF QV QV1 CH QE
theorem takeT_len (cols : List Col) : ∀ (names : List ByteArray) (out : List Col), (takeT cols out names).1.length ≤ out.length + names.length
  | [], out => by simp [takeT]
  | s :: r, out => by
    simp only [takeT]
    split
    · simp
    · have := takeT_len cols r (out ++ [‹Col›]); simp at this ⊢; omega
theorem take1 (cols : List Col) (s : ByteArray) : takeT cols [] [s] = (match findCol cols s with | none => ([], 16) | some c => ([c], 0)) := by
  cases h : findCol cols s <;> simp [takeT, h]

theorem grouped_fn (cols : List Col) (s : Stp) (h1 : s.cols.length ≤ 1000) (h2 : s.aggs.length ≤ 1000) : Does Tryz.prog 23 [.d (.sl (cols.map Col.c)), .ag s.c]
    (.tup [.d (.sl ((groupT cols s).1.map Col.c)), .d (.v (.int .i64 (groupT cols s).2))]) 0 := by
  have htl := takeT_len cols s.cols []
  have hg : groupT cols s = groupT cols s := rfl
  conv at hg => rhs; unfold groupT
  refine Does.of_W (n := 68) (ts := [4, 5]) Tryz.func23 (by kernel_rfl) rfl Tryz.ntmps23 Tryz.results23 rfl rfl fun C hC => ?_
  refine W.seq ?_
  refine W.region ?_
  refine boxR rfl rfl rfl ?_
  iterate 2 refine pu (ev tab rfl) rfl ?_
  refine WO.nil ?_
  refine qs ?_
  refine W.seq ?_
  refine W.region ?_
  iterate 2 refine pu (ev tab rfl) rfl ?_
  first | refine pu (ev tab rfl) rfl ?_ | refine pu (loadRow tab rfl rfl rfl rfl) rfl ?_ | refine pu (loadBox tab rfl rfl rfl rfl rfl) rfl ?_
  refine callR rfl rfl rfl (take_fn cols s.cols (by omega)) (by rfl) rfl rfl ?_
  iterate 5 refine pu (ev tab rfl) rfl ?_
  refine WO.nil ?_
  refine qs ?_
  refine W.seq ?_
  refine W.seq ?_
  refine W.region ?_
  iterate 2 refine pu (ev tab rfl) rfl ?_
  refine WO.nil ?_
  refine qs ?_
  refine condK rfl (fun h21 => ?_) (fun h21 => ?_)
  · skip
    rw [if_pos (by simpa using h21)] at hg
    refine W.seq ?_
    refine W.region ?_
    iterate 3 refine pu (ev tab rfl) rfl ?_
    refine WO.nil ?_
    refine qs ?_
    try refine ownNilR (d := 4) rfl rfl ?_
    refine W.ret ?_
    refine qsRet ?_
    refine QF.ret0 trivial rfl ?_
    rw [hg]; rfl
  · skip
    rw [if_neg (by simpa using h21)] at hg
    refine W.skip ?_
    refine qs ?_
    refine W.seq ?_
    refine W.seq ?_
    refine W.region ?_
    refine pu (ev tab rfl) rfl ?_
    first | refine pu (ev tab rfl) rfl ?_ | refine pu (loadRow tab rfl rfl rfl rfl) rfl ?_ | refine pu (loadBox tab rfl rfl rfl rfl rfl) rfl ?_
    iterate 2 refine pu (ev tab rfl) rfl ?_
    refine WO.nil ?_
    refine qs ?_
    refine W.block ?_
    refine W.len (t := 24) rfl rfl (fun hlen => ?_)
    try simp only [List.length_map, Ex.kc_len] at hlen
    refine W.loopR (ι := {x : Nat × List Col // match x with | (k, out) => k ≤ s.aggs.length ∧ aggT cols out (s.aggs.drop k) = aggT cols (takeT cols [] s.cols).1 s.aggs ∧ out.length ≤ 1000 + k})
      (fun x => match x.1 with | (k, out) => [(6, .own 0 (out.map Col.c)), (26, .d (.v (.int .i64 ((k : Nat) : Int))))]) [(0, _), (24, _), (25, _)]
      (fun x => match x.1 with | (k, out) => []) [] [0] 1 (fun x => match x.1 with | (k, out) => s.aggs.length - k)
      [1] ⟨(0, (takeT cols [] s.cols).1), ?_⟩ rfl ?_ ⟨rfl, rfl, rfl, rfl, rfl, rfl, trivial⟩ ?_ trivial rfl ?_
    · exact ⟨Nat.zero_le _, rfl, by simp at htl; omega⟩
    · repeat' first | exact trivial | refine ⟨rfl, ?_⟩ | refine ⟨step_nat (by assumption) (by assumption), ?_⟩
    · repeat' first | exact trivial | refine ⟨rfl, ?_⟩ | refine ⟨step_nat (by assumption) (by assumption), ?_⟩
    rintro ⟨⟨k, out⟩, hk, hI, hL⟩
    show W _ _ _ _ _ ⟨[(6, .own 0 (out.map Col.c)), (26, .d (.v (.int .i64 ((k : Nat) : Int)))), (0, _), (24, _), (25, _)], [], [0], 1⟩
    refine W.seq ?_
    refine W.region ?_
    refine pu (ev tab rfl) rfl ?_
    refine WO.nil ?_
    refine qs ?_
    refine W.seq ?_
    refine eachR (l := s.aggs) (k := k) rfl (by simp [Ex.kc_len, bytes_len]) hk (fun x hx hd hlt => ?_) (fun he hd => ?_)
    · skip
      rw [hd] at hI
      simp only [aggT] at hI
      refine W.skip ?_
      refine qs ?_
      refine W.seq ?_
      refine W.block ?_
      refine W.seq ?_
      refine W.region ?_
      refine pu (indexAddr tab rfl rfl rfl rfl rfl rfl (Int.natCast_nonneg _) (idx_map hx) rfl) rfl ?_
      first | refine pu (ev tab rfl) rfl ?_ | refine pu (loadRow tab rfl rfl rfl rfl) rfl ?_ | refine pu (loadBox tab rfl rfl rfl rfl rfl) rfl ?_
      refine allocR tab rfl rfl rfl ?_
      refine storeR tab rfl rfl rfl rfl rfl rfl rfl rfl ?_
      refine WO.nil ?_
      refine qs ?_
      refine W.seq ?_
      refine W.region ?_
      refine pu (ev tab rfl) rfl ?_
      first | refine pu (ev tab rfl) rfl ?_ | refine pu (loadRow tab rfl rfl rfl rfl) rfl ?_ | refine pu (loadBox tab rfl rfl rfl rfl rfl) rfl ?_
      refine pu (build tab rfl rfl rfl rfl) rfl ?_
      refine allocR tab rfl rfl rfl ?_
      refine storeR tab rfl rfl rfl rfl rfl rfl rfl rfl ?_
      refine WO.nil ?_
      refine qs ?_
      refine W.seq ?_
      refine W.seq ?_
      refine W.region ?_
      refine pu (ev tab rfl) rfl ?_
      first | refine pu (ev tab rfl) rfl ?_ | refine pu (loadRow tab rfl rfl rfl rfl) rfl ?_ | refine pu (loadBox tab rfl rfl rfl rfl rfl) rfl ?_
      refine pu (ev tab rfl) rfl ?_
      refine WO.nil ?_
      refine qs ?_
      refine condK rfl (fun h35 => ?_) (fun h35 => ?_)
      · skip
        have h35 : ¬ (x.fn = wCount) := by simpa [wCount] using h35
        rw [if_neg h35] at hI
        have ht1 := take1 cols x.col
        refine W.seq ?_
        refine W.region ?_
        iterate 2 refine pu (ev tab rfl) rfl ?_
        first | refine pu (ev tab rfl) rfl ?_ | refine pu (loadRow tab rfl rfl rfl rfl) rfl ?_ | refine pu (loadBox tab rfl rfl rfl rfl rfl) rfl ?_
        refine pu (buildV tab rfl rfl rfl rfl rfl rfl rfl rfl rfl) rfl ?_
        refine callR rfl rfl rfl (take_fn cols [x.col] (by simp)) (by rfl) rfl rfl ?_
        iterate 5 refine pu (ev tab rfl) rfl ?_
        refine WO.nil ?_
        refine qs ?_
        refine W.seq ?_
        refine W.seq ?_
        refine W.region ?_
        iterate 2 refine pu (ev tab rfl) rfl ?_
        refine WO.nil ?_
        refine qs ?_
        refine condK rfl (fun h45 => ?_) (fun h45 => ?_)
        · skip
          have h5 : findCol cols x.col = none := by cases hf : findCol cols x.col with | none => rfl | some c => rw [hf] at ht1; rw [ht1] at h45; simp at h45
          rw [h5] at hI ht1
          rw [ht1]
          refine W.seq ?_
          refine W.region ?_
          iterate 3 refine pu (ev tab rfl) rfl ?_
          refine WO.nil ?_
          refine qs ?_
          try refine ownNilR (d := 4) rfl rfl ?_
          refine W.ret ?_
          refine qsRet ?_
          refine qsRet ?_
          refine qbRet ?_
          refine qsRet ?_
          refine qlRet ?_
          refine qbRet ?_
          refine qsRet ?_
          refine QF.ret0 trivial rfl ?_
          rw [hg, ← hI]; rfl
        · skip
          obtain ⟨c, h5⟩ : ∃ c, findCol cols x.col = some c := by cases hf : findCol cols x.col with | none => rw [hf] at ht1; rw [ht1] at h45; simp at h45 | some c => exact ⟨c, rfl⟩
          rw [h5] at hI ht1
          simp only at hI
          rw [ht1]
          refine W.skip ?_
          refine qs ?_
          refine W.seq ?_
          refine W.seq ?_
          apply regionB; (case hb => rfl)
          · skip
            refine pu (ev tab rfl) rfl ?_
            first | refine pu (ev tab rfl) rfl ?_ | refine pu (loadRow tab rfl rfl rfl rfl) rfl ?_ | refine pu (loadBox tab rfl rfl rfl rfl rfl) rfl ?_
            iterate 2 refine pu (ev tab rfl) rfl ?_
            apply splitJ; (case hj => rfl); (case hl => rfl)
            · skip
              refine goG rfl rfl ?_
              refine pu (ev tab rfl) rfl ?_
              refine goG rfl rfl ?_
              refine pu (indexAddr tab rfl rfl rfl rfl rfl rfl (i := 0) (by omega) (show ([c].map Col.c)[((0 : Int)).toNat]? = some c.c from rfl) rfl) rfl ?_
              refine goG rfl rfl ?_
              refine pu (ev tab rfl) rfl ?_
              refine goG rfl rfl ?_
              first | refine pu (ev tab rfl) rfl ?_ | refine pu (loadRow tab rfl rfl rfl rfl) rfl ?_ | refine pu (loadBox tab rfl rfl rfl rfl rfl) rfl ?_
              refine goG rfl rfl ?_
              iterate 2 refine pu (ev tab rfl) rfl ?_
              refine WO.nil ?_
              refine qv1 rfl rfl rfl
            · skip
              refine skipT rfl rfl rfl rfl ?_
              refine skipT rfl rfl rfl rfl ?_
              refine skipT rfl rfl rfl rfl ?_
              refine skipT rfl rfl rfl rfl ?_
              refine skipT rfl rfl rfl rfl ?_
              refine pu (ev tab rfl) rfl ?_
              refine WO.nil ?_
              refine qv1 rfl rfl rfl
          refine qs ?_
          refine condK rfl (fun h56 => ?_) (fun h56 => ?_)
          · skip
            have h56 : x.fn = wSum ∧ c.type ≠ 2 := by revert h56; simp only [wSum]; by_cases q : x.fn = B #[115, 117, 109] <;> simp [q]
            rw [if_pos h56] at hI
            refine W.seq ?_
            refine W.region ?_
            iterate 2 refine pu (ev tab rfl) rfl ?_
            refine WO.nil ?_
            refine qs ?_
            try refine ownNilR (d := 4) rfl rfl ?_
            refine W.ret ?_
            refine qsRet ?_
            refine qsRet ?_
            refine qbRet ?_
            refine qsRet ?_
            refine qlRet ?_
            refine qbRet ?_
            refine qsRet ?_
            refine QF.ret0 trivial rfl ?_
            rw [hg, ← hI]; rfl
          · skip
            have h56 : ¬ (x.fn = wSum ∧ c.type ≠ 2) := by revert h56; simp only [wSum]; by_cases q : x.fn = B #[115, 117, 109] <;> simp [q]
            rw [if_neg h56] at hI
            refine W.skip ?_
            refine qs ?_
            refine W.region ?_
            refine pu (ev tab rfl) rfl ?_
            refine pu (indexAddr tab rfl rfl rfl rfl rfl rfl (i := 0) (by omega) (show ([c].map Col.c)[((0 : Int)).toNat]? = some c.c from rfl) rfl) rfl ?_
            refine pu (ev tab rfl) rfl ?_
            first | refine pu (ev tab rfl) rfl ?_ | refine pu (loadRow tab rfl rfl rfl rfl) rfl ?_ | refine pu (loadBox tab rfl rfl rfl rfl rfl) rfl ?_
            refine pu (ev tab rfl) rfl ?_
            refine storeR tab rfl rfl rfl rfl rfl rfl rfl rfl ?_
            refine WO.nil ?_
            refine qs ?_
            refine W.region ?_
            refine pu (ev tab rfl) rfl ?_
            first | refine pu (ev tab rfl) rfl ?_ | refine pu (loadRow tab rfl rfl rfl rfl) rfl ?_ | refine pu (loadBox tab rfl rfl rfl rfl rfl) rfl ?_
            refine pu (buildV tab rfl rfl rfl rfl rfl rfl rfl rfl rfl) rfl ?_
            first | refine appendM (fn := Col.c) (a := ⟨x.name, c.type⟩) tab rfl rfl rfl rfl rfl rfl rfl rfl rfl rfl (fun _ => rfl) (by show (out.length + 1) * 24 ≤ _; omega) ?_ | refine appendM (fn := Col.c) (a := ⟨x.name, 2⟩) tab rfl rfl rfl rfl rfl rfl rfl rfl rfl rfl (fun _ => rfl) (by show (out.length + 1) * 24 ≤ _; omega) ?_
            refine pu (ev tab rfl) rfl ?_
            refine WO.nil ?_
            refine qbN ?_
            refine qs ?_
            refine W.region ?_
            iterate 2 refine pu (ev tab rfl) rfl ?_
            refine WO.nil ?_
            first | (refine W.endR [4] ⟨(k + 1, out ++ [⟨x.name, c.type⟩]), ?_⟩ ?_ rfl ?_ ⟨rfl, rfl, rfl, rfl, rfl, rfl, trivial⟩ ?_ trivial rfl) | (refine W.endR [3] ⟨(k + 1, out ++ [⟨x.name, 2⟩]), ?_⟩ ?_ rfl ?_ ⟨rfl, rfl, rfl, rfl, rfl, rfl, trivial⟩ ?_ trivial rfl)
            · exact ⟨hlt, hI, by simp; omega⟩
            · dsimp only; omega
            · repeat' first | exact trivial | refine ⟨rfl, ?_⟩ | refine ⟨step_nat (by assumption) (by assumption), ?_⟩
            · repeat' first | exact trivial | refine ⟨rfl, ?_⟩ | refine ⟨step_nat (by assumption) (by assumption), ?_⟩
      · skip
        have h35 : x.fn = wCount := by simpa [wCount] using h35
        rw [if_pos h35] at hI
        refine W.skip ?_
        refine qs ?_
        refine W.region ?_
        refine pu (ev tab rfl) rfl ?_
        first | refine pu (ev tab rfl) rfl ?_ | refine pu (loadRow tab rfl rfl rfl rfl) rfl ?_ | refine pu (loadBox tab rfl rfl rfl rfl rfl) rfl ?_
        refine pu (buildV tab rfl rfl rfl rfl rfl rfl rfl rfl rfl) rfl ?_
        first | refine appendM (fn := Col.c) (a := ⟨x.name, c.type⟩) tab rfl rfl rfl rfl rfl rfl rfl rfl rfl rfl (fun _ => rfl) (by show (out.length + 1) * 24 ≤ _; omega) ?_ | refine appendM (fn := Col.c) (a := ⟨x.name, 2⟩) tab rfl rfl rfl rfl rfl rfl rfl rfl rfl rfl (fun _ => rfl) (by show (out.length + 1) * 24 ≤ _; omega) ?_
        refine pu (ev tab rfl) rfl ?_
        refine WO.nil ?_
        refine qbN ?_
        refine qs ?_
        refine W.region ?_
        iterate 2 refine pu (ev tab rfl) rfl ?_
        refine WO.nil ?_
        first | (refine W.endR [4] ⟨(k + 1, out ++ [⟨x.name, c.type⟩]), ?_⟩ ?_ rfl ?_ ⟨rfl, rfl, rfl, rfl, rfl, rfl, trivial⟩ ?_ trivial rfl) | (refine W.endR [3] ⟨(k + 1, out ++ [⟨x.name, 2⟩]), ?_⟩ ?_ rfl ?_ ⟨rfl, rfl, rfl, rfl, rfl, rfl, trivial⟩ ?_ trivial rfl)
        · exact ⟨hlt, hI, by simp; omega⟩
        · dsimp only; omega
        · repeat' first | exact trivial | refine ⟨rfl, ?_⟩ | refine ⟨step_nat (by assumption) (by assumption), ?_⟩
        · repeat' first | exact trivial | refine ⟨rfl, ?_⟩ | refine ⟨step_nat (by assumption) (by assumption), ?_⟩
    · skip
      rw [hd] at hI
      simp only [aggT] at hI
      refine W.exit ?_
      refine qsExit ?_
      refine qlExit ?_
      refine qbExit ?_
      refine qs ?_
      refine W.seq ?_
      refine W.region ?_
      iterate 3 refine pu (ev tab rfl) rfl ?_
      refine WO.nil ?_
      refine qs ?_
      try refine ownNilR (d := 4) rfl rfl ?_
      refine W.ret ?_
      refine QF.ret0 trivial rfl ?_
      rw [hg, ← hI]; rfl
end Go.Proofs.YtmhjgeneogknpaaGreat
namespace Go.Proofs.YtmhjgeneogknpaaGreat
open Go.Ab Go.Tb
set_option maxRecDepth 10000
attribute [local irreducible] W WO Pu QS QB QL QF QV QV1 CH QE
def putT (cols : List Col) : List Col → List ByteArray → CT
  | out, [] => (out, 0)
  | out, s :: r => if intErr cols s ≠ 0 then ([], intErr cols s) else putT cols (out ++ [⟨s, 2⟩]) r

theorem coalT_eq (cols : List Col) (s : Stp) (h : ¬ ((s.cols.any (fun x => decide (wFrom = x)) || s.cols.any (fun x => decide (wTo = x))) = true)) (h2 : (takeT cols [] s.cols).2 = 0) : coalT cols s = putT cols (takeT cols [] s.cols).1 [wFrom, wTo] := by
  unfold coalT
  rw [if_neg h, if_neg (by simp [h2])]
  simp only [putT]
  by_cases h3 : intErr cols wFrom = 0 <;> by_cases h4 : intErr cols wTo = 0 <;> simp [h3, h4]

theorem coalesced_fn (cols : List Col) (s : Stp) (h1 : s.cols.length ≤ 1000) : Does Tryz.prog 25 [.d (.sl (cols.map Col.c)), .ag s.c]
    (.tup [.d (.sl ((coalT cols s).1.map Col.c)), .d (.v (.int .i64 (coalT cols s).2))]) 0 := by
  have htl := takeT_len cols s.cols []
  refine Does.of_W (n := 48) (ts := [4, 5]) Tryz.func25 (by kernel_rfl) rfl Tryz.ntmps25 Tryz.results25 rfl rfl fun C hC => ?_
  refine W.seq ?_
  refine W.region ?_
  refine boxR rfl rfl rfl ?_
  iterate 2 refine pu (ev tab rfl) rfl ?_
  refine WO.nil ?_
  refine qs ?_
  refine W.seq ?_
  refine W.seq ?_
  apply regionB; (case hb => rfl)
  · skip
    refine pu (ev tab rfl) rfl ?_
    first | refine pu (ev tab rfl) rfl ?_ | refine pu (loadRow tab rfl rfl rfl rfl) rfl ?_ | refine pu (loadBox tab rfl rfl rfl rfl rfl) rfl ?_
    refine pu (puCall rfl rfl rfl (contains_fn s.cols wFrom) rfl) rfl ?_
    refine pu (ev tab rfl) rfl ?_
    apply splitJ; (case hj => rfl); (case hl => rfl)
    · skip
      refine skipT rfl rfl rfl rfl ?_
      refine skipT rfl rfl rfl rfl ?_
      refine skipT rfl rfl rfl rfl ?_
      refine pu (ev tab rfl) rfl ?_
      refine WO.nil ?_
      refine qv1 rfl rfl rfl
    · skip
      refine goG rfl rfl ?_
      refine pu (ev tab rfl) rfl ?_
      refine goG rfl rfl ?_
      first | refine pu (ev tab rfl) rfl ?_ | refine pu (loadRow tab rfl rfl rfl rfl) rfl ?_ | refine pu (loadBox tab rfl rfl rfl rfl rfl) rfl ?_
      refine goG rfl rfl ?_
      refine pu (puCall rfl rfl rfl (contains_fn s.cols wTo) rfl) rfl ?_
      refine pu (ev tab rfl) rfl ?_
      refine WO.nil ?_
      refine qv1 rfl rfl rfl
  refine qs ?_
  refine condK rfl (fun h18 => ?_) (fun h18 => ?_)
  · skip
    have h18 : (s.cols.any (fun x => decide (wFrom = x)) || s.cols.any (fun x => decide (wTo = x))) = true := by revert h18; generalize s.cols.any (fun x => decide (wFrom = x)) = a; generalize s.cols.any (fun x => decide (wTo = x)) = b; cases a <;> cases b <;> simp
    have hg : coalT cols s = ([], 4) := by unfold coalT; rw [if_pos h18]
    refine W.seq ?_
    refine W.region ?_
    iterate 2 refine pu (ev tab rfl) rfl ?_
    refine WO.nil ?_
    refine qs ?_
    try refine ownNilR (d := 4) rfl rfl ?_
    refine W.ret ?_
    refine qsRet ?_
    refine QF.ret0 trivial rfl ?_
    rw [hg]; rfl
  · skip
    have h18 : ¬ ((s.cols.any (fun x => decide (wFrom = x)) || s.cols.any (fun x => decide (wTo = x))) = true) := by revert h18; generalize s.cols.any (fun x => decide (wFrom = x)) = a; generalize s.cols.any (fun x => decide (wTo = x)) = b; cases a <;> cases b <;> simp
    refine W.skip ?_
    refine qs ?_
    refine W.seq ?_
    refine W.region ?_
    iterate 2 refine pu (ev tab rfl) rfl ?_
    first | refine pu (ev tab rfl) rfl ?_ | refine pu (loadRow tab rfl rfl rfl rfl) rfl ?_ | refine pu (loadBox tab rfl rfl rfl rfl rfl) rfl ?_
    refine callR rfl rfl rfl (take_fn cols s.cols (by omega)) (by rfl) rfl rfl ?_
    iterate 5 refine pu (ev tab rfl) rfl ?_
    refine WO.nil ?_
    refine qs ?_
    refine W.seq ?_
    refine W.seq ?_
    refine W.region ?_
    iterate 2 refine pu (ev tab rfl) rfl ?_
    refine WO.nil ?_
    refine qs ?_
    refine condK rfl (fun h27 => ?_) (fun h27 => ?_)
    · skip
      have h27 : (takeT cols [] s.cols).2 ≠ 0 := by simpa using h27
      have hg : coalT cols s = ([], (takeT cols [] s.cols).2) := by unfold coalT; rw [if_neg h18, if_pos h27]
      refine W.seq ?_
      refine W.region ?_
      iterate 3 refine pu (ev tab rfl) rfl ?_
      refine WO.nil ?_
      refine qs ?_
      try refine ownNilR (d := 4) rfl rfl ?_
      refine W.ret ?_
      refine qsRet ?_
      refine QF.ret0 trivial rfl ?_
      rw [hg]; rfl
    · skip
      have h27 : (takeT cols [] s.cols).2 = 0 := by simpa using h27
      have hg := coalT_eq cols s h18 h27
      generalize hT : putT cols (takeT cols [] s.cols).1 [wFrom, wTo] = TT at hg
      refine W.skip ?_
      refine qs ?_
      refine W.seq ?_
      refine W.seq ?_
      refine W.region ?_
      refine pu (buildV (es := [wFrom, wTo].map sc) tab rfl rfl rfl rfl rfl rfl rfl rfl rfl) rfl ?_
      iterate 2 refine pu (ev tab rfl) rfl ?_
      refine WO.nil ?_
      refine qs ?_
      refine W.block ?_
      refine W.len (t := 29) rfl rfl (fun hlen => ?_)
      try simp only [List.length_map, Ex.kc_len] at hlen
      refine W.loopR (ι := {x : Nat × List Col // match x with | (k, out) => k ≤ [wFrom, wTo].length ∧ putT cols out ([wFrom, wTo].drop k) = TT ∧ out.length ≤ 1000 + k})
        (fun x => match x.1 with | (k, out) => [(6, .own 0 (out.map Col.c)), (31, .d (.v (.int .i64 ((k : Nat) : Int))))]) [(0, _), (29, _), (30, _)]
        (fun x => match x.1 with | (k, out) => []) [] [0] 1 (fun x => match x.1 with | (k, out) => [wFrom, wTo].length - k)
        [1] ⟨(0, (takeT cols [] s.cols).1), ?_⟩ rfl ?_ ⟨rfl, rfl, rfl, rfl, rfl, rfl, trivial⟩ ?_ trivial rfl ?_
      · exact ⟨Nat.zero_le _, hT, by simp at htl; omega⟩
      · repeat' first | exact trivial | refine ⟨rfl, ?_⟩ | refine ⟨step_nat (by assumption) (by assumption), ?_⟩
      · repeat' first | exact trivial | refine ⟨rfl, ?_⟩ | refine ⟨step_nat (by assumption) (by assumption), ?_⟩
      rintro ⟨⟨k, out⟩, hk, hI, hL⟩
      show W _ _ _ _ _ ⟨[(6, .own 0 (out.map Col.c)), (31, .d (.v (.int .i64 ((k : Nat) : Int)))), (0, _), (29, _), (30, _)], [], [0], 1⟩
      refine W.seq ?_
      refine W.region ?_
      refine pu (ev tab rfl) rfl ?_
      refine WO.nil ?_
      refine qs ?_
      refine W.seq ?_
      refine eachR (l := [wFrom, wTo]) (k := k) rfl (by simp [Ex.kc_len, bytes_len]) hk (fun x hx hd hlt => ?_) (fun he hd => ?_)
      · skip
        rw [hd] at hI
        simp only [putT] at hI
        have hlt2 : k < 2 := hlt
        refine W.skip ?_
        refine qs ?_
        refine W.seq ?_
        refine W.block ?_
        refine W.seq ?_
        refine W.region ?_
        refine pu (indexAddr (es := [wFrom, wTo].map sc) tab rfl rfl rfl rfl rfl rfl (Int.natCast_nonneg _) (idx_map hx) rfl) rfl ?_
        first | refine pu (ev tab rfl) rfl ?_ | refine pu (loadRow tab rfl rfl rfl rfl) rfl ?_ | refine pu (loadBox tab rfl rfl rfl rfl rfl) rfl ?_
        refine pu (ev tab rfl) rfl ?_
        refine WO.nil ?_
        refine qs ?_
        refine W.seq ?_
        refine W.seq ?_
        refine W.region ?_
        iterate 2 refine pu (ev tab rfl) rfl ?_
        refine pu (puCall rfl rfl rfl (integer_fn cols x) rfl) rfl ?_
        refine pu (ev tab rfl) rfl ?_
        refine WO.nil ?_
        refine qs ?_
        refine W.seq ?_
        refine W.region ?_
        iterate 2 refine pu (ev tab rfl) rfl ?_
        refine WO.nil ?_
        refine qs ?_
        refine condK rfl (fun h39 => ?_) (fun h39 => ?_)
        · skip
          rw [if_pos (by simpa using h39)] at hI
          refine W.seq ?_
          refine W.region ?_
          iterate 3 refine pu (ev tab rfl) rfl ?_
          refine WO.nil ?_
          refine qs ?_
          try refine ownNilR (d := 4) rfl rfl ?_
          refine W.ret ?_
          refine qsRet ?_
          refine qbRet ?_
          refine qsRet ?_
          refine qlRet ?_
          refine qbRet ?_
          refine qsRet ?_
          refine QF.ret0 trivial rfl ?_
          rw [hg, ← hI]; rfl
        · skip
          rw [if_neg (by simpa using h39)] at hI
          refine W.skip ?_
          refine qs ?_
          refine W.region ?_
          iterate 2 refine pu (ev tab rfl) rfl ?_
          refine pu (build tab rfl rfl rfl rfl) rfl ?_
          refine pu (buildV tab rfl rfl rfl rfl rfl rfl rfl rfl rfl) rfl ?_
          refine appendM (fn := Col.c) (a := ⟨x, 2⟩) tab rfl rfl rfl rfl rfl rfl rfl rfl rfl rfl (fun _ => rfl) (by show (out.length + 1) * 24 ≤ _; omega) ?_
          refine pu (ev tab rfl) rfl ?_
          refine WO.nil ?_
          refine qbN ?_
          refine qs ?_
          refine W.region ?_
          iterate 2 refine pu (ev tab rfl) rfl ?_
          refine WO.nil ?_
          refine W.endR [1] ⟨(k + 1, out ++ [⟨x, 2⟩]), ?_⟩ ?_ rfl ?_ ⟨rfl, rfl, rfl, rfl, rfl, rfl, trivial⟩ ?_ trivial rfl
          · exact ⟨hlt, hI, by simp; omega⟩
          · dsimp only; omega
          · repeat' first | exact trivial | refine ⟨rfl, ?_⟩ | refine ⟨step_nat (by assumption) (by assumption), ?_⟩
          · repeat' first | exact trivial | refine ⟨rfl, ?_⟩ | refine ⟨step_nat (by assumption) (by assumption), ?_⟩
      · skip
        rw [hd] at hI
        simp only [putT] at hI
        refine W.exit ?_
        refine qsExit ?_
        refine qlExit ?_
        refine qbExit ?_
        refine qs ?_
        refine W.seq ?_
        refine W.region ?_
        iterate 3 refine pu (ev tab rfl) rfl ?_
        refine WO.nil ?_
        refine qs ?_
        try refine ownNilR (d := 4) rfl rfl ?_
        refine W.ret ?_
        refine QF.ret0 trivial rfl ?_
        rw [hg, ← hI]; rfl

theorem joined1_fn (n : ByteArray) (s : Stp) : Does Tryz.prog 59 [.d (.v (.string n)), .row (s.c.map A.d)] (.d (.v (.bool (s.cols.any fun x => decide (n = x))))) 0 := by
  refine Does.of_W (n := 8) (ts := [3]) Tryz.func59 (by kernel_rfl) rfl Tryz.ntmps59 Tryz.results59 rfl rfl fun C hC => ?_
  refine W.seq ?_
  refine W.region ?_
  refine pu (ev tab rfl) rfl ?_
  refine WO.nil ?_
  refine qs ?_
  refine W.seq ?_
  refine W.region ?_
  refine pu (ev tab rfl) rfl ?_
  first | refine pu (ev tab rfl) rfl ?_ | refine pu (loadRow tab rfl rfl rfl rfl) rfl ?_ | refine pu (loadBox tab rfl rfl rfl rfl rfl) rfl ?_
  refine pu (ev tab rfl) rfl ?_
  refine pu (puCall rfl rfl rfl (contains_fn s.cols n) rfl) rfl ?_
  refine pu (ev tab rfl) rfl ?_
  refine WO.nil ?_
  refine qs ?_
  refine W.ret ?_
  refine QF.ret0 trivial rfl ?_
  rfl
end Go.Proofs.YtmhjgeneogknpaaGreat
namespace Go.Proofs.YtmhjgeneogknpaaGreat
open Go.Ab Go.Tb
set_option maxRecDepth 10000
attribute [local irreducible] W WO Pu QS QB QL QF QV QV1 CH QE
def sidesErr (spans : List ByteArray) : List (List Col) → Int
  | [] => 0
  | c :: r => if intsErr c spans ≠ 0 then intsErr c spans else sidesErr spans r

theorem joinT_eq (cols right : List Col) (s : Stp) : joinT cols right s =
    if (spansOf s.op).any (fun n => s.cols.any fun x => decide (n = x)) then ([], 4)
    else if onErr cols right s.cols ≠ 0 then ([], onErr cols right s.cols)
    else if sidesErr (spansOf s.op) [cols, right] ≠ 0 then ([], sidesErr (spansOf s.op) [cols, right])
    else outT (cols ++ restOf s.cols (spansOf s.op) right) := by
  unfold joinT
  simp only [sidesErr]
  by_cases h1 : intsErr cols (spansOf s.op) = 0 <;> by_cases h2 : intsErr right (spansOf s.op) = 0 <;> simp [h1, h2]

@[reducible] def lc (c : List Col) : List D := [.sl (c.map Col.c)]

theorem findT_mem {d : List Nmd} {name : ByteArray} {t : Tbl} (h : findT d name = some t) : ∃ x ∈ d, x.table = t := by
  unfold findT at h
  cases hf : d.find? (fun x => decide (x.name = name)) with
  | none => rw [hf] at h; cases h
  | some x => rw [hf] at h; exact ⟨x, List.mem_of_find?_eq_some hf, Option.some.inj h⟩

theorem onErr_none {a b : List Col} {x : ByteArray} {r : List ByteArray} (h : findCol a x = none ∨ findCol b x = none) : onErr a b (x :: r) = 16 := by
  simp only [onErr]
  rcases h with h | h
  · rw [h]
  · rw [h]; cases findCol a x <;> rfl
theorem onErr_some {a b : List Col} {x : ByteArray} {r : List ByteArray} {c e : Col} (h : findCol a x = some c) (h' : findCol b x = some e) : onErr a b (x :: r) = if c.type ≠ e.type then 14 else onErr a b r := by
  simp only [onErr, h, h']

theorem joined_fn (d : List Nmd) (cols : List Col) (s : Stp) (hc : cols.length ≤ 1000) (hd1 : ∀ x ∈ d, x.table.cols.length ≤ 1000) : Does Tryz.prog 26 [.d (.sl (d.map Nmd.c)), .d (.sl (cols.map Col.c)), .ag s.c]
    (.tup [.d (.sl ((joinedT d cols s).1.map Col.c)), .d (.v (.int .i64 (joinedT d cols s).2))]) 0 := by
  refine Does.of_W (n := 149) (ts := [6, 7]) Tryz.func26 (by kernel_rfl) rfl Tryz.ntmps26 Tryz.results26 rfl rfl fun C hC => ?_
  refine W.seq ?_
  refine W.region ?_
  refine boxR rfl rfl rfl ?_
  iterate 2 refine pu (ev tab rfl) rfl ?_
  refine WO.nil ?_
  refine qs ?_
  refine W.seq ?_
  obtain ⟨p, q, hpq⟩ := tcells2 (findT d s.table)
  have hf := find_fn d s.table
  rw [hpq] at hf
  refine W.region ?_
  iterate 2 refine pu (ev tab rfl) rfl ?_
  first | refine pu (ev tab rfl) rfl ?_ | refine pu (loadRow tab rfl rfl rfl rfl) rfl ?_ | refine pu (loadBox tab rfl rfl rfl rfl rfl) rfl ?_
  refine pu (puCall rfl rfl rfl hf rfl) rfl ?_
  iterate 3 refine pu (ev tab rfl) rfl ?_
  refine allocR tab rfl rfl rfl ?_
  refine storeR tab rfl rfl rfl rfl rfl rfl rfl rfl ?_
  refine pu (ev tab rfl) rfl ?_
  refine WO.nil ?_
  refine qs ?_
  refine W.seq ?_
  refine W.seq ?_
  refine W.region ?_
  iterate 2 refine pu (ev tab rfl) rfl ?_
  refine WO.nil ?_
  refine qs ?_
  refine condK rfl (fun h33 => ?_) (fun h33 => ?_)
  · skip
    have hg : joinedT d cols s = ([], 17) := by cases hq : findT d s.table with | none => simp [joinedT, hq] | some t => rw [hq] at h33; simp at h33
    refine W.seq ?_
    refine W.region ?_
    iterate 2 refine pu (ev tab rfl) rfl ?_
    refine WO.nil ?_
    refine qs ?_
    try refine ownNilR (d := 6) rfl rfl ?_
    refine W.ret ?_
    refine qsRet ?_
    refine QF.ret0 trivial rfl ?_
    rw [hg]; rfl
  · skip
    obtain ⟨t, ht⟩ : ∃ t, findT d s.table = some t := by cases hq : findT d s.table with | none => rw [hq] at h33; simp at h33 | some t => exact ⟨t, rfl⟩
    have hg : joinedT d cols s = joinT cols t.cols s := by simp [joinedT, ht]
    rw [joinT_eq] at hg
    have htc : t.cols.length ≤ 1000 := by obtain ⟨x, hx, rfl⟩ := findT_mem ht; exact hd1 x hx
    rw [ht] at hpq
    simp only [tcells, Tbl.c, List.cons.injEq, and_true] at hpq
    obtain ⟨rfl, rfl⟩ := hpq
    refine W.skip ?_
    refine qs ?_
    refine W.seq ?_
    refine W.region ?_
    refine pu (ev tab rfl) rfl ?_
    refine WO.nil ?_
    refine qs ?_
    refine W.seq ?_
    refine W.seq ?_
    refine W.region ?_
    refine pu (ev tab rfl) rfl ?_
    first | refine pu (ev tab rfl) rfl ?_ | refine pu (loadRow tab rfl rfl rfl rfl) rfl ?_ | refine pu (loadBox tab rfl rfl rfl rfl rfl) rfl ?_
    refine WO.nil ?_
    refine qs ?_
    refine W.cutS [(5, .ptr 0 0), (8, .ptr 1 0), (10, .d (.sl ((spansOf s.op).map sc)))] [1] [] [0, 1] [] 2 ?_ ?_
    · skip
      refine W.block ?_
      refine W.seq ?_
      refine W.region ?_
      iterate 2 refine pu (ev tab rfl) rfl ?_
      refine WO.nil ?_
      refine qs ?_
      refine condK rfl (fun h36 => ?_) (fun h36 => ?_)
      · skip
        have h36 : s.op = 7 := by simpa using h36
        have hsp : spansOf s.op = [wFrom, wTo] := by simp [spansOf, h36]
        refine W.region ?_
        refine pu (buildV tab rfl rfl rfl rfl rfl rfl rfl rfl rfl) rfl ?_
        refine pu (ev tab rfl) rfl ?_
        refine WO.nil ?_
        refine qbN ?_
        refine cutEnd [0, 1] rfl ?_ ⟨rfl, rfl, trivial⟩ ?_ ⟨rfl, rfl, rfl, rfl, trivial⟩ rfl
        · rw [hsp]; exact ⟨rfl, rfl, rfl, trivial⟩
        · repeat' first | exact trivial | refine ⟨rfl, ?_⟩ | refine ⟨step_nat (by assumption) (by assumption), ?_⟩
      · skip
        have h36 : ¬ s.op = 7 := by simpa using h36
        refine W.seq ?_
        refine W.region ?_
        iterate 2 refine pu (ev tab rfl) rfl ?_
        refine WO.nil ?_
        refine qs ?_
        refine condK rfl (fun h39 => ?_) (fun h39 => ?_)
        · skip
          have h39 : s.op = 8 := by simpa using h39
          have hsp : spansOf s.op = [wFrom] := by simp [spansOf, h39]
          refine W.region ?_
          refine pu (buildV tab rfl rfl rfl rfl rfl rfl rfl rfl rfl) rfl ?_
          refine pu (ev tab rfl) rfl ?_
          refine WO.nil ?_
          refine qbN ?_
          refine cutEnd [0, 1] rfl ?_ ⟨rfl, rfl, trivial⟩ ?_ ⟨rfl, rfl, rfl, rfl, trivial⟩ rfl
          · rw [hsp]; exact ⟨rfl, rfl, rfl, trivial⟩
          · repeat' first | exact trivial | refine ⟨rfl, ?_⟩ | refine ⟨step_nat (by assumption) (by assumption), ?_⟩
        · skip
          have h39 : ¬ s.op = 8 := by simpa using h39
          have hsp : spansOf s.op = [] := by simp [spansOf, h36, h39]
          refine nilSl (t := 10) rfl ?_
          refine W.skip ?_
          refine qbN ?_
          refine cutEnd [0, 1] rfl ?_ ⟨rfl, rfl, trivial⟩ ?_ ⟨rfl, rfl, rfl, rfl, trivial⟩ rfl
          · rw [hsp]; exact ⟨rfl, rfl, rfl, trivial⟩
          · repeat' first | exact trivial | refine ⟨rfl, ?_⟩ | refine ⟨step_nat (by assumption) (by assumption), ?_⟩
    refine qs ?_
    refine W.seq ?_
    refine W.seq ?_
    refine W.region ?_
    iterate 2 refine pu (ev tab rfl) rfl ?_
    refine pu (puCall rfl rfl rfl (containsStr_fn _ _ ⟨fun _ _ => rfl, rfl⟩ _ (fun n => joined1_fn n s) (spansOf s.op)) rfl) rfl ?_
    refine WO.nil ?_
    refine qs ?_
    refine condK rfl (fun h44 => ?_) (fun h44 => ?_)
    · skip
      rw [if_pos h44] at hg
      refine W.seq ?_
      refine W.region ?_
      iterate 2 refine pu (ev tab rfl) rfl ?_
      refine WO.nil ?_
      refine qs ?_
      try refine ownNilR (d := 6) rfl rfl ?_
      refine W.ret ?_
      refine qsRet ?_
      refine QF.ret0 trivial rfl ?_
      rw [hg]; rfl
    · skip
      rw [if_neg (by rw [h44]; decide)] at hg
      refine W.skip ?_
      refine qs ?_
      refine W.seq ?_
      refine W.seq ?_
      refine W.region ?_
      refine pu (ev tab rfl) rfl ?_
      first | refine pu (ev tab rfl) rfl ?_ | refine pu (loadRow tab rfl rfl rfl rfl) rfl ?_ | refine pu (loadBox tab rfl rfl rfl rfl rfl) rfl ?_
      iterate 2 refine pu (ev tab rfl) rfl ?_
      refine WO.nil ?_
      refine qs ?_
      refine W.block ?_
      refine W.len (t := 46) rfl rfl (fun hlen => ?_)
      try simp only [List.length_map, Ex.kc_len] at hlen
      refine W.loopR (ι := {x : Nat // match x with | k => k ≤ s.cols.length ∧ onErr cols t.cols (s.cols.drop k) = onErr cols t.cols s.cols})
        (fun x => match x.1 with | k => [(5, .ptr 0 0), (8, .ptr 1 0), (48, .d (.v (.int .i64 ((k : Nat) : Int))))]) [(1, _), (10, _), (46, _), (47, _)]
        (fun x => match x.1 with | k => []) [(0, _), (1, _)] [] 2 (fun x => match x.1 with | k => s.cols.length - k)
        [0, 1] ⟨0, ?_⟩ rfl ?_ ⟨rfl, rfl, rfl, rfl, rfl, rfl, rfl, rfl, trivial⟩ ?_ ⟨rfl, rfl, rfl, rfl, trivial⟩ rfl ?_
      · first | exact ⟨Nat.zero_le _, rfl⟩ | exact trivial | simp
      · repeat' first | exact trivial | refine ⟨rfl, ?_⟩ | refine ⟨step_nat (by assumption) (by assumption), ?_⟩
      · repeat' first | exact trivial | refine ⟨rfl, ?_⟩ | refine ⟨step_nat (by assumption) (by assumption), ?_⟩
      rintro ⟨k, hk, hI⟩
      show W _ _ _ _ _ ⟨[(5, .ptr 0 0), (8, .ptr 1 0), (48, .d (.v (.int .i64 ((k : Nat) : Int)))), (1, _), (10, _), (46, _), (47, _)], [(0, _), (1, _)], [], 2⟩
      refine W.seq ?_
      refine W.region ?_
      refine pu (ev tab rfl) rfl ?_
      refine WO.nil ?_
      refine qs ?_
      refine W.seq ?_
      refine eachR (l := s.cols) (k := k) rfl (by simp [Ex.kc_len, bytes_len]) hk (fun x hx hd hlt => ?_) (fun he hd => ?_)
      · skip
        rw [hd] at hI
        refine W.skip ?_
        refine qs ?_
        refine W.seq ?_
        refine W.block ?_
        refine W.seq ?_
        refine W.region ?_
        refine pu (indexAddr tab rfl rfl rfl rfl rfl rfl (Int.natCast_nonneg _) (idx_map hx) rfl) rfl ?_
        first | refine pu (ev tab rfl) rfl ?_ | refine pu (loadRow tab rfl rfl rfl rfl) rfl ?_ | refine pu (loadBox tab rfl rfl rfl rfl rfl) rfl ?_
        refine pu (ev tab rfl) rfl ?_
        refine WO.nil ?_
        refine qs ?_
        refine W.seq ?_
        refine W.regionD tab (by kernel_rfl) ?_
        refine chPu (ev tab rfl) rfl ?_
        refine chPu (ev tab rfl) rfl ?_
        refine chPu (puCall rfl rfl rfl (column_fn ..) rfl) rfl ?_
        refine chPu (ev tab rfl) rfl ?_
        first | refine chPu (ev tab rfl) rfl ?_ | refine chPu (loadRow tab rfl rfl rfl rfl) rfl ?_ | refine chPu (loadBox tab rfl rfl rfl rfl rfl) rfl ?_
        refine chPu (ev tab rfl) rfl ?_
        refine chPu (puCall rfl rfl rfl (column_fn ..) rfl) rfl ?_
        refine chPu (ev tab rfl) rfl ?_
        refine chPu (ev tab rfl) rfl ?_
        refine CH.nil ?_
        refine qs ?_
        refine W.block ?_
        refine W.seq ?_
        apply regionB; (case hb => rfl)
        · skip
          iterate 3 refine pu (ev tab rfl) rfl ?_
          apply splitJ; (case hj => rfl); (case hl => rfl)
          · skip
            refine skipT rfl rfl rfl rfl ?_
            refine skipT rfl rfl rfl rfl ?_
            iterate 2 refine pu (ev tab rfl) rfl ?_
            refine WO.nil ?_
            refine qv1 rfl rfl rfl
          · skip
            refine goG rfl rfl ?_
            refine pu (ev tab rfl) rfl ?_
            refine goG rfl rfl ?_
            iterate 3 refine pu (ev tab rfl) rfl ?_
            refine WO.nil ?_
            refine qv1 rfl rfl rfl
        refine qs ?_
        refine condK rfl (fun h59 => ?_) (fun h59 => ?_)
        · skip
          have h5 : findCol cols x = none ∨ findCol t.cols x = none := by
            by_cases q1 : idx (cols.findIdx? fun c => decide (c.name = x)) < 0
            · exact .inl (find_none q1)
            · refine .inr (find_none ?_)
              revert h59
              simp [q1]
          rw [onErr_none h5] at hI
          rw [← hI, if_pos (by decide)] at hg
          refine W.seq ?_
          refine W.region ?_
          iterate 2 refine pu (ev tab rfl) rfl ?_
          refine WO.nil ?_
          refine qs ?_
          try refine ownNilR (d := 6) rfl rfl ?_
          refine W.ret ?_
          refine qbRet ?_
          refine qbRet ?_
          refine qsRet ?_
          refine qlRet ?_
          refine qbRet ?_
          refine qsRet ?_
          refine QF.ret0 trivial rfl ?_
          rw [hg]; rfl
        · skip
          have h59' : ¬ (idx (cols.findIdx? fun c => decide (c.name = x)) < 0) ∧ ¬ (idx (t.cols.findIdx? fun c => decide (c.name = x)) < 0) := by
            revert h59
            generalize idx (cols.findIdx? fun c => decide (c.name = x)) = u
            generalize idx (t.cols.findIdx? fun c => decide (c.name = x)) = v
            by_cases q1 : u < 0 <;> by_cases q2 : v < 0 <;> simp [q1, q2]
          obtain ⟨i, a, a3, a4, a5, a6⟩ := find_some h59'.1
          obtain ⟨j, b, b3, b4, b5, b6⟩ := find_some h59'.2
          rw [onErr_some (c := a) (e := b) a5 b5] at hI
          refine W.seq ?_
          refine W.regionD tab (by kernel_rfl) ?_
          refine chPu (ev tab rfl) rfl ?_
          refine chPu (ev tab rfl) rfl ?_
          refine chPu (indexAddr tab rfl rfl rfl rfl rfl rfl (i := idx _) (by rw [a3]; exact Int.natCast_nonneg _) (by rw [a3]; exact idx_map a4) rfl) rfl ?_
          refine chPu (ev tab rfl) rfl ?_
          first | refine chPu (ev tab rfl) rfl ?_ | refine chPu (loadRow tab rfl rfl rfl rfl) rfl ?_ | refine chPu (loadBox tab rfl rfl rfl rfl rfl) rfl ?_
          refine chPu (ev tab rfl) rfl ?_
          first | refine chPu (ev tab rfl) rfl ?_ | refine chPu (loadRow tab rfl rfl rfl rfl) rfl ?_ | refine chPu (loadBox tab rfl rfl rfl rfl rfl) rfl ?_
          refine chPu (ev tab rfl) rfl ?_
          refine chPu (indexAddr tab rfl rfl rfl rfl rfl rfl (i := idx _) (by rw [b3]; exact Int.natCast_nonneg _) (by rw [b3]; exact idx_map b4) rfl) rfl ?_
          refine chPu (ev tab rfl) rfl ?_
          first | refine chPu (ev tab rfl) rfl ?_ | refine chPu (loadRow tab rfl rfl rfl rfl) rfl ?_ | refine chPu (loadBox tab rfl rfl rfl rfl rfl) rfl ?_
          refine chPu (ev tab rfl) rfl ?_
          refine chPu (ev tab rfl) rfl ?_
          refine CH.nil ?_
          refine qs ?_
          refine condK rfl (fun h66 => ?_) (fun h66 => ?_)
          · skip
            have h66 : a.type ≠ b.type := by simpa using h66
            rw [if_pos h66] at hI
            rw [← hI, if_pos (by decide)] at hg
            refine W.seq ?_
            refine W.region ?_
            iterate 2 refine pu (ev tab rfl) rfl ?_
            refine WO.nil ?_
            refine qs ?_
            try refine ownNilR (d := 6) rfl rfl ?_
            refine W.ret ?_
            refine qbRet ?_
            refine qbRet ?_
            refine qsRet ?_
            refine qlRet ?_
            refine qbRet ?_
            refine qsRet ?_
            refine QF.ret0 trivial rfl ?_
            rw [hg]; rfl
          · skip
            have h66 : ¬ (a.type ≠ b.type) := by simpa using h66
            rw [if_neg h66] at hI
            refine W.skip ?_
            refine qbN ?_
            refine qbN ?_
            refine qs ?_
            refine W.region ?_
            iterate 2 refine pu (ev tab rfl) rfl ?_
            refine WO.nil ?_
            refine W.endR [0, 1] ⟨k + 1, ?_⟩ ?_ rfl ?_ ⟨rfl, rfl, rfl, rfl, rfl, rfl, rfl, rfl, trivial⟩ ?_ ⟨rfl, rfl, rfl, rfl, trivial⟩ rfl
            · exact ⟨hlt, hI⟩
            · dsimp only; omega
            · repeat' first | exact trivial | refine ⟨rfl, ?_⟩ | refine ⟨step_nat (by assumption) (by assumption), ?_⟩
            · repeat' first | exact trivial | refine ⟨rfl, ?_⟩ | refine ⟨step_nat (by assumption) (by assumption), ?_⟩
      · skip
        rw [hd] at hI
        simp only [onErr] at hI
        rw [← hI] at hg
        simp only [ne_eq, not_true_eq_false, if_false] at hg
        generalize hS : sidesErr (spansOf s.op) [cols, t.cols] = SS at hg
        refine W.exit ?_
        refine qsExit ?_
        refine qlExit ?_
        refine qbExit ?_
        refine qs ?_
        refine W.seq ?_
        refine W.seq ?_
        refine W.region ?_
        iterate 2 refine pu (ev tab rfl) rfl ?_
        first | refine pu (ev tab rfl) rfl ?_ | refine pu (loadRow tab rfl rfl rfl rfl) rfl ?_ | refine pu (loadBox tab rfl rfl rfl rfl rfl) rfl ?_
        refine pu (buildV (es := [cols, t.cols].map lc) tab rfl rfl rfl rfl rfl rfl rfl rfl rfl) rfl ?_
        iterate 2 refine pu (ev tab rfl) rfl ?_
        refine WO.nil ?_
        refine qs ?_
        refine W.block ?_
        refine W.len (t := 83) rfl rfl (fun hlen => ?_)
        try simp only [List.length_map, Ex.kc_len] at hlen
        refine W.loopR (ι := {x : Nat // match x with | k => k ≤ [cols, t.cols].length ∧ sidesErr (spansOf s.op) ([cols, t.cols].drop k) = SS})
          (fun x => match x.1 with | k => [(5, .ptr 0 0), (8, .ptr 1 0), (85, .d (.v (.int .i64 ((k : Nat) : Int))))]) [(1, _), (10, _), (83, _), (84, _)]
          (fun x => match x.1 with | k => []) [(0, _), (1, _)] [] 2 (fun x => match x.1 with | k => [cols, t.cols].length - k)
          [0, 1] ⟨0, ?_⟩ rfl ?_ ⟨rfl, rfl, rfl, rfl, rfl, rfl, rfl, rfl, trivial⟩ ?_ ⟨rfl, rfl, rfl, rfl, trivial⟩ rfl ?_
        · exact ⟨Nat.zero_le _, hS⟩
        · repeat' first | exact trivial | refine ⟨rfl, ?_⟩ | refine ⟨step_nat (by assumption) (by assumption), ?_⟩
        · repeat' first | exact trivial | refine ⟨rfl, ?_⟩ | refine ⟨step_nat (by assumption) (by assumption), ?_⟩
        rintro ⟨k, hk, hK⟩
        show W _ _ _ _ _ ⟨[(5, .ptr 0 0), (8, .ptr 1 0), (85, .d (.v (.int .i64 ((k : Nat) : Int)))), (1, _), (10, _), (83, _), (84, _)], [(0, _), (1, _)], [], 2⟩
        refine W.seq ?_
        refine W.region ?_
        refine pu (ev tab rfl) rfl ?_
        refine WO.nil ?_
        refine qs ?_
        refine W.seq ?_
        refine eachR (l := [cols, t.cols]) (k := k) rfl (by simp [Ex.kc_len, bytes_len]) hk (fun c hx hd hlt => ?_) (fun he hd => ?_)
        · skip
          rw [hd] at hK
          simp only [sidesErr] at hK
          refine W.skip ?_
          refine qs ?_
          refine W.seq ?_
          refine W.block ?_
          refine W.seq ?_
          refine W.region ?_
          refine pu (indexAddr (es := [cols, t.cols].map lc) tab rfl rfl rfl rfl rfl rfl (Int.natCast_nonneg _) (idx_map hx) rfl) rfl ?_
          first | refine pu (ev tab rfl) rfl ?_ | refine pu (loadRow tab rfl rfl rfl rfl) rfl ?_ | refine pu (loadBox tab rfl rfl rfl rfl rfl) rfl ?_
          refine pu (ev tab rfl) rfl ?_
          refine WO.nil ?_
          refine qs ?_
          refine W.seq ?_
          refine W.region ?_
          iterate 3 refine pu (ev tab rfl) rfl ?_
          refine WO.nil ?_
          refine qs ?_
          refine W.block ?_
          refine W.len (t := 89) rfl rfl (fun hlen => ?_)
          try simp only [List.length_map, Ex.kc_len] at hlen
          refine W.loopR (ι := {x : Nat // match x with | j => j ≤ (spansOf s.op).length ∧ intsErr c ((spansOf s.op).drop j) = intsErr c (spansOf s.op)})
            (fun x => match x.1 with | j => [(5, .ptr 0 0), (8, .ptr 1 0), (91, .d (.v (.int .i64 ((j : Nat) : Int))))]) [(1, _), (10, _), (16, _), (83, _), (84, _), (85, _), (89, _), (90, _)]
            (fun x => match x.1 with | j => []) [(0, _), (1, _)] [] 2 (fun x => match x.1 with | j => (spansOf s.op).length - j)
            [0, 1] ⟨0, ?_⟩ rfl ?_ ⟨rfl, rfl, rfl, rfl, rfl, rfl, rfl, rfl, rfl, rfl, rfl, rfl, rfl, rfl, rfl, rfl, trivial⟩ ?_ ⟨rfl, rfl, rfl, rfl, trivial⟩ rfl ?_
          · first | exact ⟨Nat.zero_le _, rfl⟩ | exact trivial | simp
          · repeat' first | exact trivial | refine ⟨rfl, ?_⟩ | refine ⟨step_nat (by assumption) (by assumption), ?_⟩
          · repeat' first | exact trivial | refine ⟨rfl, ?_⟩ | refine ⟨step_nat (by assumption) (by assumption), ?_⟩
          rintro ⟨j, hk, hJ⟩
          show W _ _ _ _ _ ⟨[(5, .ptr 0 0), (8, .ptr 1 0), (91, .d (.v (.int .i64 ((j : Nat) : Int)))), (1, _), (10, _), (16, _), (83, _), (84, _), (85, _), (89, _), (90, _)], [(0, _), (1, _)], [], 2⟩
          refine W.seq ?_
          refine W.region ?_
          refine pu (ev tab rfl) rfl ?_
          refine WO.nil ?_
          refine qs ?_
          refine W.seq ?_
          refine eachR (l := spansOf s.op) (k := j) rfl (by simp [Ex.kc_len, bytes_len]) hk (fun m hx hd hlt => ?_) (fun he hd => ?_)
          · skip
            rw [hd] at hJ
            simp only [intsErr] at hJ
            refine W.skip ?_
            refine qs ?_
            refine W.seq ?_
            refine W.block ?_
            refine W.seq ?_
            refine W.region ?_
            refine pu (indexAddr tab rfl rfl rfl rfl rfl rfl (Int.natCast_nonneg _) (idx_map hx) rfl) rfl ?_
            first | refine pu (ev tab rfl) rfl ?_ | refine pu (loadRow tab rfl rfl rfl rfl) rfl ?_ | refine pu (loadBox tab rfl rfl rfl rfl rfl) rfl ?_
            refine pu (ev tab rfl) rfl ?_
            refine WO.nil ?_
            refine qs ?_
            refine W.seq ?_
            refine W.region ?_
            iterate 2 refine pu (ev tab rfl) rfl ?_
            refine pu (puCall rfl rfl rfl (integer_fn c m) rfl) rfl ?_
            refine pu (ev tab rfl) rfl ?_
            refine WO.nil ?_
            refine qs ?_
            refine W.seq ?_
            refine W.region ?_
            iterate 2 refine pu (ev tab rfl) rfl ?_
            refine WO.nil ?_
            refine qs ?_
            refine condK rfl (fun h99 => ?_) (fun h99 => ?_)
            · skip
              have h99 : intErr c m ≠ 0 := by simpa using h99
              rw [if_pos h99] at hJ
              simp only [← hJ] at hK
              rw [if_pos h99] at hK
              simp only [← hK] at hg
              rw [if_pos h99] at hg
              refine W.seq ?_
              refine W.region ?_
              iterate 3 refine pu (ev tab rfl) rfl ?_
              refine WO.nil ?_
              refine qs ?_
              try refine ownNilR (d := 6) rfl rfl ?_
              refine W.ret ?_
              refine qbRet ?_
              refine qsRet ?_
              refine qlRet ?_
              refine qbRet ?_
              refine qbRet ?_
              refine qsRet ?_
              refine qlRet ?_
              refine qbRet ?_
              refine qsRet ?_
              refine QF.ret0 trivial rfl ?_
              rw [hg]; rfl
            · skip
              rw [if_neg (by simpa using h99)] at hJ
              refine W.skip ?_
              refine qbN ?_
              refine qs ?_
              refine W.region ?_
              iterate 2 refine pu (ev tab rfl) rfl ?_
              refine WO.nil ?_
              refine W.endR [0, 1] ⟨j + 1, ?_⟩ ?_ rfl ?_ ⟨rfl, rfl, rfl, rfl, rfl, rfl, rfl, rfl, rfl, rfl, rfl, rfl, rfl, rfl, rfl, rfl, trivial⟩ ?_ ⟨rfl, rfl, rfl, rfl, trivial⟩ rfl
              · exact ⟨hlt, hJ⟩
              · dsimp only; omega
              · repeat' first | exact trivial | refine ⟨rfl, ?_⟩ | refine ⟨step_nat (by assumption) (by assumption), ?_⟩
              · repeat' first | exact trivial | refine ⟨rfl, ?_⟩ | refine ⟨step_nat (by assumption) (by assumption), ?_⟩
          · skip
            rw [hd] at hJ
            simp only [intsErr] at hJ
            simp only [← hJ] at hK
            rw [if_neg (by decide)] at hK
            refine W.exit ?_
            refine qsExit ?_
            refine qlExit ?_
            refine qbExit ?_
            refine qbN ?_
            refine qs ?_
            refine W.region ?_
            iterate 2 refine pu (ev tab rfl) rfl ?_
            refine WO.nil ?_
            refine W.endR [0, 1] ⟨k + 1, ?_⟩ ?_ rfl ?_ ⟨rfl, rfl, rfl, rfl, rfl, rfl, rfl, rfl, trivial⟩ ?_ ⟨rfl, rfl, rfl, rfl, trivial⟩ rfl
            · exact ⟨hlt, hK⟩
            · dsimp only; omega
            · repeat' first | exact trivial | refine ⟨rfl, ?_⟩ | refine ⟨step_nat (by assumption) (by assumption), ?_⟩
            · repeat' first | exact trivial | refine ⟨rfl, ?_⟩ | refine ⟨step_nat (by assumption) (by assumption), ?_⟩
        · skip
          rw [hd] at hK
          simp only [sidesErr] at hK
          rw [← hK] at hg
          simp only [ne_eq, not_true_eq_false, if_false] at hg
          refine W.exit ?_
          refine qsExit ?_
          refine qlExit ?_
          refine qbExit ?_
          refine qs ?_
          refine W.seq ?_
          refine W.region ?_
          refine pu (ev tab rfl) rfl ?_
          refine callR rfl rfl rfl (clone_fn cols (by omega)) (by rfl) rfl rfl ?_
          refine pu (ev tab rfl) rfl ?_
          refine WO.nil ?_
          refine qs ?_
          refine W.seq ?_
          refine W.seq ?_
          refine W.region ?_
          refine pu (ev tab rfl) rfl ?_
          first | refine pu (ev tab rfl) rfl ?_ | refine pu (loadRow tab rfl rfl rfl rfl) rfl ?_ | refine pu (loadBox tab rfl rfl rfl rfl rfl) rfl ?_
          iterate 2 refine pu (ev tab rfl) rfl ?_
          refine WO.nil ?_
          refine qs ?_
          refine W.block ?_
          refine W.len (t := 106) rfl rfl (fun hlen => ?_)
          try simp only [List.length_map, Ex.kc_len] at hlen
          refine W.loopR (ι := {x : Nat × List Col // match x with | (k, out) => k ≤ t.cols.length ∧ out ++ restOf s.cols (spansOf s.op) (t.cols.drop k) = cols ++ restOf s.cols (spansOf s.op) t.cols ∧ out.length ≤ 1000 + k})
            (fun x => match x.1 with | (k, out) => [(5, .ptr 0 0), (20, .own 1 (out.map Col.c)), (108, .d (.v (.int .i64 ((k : Nat) : Int))))]) [(10, _), (106, _), (107, _)]
            (fun x => match x.1 with | (k, out) => []) [(0, _)] [1] 2 (fun x => match x.1 with | (k, out) => t.cols.length - k)
            [0, 2] ⟨(0, cols), ?_⟩ rfl ?_ ⟨rfl, rfl, rfl, rfl, rfl, rfl, trivial⟩ ?_ ⟨rfl, rfl, trivial⟩ rfl ?_
          · exact ⟨Nat.zero_le _, rfl, by omega⟩
          · repeat' first | exact trivial | refine ⟨rfl, ?_⟩ | refine ⟨step_nat (by assumption) (by assumption), ?_⟩
          · repeat' first | exact trivial | refine ⟨rfl, ?_⟩ | refine ⟨step_nat (by assumption) (by assumption), ?_⟩
          rintro ⟨⟨k, out⟩, hk, hL, hN⟩
          show W _ _ _ _ _ ⟨[(5, .ptr 0 0), (20, .own 1 (out.map Col.c)), (108, .d (.v (.int .i64 ((k : Nat) : Int)))), (10, _), (106, _), (107, _)], [(0, _)], [1], 2⟩
          refine W.seq ?_
          refine W.region ?_
          refine pu (ev tab rfl) rfl ?_
          refine WO.nil ?_
          refine qs ?_
          refine W.seq ?_
          refine eachR (l := t.cols) (k := k) rfl (by simp [Ex.kc_len, bytes_len]) hk (fun c hx hd hlt => ?_) (fun he hd => ?_)
          · skip
            rw [hd] at hL
            refine W.skip ?_
            refine qs ?_
            refine W.seq ?_
            refine W.block ?_
            refine W.seq ?_
            refine W.region ?_
            refine pu (indexAddr tab rfl rfl rfl rfl rfl rfl (Int.natCast_nonneg _) (idx_map hx) rfl) rfl ?_
            first | refine pu (ev tab rfl) rfl ?_ | refine pu (loadRow tab rfl rfl rfl rfl) rfl ?_ | refine pu (loadBox tab rfl rfl rfl rfl rfl) rfl ?_
            refine allocR tab rfl rfl rfl ?_
            refine storeR tab rfl rfl rfl rfl rfl rfl rfl rfl ?_
            refine WO.nil ?_
            refine qs ?_
            refine W.seq ?_
            apply regionB; (case hb => rfl)
            · skip
              refine pu (ev tab rfl) rfl ?_
              first | refine pu (ev tab rfl) rfl ?_ | refine pu (loadRow tab rfl rfl rfl rfl) rfl ?_ | refine pu (loadBox tab rfl rfl rfl rfl rfl) rfl ?_
              refine pu (ev tab rfl) rfl ?_
              first | refine pu (ev tab rfl) rfl ?_ | refine pu (loadRow tab rfl rfl rfl rfl) rfl ?_ | refine pu (loadBox tab rfl rfl rfl rfl rfl) rfl ?_
              refine pu (puCall rfl rfl rfl (contains_fn s.cols c.name) rfl) rfl ?_
              iterate 2 refine pu (ev tab rfl) rfl ?_
              apply splitJ; (case hj => rfl); (case hl => rfl)
              · skip
                refine goG rfl rfl ?_
                refine pu (ev tab rfl) rfl ?_
                refine goG rfl rfl ?_
                refine pu (ev tab rfl) rfl ?_
                refine goG rfl rfl ?_
                first | refine pu (ev tab rfl) rfl ?_ | refine pu (loadRow tab rfl rfl rfl rfl) rfl ?_ | refine pu (loadBox tab rfl rfl rfl rfl rfl) rfl ?_
                refine goG rfl rfl ?_
                refine pu (puCall rfl rfl rfl (contains_fn (spansOf s.op) c.name) rfl) rfl ?_
                refine goG rfl rfl ?_
                iterate 2 refine pu (ev tab rfl) rfl ?_
                refine WO.nil ?_
                refine qv1 rfl rfl rfl
              · skip
                refine skipT rfl rfl rfl rfl ?_
                refine skipT rfl rfl rfl rfl ?_
                refine skipT rfl rfl rfl rfl ?_
                refine skipT rfl rfl rfl rfl ?_
                refine skipT rfl rfl rfl rfl ?_
                refine pu (ev tab rfl) rfl ?_
                refine WO.nil ?_
                refine qv1 rfl rfl rfl
            refine qs ?_
            refine condK rfl (fun h124 => ?_) (fun h124 => ?_)
            · skip
              have hr : restOf s.cols (spansOf s.op) (c :: t.cols.drop (k + 1)) = c :: restOf s.cols (spansOf s.op) (t.cols.drop (k + 1)) := by
                simp only [restOf]
                rw [List.filter_cons_of_pos]
                revert h124
                generalize s.cols.any (fun x => decide (c.name = x)) = u
                generalize (spansOf s.op).any (fun x => decide (c.name = x)) = v
                cases u <;> cases v <;> simp
              rw [hr] at hL
              refine W.region ?_
              refine pu (ev tab rfl) rfl ?_
              first | refine pu (ev tab rfl) rfl ?_ | refine pu (loadRow tab rfl rfl rfl rfl) rfl ?_ | refine pu (loadBox tab rfl rfl rfl rfl rfl) rfl ?_
              refine pu (buildV tab rfl rfl rfl rfl rfl rfl rfl rfl rfl) rfl ?_
              refine appendM (fn := Col.c) (a := c) tab rfl rfl rfl rfl rfl rfl rfl rfl rfl rfl (fun _ => rfl) (by show (out.length + 1) * 24 ≤ _; omega) ?_
              refine pu (ev tab rfl) rfl ?_
              refine WO.nil ?_
              refine qbN ?_
              refine qs ?_
              refine W.region ?_
              iterate 2 refine pu (ev tab rfl) rfl ?_
              refine WO.nil ?_
              first | (refine W.endR [0, 3] ⟨(k + 1, out ++ [c]), ?_⟩ ?_ rfl ?_ ⟨rfl, rfl, rfl, rfl, rfl, rfl, trivial⟩ ?_ ⟨rfl, rfl, trivial⟩ rfl) | (refine W.endR [0, 1] ⟨(k + 1, out), ?_⟩ ?_ rfl ?_ ⟨rfl, rfl, rfl, rfl, rfl, rfl, trivial⟩ ?_ ⟨rfl, rfl, trivial⟩ rfl)
              · first | exact ⟨hlt, by rw [← hL]; simp, by simp; omega⟩ | exact ⟨hlt, hL, by omega⟩
              · dsimp only; omega
              · repeat' first | exact trivial | refine ⟨rfl, ?_⟩ | refine ⟨step_nat (by assumption) (by assumption), ?_⟩
              · repeat' first | exact trivial | refine ⟨rfl, ?_⟩ | refine ⟨step_nat (by assumption) (by assumption), ?_⟩
            · skip
              have hr : restOf s.cols (spansOf s.op) (c :: t.cols.drop (k + 1)) = restOf s.cols (spansOf s.op) (t.cols.drop (k + 1)) := by
                simp only [restOf]
                rw [List.filter_cons_of_neg]
                revert h124
                generalize s.cols.any (fun x => decide (c.name = x)) = u
                generalize (spansOf s.op).any (fun x => decide (c.name = x)) = v
                cases u <;> cases v <;> simp
              rw [hr] at hL
              refine W.skip ?_
              refine qbN ?_
              refine qs ?_
              refine W.region ?_
              iterate 2 refine pu (ev tab rfl) rfl ?_
              refine WO.nil ?_
              first | (refine W.endR [0, 3] ⟨(k + 1, out ++ [c]), ?_⟩ ?_ rfl ?_ ⟨rfl, rfl, rfl, rfl, rfl, rfl, trivial⟩ ?_ ⟨rfl, rfl, trivial⟩ rfl) | (refine W.endR [0, 1] ⟨(k + 1, out), ?_⟩ ?_ rfl ?_ ⟨rfl, rfl, rfl, rfl, rfl, rfl, trivial⟩ ?_ ⟨rfl, rfl, trivial⟩ rfl)
              · first | exact ⟨hlt, by rw [← hL]; simp, by simp; omega⟩ | exact ⟨hlt, hL, by omega⟩
              · dsimp only; omega
              · repeat' first | exact trivial | refine ⟨rfl, ?_⟩ | refine ⟨step_nat (by assumption) (by assumption), ?_⟩
              · repeat' first | exact trivial | refine ⟨rfl, ?_⟩ | refine ⟨step_nat (by assumption) (by assumption), ?_⟩
          · skip
            rw [hd] at hL
            rw [show restOf s.cols (spansOf s.op) [] = [] from rfl, List.append_nil] at hL
            rw [← hL] at hg
            unfold outT at hg
            refine W.exit ?_
            refine qsExit ?_
            refine qlExit ?_
            refine qbExit ?_
            refine qs ?_
            refine W.seq ?_
            refine W.seq ?_
            refine W.region ?_
            iterate 3 refine pu (ev tab rfl) rfl ?_
            refine WO.nil ?_
            refine qs ?_
            refine W.block ?_
            refine W.len (t := 130) rfl rfl (fun hlen => ?_)
            try simp only [List.length_map, Ex.kc_len] at hlen
            refine W.loopR (ι := {x : Nat // match x with | k => k ≤ out.length ∧ twice out k (out.drop k) = twice out 0 out})
              (fun x => match x.1 with | k => [(20, .own 0 (out.map Col.c)), (130, .own 0 (out.map Col.c)), (132, .d (.v (.int .i64 ((k : Nat) : Int))))]) [(131, _)]
              (fun x => match x.1 with | k => []) [] [0] 1 (fun x => match x.1 with | k => out.length - k)
              [1] ⟨0, ?_⟩ rfl ?_ ⟨rfl, rfl, trivial⟩ ?_ trivial rfl ?_
            · first | exact ⟨Nat.zero_le _, rfl⟩ | exact trivial | simp
            · repeat' first | exact trivial | refine ⟨rfl, ?_⟩ | refine ⟨step_nat (by assumption) (by assumption), ?_⟩
            · repeat' first | exact trivial | refine ⟨rfl, ?_⟩ | refine ⟨step_nat (by assumption) (by assumption), ?_⟩
            rintro ⟨k, hk, hM⟩
            show W _ _ _ _ _ ⟨[(20, .own 0 (out.map Col.c)), (130, .own 0 (out.map Col.c)), (132, .d (.v (.int .i64 ((k : Nat) : Int)))), (131, _)], [], [0], 1⟩
            refine W.seq ?_
            refine W.region ?_
            refine pu (ev tab rfl) rfl ?_
            refine WO.nil ?_
            refine qs ?_
            refine W.seq ?_
            refine eachR (l := out) (k := k) rfl (by simp [Ex.kc_len, bytes_len]) hk (fun c hx hd hlt => ?_) (fun he hd => ?_)
            · skip
              rw [hd] at hM
              simp only [twice] at hM
              refine W.skip ?_
              refine qs ?_
              refine W.seq ?_
              refine W.block ?_
              refine W.seq ?_
              refine W.region ?_
              refine pu (ev tab rfl) rfl ?_
              refine pu (indexAddr tab rfl rfl rfl rfl rfl rfl (Int.natCast_nonneg _) (idx_map hx) rfl) rfl ?_
              first | refine pu (ev tab rfl) rfl ?_ | refine pu (loadRow tab rfl rfl rfl rfl) rfl ?_ | refine pu (loadBox tab rfl rfl rfl rfl rfl) rfl ?_
              refine allocR tab rfl rfl rfl ?_
              refine pu (ev tab rfl) rfl ?_
              refine storeR tab rfl rfl rfl rfl rfl rfl rfl rfl ?_
              refine WO.nil ?_
              refine qs ?_
              refine W.seq ?_
              refine W.regionD tab (by kernel_rfl) ?_
              refine chPu (ev tab rfl) rfl ?_
              refine chPu (ev tab rfl) rfl ?_
              refine chPu (slToM (fn := Col.c) tab rfl rfl rfl rfl rfl rfl (fun _ => rfl) (by omega)) rfl ?_
              refine chPu (ev tab rfl) rfl ?_
              first | refine chPu (ev tab rfl) rfl ?_ | refine chPu (loadRow tab rfl rfl rfl rfl) rfl ?_ | refine chPu (loadBox tab rfl rfl rfl rfl rfl) rfl ?_
              refine chPu (puCall rfl rfl rfl (column_fn (out.take k) c.name) rfl) rfl ?_
              refine chPu (ev tab rfl) rfl ?_
              refine CH.nil ?_
              refine qs ?_
              refine condK rfl (fun h143 => ?_) (fun h143 => ?_)
              · skip
                have h143 : ((out.take k).any fun y => decide (y.name = c.name)) = true := idx_nonneg.symm.trans h143
                rw [h143, Bool.true_or] at hM
                rw [if_pos hM.symm] at hg
                refine W.seq ?_
                refine W.region ?_
                iterate 2 refine pu (ev tab rfl) rfl ?_
                refine WO.nil ?_
                refine qs ?_
                try refine ownNilR (d := 6) rfl rfl ?_
                refine W.ret ?_
                refine qbRet ?_
                refine qsRet ?_
                refine qlRet ?_
                refine qbRet ?_
                refine qsRet ?_
                refine QF.ret0 trivial rfl ?_
                rw [hg]; rfl
              · skip
                have h143 : ((out.take k).any fun y => decide (y.name = c.name)) = false := idx_nonneg.symm.trans h143
                rw [h143, Bool.false_or] at hM
                refine W.skip ?_
                refine qbN ?_
                refine qs ?_
                refine W.region ?_
                iterate 2 refine pu (ev tab rfl) rfl ?_
                refine WO.nil ?_
                refine W.endR [0] ⟨k + 1, ?_⟩ ?_ rfl ?_ ⟨rfl, rfl, trivial⟩ ?_ trivial rfl
                · exact ⟨hlt, hM⟩
                · dsimp only; omega
                · repeat' first | exact trivial | refine ⟨rfl, ?_⟩ | refine ⟨step_nat (by assumption) (by assumption), ?_⟩
                · repeat' first | exact trivial | refine ⟨rfl, ?_⟩ | refine ⟨step_nat (by assumption) (by assumption), ?_⟩
            · skip
              rw [hd] at hM
              simp only [twice] at hM
              rw [if_neg (by rw [← hM]; decide)] at hg
              refine W.exit ?_
              refine qsExit ?_
              refine qlExit ?_
              refine qbExit ?_
              refine qs ?_
              refine W.seq ?_
              refine W.seq ?_
              refine W.region ?_
              iterate 3 refine pu (ev tab rfl) rfl ?_
              refine WO.nil ?_
              refine qs ?_
              refine condK rfl (fun h147 => ?_) (fun h147 => ?_)
              · skip
                rw [if_pos (by simp at h147; omega)] at hg
                refine W.seq ?_
                refine W.region ?_
                iterate 2 refine pu (ev tab rfl) rfl ?_
                refine WO.nil ?_
                refine qs ?_
                try refine ownNilR (d := 6) rfl rfl ?_
                refine W.ret ?_
                refine qsRet ?_
                refine QF.ret0 trivial rfl ?_
                rw [hg]; rfl
              · skip
                rw [if_neg (by simp at h147; omega)] at hg
                refine W.skip ?_
                refine qs ?_
                refine W.seq ?_
                refine W.region ?_
                iterate 3 refine pu (ev tab rfl) rfl ?_
                refine WO.nil ?_
                refine qs ?_
                try refine ownNilR (d := 6) rfl rfl ?_
                refine W.ret ?_
                refine QF.ret0 trivial rfl ?_
                rw [hg]; rfl
end Go.Proofs.YtmhjgeneogknpaaGreat
