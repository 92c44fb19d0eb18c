import Derived.Test.YtlmgnlhagpoggaaQ3
namespace Go.Proofs.Ytlmgnlhagpoggaa
open Go.Ab Go.Tb
set_option maxRecDepth 10000
attribute [local irreducible] W WO Pu QS QB QL QF QV QV1 CH QE
theorem query_fn (q : Qry) (hs : ∀ s ∈ q.steps, s.sorts.length ≤ 100000) : Does Try.prog 16 [.ag q.c] (.d (.v (.int .i64 (queryErr q)))) 0 := by
  refine Does.of_W (n := 29) (ts := [2]) Try.func16 (by kernel_rfl) rfl Try.ntmps16 Try.results16 rfl rfl fun C hC hG => ?_
  refine W.seq ?_
  refine W.region ?_
  refine boxR rfl rfl rfl ?_
  refine pu (ev tab rfl) rfl ?_
  refine WO.nil ?_
  refine qs ?_
  refine W.seq ?_
  refine W.block ?_
  refine W.seq ?_
  refine W.region ?_
  refine pu (ev tab rfl) rfl ?_
  first | refine pu (ev tab rfl) rfl ?_ | refine pu (loadRow tab rfl rfl rfl rfl) rfl ?_ | refine pu (loadBox tab rfl rfl rfl rfl rfl) rfl ?_
  refine pu (puCall rfl rfl rfl (identifier_fn ..) rfl) rfl ?_
  iterate 2 refine pu (ev tab rfl) rfl ?_
  refine WO.nil ?_
  refine qs ?_
  refine condK rfl (fun h6 => ?_) (fun h6 => ?_)
  · skip
    refine W.seq ?_
    refine W.region ?_
    refine pu (ev tab rfl) rfl ?_
    refine WO.nil ?_
    refine qs ?_
    refine W.ret ?_
    refine qbRet ?_
    refine qsRet ?_
    refine QF.ret0 trivial rfl ?_
    simp only [norm, oneA] at *; grind [queryErr]
  · skip
    refine W.seq ?_
    refine W.region ?_
    refine pu (ev tab rfl) rfl ?_
    first | refine pu (ev tab rfl) rfl ?_ | refine pu (loadRow tab rfl rfl rfl rfl) rfl ?_ | refine pu (loadBox tab rfl rfl rfl rfl rfl) rfl ?_
    iterate 3 refine pu (ev tab rfl) rfl ?_
    refine WO.nil ?_
    refine qs ?_
    refine condK rfl (fun h11 => ?_) (fun h11 => ?_)
    · skip
      refine W.seq ?_
      refine W.region ?_
      refine pu (ev tab rfl) rfl ?_
      refine WO.nil ?_
      refine qs ?_
      refine W.ret ?_
      refine qbRet ?_
      refine qsRet ?_
      refine QF.ret0 trivial rfl ?_
      simp only [norm, oneA, List.length_map] at *; grind [queryErr]
    · skip
      have hq : queryErr q = stepsErr q.steps := by simp only [List.length_map] at *; grind [queryErr]
      refine W.skip ?_
      refine qbN ?_
      refine qs ?_
      refine W.seq ?_
      refine W.seq ?_
      refine W.region ?_
      refine pu (ev tab rfl) rfl ?_
      first | refine pu (ev tab rfl) rfl ?_ | refine pu (loadRow tab rfl rfl rfl rfl) rfl ?_ | refine pu (loadBox tab rfl rfl rfl rfl rfl) rfl ?_
      iterate 2 refine pu (ev tab rfl) rfl ?_
      refine WO.nil ?_
      refine qs ?_
      refine W.block ?_
      refine W.len (t := 17) rfl rfl (fun hlen => ?_)
      try simp only [List.length_map, Ex.kc_len] at hlen
      refine W.loopR (ι := {x : Nat // match x with | k => k ≤ q.steps.length ∧ stepsErr (q.steps.drop k) = stepsErr q.steps})
        (fun x => match x.1 with | k => [(19, .d (.v (.int .i64 ((k : Nat) : Int))))]) [(17, _), (18, _)]
        (fun x => match x.1 with | k => []) [] [] 0 (fun x => match x.1 with | k => q.steps.length - k)
        [] ⟨0, ?_⟩ rfl ?_ ⟨rfl, rfl, rfl, rfl, trivial⟩ ?_ trivial rfl ?_
      · first | exact ⟨Nat.zero_le _, rfl⟩ | exact trivial | simp
      · repeat' first | exact trivial | refine ⟨rfl, ?_⟩ | refine ⟨step_nat (by assumption) (by assumption), ?_⟩
      · repeat' first | exact trivial | refine ⟨rfl, ?_⟩ | refine ⟨step_nat (by assumption) (by assumption), ?_⟩
      rintro ⟨k, hk, hI⟩
      show W _ _ _ _ _ ⟨[(19, .d (.v (.int .i64 ((k : Nat) : Int)))), (17, _), (18, _)], [], [], 0⟩
      refine W.seq ?_
      refine W.region ?_
      refine pu (ev tab rfl) rfl ?_
      refine WO.nil ?_
      refine qs ?_
      refine W.seq ?_
      refine eachR (l := q.steps) (k := k) rfl (by simp [Ex.kc_len, bytes_len]) hk (fun x hx hd hlt => ?_) (fun he hd => ?_)
      · skip
        rw [hd] at hI
        simp only [stepsErr] at hI
        refine W.skip ?_
        refine qs ?_
        refine W.seq ?_
        refine W.block ?_
        refine W.seq ?_
        refine W.region ?_
        refine pu (indexAddr tab rfl rfl rfl rfl rfl rfl (Int.natCast_nonneg _) (idx_map hx) rfl) rfl ?_
        first | refine pu (ev tab rfl) rfl ?_ | refine pu (loadRow tab rfl rfl rfl rfl) rfl ?_ | refine pu (loadBox tab rfl rfl rfl rfl rfl) rfl ?_
        refine allocR tab rfl rfl rfl ?_
        refine storeR tab rfl rfl rfl rfl rfl rfl rfl rfl ?_
        refine WO.nil ?_
        refine qs ?_
        refine W.seq ?_
        refine W.region ?_
        first | refine pu (ev tab rfl) rfl ?_ | refine pu (loadRow tab rfl rfl rfl rfl) rfl ?_ | refine pu (loadBox tab rfl rfl rfl rfl rfl) rfl ?_
        refine pu (puCall rfl rfl rfl (step_fn x (hs x (List.mem_of_getElem? hx))) rfl) rfl ?_
        refine pu (ev tab rfl) rfl ?_
        refine WO.nil ?_
        refine qs ?_
        refine W.seq ?_
        refine W.region ?_
        iterate 2 refine pu (ev tab rfl) rfl ?_
        refine WO.nil ?_
        refine qs ?_
        refine condK rfl (fun h26 => ?_) (fun h26 => ?_)
        · skip
          rw [if_pos (by simpa using h26)] at hI
          refine W.seq ?_
          refine W.region ?_
          iterate 2 refine pu (ev tab rfl) rfl ?_
          refine WO.nil ?_
          refine qs ?_
          refine W.ret ?_
          refine qbRet ?_
          refine qsRet ?_
          refine qlRet ?_
          refine qbRet ?_
          refine qsRet ?_
          refine QF.ret0 trivial rfl ?_
          rw [hq, ← hI]; rfl
        · skip
          rw [if_neg (by simpa using h26)] at hI
          refine W.skip ?_
          refine qbN ?_
          refine qs ?_
          refine W.region ?_
          iterate 2 refine pu (ev tab rfl) rfl ?_
          refine WO.nil ?_
          refine W.endR [] ⟨k + 1, ?_⟩ ?_ rfl ?_ ⟨rfl, rfl, rfl, rfl, trivial⟩ ?_ trivial rfl
          · exact ⟨hlt, hI⟩
          · dsimp only; omega
          · repeat' first | exact trivial | refine ⟨rfl, ?_⟩ | refine ⟨step_nat (by assumption) (by assumption), ?_⟩
          · repeat' first | exact trivial | refine ⟨rfl, ?_⟩ | refine ⟨step_nat (by assumption) (by assumption), ?_⟩
      · skip
        rw [hd] at hI
        simp only [stepsErr] at hI
        refine W.exit ?_
        refine qsExit ?_
        refine qlExit ?_
        refine qbExit ?_
        refine qs ?_
        refine W.seq ?_
        refine W.region ?_
        refine pu (ev tab rfl) rfl ?_
        refine WO.nil ?_
        refine qs ?_
        refine W.ret ?_
        refine QF.ret0 trivial rfl ?_
        rw [hq, ← hI]; rfl

def tcells : Option Tbl → List D
  | some t => t.c
  | none => [.v (.slice none 0 0), .v (.slice none 0 0)]
theorem tcells2 (o : Option Tbl) : ∃ p q, tcells o = [p, q] := by cases o <;> exact ⟨_, _, rfl⟩
theorem find_fn (d : List Nmd) (name : ByteArray) : Does Try.prog 17 [.d (.sl (d.map Nmd.c)), .d (.v (.string name))] (.tup [.ag (tcells (findT d name)), .d (.v (.bool (findT d name).isSome))]) 0 := by
  refine Does.of_V tab (n := 22) (rs := [.cell 4 53, .tmp 5]) Try.func17 (by kernel_rfl) rfl Try.ntmps17 Try.results17 rfl fun C hC hG => ?_
  refine W.seq ?_
  refine W.region ?_
  refine allocR tab rfl rfl rfl ?_
  refine pu (ev tab rfl) rfl ?_
  refine WO.nil ?_
  refine qs ?_
  refine W.seq ?_
  refine W.seq ?_
  refine W.region ?_
  iterate 3 refine pu (ev tab rfl) rfl ?_
  refine WO.nil ?_
  refine qs ?_
  refine W.block ?_
  refine W.len (t := 8) rfl rfl (fun hlen => ?_)
  try simp only [List.length_map, Ex.kc_len] at hlen
  refine W.loopR (ι := {x : Nat // match x with | k => k ≤ d.length ∧ findT (d.drop k) name = findT d name})
    (fun x => match x.1 with | k => [(4, .ptr 0 0), (10, .d (.v (.int .i64 ((k : Nat) : Int))))]) [(1, _), (8, _), (9, _)]
    (fun x => match x.1 with | k => []) [(0, _)] [] 1 (fun x => match x.1 with | k => d.length - k)
    [0] ⟨0, ?_⟩ rfl ?_ ⟨rfl, rfl, rfl, rfl, rfl, rfl, trivial⟩ ?_ ⟨rfl, rfl, trivial⟩ rfl ?_
  · first | exact ⟨Nat.zero_le _, rfl⟩ | exact trivial | simp
  · repeat' first | exact trivial | refine ⟨rfl, ?_⟩ | refine ⟨step_nat (by assumption) (by assumption), ?_⟩
  · repeat' first | exact trivial | refine ⟨rfl, ?_⟩ | refine ⟨step_nat (by assumption) (by assumption), ?_⟩
  rintro ⟨k, hk, hI⟩
  show W _ _ _ _ _ ⟨[(4, .ptr 0 0), (10, .d (.v (.int .i64 ((k : Nat) : Int)))), (1, _), (8, _), (9, _)], [(0, _)], [], 1⟩
  refine W.seq ?_
  refine W.region ?_
  refine pu (ev tab rfl) rfl ?_
  refine WO.nil ?_
  refine qs ?_
  refine W.seq ?_
  refine eachR (l := d) (k := k) rfl (by simp [Ex.kc_len, bytes_len]) hk (fun x hx hd hlt => ?_) (fun he hd => ?_)
  · skip
    rw [hd] at hI
    simp only [findT, List.find?_cons] at hI
    refine W.skip ?_
    refine qs ?_
    refine W.seq ?_
    refine W.block ?_
    refine W.seq ?_
    refine W.region ?_
    refine pu (indexAddr tab rfl rfl rfl rfl rfl rfl (Int.natCast_nonneg _) (idx_map hx) rfl) rfl ?_
    first | refine pu (ev tab rfl) rfl ?_ | refine pu (loadRow tab rfl rfl rfl rfl) rfl ?_ | refine pu (loadBox tab rfl rfl rfl rfl rfl) rfl ?_
    refine allocR tab rfl rfl rfl ?_
    refine storeR tab rfl rfl rfl rfl rfl rfl rfl rfl ?_
    refine WO.nil ?_
    refine qs ?_
    refine W.seq ?_
    refine W.region ?_
    refine pu (ev tab rfl) rfl ?_
    first | refine pu (ev tab rfl) rfl ?_ | refine pu (loadRow tab rfl rfl rfl rfl) rfl ?_ | refine pu (loadBox tab rfl rfl rfl rfl rfl) rfl ?_
    iterate 2 refine pu (ev tab rfl) rfl ?_
    refine WO.nil ?_
    refine qs ?_
    refine condK rfl (fun h17 => ?_) (fun h17 => ?_)
    · skip
      rw [h17] at hI
      refine W.seq ?_
      refine W.region ?_
      refine pu (ev tab rfl) rfl ?_
      first | refine pu (ev tab rfl) rfl ?_ | refine pu (loadRow tab rfl rfl rfl rfl) rfl ?_ | refine pu (loadBox tab rfl rfl rfl rfl rfl) rfl ?_
      refine storeR tab rfl rfl rfl rfl rfl rfl rfl rfl ?_
      refine pu (ev tab rfl) rfl ?_
      refine WO.nil ?_
      refine qs ?_
      refine W.ret ?_
      refine qbRet ?_
      refine qsRet ?_
      refine qlRet ?_
      refine qbRet ?_
      refine qsRet ?_
      refine QV.ret0 tab trivial rfl ?_
      have h0 : findT d name = some x.table := hI.symm
      rw [h0]; rfl
    · skip
      rw [h17] at hI
      refine W.skip ?_
      refine qbN ?_
      refine qs ?_
      refine W.region ?_
      iterate 2 refine pu (ev tab rfl) rfl ?_
      refine WO.nil ?_
      refine W.endR [0] ⟨k + 1, ?_⟩ ?_ rfl ?_ ⟨rfl, rfl, rfl, rfl, rfl, rfl, trivial⟩ ?_ ⟨rfl, rfl, trivial⟩ rfl
      · exact ⟨hlt, hI⟩
      · dsimp only; omega
      · repeat' first | exact trivial | refine ⟨rfl, ?_⟩ | refine ⟨step_nat (by assumption) (by assumption), ?_⟩
      · repeat' first | exact trivial | refine ⟨rfl, ?_⟩ | refine ⟨step_nat (by assumption) (by assumption), ?_⟩
  · skip
    rw [hd] at hI
    refine W.exit ?_
    refine qsExit ?_
    refine qlExit ?_
    refine qbExit ?_
    refine qs ?_
    refine W.seq ?_
    refine W.region ?_
    refine pu (build tab rfl rfl rfl rfl) rfl ?_
    refine storeR tab rfl rfl rfl rfl rfl rfl rfl rfl ?_
    refine pu (ev tab rfl) rfl ?_
    refine WO.nil ?_
    refine qs ?_
    refine W.ret ?_
    refine QV.ret0 tab trivial rfl ?_
    have h0 : findT d name = none := hI.symm
    rw [h0]; rfl

theorem any_findIdx {α : Type} {p : α → Bool} {l : List α} : decide (0 ≤ idx (l.findIdx? p)) = l.any p := idx_nonneg

theorem tcolz_fn (cols : List Col) (z : D) (name : ByteArray) : Does Try.prog 50 [.ag [.sl (cols.map Col.c), z], .d (.v (.string name))] (.d (.v (.int .i64 (idx (cols.findIdx? fun x => decide (x.name = name)))))) 0 := by
  refine Does.of_W (n := 9) (ts := [4]) Try.func50 (by kernel_rfl) rfl Try.ntmps50 Try.results50 rfl rfl fun C hC hG => ?_
  refine W.seq ?_
  refine W.region ?_
  refine boxR rfl rfl rfl ?_
  refine boxR rfl rfl rfl ?_
  refine pu (ev tab rfl) rfl ?_
  refine WO.nil ?_
  refine qs ?_
  refine W.seq ?_
  refine W.region ?_
  refine pu (ev tab rfl) rfl ?_
  first | refine pu (ev tab rfl) rfl ?_ | refine pu (loadRow tab rfl rfl rfl rfl) rfl ?_ | refine pu (loadBox tab rfl rfl rfl rfl rfl) rfl ?_
  refine pu (ev tab rfl) rfl ?_
  refine pu (puCall rfl rfl rfl (idxCol_fn _ _ ⟨fun _ _ => rfl, rfl⟩ _ (tcolEq_fn name) cols) rfl) rfl ?_
  refine pu (ev tab rfl) rfl ?_
  refine WO.nil ?_
  refine qs ?_
  refine W.ret ?_
  refine QF.ret0 trivial rfl ?_
  rfl
theorem check_fn (t : Tbl) : Does Try.prog 32 [.ag t.c] (.d (.v (.int .i64 (tblErr t)))) 0 := by
  refine Does.of_W (n := 91) (ts := [2]) Try.func32 (by kernel_rfl) rfl Try.ntmps32 Try.results32 rfl rfl fun C hC hG => ?_
  refine W.seq ?_
  refine W.region ?_
  refine boxR rfl rfl rfl ?_
  refine pu (ev tab rfl) rfl ?_
  refine WO.nil ?_
  refine qs ?_
  refine W.seq ?_
  refine W.seq ?_
  apply regionB; (case hb => rfl)
  · skip
    refine pu (ev tab rfl) rfl ?_
    first | refine pu (ev tab rfl) rfl ?_ | refine pu (loadRow tab rfl rfl rfl rfl) rfl ?_ | refine pu (loadBox tab rfl rfl rfl rfl rfl) rfl ?_
    iterate 3 refine pu (ev tab rfl) rfl ?_
    apply splitJ; (case hj => rfl); (case hl => rfl)
    · skip
      refine skipT rfl rfl rfl rfl ?_
      refine skipT rfl rfl rfl rfl ?_
      refine skipT rfl rfl rfl rfl ?_
      refine skipT rfl rfl rfl rfl ?_
      refine pu (ev tab rfl) rfl ?_
      refine WO.nil ?_
      refine qv1 rfl rfl rfl
    · skip
      refine goG rfl rfl ?_
      refine pu (ev tab rfl) rfl ?_
      refine goG rfl rfl ?_
      first | refine pu (ev tab rfl) rfl ?_ | refine pu (loadRow tab rfl rfl rfl rfl) rfl ?_ | refine pu (loadBox tab rfl rfl rfl rfl rfl) rfl ?_
      refine goG rfl rfl ?_
      refine pu (ev tab rfl) rfl ?_
      refine goG rfl rfl ?_
      iterate 2 refine pu (ev tab rfl) rfl ?_
      refine WO.nil ?_
      refine qv1 rfl rfl rfl
  refine qs ?_
  refine condK rfl (fun h20 => ?_) (fun h20 => ?_)
  · skip
    refine W.seq ?_
    refine W.region ?_
    refine pu (ev tab rfl) rfl ?_
    refine WO.nil ?_
    refine qs ?_
    refine W.ret ?_
    refine qsRet ?_
    refine QF.ret0 trivial rfl ?_
    simp only [norm, oneA, List.length_map] at *; grind [tblErr]
  · skip
    have h20 : ¬ (32 < t.cols.length ∨ 20000 < t.rows.length) := by simp only [List.length_map] at h20; intro h; revert h20; grind
    have hq : tblErr t = if colsErr t.cols 0 t.cols ≠ 0 then colsErr t.cols 0 t.cols else rowsErr t.cols t.rows := by unfold tblErr; rw [if_neg h20]
    refine W.skip ?_
    refine qs ?_
    refine W.seq ?_
    refine W.seq ?_
    refine W.region ?_
    refine pu (ev tab rfl) rfl ?_
    first | refine pu (ev tab rfl) rfl ?_ | refine pu (loadRow tab rfl rfl rfl rfl) rfl ?_ | refine pu (loadBox tab rfl rfl rfl rfl rfl) rfl ?_
    iterate 2 refine pu (ev tab rfl) rfl ?_
    refine WO.nil ?_
    refine qs ?_
    refine W.block ?_
    refine W.len (t := 22) rfl rfl (fun hlen => ?_)
    try simp only [List.length_map, Ex.kc_len] at hlen
    refine W.loopR (ι := {x : Nat // match x with | k => k ≤ t.cols.length ∧ colsErr t.cols k (t.cols.drop k) = colsErr t.cols 0 t.cols})
      (fun x => match x.1 with | k => [(1, .ptr 0 0), (24, .d (.v (.int .i64 ((k : Nat) : Int))))]) [(22, _), (23, _)]
      (fun x => match x.1 with | k => []) [(0, _)] [] 1 (fun x => match x.1 with | k => t.cols.length - k)
      [0] ⟨0, ?_⟩ rfl ?_ ⟨rfl, rfl, rfl, rfl, trivial⟩ ?_ ⟨rfl, rfl, trivial⟩ rfl ?_
    · first | exact ⟨Nat.zero_le _, rfl⟩ | exact trivial | simp
    · repeat' first | exact trivial | refine ⟨rfl, ?_⟩ | refine ⟨step_nat (by assumption) (by assumption), ?_⟩
    · repeat' first | exact trivial | refine ⟨rfl, ?_⟩ | refine ⟨step_nat (by assumption) (by assumption), ?_⟩
    rintro ⟨k, hk, hI⟩
    show W _ _ _ _ _ ⟨[(1, .ptr 0 0), (24, .d (.v (.int .i64 ((k : Nat) : Int)))), (22, _), (23, _)], [(0, _)], [], 1⟩
    refine W.seq ?_
    refine W.region ?_
    refine pu (ev tab rfl) rfl ?_
    refine WO.nil ?_
    refine qs ?_
    refine W.seq ?_
    refine eachR (l := t.cols) (k := k) rfl (by simp [Ex.kc_len, bytes_len]) hk (fun x hx hd hlt => ?_) (fun he hd => ?_)
    · skip
      rw [hd] at hI
      simp only [colsErr] at hI
      refine W.skip ?_
      refine qs ?_
      refine W.seq ?_
      refine W.block ?_
      refine W.seq ?_
      refine W.region ?_
      refine pu (ev tab rfl) rfl ?_
      refine pu (indexAddr tab rfl rfl rfl rfl rfl rfl (Int.natCast_nonneg _) (idx_map hx) rfl) rfl ?_
      first | refine pu (ev tab rfl) rfl ?_ | refine pu (loadRow tab rfl rfl rfl rfl) rfl ?_ | refine pu (loadBox tab rfl rfl rfl rfl rfl) rfl ?_
      refine allocR tab rfl rfl rfl ?_
      refine pu (ev tab rfl) rfl ?_
      refine storeR tab rfl rfl rfl rfl rfl rfl rfl rfl ?_
      refine WO.nil ?_
      refine qs ?_
      refine W.seq ?_
      refine W.seq ?_
      refine W.region ?_
      refine pu (ev tab rfl) rfl ?_
      first | refine pu (ev tab rfl) rfl ?_ | refine pu (loadRow tab rfl rfl rfl rfl) rfl ?_ | refine pu (loadBox tab rfl rfl rfl rfl rfl) rfl ?_
      refine pu (puCall rfl rfl rfl (name_fn ..) rfl) rfl ?_
      refine pu (ev tab rfl) rfl ?_
      refine WO.nil ?_
      refine qs ?_
      refine W.seq ?_
      refine W.region ?_
      iterate 2 refine pu (ev tab rfl) rfl ?_
      refine WO.nil ?_
      refine qs ?_
      refine condK rfl (fun h33 => ?_) (fun h33 => ?_)
      · skip
        have h33 : nameErr x.name ≠ 0 := by simpa using h33
        have hB : colBad t.cols k x = nameErr x.name := by unfold colBad; rw [if_pos h33]
        simp only [hB] at hI
        rw [if_pos h33] at hI
        refine W.seq ?_
        refine W.region ?_
        iterate 2 refine pu (ev tab rfl) rfl ?_
        refine WO.nil ?_
        refine qs ?_
        refine W.ret ?_
        refine qsRet ?_
        refine qbRet ?_
        refine qsRet ?_
        refine qlRet ?_
        refine qbRet ?_
        refine qsRet ?_
        refine QF.ret0 trivial rfl ?_
        simp only [norm, oneA, List.length_map] at *; grind [tblErr]
      · skip
        have h33 : ¬ (nameErr x.name ≠ 0) := by simpa using h33
        refine W.skip ?_
        refine qs ?_
        refine W.seq ?_
        refine W.seq ?_
        refine W.regionD tab (by kernel_rfl) ?_
        refine chPu (ev tab rfl) rfl ?_
        first | refine chPu (ev tab rfl) rfl ?_ | refine chPu (loadRow tab rfl rfl rfl rfl) rfl ?_ | refine chPu (loadBox tab rfl rfl rfl rfl rfl) rfl ?_
        refine chPu (ev tab rfl) rfl ?_
        refine chPu (slToM (fn := Col.c) tab rfl rfl rfl rfl rfl rfl (fun _ => rfl) (by omega)) rfl ?_
        refine chPu (build tab rfl rfl rfl rfl) rfl ?_
        refine chPu (ev tab rfl) rfl ?_
        first | refine chPu (ev tab rfl) rfl ?_ | refine chPu (loadRow tab rfl rfl rfl rfl) rfl ?_ | refine chPu (loadBox tab rfl rfl rfl rfl rfl) rfl ?_
        refine chPu (puCall rfl rfl rfl (tcolz_fn (t.cols.take k) _ x.name) rfl) rfl ?_
        refine chPu (ev tab rfl) rfl ?_
        refine CH.nil ?_
        refine qs ?_
        refine condK rfl (fun h43 => ?_) (fun h43 => ?_)
        · skip
          have h43 : ((t.cols.take k).any fun y => decide (y.name = x.name)) = true := idx_nonneg.symm.trans h43
          have hB : colBad t.cols k x = 4 := by unfold colBad; rw [if_neg h33, if_pos h43]
          simp only [hB] at hI
          rw [if_pos (by decide)] at hI
          refine W.seq ?_
          refine W.region ?_
          refine pu (ev tab rfl) rfl ?_
          refine WO.nil ?_
          refine qs ?_
          refine W.ret ?_
          refine qsRet ?_
          refine qbRet ?_
          refine qsRet ?_
          refine qlRet ?_
          refine qbRet ?_
          refine qsRet ?_
          refine QF.ret0 trivial rfl ?_
          simp only [norm, oneA, List.length_map] at *; grind [tblErr]
        · skip
          have h43 : ¬ (((t.cols.take k).any fun y => decide (y.name = x.name)) = true) := by rw [(idx_nonneg.symm.trans h43 : ((t.cols.take k).any fun y => decide (y.name = x.name)) = false)]; decide
          refine W.skip ?_
          refine qs ?_
          refine W.seq ?_
          apply regionB; (case hb => rfl)
          · skip
            refine pu (ev tab rfl) rfl ?_
            first | refine pu (ev tab rfl) rfl ?_ | refine pu (loadRow tab rfl rfl rfl rfl) rfl ?_ | refine pu (loadBox tab rfl rfl rfl rfl rfl) rfl ?_
            iterate 2 refine pu (ev tab rfl) rfl ?_
            apply splitJ; (case hj => rfl); (case hl => rfl)
            · skip
              refine goG rfl rfl ?_
              refine pu (ev tab rfl) rfl ?_
              refine goG rfl rfl ?_
              first | refine pu (ev tab rfl) rfl ?_ | refine pu (loadRow tab rfl rfl rfl rfl) rfl ?_ | refine pu (loadBox tab rfl rfl rfl rfl rfl) rfl ?_
              refine goG rfl rfl ?_
              iterate 3 refine pu (ev tab rfl) rfl ?_
              apply splitJ; (case hj => rfl); (case hl => rfl)
              · skip
                refine goG rfl rfl ?_
                refine pu (ev tab rfl) rfl ?_
                refine goG rfl rfl ?_
                first | refine pu (ev tab rfl) rfl ?_ | refine pu (loadRow tab rfl rfl rfl rfl) rfl ?_ | refine pu (loadBox tab rfl rfl rfl rfl rfl) rfl ?_
                refine goG rfl rfl ?_
                iterate 2 refine pu (ev tab rfl) rfl ?_
                refine WO.nil ?_
                refine qv1 rfl rfl rfl
              · skip
                refine skipT rfl rfl rfl rfl ?_
                refine skipT rfl rfl rfl rfl ?_
                refine skipT rfl rfl rfl rfl ?_
                refine pu (ev tab rfl) rfl ?_
                refine WO.nil ?_
                refine qv1 rfl rfl rfl
            · skip
              refine skipT rfl rfl rfl rfl ?_
              refine skipT rfl rfl rfl rfl ?_
              refine skipT rfl rfl rfl rfl ?_
              iterate 2 refine pu (ev tab rfl) rfl ?_
              refine skipT rfl rfl rfl rfl ?_
              refine skipT rfl rfl rfl rfl ?_
              refine skipT rfl rfl rfl rfl ?_
              refine pu (ev tab rfl) rfl ?_
              refine WO.nil ?_
              refine qv1 rfl rfl rfl
          refine qs ?_
          refine condK rfl (fun h56 => ?_) (fun h56 => ?_)
          · skip
            have h56 : x.type ≠ 1 ∧ x.type ≠ 2 ∧ x.type ≠ 3 := by revert h56; grind
            have hB : colBad t.cols k x = 14 := by unfold colBad; rw [if_neg h33, if_neg h43, if_pos h56]
            simp only [hB] at hI
            rw [if_pos (by decide)] at hI
            refine W.seq ?_
            refine W.region ?_
            refine pu (ev tab rfl) rfl ?_
            refine WO.nil ?_
            refine qs ?_
            refine W.ret ?_
            refine qbRet ?_
            refine qsRet ?_
            refine qlRet ?_
            refine qbRet ?_
            refine qsRet ?_
            refine QF.ret0 trivial rfl ?_
            simp only [norm, oneA, List.length_map] at *; grind [tblErr]
          · skip
            have h56 : ¬ (x.type ≠ 1 ∧ x.type ≠ 2 ∧ x.type ≠ 3) := by revert h56; grind
            have hB : colBad t.cols k x = 0 := by unfold colBad; rw [if_neg h33, if_neg h43, if_neg h56]
            simp only [hB] at hI
            rw [if_neg (by decide)] at hI
            refine W.skip ?_
            refine qbN ?_
            refine qs ?_
            refine W.region ?_
            iterate 2 refine pu (ev tab rfl) rfl ?_
            refine WO.nil ?_
            refine W.endR [0] ⟨k + 1, ?_⟩ ?_ rfl ?_ ⟨rfl, rfl, rfl, rfl, trivial⟩ ?_ ⟨rfl, rfl, trivial⟩ rfl
            · exact ⟨hlt, by simpa using hI⟩
            · dsimp only; omega
            · repeat' first | exact trivial | refine ⟨rfl, ?_⟩ | refine ⟨step_nat (by assumption) (by assumption), ?_⟩
            · repeat' first | exact trivial | refine ⟨rfl, ?_⟩ | refine ⟨step_nat (by assumption) (by assumption), ?_⟩
    · skip
      rw [hd] at hI
      simp only [colsErr] at hI
      rw [← hI] at hq
      simp only [ne_eq, not_true_eq_false, if_false] at hq
      refine W.exit ?_
      refine qsExit ?_
      refine qlExit ?_
      refine qbExit ?_
      refine qs ?_
      refine W.seq ?_
      refine W.seq ?_
      refine W.region ?_
      refine pu (ev tab rfl) rfl ?_
      first | refine pu (ev tab rfl) rfl ?_ | refine pu (loadRow tab rfl rfl rfl rfl) rfl ?_ | refine pu (loadBox tab rfl rfl rfl rfl rfl) rfl ?_
      iterate 2 refine pu (ev tab rfl) rfl ?_
      refine WO.nil ?_
      refine qs ?_
      refine W.block ?_
      refine W.len (t := 59) rfl rfl (fun hlen => ?_)
      try simp only [List.length_map, Ex.kc_len] at hlen
      refine W.loopR (ι := {x : Nat // match x with | k => k ≤ t.rows.length ∧ rowsErr t.cols (t.rows.drop k) = rowsErr t.cols t.rows})
        (fun x => match x.1 with | k => [(1, .ptr 0 0), (61, .d (.v (.int .i64 ((k : Nat) : Int))))]) [(59, _), (60, _)]
        (fun x => match x.1 with | k => []) [(0, _)] [] 1 (fun x => match x.1 with | k => t.rows.length - k)
        [0] ⟨0, ?_⟩ rfl ?_ ⟨rfl, rfl, rfl, rfl, trivial⟩ ?_ ⟨rfl, rfl, trivial⟩ rfl ?_
      · first | exact ⟨Nat.zero_le _, rfl⟩ | exact trivial | simp
      · repeat' first | exact trivial | refine ⟨rfl, ?_⟩ | refine ⟨step_nat (by assumption) (by assumption), ?_⟩
      · repeat' first | exact trivial | refine ⟨rfl, ?_⟩ | refine ⟨step_nat (by assumption) (by assumption), ?_⟩
      rintro ⟨k, hk, hK⟩
      show W _ _ _ _ _ ⟨[(1, .ptr 0 0), (61, .d (.v (.int .i64 ((k : Nat) : Int)))), (59, _), (60, _)], [(0, _)], [], 1⟩
      refine W.seq ?_
      refine W.region ?_
      refine pu (ev tab rfl) rfl ?_
      refine WO.nil ?_
      refine qs ?_
      refine W.seq ?_
      refine eachR (l := t.rows) (k := k) rfl (by simp [Ex.kc_len, bytes_len]) hk (fun r hx hd hlt => ?_) (fun he hd => ?_)
      · skip
        rw [hd] at hK
        simp only [rowsErr] at hK
        refine W.skip ?_
        refine qs ?_
        refine W.seq ?_
        refine W.block ?_
        refine W.seq ?_
        refine W.region ?_
        refine pu (indexAddr tab rfl rfl rfl rfl rfl rfl (Int.natCast_nonneg _) (idx_map hx) rfl) rfl ?_
        first | refine pu (ev tab rfl) rfl ?_ | refine pu (loadRow tab rfl rfl rfl rfl) rfl ?_ | refine pu (loadBox tab rfl rfl rfl rfl rfl) rfl ?_
        refine pu (ev tab rfl) rfl ?_
        refine WO.nil ?_
        refine qs ?_
        refine W.seq ?_
        refine W.seq ?_
        refine W.region ?_
        iterate 3 refine pu (ev tab rfl) rfl ?_
        first | refine pu (ev tab rfl) rfl ?_ | refine pu (loadRow tab rfl rfl rfl rfl) rfl ?_ | refine pu (loadBox tab rfl rfl rfl rfl rfl) rfl ?_
        iterate 2 refine pu (ev tab rfl) rfl ?_
        refine WO.nil ?_
        refine qs ?_
        refine condK rfl (fun h70 => ?_) (fun h70 => ?_)
        · skip
          have h70 : r.length ≠ t.cols.length := by simp at h70; omega
          rw [if_pos h70] at hK
          refine W.seq ?_
          refine W.region ?_
          refine pu (ev tab rfl) rfl ?_
          refine WO.nil ?_
          refine qs ?_
          refine W.ret ?_
          refine qsRet ?_
          refine qbRet ?_
          refine qsRet ?_
          refine qlRet ?_
          refine qbRet ?_
          refine qsRet ?_
          refine QF.ret0 trivial rfl ?_
          simp only [norm, oneA, List.length_map] at *; grind [tblErr]
        · skip
          have h70 : ¬ (r.length ≠ t.cols.length) := by simp at h70 ⊢; omega
          rw [if_neg h70] at hK
          refine W.skip ?_
          refine qs ?_
          refine W.seq ?_
          refine W.region ?_
          iterate 3 refine pu (ev tab rfl) rfl ?_
          refine WO.nil ?_
          refine qs ?_
          refine W.block ?_
          refine W.len (t := 71) rfl rfl (fun hlen => ?_)
          try simp only [List.length_map, Ex.kc_len] at hlen
          refine W.loopR (ι := {x : Nat // match x with | j => j ≤ r.length ∧ cellsErr (t.cols.drop j) (r.drop j) = cellsErr t.cols r})
            (fun x => match x.1 with | j => [(1, .ptr 0 0), (73, .d (.v (.int .i64 ((j : Nat) : Int))))]) [(59, _), (60, _), (61, _), (71, _), (72, _)]
            (fun x => match x.1 with | j => []) [(0, _)] [] 1 (fun x => match x.1 with | j => r.length - j)
            [0] ⟨0, ?_⟩ rfl ?_ ⟨rfl, rfl, rfl, rfl, rfl, rfl, rfl, rfl, rfl, rfl, trivial⟩ ?_ ⟨rfl, rfl, trivial⟩ rfl ?_
          · first | exact ⟨Nat.zero_le _, rfl⟩ | exact trivial | simp
          · repeat' first | exact trivial | refine ⟨rfl, ?_⟩ | refine ⟨step_nat (by assumption) (by assumption), ?_⟩
          · repeat' first | exact trivial | refine ⟨rfl, ?_⟩ | refine ⟨step_nat (by assumption) (by assumption), ?_⟩
          rintro ⟨j, hk, hJ⟩
          show W _ _ _ _ _ ⟨[(1, .ptr 0 0), (73, .d (.v (.int .i64 ((j : Nat) : Int)))), (59, _), (60, _), (61, _), (71, _), (72, _)], [(0, _)], [], 1⟩
          refine W.seq ?_
          refine W.region ?_
          refine pu (ev tab rfl) rfl ?_
          refine WO.nil ?_
          refine qs ?_
          refine W.seq ?_
          refine eachR (l := r) (k := j) rfl (by simp [Ex.kc_len, bytes_len]) hk (fun v hx hd hlt => ?_) (fun he hd => ?_)
          · skip
            obtain ⟨c, hc, hcd⟩ := exAt (l := t.cols) (k := j) (by omega)
            rw [hd, hcd] at hJ
            simp only [cellsErr] at hJ
            refine W.skip ?_
            refine qs ?_
            refine W.seq ?_
            refine W.block ?_
            refine W.seq ?_
            refine W.region ?_
            refine pu (ev tab rfl) rfl ?_
            refine pu (indexAddr tab rfl rfl rfl rfl rfl rfl (Int.natCast_nonneg _) (idx_map hx) rfl) rfl ?_
            first | refine pu (ev tab rfl) rfl ?_ | refine pu (loadRow tab rfl rfl rfl rfl) rfl ?_ | refine pu (loadBox tab rfl rfl rfl rfl rfl) rfl ?_
            refine allocR tab rfl rfl rfl ?_
            refine pu (ev tab rfl) rfl ?_
            refine storeR tab rfl rfl rfl rfl rfl rfl rfl rfl ?_
            refine WO.nil ?_
            refine qs ?_
            refine W.seq ?_
            refine W.regionD tab (by kernel_rfl) ?_
            refine chPu (ev tab rfl) rfl ?_
            first | refine chPu (ev tab rfl) rfl ?_ | refine chPu (loadRow tab rfl rfl rfl rfl) rfl ?_ | refine chPu (loadBox tab rfl rfl rfl rfl rfl) rfl ?_
            refine chPu (ev tab rfl) rfl ?_
            refine chPu (indexAddr tab rfl rfl rfl rfl rfl rfl (Int.natCast_nonneg _) (idx_map hc) rfl) rfl ?_
            refine chPu (ev tab rfl) rfl ?_
            first | refine chPu (ev tab rfl) rfl ?_ | refine chPu (loadRow tab rfl rfl rfl rfl) rfl ?_ | refine chPu (loadBox tab rfl rfl rfl rfl rfl) rfl ?_
            first | refine chPu (ev tab rfl) rfl ?_ | refine chPu (loadRow tab rfl rfl rfl rfl) rfl ?_ | refine chPu (loadBox tab rfl rfl rfl rfl rfl) rfl ?_
            refine chPu (puCall rfl rfl rfl (value_fn c.type v) rfl) rfl ?_
            refine chPu (ev tab rfl) rfl ?_
            refine CH.nil ?_
            refine qs ?_
            refine W.seq ?_
            refine W.region ?_
            iterate 2 refine pu (ev tab rfl) rfl ?_
            refine WO.nil ?_
            refine qs ?_
            refine condK rfl (fun h87 => ?_) (fun h87 => ?_)
            · skip
              have h87 : valErr c.type v ≠ 0 := by simpa using h87
              rw [if_pos h87] at hJ
              simp only [← hJ] at hK
              rw [if_pos h87] at hK
              refine W.seq ?_
              refine W.region ?_
              iterate 2 refine pu (ev tab rfl) rfl ?_
              refine WO.nil ?_
              refine qs ?_
              refine W.ret ?_
              refine qbRet ?_
              refine qsRet ?_
              refine qlRet ?_
              refine qbRet ?_
              refine qbRet ?_
              refine qsRet ?_
              refine qlRet ?_
              refine qbRet ?_
              refine qsRet ?_
              refine QF.ret0 trivial rfl ?_
              simp only [norm, oneA, List.length_map] at *; grind [tblErr]
            · skip
              rw [if_neg (by simpa using h87)] at hJ
              refine W.skip ?_
              refine qbN ?_
              refine qs ?_
              refine W.region ?_
              iterate 2 refine pu (ev tab rfl) rfl ?_
              refine WO.nil ?_
              refine W.endR [0] ⟨j + 1, ?_⟩ ?_ rfl ?_ ⟨rfl, rfl, rfl, rfl, rfl, rfl, rfl, rfl, rfl, rfl, trivial⟩ ?_ ⟨rfl, rfl, trivial⟩ rfl
              · exact ⟨hlt, hJ⟩
              · dsimp only; omega
              · repeat' first | exact trivial | refine ⟨rfl, ?_⟩ | refine ⟨step_nat (by assumption) (by assumption), ?_⟩
              · repeat' first | exact trivial | refine ⟨rfl, ?_⟩ | refine ⟨step_nat (by assumption) (by assumption), ?_⟩
          · skip
            have hj0 : cellsErr t.cols r = 0 := by rw [← hJ, hd]; cases t.cols.drop j <;> rfl
            simp only [hj0] at hK
            rw [if_neg (by decide)] at hK
            refine W.exit ?_
            refine qsExit ?_
            refine qlExit ?_
            refine qbExit ?_
            refine qbN ?_
            refine qs ?_
            refine W.region ?_
            iterate 2 refine pu (ev tab rfl) rfl ?_
            refine WO.nil ?_
            refine W.endR [0] ⟨k + 1, ?_⟩ ?_ rfl ?_ ⟨rfl, rfl, rfl, rfl, trivial⟩ ?_ ⟨rfl, rfl, trivial⟩ rfl
            · exact ⟨hlt, hK⟩
            · dsimp only; omega
            · repeat' first | exact trivial | refine ⟨rfl, ?_⟩ | refine ⟨step_nat (by assumption) (by assumption), ?_⟩
            · repeat' first | exact trivial | refine ⟨rfl, ?_⟩ | refine ⟨step_nat (by assumption) (by assumption), ?_⟩
      · skip
        rw [hd] at hK
        simp only [rowsErr] at hK
        rw [← hK] at hq
        refine W.exit ?_
        refine qsExit ?_
        refine qlExit ?_
        refine qbExit ?_
        refine qs ?_
        refine W.seq ?_
        refine W.region ?_
        refine pu (ev tab rfl) rfl ?_
        refine WO.nil ?_
        refine qs ?_
        refine W.ret ?_
        refine QF.ret0 trivial rfl ?_
        simp only [norm, oneA, List.length_map] at *; grind [tblErr]

theorem findT_any (d : List Nmd) (name : ByteArray) : (findT d name).isSome = d.any fun y => decide (y.name = name) := by
  unfold findT
  rw [Option.isSome_map]
  induction d with
  | nil => rfl
  | cons x r ih => simp only [List.find?_cons, List.any_cons]; split <;> simp_all

theorem checkAll_fn (d : List Nmd) : Does Try.prog 15 [.d (.sl (d.map Nmd.c))] (.d (.v (.int .i64 (dataErr d)))) 0 := by
  refine Does.of_W (n := 42) (ts := [2]) Try.func15 (by kernel_rfl) rfl Try.ntmps15 Try.results15 rfl rfl fun C hC hG => ?_
  refine W.seq ?_
  refine W.region ?_
  refine pu (ev tab rfl) rfl ?_
  refine WO.nil ?_
  refine qs ?_
  refine W.seq ?_
  refine W.seq ?_
  refine W.region ?_
  iterate 3 refine pu (ev tab rfl) rfl ?_
  refine WO.nil ?_
  refine qs ?_
  refine condK rfl (fun h11 => ?_) (fun h11 => ?_)
  · skip
    refine W.seq ?_
    refine W.region ?_
    refine pu (ev tab rfl) rfl ?_
    refine WO.nil ?_
    refine qs ?_
    refine W.ret ?_
    refine qsRet ?_
    refine QF.ret0 trivial rfl ?_
    simp only [norm, oneA, List.length_map] at *; grind [dataErr]
  · skip
    have h11 : ¬ (32 < d.length) := by simp at h11; omega
    have hq : dataErr d = nmdsErr d 0 d := by unfold dataErr; rw [if_neg h11]
    refine W.skip ?_
    refine qs ?_
    refine W.seq ?_
    refine W.seq ?_
    refine W.region ?_
    iterate 3 refine pu (ev tab rfl) rfl ?_
    refine WO.nil ?_
    refine qs ?_
    refine W.block ?_
    refine W.len (t := 12) rfl rfl (fun hlen => ?_)
    try simp only [List.length_map, Ex.kc_len] at hlen
    refine W.loopR (ι := {x : Nat // match x with | k => k ≤ d.length ∧ nmdsErr d k (d.drop k) = nmdsErr d 0 d})
      (fun x => match x.1 with | k => [(14, .d (.v (.int .i64 ((k : Nat) : Int))))]) [(0, _), (12, _), (13, _)]
      (fun x => match x.1 with | k => []) [] [] 0 (fun x => match x.1 with | k => d.length - k)
      [] ⟨0, ?_⟩ rfl ?_ ⟨rfl, rfl, rfl, rfl, rfl, rfl, trivial⟩ ?_ trivial rfl ?_
    · first | exact ⟨Nat.zero_le _, rfl⟩ | exact trivial | simp
    · repeat' first | exact trivial | refine ⟨rfl, ?_⟩ | refine ⟨step_nat (by assumption) (by assumption), ?_⟩
    · repeat' first | exact trivial | refine ⟨rfl, ?_⟩ | refine ⟨step_nat (by assumption) (by assumption), ?_⟩
    rintro ⟨k, hk, hI⟩
    show W _ _ _ _ _ ⟨[(14, .d (.v (.int .i64 ((k : Nat) : Int)))), (0, _), (12, _), (13, _)], [], [], 0⟩
    refine W.seq ?_
    refine W.region ?_
    refine pu (ev tab rfl) rfl ?_
    refine WO.nil ?_
    refine qs ?_
    refine W.seq ?_
    refine eachR (l := d) (k := k) rfl (by simp [Ex.kc_len, bytes_len]) hk (fun x hx hd hlt => ?_) (fun he hd => ?_)
    · skip
      rw [hd] at hI
      simp only [nmdsErr] at hI
      refine W.skip ?_
      refine qs ?_
      refine W.seq ?_
      refine W.block ?_
      refine W.seq ?_
      refine W.region ?_
      refine pu (ev tab rfl) rfl ?_
      refine pu (indexAddr tab rfl rfl rfl rfl rfl rfl (Int.natCast_nonneg _) (idx_map hx) rfl) rfl ?_
      first | refine pu (ev tab rfl) rfl ?_ | refine pu (loadRow tab rfl rfl rfl rfl) rfl ?_ | refine pu (loadBox tab rfl rfl rfl rfl rfl) rfl ?_
      refine allocR tab rfl rfl rfl ?_
      refine pu (ev tab rfl) rfl ?_
      refine storeR tab rfl rfl rfl rfl rfl rfl rfl rfl ?_
      refine WO.nil ?_
      refine qs ?_
      refine W.seq ?_
      refine W.seq ?_
      refine W.region ?_
      refine pu (ev tab rfl) rfl ?_
      first | refine pu (ev tab rfl) rfl ?_ | refine pu (loadRow tab rfl rfl rfl rfl) rfl ?_ | refine pu (loadBox tab rfl rfl rfl rfl rfl) rfl ?_
      refine pu (puCall rfl rfl rfl (name_fn ..) rfl) rfl ?_
      refine pu (ev tab rfl) rfl ?_
      refine WO.nil ?_
      refine qs ?_
      refine W.seq ?_
      refine W.region ?_
      iterate 2 refine pu (ev tab rfl) rfl ?_
      refine WO.nil ?_
      refine qs ?_
      refine condK rfl (fun h23 => ?_) (fun h23 => ?_)
      · skip
        have h23 : nameErr x.name ≠ 0 := by simpa using h23
        have hB : nmdErr d k x = nameErr x.name := by unfold nmdErr; rw [if_pos h23]
        simp only [hB] at hI
        rw [if_pos h23] at hI
        refine W.seq ?_
        refine W.region ?_
        iterate 2 refine pu (ev tab rfl) rfl ?_
        refine WO.nil ?_
        refine qs ?_
        refine W.ret ?_
        refine qsRet ?_
        refine qbRet ?_
        refine qsRet ?_
        refine qlRet ?_
        refine qbRet ?_
        refine qsRet ?_
        refine QF.ret0 trivial rfl ?_
        rw [hq, ← hI]; rfl
      · skip
        have h23 : ¬ (nameErr x.name ≠ 0) := by simpa using h23
        refine W.skip ?_
        refine qs ?_
        refine W.seq ?_
        refine W.seq ?_
        obtain ⟨p, q, hpq⟩ := tcells2 (findT (d.take k) x.name)
        have hf := find_fn (d.take k) x.name
        rw [hpq] at hf
        refine W.regionE tab 11 1 (by kernel_rfl) rfl rfl ?_
        refine cePu rfl (ev tab rfl) rfl ?_
        refine cePu rfl (ev tab rfl) rfl ?_
        refine cePu rfl (slToM (fn := Nmd.c) tab rfl rfl rfl rfl rfl rfl (fun _ => rfl) (by omega)) rfl ?_
        refine cePu rfl (ev tab rfl) rfl ?_
        first | refine cePu rfl (ev tab rfl) rfl ?_ | refine cePu rfl (loadRow tab rfl rfl rfl rfl) rfl ?_ | refine cePu rfl (loadBox tab rfl rfl rfl rfl rfl) rfl ?_
        refine cePu rfl (puCall rfl rfl rfl hf rfl) rfl ?_
        refine cePu rfl (ev tab rfl) rfl ?_
        refine cePu rfl (ev tab rfl) rfl ?_
        refine cePu rfl (ev tab rfl) rfl ?_
        refine ceAlloc 0 rfl rfl rfl rfl rfl rfl ?_
        refine ceStore 9 0 rfl rfl rfl rfl rfl rfl rfl rfl rfl rfl rfl rfl ?_
        refine CE.nil ?_
        refine pu (ev tab rfl) rfl ?_
        refine WO.nil ?_
        refine qs ?_
        refine W.seq ?_
        refine W.region ?_
        refine pu (ev tab rfl) rfl ?_
        refine WO.nil ?_
        refine qs ?_
        refine condK rfl (fun h34 => ?_) (fun h34 => ?_)
        · skip
          have hB : nmdErr d k x = 4 := by unfold nmdErr; rw [if_neg h23, if_pos (by rw [← findT_any]; exact h34)]
          simp only [hB] at hI
          rw [if_pos (by decide)] at hI
          refine W.seq ?_
          refine W.region ?_
          refine pu (ev tab rfl) rfl ?_
          refine WO.nil ?_
          refine qs ?_
          refine W.ret ?_
          refine qsRet ?_
          refine qbRet ?_
          refine qsRet ?_
          refine qlRet ?_
          refine qbRet ?_
          refine qsRet ?_
          refine QF.ret0 trivial rfl ?_
          rw [hq, ← hI]; rfl
        · skip
          have hB : nmdErr d k x = tblErr x.table := by unfold nmdErr; rw [if_neg h23, if_neg (by rw [← findT_any]; simp [h34])]
          simp only [hB] at hI
          refine W.skip ?_
          refine qs ?_
          refine W.seq ?_
          refine W.region ?_
          refine pu (ev tab rfl) rfl ?_
          first | refine pu (ev tab rfl) rfl ?_ | refine pu (loadRow tab rfl rfl rfl rfl) rfl ?_ | refine pu (loadBox tab rfl rfl rfl rfl rfl) rfl ?_
          refine pu (puCall rfl rfl rfl (check_fn x.table) rfl) rfl ?_
          refine pu (ev tab rfl) rfl ?_
          refine WO.nil ?_
          refine qs ?_
          refine W.seq ?_
          refine W.region ?_
          iterate 2 refine pu (ev tab rfl) rfl ?_
          refine WO.nil ?_
          refine qs ?_
          refine condK rfl (fun h39 => ?_) (fun h39 => ?_)
          · skip
            rw [if_pos (by simpa using h39)] at hI
            refine W.seq ?_
            refine W.region ?_
            iterate 2 refine pu (ev tab rfl) rfl ?_
            refine WO.nil ?_
            refine qs ?_
            refine W.ret ?_
            refine qbRet ?_
            refine qsRet ?_
            refine qlRet ?_
            refine qbRet ?_
            refine qsRet ?_
            refine QF.ret0 trivial rfl ?_
            rw [hq, ← hI]; rfl
          · skip
            rw [if_neg (by simpa using h39)] at hI
            refine W.skip ?_
            refine qbN ?_
            refine qs ?_
            refine W.region ?_
            iterate 2 refine pu (ev tab rfl) rfl ?_
            refine WO.nil ?_
            refine W.endR [] ⟨k + 1, ?_⟩ ?_ rfl ?_ ⟨rfl, rfl, rfl, rfl, rfl, rfl, trivial⟩ ?_ trivial rfl
            · exact ⟨hlt, hI⟩
            · dsimp only; omega
            · repeat' first | exact trivial | refine ⟨rfl, ?_⟩ | refine ⟨step_nat (by assumption) (by assumption), ?_⟩
            · repeat' first | exact trivial | refine ⟨rfl, ?_⟩ | refine ⟨step_nat (by assumption) (by assumption), ?_⟩
    · skip
      rw [hd] at hI
      simp only [nmdsErr] at hI
      refine W.exit ?_
      refine qsExit ?_
      refine qlExit ?_
      refine qbExit ?_
      refine qs ?_
      refine W.seq ?_
      refine W.region ?_
      refine pu (ev tab rfl) rfl ?_
      refine WO.nil ?_
      refine qs ?_
      refine W.ret ?_
      refine QF.ret0 trivial rfl ?_
      rw [hq, ← hI]; rfl
end Go.Proofs.Ytlmgnlhagpoggaa
namespace Go.Proofs.Ytlmgnlhagpoggaa
open Go.Ab Go.Tb
set_option maxRecDepth 10000
attribute [local irreducible] W WO Pu QS QB QL QF QV QV1 CH QE
theorem clone_fn (l : List Col) (h : l.length ≤ 100000) : Does Try.prog 18 [.d (.sl (l.map Col.c))] (.own 0 (l.map Col.c)) 1 := by
  refine Does.of_W (n := 8) (ts := [2]) Try.func18 (by kernel_rfl) rfl Try.ntmps18 Try.results18 rfl rfl fun C hC hG => ?_
  refine W.seq ?_
  refine W.region ?_
  refine pu (ev tab rfl) rfl ?_
  refine WO.nil ?_
  refine qs ?_
  refine W.seq ?_
  refine W.seq ?_
  refine W.region ?_
  refine pu (ev tab rfl) rfl ?_
  refine nilTestR tab rfl rfl rfl rfl rfl (fun b4 hb4 => ?_)
  refine WO.nil ?_
  refine qs ?_
  refine condK rfl (fun h4 => ?_) (fun h4 => ?_)
  · skip
    refine W.seq ?_
    refine W.region ?_
    refine pu (ev tab rfl) rfl ?_
    refine WO.nil ?_
    refine qs ?_
    try refine ownNilR (d := 2) rfl rfl ?_
    refine W.ret ?_
    refine qsRet ?_
    refine QF.ret1 0 trivial rfl (by simp) ?_
    have hl0 := hb4 h4
    rw [hl0]; rfl
  · skip
    refine W.skip ?_
    refine qs ?_
    refine W.seq ?_
    refine W.region ?_
    refine buildO tab rfl rfl rfl rfl rfl rfl rfl rfl (by rfl) ?_
    refine pu (ev tab rfl) rfl ?_
    refine appendMs (l := []) (fn := Col.c) tab rfl rfl rfl rfl rfl rfl rfl rfl rfl rfl (fun _ => rfl) (by show (0 + l.length) * 24 ≤ _; omega) ?_
    refine pu (ev tab rfl) rfl ?_
    refine WO.nil ?_
    refine qs ?_
    try refine ownNilR (d := 2) rfl rfl ?_
    refine W.ret ?_
    refine QF.ret1 1 trivial rfl (by simp) ?_
    rfl

theorem take_fn (cols : List Col) (names : List ByteArray) (h : names.length ≤ 100000) : Does Try.prog 39 [.d (.sl (cols.map Col.c)), .d (.sl (names.map sc))]
    (.tup [.own 0 ((takeT cols [] names).1.map Col.c), .d (.v (.int .i64 (takeT cols [] names).2))]) 1 := by
  refine Does.of_W (n := 30) (ts := [4, 5]) Try.func39 (by kernel_rfl) rfl Try.ntmps39 Try.results39 rfl rfl fun C hC hG => ?_
  refine W.seq ?_
  refine W.region ?_
  iterate 2 refine pu (ev tab rfl) rfl ?_
  refine WO.nil ?_
  refine qs ?_
  refine W.seq ?_
  refine W.region ?_
  refine pu (ev tab rfl) rfl ?_
  refine WO.nil ?_
  refine qs ?_
  refine W.seq ?_
  refine W.seq ?_
  refine W.region ?_
  iterate 3 refine pu (ev tab rfl) rfl ?_
  refine WO.nil ?_
  refine qs ?_
  refine W.block ?_
  refine ownNilR (d := 6) rfl rfl ?_
  refine W.len (t := 10) rfl rfl (fun hlen => ?_)
  try simp only [List.length_map, Ex.kc_len] at hlen
  refine W.loopR (ι := {x : Nat × List Col // match x with | (k, out) => k ≤ names.length ∧ takeT cols out (names.drop k) = takeT cols [] names ∧ out.length = k})
    (fun x => match x.1 with | (k, out) => [(6, .own 0 (out.map Col.c)), (12, .d (.v (.int .i64 ((k : Nat) : Int))))]) [(0, _), (10, _), (11, _)]
    (fun x => match x.1 with | (k, out) => []) [] [0] 1 (fun x => match x.1 with | (k, out) => names.length - k)
    [0] ⟨(0, []), ?_⟩ rfl ?_ ⟨rfl, rfl, rfl, rfl, rfl, rfl, trivial⟩ ?_ trivial rfl ?_
  · exact ⟨Nat.zero_le _, rfl, rfl⟩
  · repeat' first | exact trivial | refine ⟨rfl, ?_⟩ | refine ⟨step_nat (by assumption) (by assumption), ?_⟩
  · repeat' first | exact trivial | refine ⟨rfl, ?_⟩ | refine ⟨step_nat (by assumption) (by assumption), ?_⟩
  rintro ⟨⟨k, out⟩, hk, hI, hL⟩
  show W _ _ _ _ _ ⟨[(6, .own 0 (out.map Col.c)), (12, .d (.v (.int .i64 ((k : Nat) : Int)))), (0, _), (10, _), (11, _)], [], [0], 1⟩
  refine W.seq ?_
  refine W.region ?_
  refine pu (ev tab rfl) rfl ?_
  refine WO.nil ?_
  refine qs ?_
  refine W.seq ?_
  refine eachR (l := names) (k := k) rfl (by simp [Ex.kc_len, bytes_len]) hk (fun x hx hd hlt => ?_) (fun he hd => ?_)
  · skip
    rw [hd] at hI
    simp only [takeT] at hI
    refine W.skip ?_
    refine qs ?_
    refine W.seq ?_
    refine W.block ?_
    refine W.seq ?_
    refine W.region ?_
    refine pu (indexAddr tab rfl rfl rfl rfl rfl rfl (Int.natCast_nonneg _) (idx_map hx) rfl) rfl ?_
    first | refine pu (ev tab rfl) rfl ?_ | refine pu (loadRow tab rfl rfl rfl rfl) rfl ?_ | refine pu (loadBox tab rfl rfl rfl rfl rfl) rfl ?_
    refine pu (ev tab rfl) rfl ?_
    refine WO.nil ?_
    refine qs ?_
    refine W.seq ?_
    refine W.region ?_
    iterate 2 refine pu (ev tab rfl) rfl ?_
    refine pu (puCall rfl rfl rfl (column_fn ..) rfl) rfl ?_
    refine pu (ev tab rfl) rfl ?_
    refine WO.nil ?_
    refine qs ?_
    refine W.seq ?_
    refine W.seq ?_
    refine W.region ?_
    iterate 2 refine pu (ev tab rfl) rfl ?_
    refine WO.nil ?_
    refine qs ?_
    refine condK rfl (fun h20 => ?_) (fun h20 => ?_)
    · skip
      have h5 : findCol cols x = none := find_none (of_decide_eq_true h20)
      rw [h5] at hI
      refine W.seq ?_
      refine W.region ?_
      iterate 2 refine pu (ev tab rfl) rfl ?_
      refine WO.nil ?_
      refine qs ?_
      try refine ownNilR (d := 4) rfl rfl ?_
      refine W.ret ?_
      refine qsRet ?_
      refine qbRet ?_
      refine qsRet ?_
      refine qlRet ?_
      refine qbRet ?_
      refine qsRet ?_
      refine QF.ret1 1 trivial rfl (by simp) ?_
      rw [← hI]; rfl
    · skip
      obtain ⟨i, c, h3, h4, h5, h6⟩ := find_some (of_decide_eq_false h20)
      have h5 : findCol cols x = some c := h5
      rw [h5] at hI
      refine W.skip ?_
      refine qs ?_
      refine W.region ?_
      iterate 3 refine pu (ev tab rfl) rfl ?_
      refine pu (indexAddr tab rfl rfl rfl rfl rfl rfl (i := idx _) (by rw [h3]; exact Int.natCast_nonneg _) (by rw [h3]; exact idx_map h4) rfl) rfl ?_
      first | refine pu (ev tab rfl) rfl ?_ | refine pu (loadRow tab rfl rfl rfl rfl) rfl ?_ | refine pu (loadBox tab rfl rfl rfl rfl rfl) rfl ?_
      refine pu (buildV tab rfl rfl rfl rfl rfl rfl rfl rfl rfl) rfl ?_
      refine appendM (fn := Col.c) (a := c) tab rfl rfl rfl rfl rfl rfl rfl rfl rfl rfl (fun _ => rfl) (by show (out.length + 1) * 24 ≤ _; omega) ?_
      refine pu (ev tab rfl) rfl ?_
      refine WO.nil ?_
      refine qbN ?_
      refine qs ?_
      refine W.region ?_
      iterate 2 refine pu (ev tab rfl) rfl ?_
      refine WO.nil ?_
      refine W.endR [1] ⟨(k + 1, out ++ [c]), ?_⟩ ?_ rfl ?_ ⟨rfl, rfl, rfl, rfl, rfl, rfl, trivial⟩ ?_ trivial rfl
      · exact ⟨hlt, hI, by simp [hL]⟩
      · dsimp only; omega
      · repeat' first | exact trivial | refine ⟨rfl, ?_⟩ | refine ⟨step_nat (by assumption) (by assumption), ?_⟩
      · repeat' first | exact trivial | refine ⟨rfl, ?_⟩ | refine ⟨step_nat (by assumption) (by assumption), ?_⟩
  · skip
    rw [hd] at hI
    simp only [takeT] at hI
    refine W.exit ?_
    refine qsExit ?_
    refine qlExit ?_
    refine qbExit ?_
    refine qs ?_
    refine W.seq ?_
    refine W.region ?_
    iterate 3 refine pu (ev tab rfl) rfl ?_
    refine WO.nil ?_
    refine qs ?_
    try refine ownNilR (d := 4) rfl rfl ?_
    refine W.ret ?_
    refine QF.ret1 0 trivial rfl (by simp) ?_
    rw [← hI]; rfl

theorem integer_fn (cols : List Col) (name : ByteArray) : Does Try.prog 43 [.d (.sl (cols.map Col.c)), .d (.v (.string name))] (.d (.v (.int .i64 (intErr cols name)))) 0 := by
  refine Does.of_W (n := 19) (ts := [4]) Try.func43 (by kernel_rfl) rfl Try.ntmps43 Try.results43 rfl rfl fun C hC hG => ?_
  refine W.seq ?_
  refine W.region ?_
  refine pu (ev tab rfl) rfl ?_
  refine WO.nil ?_
  refine qs ?_
  refine W.seq ?_
  refine W.region ?_
  iterate 2 refine pu (ev tab rfl) rfl ?_
  refine pu (puCall rfl rfl rfl (column_fn ..) rfl) rfl ?_
  refine pu (ev tab rfl) rfl ?_
  refine WO.nil ?_
  refine qs ?_
  refine W.seq ?_
  refine W.block ?_
  refine W.seq ?_
  refine W.region ?_
  iterate 3 refine pu (ev tab rfl) rfl ?_
  refine WO.nil ?_
  refine qs ?_
  refine condK rfl (fun h9 => ?_) (fun h9 => ?_)
  · skip
    have h5 : findCol cols name = none := find_none (of_decide_eq_true h9)
    refine W.seq ?_
    refine W.region ?_
    refine pu (ev tab rfl) rfl ?_
    refine WO.nil ?_
    refine qs ?_
    refine W.ret ?_
    refine qbRet ?_
    refine qsRet ?_
    refine QF.ret0 trivial rfl ?_
    simp only [norm, oneA, intErr, h5] <;> simp_all
  · skip
    obtain ⟨i, c, h3, h4, h5, h6⟩ := find_some (of_decide_eq_false h9)
    have h5 : findCol cols name = some c := h5
    refine W.seq ?_
    refine W.region ?_
    iterate 2 refine pu (ev tab rfl) rfl ?_
    refine pu (indexAddr tab rfl rfl rfl rfl rfl rfl (i := idx _) (by rw [h3]; exact Int.natCast_nonneg _) (by rw [h3]; exact idx_map h4) rfl) rfl ?_
    refine pu (ev tab rfl) rfl ?_
    first | refine pu (ev tab rfl) rfl ?_ | refine pu (loadRow tab rfl rfl rfl rfl) rfl ?_ | refine pu (loadBox tab rfl rfl rfl rfl rfl) rfl ?_
    iterate 2 refine pu (ev tab rfl) rfl ?_
    refine WO.nil ?_
    refine qs ?_
    refine condK rfl (fun h12 => ?_) (fun h12 => ?_)
    · skip
      refine W.seq ?_
      refine W.region ?_
      refine pu (ev tab rfl) rfl ?_
      refine WO.nil ?_
      refine qs ?_
      refine W.ret ?_
      refine qbRet ?_
      refine qsRet ?_
      refine QF.ret0 trivial rfl ?_
      simp only [norm, oneA, intErr, h5] <;> simp_all
    · skip
      refine W.skip ?_
      refine qbN ?_
      refine qs ?_
      refine W.seq ?_
      refine W.region ?_
      refine pu (ev tab rfl) rfl ?_
      refine WO.nil ?_
      refine qs ?_
      refine W.ret ?_
      refine QF.ret0 trivial rfl ?_
      simp only [norm, oneA, intErr, h5] <;> simp_all

theorem selected_fn (cols : List Col) (l : List Itm) (h : l.length ≤ 100000) (hv : ∀ x ∈ l, nodesErr x.e = 0) : Does Try.prog 21 [.d (.sl (cols.map Col.c)), .d (.sl (l.map Itm.c))]
    (.tup [.d (.sl ((selT cols [] l).1.map Col.c)), .d (.v (.int .i64 (selT cols [] l).2))]) 0 := by
  refine Does.of_W (n := 38) (ts := [4, 5]) Try.func21 (by kernel_rfl) rfl Try.ntmps21 Try.results21 rfl rfl fun C hC hG => ?_
  refine W.seq ?_
  refine W.region ?_
  iterate 2 refine pu (ev tab rfl) rfl ?_
  refine WO.nil ?_
  refine qs ?_
  refine W.seq ?_
  refine W.region ?_
  refine pu (ev tab rfl) rfl ?_
  refine WO.nil ?_
  refine qs ?_
  refine W.seq ?_
  refine W.seq ?_
  refine W.region ?_
  iterate 3 refine pu (ev tab rfl) rfl ?_
  refine WO.nil ?_
  refine qs ?_
  refine W.block ?_
  refine ownNilR (d := 6) rfl rfl ?_
  refine W.len (t := 11) rfl rfl (fun hlen => ?_)
  try simp only [List.length_map, Ex.kc_len] at hlen
  refine W.loopR (ι := {x : Nat × List Col // match x with | (k, out) => k ≤ l.length ∧ selT cols out (l.drop k) = selT cols [] l ∧ out.length = k})
    (fun x => match x.1 with | (k, out) => [(6, .own 0 (out.map Col.c)), (13, .d (.v (.int .i64 ((k : Nat) : Int))))]) [(0, _), (11, _), (12, _)]
    (fun x => match x.1 with | (k, out) => []) [] [0] 1 (fun x => match x.1 with | (k, out) => l.length - k)
    [0] ⟨(0, []), ?_⟩ rfl ?_ ⟨rfl, rfl, rfl, rfl, rfl, rfl, trivial⟩ ?_ trivial rfl ?_
  · exact ⟨Nat.zero_le _, rfl, rfl⟩
  · repeat' first | exact trivial | refine ⟨rfl, ?_⟩ | refine ⟨step_nat (by assumption) (by assumption), ?_⟩
  · repeat' first | exact trivial | refine ⟨rfl, ?_⟩ | refine ⟨step_nat (by assumption) (by assumption), ?_⟩
  rintro ⟨⟨k, out⟩, hk, hI, hL⟩
  show W _ _ _ _ _ ⟨[(6, .own 0 (out.map Col.c)), (13, .d (.v (.int .i64 ((k : Nat) : Int)))), (0, _), (11, _), (12, _)], [], [0], 1⟩
  refine W.seq ?_
  refine W.region ?_
  refine pu (ev tab rfl) rfl ?_
  refine WO.nil ?_
  refine qs ?_
  refine W.seq ?_
  refine eachR (l := l) (k := k) rfl (by simp [Ex.kc_len, bytes_len]) hk (fun x hx hd hlt => ?_) (fun he hd => ?_)
  · skip
    rw [hd] at hI
    simp only [selT] at hI
    refine W.skip ?_
    refine qs ?_
    refine W.seq ?_
    refine W.block ?_
    refine W.seq ?_
    refine W.region ?_
    refine pu (indexAddr tab rfl rfl rfl rfl rfl rfl (Int.natCast_nonneg _) (idx_map hx) rfl) rfl ?_
    first | refine pu (ev tab rfl) rfl ?_ | refine pu (loadRow tab rfl rfl rfl rfl) rfl ?_ | refine pu (loadBox tab rfl rfl rfl rfl rfl) rfl ?_
    refine allocR tab rfl rfl rfl ?_
    refine storeR tab rfl rfl rfl rfl rfl rfl rfl rfl ?_
    refine WO.nil ?_
    refine qs ?_
    refine W.seq ?_
    refine W.region ?_
    iterate 2 refine pu (ev tab rfl) rfl ?_
    first | refine pu (ev tab rfl) rfl ?_ | refine pu (loadRow tab rfl rfl rfl rfl) rfl ?_ | refine pu (loadBox tab rfl rfl rfl rfl rfl) rfl ?_
    refine pu (puCall rfl rfl rfl (tnode_fn cols x.e (hv x (List.mem_of_getElem? hx))) rfl) rfl ?_
    iterate 5 refine pu (ev tab rfl) rfl ?_
    refine WO.nil ?_
    refine qs ?_
    refine W.seq ?_
    refine W.seq ?_
    refine W.region ?_
    iterate 2 refine pu (ev tab rfl) rfl ?_
    refine WO.nil ?_
    refine qs ?_
    refine condK rfl (fun h25 => ?_) (fun h25 => ?_)
    · skip
      rw [if_pos (by simpa using h25)] at hI
      refine W.seq ?_
      refine W.region ?_
      iterate 3 refine pu (ev tab rfl) rfl ?_
      refine WO.nil ?_
      refine qs ?_
      try refine ownNilR (d := 4) rfl rfl ?_
      refine W.ret ?_
      refine qsRet ?_
      refine qbRet ?_
      refine qsRet ?_
      refine qlRet ?_
      refine qbRet ?_
      refine qsRet ?_
      refine QF.ret0 trivial rfl ?_
      rw [← hI]; rfl
    · skip
      rw [if_neg (by simpa using h25)] at hI
      refine W.skip ?_
      refine qs ?_
      refine W.seq ?_
      refine W.seq ?_
      refine W.region ?_
      iterate 2 refine pu (ev tab rfl) rfl ?_
      refine WO.nil ?_
      refine qs ?_
      refine condK rfl (fun h28 => ?_) (fun h28 => ?_)
      · skip
        rw [if_pos (by simpa using h28)] at hI
        refine W.seq ?_
        refine W.region ?_
        iterate 2 refine pu (ev tab rfl) rfl ?_
        refine WO.nil ?_
        refine qs ?_
        try refine ownNilR (d := 4) rfl rfl ?_
        refine W.ret ?_
        refine qsRet ?_
        refine qbRet ?_
        refine qsRet ?_
        refine qlRet ?_
        refine qbRet ?_
        refine qsRet ?_
        refine QF.ret0 trivial rfl ?_
        rw [← hI]; rfl
      · skip
        rw [if_neg (by simpa using h28)] at hI
        refine W.skip ?_
        refine qs ?_
        refine W.region ?_
        iterate 2 refine pu (ev tab rfl) rfl ?_
        first | refine pu (ev tab rfl) rfl ?_ | refine pu (loadRow tab rfl rfl rfl rfl) rfl ?_ | refine pu (loadBox tab rfl rfl rfl rfl rfl) rfl ?_
        refine pu (ev tab rfl) rfl ?_
        refine pu (build tab rfl rfl rfl rfl) rfl ?_
        refine pu (buildV tab rfl rfl rfl rfl rfl rfl rfl rfl rfl) rfl ?_
        refine appendM (fn := Col.c) (a := ⟨x.name, (typ cols x.e).1⟩) tab rfl rfl rfl rfl rfl rfl rfl rfl rfl rfl (fun _ => rfl) (by show (out.length + 1) * 24 ≤ _; omega) ?_
        refine pu (ev tab rfl) rfl ?_
        refine WO.nil ?_
        refine qbN ?_
        refine qs ?_
        refine W.region ?_
        iterate 2 refine pu (ev tab rfl) rfl ?_
        refine WO.nil ?_
        refine W.endR [2] ⟨(k + 1, out ++ [⟨x.name, (typ cols x.e).1⟩]), ?_⟩ ?_ rfl ?_ ⟨rfl, rfl, rfl, rfl, rfl, rfl, trivial⟩ ?_ trivial rfl
        · exact ⟨hlt, hI, by simp [hL]⟩
        · dsimp only; omega
        · repeat' first | exact trivial | refine ⟨rfl, ?_⟩ | refine ⟨step_nat (by assumption) (by assumption), ?_⟩
        · repeat' first | exact trivial | refine ⟨rfl, ?_⟩ | refine ⟨step_nat (by assumption) (by assumption), ?_⟩
  · skip
    rw [hd] at hI
    simp only [selT] at hI
    refine W.exit ?_
    refine qsExit ?_
    refine qlExit ?_
    refine qbExit ?_
    refine qs ?_
    refine W.seq ?_
    refine W.region ?_
    iterate 3 refine pu (ev tab rfl) rfl ?_
    refine WO.nil ?_
    refine qs ?_
    try refine ownNilR (d := 4) rfl rfl ?_
    refine W.ret ?_
    refine QF.ret0 trivial rfl ?_
    rw [← hI]; rfl
end Go.Proofs.Ytlmgnlhagpoggaa
namespace Go.Proofs.Ytlmgnlhagpoggaa
open Go.Ab Go.Tb
set_option maxRecDepth 10000
attribute [local irreducible] W WO Pu QS QB QL QF QV QV1 CH QE
theorem takeT_len (cols : List Col) : ∀ (names : List ByteArray) (out : List Col), (takeT cols out names).1.length ≤ out.length + names.length
  | [], out => by simp [takeT]
  | s :: r, out => by
    simp only [takeT]
    split
    · simp
    · have := takeT_len cols r (out ++ [‹Col›]); simp at this ⊢; omega
theorem take1 (cols : List Col) (s : ByteArray) : takeT cols [] [s] = (match findCol cols s with | none => ([], 16) | some c => ([c], 0)) := by
  cases h : findCol cols s <;> simp [takeT, h]

theorem grouped_fn (cols : List Col) (s : Stp) (h1 : s.cols.length ≤ 1000) (h2 : s.aggs.length ≤ 1000) : Does Try.prog 22 [.d (.sl (cols.map Col.c)), .ag s.c]
    (.tup [.d (.sl ((groupT cols s).1.map Col.c)), .d (.v (.int .i64 (groupT cols s).2))]) 0 := by
  have htl := takeT_len cols s.cols []
  have hg : groupT cols s = groupT cols s := rfl
  conv at hg => rhs; unfold groupT
  refine Does.of_W (n := 68) (ts := [4, 5]) Try.func22 (by kernel_rfl) rfl Try.ntmps22 Try.results22 rfl rfl fun C hC hG => ?_
  refine W.seq ?_
  refine W.region ?_
  refine boxR rfl rfl rfl ?_
  iterate 2 refine pu (ev tab rfl) rfl ?_
  refine WO.nil ?_
  refine qs ?_
  refine W.seq ?_
  refine W.region ?_
  iterate 2 refine pu (ev tab rfl) rfl ?_
  first | refine pu (ev tab rfl) rfl ?_ | refine pu (loadRow tab rfl rfl rfl rfl) rfl ?_ | refine pu (loadBox tab rfl rfl rfl rfl rfl) rfl ?_
  refine callR rfl rfl rfl (take_fn cols s.cols (by omega)) (by rfl) rfl rfl ?_
  iterate 5 refine pu (ev tab rfl) rfl ?_
  refine WO.nil ?_
  refine qs ?_
  refine W.seq ?_
  refine W.seq ?_
  refine W.region ?_
  iterate 2 refine pu (ev tab rfl) rfl ?_
  refine WO.nil ?_
  refine qs ?_
  refine condK rfl (fun h21 => ?_) (fun h21 => ?_)
  · skip
    rw [if_pos (by simpa using h21)] at hg
    refine W.seq ?_
    refine W.region ?_
    iterate 3 refine pu (ev tab rfl) rfl ?_
    refine WO.nil ?_
    refine qs ?_
    try refine ownNilR (d := 4) rfl rfl ?_
    refine W.ret ?_
    refine qsRet ?_
    refine QF.ret0 trivial rfl ?_
    rw [hg]; rfl
  · skip
    rw [if_neg (by simpa using h21)] at hg
    refine W.skip ?_
    refine qs ?_
    refine W.seq ?_
    refine W.seq ?_
    refine W.region ?_
    refine pu (ev tab rfl) rfl ?_
    first | refine pu (ev tab rfl) rfl ?_ | refine pu (loadRow tab rfl rfl rfl rfl) rfl ?_ | refine pu (loadBox tab rfl rfl rfl rfl rfl) rfl ?_
    iterate 2 refine pu (ev tab rfl) rfl ?_
    refine WO.nil ?_
    refine qs ?_
    refine W.block ?_
    refine W.len (t := 24) rfl rfl (fun hlen => ?_)
    try simp only [List.length_map, Ex.kc_len] at hlen
    refine W.loopR (ι := {x : Nat × List Col // match x with | (k, out) => k ≤ s.aggs.length ∧ aggT cols out (s.aggs.drop k) = aggT cols (takeT cols [] s.cols).1 s.aggs ∧ out.length ≤ 1000 + k})
      (fun x => match x.1 with | (k, out) => [(6, .own 0 (out.map Col.c)), (26, .d (.v (.int .i64 ((k : Nat) : Int))))]) [(0, _), (24, _), (25, _)]
      (fun x => match x.1 with | (k, out) => []) [] [0] 1 (fun x => match x.1 with | (k, out) => s.aggs.length - k)
      [1] ⟨(0, (takeT cols [] s.cols).1), ?_⟩ rfl ?_ ⟨rfl, rfl, rfl, rfl, rfl, rfl, trivial⟩ ?_ trivial rfl ?_
    · exact ⟨Nat.zero_le _, rfl, by simp at htl; omega⟩
    · repeat' first | exact trivial | refine ⟨rfl, ?_⟩ | refine ⟨step_nat (by assumption) (by assumption), ?_⟩
    · repeat' first | exact trivial | refine ⟨rfl, ?_⟩ | refine ⟨step_nat (by assumption) (by assumption), ?_⟩
    rintro ⟨⟨k, out⟩, hk, hI, hL⟩
    show W _ _ _ _ _ ⟨[(6, .own 0 (out.map Col.c)), (26, .d (.v (.int .i64 ((k : Nat) : Int)))), (0, _), (24, _), (25, _)], [], [0], 1⟩
    refine W.seq ?_
    refine W.region ?_
    refine pu (ev tab rfl) rfl ?_
    refine WO.nil ?_
    refine qs ?_
    refine W.seq ?_
    refine eachR (l := s.aggs) (k := k) rfl (by simp [Ex.kc_len, bytes_len]) hk (fun x hx hd hlt => ?_) (fun he hd => ?_)
    · skip
      rw [hd] at hI
      simp only [aggT] at hI
      refine W.skip ?_
      refine qs ?_
      refine W.seq ?_
      refine W.block ?_
      refine W.seq ?_
      refine W.region ?_
      refine pu (indexAddr tab rfl rfl rfl rfl rfl rfl (Int.natCast_nonneg _) (idx_map hx) rfl) rfl ?_
      first | refine pu (ev tab rfl) rfl ?_ | refine pu (loadRow tab rfl rfl rfl rfl) rfl ?_ | refine pu (loadBox tab rfl rfl rfl rfl rfl) rfl ?_
      refine allocR tab rfl rfl rfl ?_
      refine storeR tab rfl rfl rfl rfl rfl rfl rfl rfl ?_
      refine WO.nil ?_
      refine qs ?_
      refine W.seq ?_
      refine W.region ?_
      refine pu (ev tab rfl) rfl ?_
      first | refine pu (ev tab rfl) rfl ?_ | refine pu (loadRow tab rfl rfl rfl rfl) rfl ?_ | refine pu (loadBox tab rfl rfl rfl rfl rfl) rfl ?_
      refine pu (build tab rfl rfl rfl rfl) rfl ?_
      refine allocR tab rfl rfl rfl ?_
      refine storeR tab rfl rfl rfl rfl rfl rfl rfl rfl ?_
      refine WO.nil ?_
      refine qs ?_
      refine W.seq ?_
      refine W.seq ?_
      refine W.region ?_
      refine pu (ev tab rfl) rfl ?_
      first | refine pu (ev tab rfl) rfl ?_ | refine pu (loadRow tab rfl rfl rfl rfl) rfl ?_ | refine pu (loadBox tab rfl rfl rfl rfl rfl) rfl ?_
      refine pu (ev tab rfl) rfl ?_
      refine WO.nil ?_
      refine qs ?_
      refine condK rfl (fun h35 => ?_) (fun h35 => ?_)
      · skip
        have h35 : ¬ (x.fn = wCount) := by simpa [wCount] using h35
        rw [if_neg h35] at hI
        have ht1 := take1 cols x.col
        refine W.seq ?_
        refine W.region ?_
        iterate 2 refine pu (ev tab rfl) rfl ?_
        first | refine pu (ev tab rfl) rfl ?_ | refine pu (loadRow tab rfl rfl rfl rfl) rfl ?_ | refine pu (loadBox tab rfl rfl rfl rfl rfl) rfl ?_
        refine pu (buildV tab rfl rfl rfl rfl rfl rfl rfl rfl rfl) rfl ?_
        refine callR rfl rfl rfl (take_fn cols [x.col] (by simp)) (by rfl) rfl rfl ?_
        iterate 5 refine pu (ev tab rfl) rfl ?_
        refine WO.nil ?_
        refine qs ?_
        refine W.seq ?_
        refine W.seq ?_
        refine W.region ?_
        iterate 2 refine pu (ev tab rfl) rfl ?_
        refine WO.nil ?_
        refine qs ?_
        refine condK rfl (fun h45 => ?_) (fun h45 => ?_)
        · skip
          have h5 : findCol cols x.col = none := by cases hf : findCol cols x.col with | none => rfl | some c => rw [hf] at ht1; rw [ht1] at h45; simp at h45
          rw [h5] at hI ht1
          rw [ht1]
          refine W.seq ?_
          refine W.region ?_
          iterate 3 refine pu (ev tab rfl) rfl ?_
          refine WO.nil ?_
          refine qs ?_
          try refine ownNilR (d := 4) rfl rfl ?_
          refine W.ret ?_
          refine qsRet ?_
          refine qsRet ?_
          refine qbRet ?_
          refine qsRet ?_
          refine qlRet ?_
          refine qbRet ?_
          refine qsRet ?_
          refine QF.ret0 trivial rfl ?_
          rw [hg, ← hI]; rfl
        · skip
          obtain ⟨c, h5⟩ : ∃ c, findCol cols x.col = some c := by cases hf : findCol cols x.col with | none => rw [hf] at ht1; rw [ht1] at h45; simp at h45 | some c => exact ⟨c, rfl⟩
          rw [h5] at hI ht1
          simp only at hI
          rw [ht1]
          refine W.skip ?_
          refine qs ?_
          refine W.seq ?_
          refine W.seq ?_
          apply regionB; (case hb => rfl)
          · skip
            refine pu (ev tab rfl) rfl ?_
            first | refine pu (ev tab rfl) rfl ?_ | refine pu (loadRow tab rfl rfl rfl rfl) rfl ?_ | refine pu (loadBox tab rfl rfl rfl rfl rfl) rfl ?_
            iterate 2 refine pu (ev tab rfl) rfl ?_
            apply splitJ; (case hj => rfl); (case hl => rfl)
            · skip
              refine goG rfl rfl ?_
              refine pu (ev tab rfl) rfl ?_
              refine goG rfl rfl ?_
              refine pu (indexAddr tab rfl rfl rfl rfl rfl rfl (i := 0) (by omega) (show ([c].map Col.c)[((0 : Int)).toNat]? = some c.c from rfl) rfl) rfl ?_
              refine goG rfl rfl ?_
              refine pu (ev tab rfl) rfl ?_
              refine goG rfl rfl ?_
              first | refine pu (ev tab rfl) rfl ?_ | refine pu (loadRow tab rfl rfl rfl rfl) rfl ?_ | refine pu (loadBox tab rfl rfl rfl rfl rfl) rfl ?_
              refine goG rfl rfl ?_
              iterate 2 refine pu (ev tab rfl) rfl ?_
              refine WO.nil ?_
              refine qv1 rfl rfl rfl
            · skip
              refine skipT rfl rfl rfl rfl ?_
              refine skipT rfl rfl rfl rfl ?_
              refine skipT rfl rfl rfl rfl ?_
              refine skipT rfl rfl rfl rfl ?_
              refine skipT rfl rfl rfl rfl ?_
              refine pu (ev tab rfl) rfl ?_
              refine WO.nil ?_
              refine qv1 rfl rfl rfl
          refine qs ?_
          refine condK rfl (fun h56 => ?_) (fun h56 => ?_)
          · skip
            have h56 : x.fn = wSum ∧ c.type ≠ 2 := by revert h56; simp only [wSum]; by_cases q : x.fn = B #[115, 117, 109] <;> simp [q]
            rw [if_pos h56] at hI
            refine W.seq ?_
            refine W.region ?_
            iterate 2 refine pu (ev tab rfl) rfl ?_
            refine WO.nil ?_
            refine qs ?_
            try refine ownNilR (d := 4) rfl rfl ?_
            refine W.ret ?_
            refine qsRet ?_
            refine qsRet ?_
            refine qbRet ?_
            refine qsRet ?_
            refine qlRet ?_
            refine qbRet ?_
            refine qsRet ?_
            refine QF.ret0 trivial rfl ?_
            rw [hg, ← hI]; rfl
          · skip
            have h56 : ¬ (x.fn = wSum ∧ c.type ≠ 2) := by revert h56; simp only [wSum]; by_cases q : x.fn = B #[115, 117, 109] <;> simp [q]
            rw [if_neg h56] at hI
            refine W.skip ?_
            refine qs ?_
            refine W.region ?_
            refine pu (ev tab rfl) rfl ?_
            refine pu (indexAddr tab rfl rfl rfl rfl rfl rfl (i := 0) (by omega) (show ([c].map Col.c)[((0 : Int)).toNat]? = some c.c from rfl) rfl) rfl ?_
            refine pu (ev tab rfl) rfl ?_
            first | refine pu (ev tab rfl) rfl ?_ | refine pu (loadRow tab rfl rfl rfl rfl) rfl ?_ | refine pu (loadBox tab rfl rfl rfl rfl rfl) rfl ?_
            refine pu (ev tab rfl) rfl ?_
            refine storeR tab rfl rfl rfl rfl rfl rfl rfl rfl ?_
            refine WO.nil ?_
            refine qs ?_
            refine W.region ?_
            refine pu (ev tab rfl) rfl ?_
            first | refine pu (ev tab rfl) rfl ?_ | refine pu (loadRow tab rfl rfl rfl rfl) rfl ?_ | refine pu (loadBox tab rfl rfl rfl rfl rfl) rfl ?_
            refine pu (buildV tab rfl rfl rfl rfl rfl rfl rfl rfl rfl) rfl ?_
            first | refine appendM (fn := Col.c) (a := ⟨x.name, c.type⟩) tab rfl rfl rfl rfl rfl rfl rfl rfl rfl rfl (fun _ => rfl) (by show (out.length + 1) * 24 ≤ _; omega) ?_ | refine appendM (fn := Col.c) (a := ⟨x.name, 2⟩) tab rfl rfl rfl rfl rfl rfl rfl rfl rfl rfl (fun _ => rfl) (by show (out.length + 1) * 24 ≤ _; omega) ?_
            refine pu (ev tab rfl) rfl ?_
            refine WO.nil ?_
            refine qbN ?_
            refine qs ?_
            refine W.region ?_
            iterate 2 refine pu (ev tab rfl) rfl ?_
            refine WO.nil ?_
            first | (refine W.endR [4] ⟨(k + 1, out ++ [⟨x.name, c.type⟩]), ?_⟩ ?_ rfl ?_ ⟨rfl, rfl, rfl, rfl, rfl, rfl, trivial⟩ ?_ trivial rfl) | (refine W.endR [3] ⟨(k + 1, out ++ [⟨x.name, 2⟩]), ?_⟩ ?_ rfl ?_ ⟨rfl, rfl, rfl, rfl, rfl, rfl, trivial⟩ ?_ trivial rfl)
            · exact ⟨hlt, hI, by simp; omega⟩
            · dsimp only; omega
            · repeat' first | exact trivial | refine ⟨rfl, ?_⟩ | refine ⟨step_nat (by assumption) (by assumption), ?_⟩
            · repeat' first | exact trivial | refine ⟨rfl, ?_⟩ | refine ⟨step_nat (by assumption) (by assumption), ?_⟩
      · skip
        have h35 : x.fn = wCount := by simpa [wCount] using h35
        rw [if_pos h35] at hI
        refine W.skip ?_
        refine qs ?_
        refine W.region ?_
        refine pu (ev tab rfl) rfl ?_
        first | refine pu (ev tab rfl) rfl ?_ | refine pu (loadRow tab rfl rfl rfl rfl) rfl ?_ | refine pu (loadBox tab rfl rfl rfl rfl rfl) rfl ?_
        refine pu (buildV tab rfl rfl rfl rfl rfl rfl rfl rfl rfl) rfl ?_
        first | refine appendM (fn := Col.c) (a := ⟨x.name, c.type⟩) tab rfl rfl rfl rfl rfl rfl rfl rfl rfl rfl (fun _ => rfl) (by show (out.length + 1) * 24 ≤ _; omega) ?_ | refine appendM (fn := Col.c) (a := ⟨x.name, 2⟩) tab rfl rfl rfl rfl rfl rfl rfl rfl rfl rfl (fun _ => rfl) (by show (out.length + 1) * 24 ≤ _; omega) ?_
        refine pu (ev tab rfl) rfl ?_
        refine WO.nil ?_
        refine qbN ?_
        refine qs ?_
        refine W.region ?_
        iterate 2 refine pu (ev tab rfl) rfl ?_
        refine WO.nil ?_
        first | (refine W.endR [4] ⟨(k + 1, out ++ [⟨x.name, c.type⟩]), ?_⟩ ?_ rfl ?_ ⟨rfl, rfl, rfl, rfl, rfl, rfl, trivial⟩ ?_ trivial rfl) | (refine W.endR [3] ⟨(k + 1, out ++ [⟨x.name, 2⟩]), ?_⟩ ?_ rfl ?_ ⟨rfl, rfl, rfl, rfl, rfl, rfl, trivial⟩ ?_ trivial rfl)
        · exact ⟨hlt, hI, by simp; omega⟩
        · dsimp only; omega
        · repeat' first | exact trivial | refine ⟨rfl, ?_⟩ | refine ⟨step_nat (by assumption) (by assumption), ?_⟩
        · repeat' first | exact trivial | refine ⟨rfl, ?_⟩ | refine ⟨step_nat (by assumption) (by assumption), ?_⟩
    · skip
      rw [hd] at hI
      simp only [aggT] at hI
      refine W.exit ?_
      refine qsExit ?_
      refine qlExit ?_
      refine qbExit ?_
      refine qs ?_
      refine W.seq ?_
      refine W.region ?_
      iterate 3 refine pu (ev tab rfl) rfl ?_
      refine WO.nil ?_
      refine qs ?_
      try refine ownNilR (d := 4) rfl rfl ?_
      refine W.ret ?_
      refine QF.ret0 trivial rfl ?_
      rw [hg, ← hI]; rfl
end Go.Proofs.Ytlmgnlhagpoggaa
namespace Go.Proofs.Ytlmgnlhagpoggaa
open Go.Ab Go.Tb
set_option maxRecDepth 10000
attribute [local irreducible] W WO Pu QS QB QL QF QV QV1 CH QE
def putT (cols : List Col) : List Col → List ByteArray → CT
  | out, [] => (out, 0)
  | out, s :: r => if intErr cols s ≠ 0 then ([], intErr cols s) else putT cols (out ++ [⟨s, 2⟩]) r

theorem coalT_eq (cols : List Col) (s : Stp) (h : ¬ ((s.cols.any (fun x => decide (wFrom = x)) || s.cols.any (fun x => decide (wTo = x))) = true)) (h2 : (takeT cols [] s.cols).2 = 0) : coalT cols s = putT cols (takeT cols [] s.cols).1 [wFrom, wTo] := by
  unfold coalT
  rw [if_neg h, if_neg (by simp [h2])]
  simp only [putT]
  by_cases h3 : intErr cols wFrom = 0 <;> by_cases h4 : intErr cols wTo = 0 <;> simp [h3, h4]

theorem coalesced_fn (cols : List Col) (s : Stp) (h1 : s.cols.length ≤ 1000) : Does Try.prog 24 [.d (.sl (cols.map Col.c)), .ag s.c]
    (.tup [.d (.sl ((coalT cols s).1.map Col.c)), .d (.v (.int .i64 (coalT cols s).2))]) 0 := by
  have htl := takeT_len cols s.cols []
  refine Does.of_W (n := 48) (ts := [4, 5]) Try.func24 (by kernel_rfl) rfl Try.ntmps24 Try.results24 rfl rfl fun C hC hG => ?_
  refine W.seq ?_
  refine W.region ?_
  refine boxR rfl rfl rfl ?_
  iterate 2 refine pu (ev tab rfl) rfl ?_
  refine WO.nil ?_
  refine qs ?_
  refine W.seq ?_
  refine W.seq ?_
  apply regionB; (case hb => rfl)
  · skip
    refine pu (ev tab rfl) rfl ?_
    first | refine pu (ev tab rfl) rfl ?_ | refine pu (loadRow tab rfl rfl rfl rfl) rfl ?_ | refine pu (loadBox tab rfl rfl rfl rfl rfl) rfl ?_
    refine pu (puCall rfl rfl rfl (contains_fn s.cols wFrom) rfl) rfl ?_
    refine pu (ev tab rfl) rfl ?_
    apply splitJ; (case hj => rfl); (case hl => rfl)
    · skip
      refine skipT rfl rfl rfl rfl ?_
      refine skipT rfl rfl rfl rfl ?_
      refine skipT rfl rfl rfl rfl ?_
      refine pu (ev tab rfl) rfl ?_
      refine WO.nil ?_
      refine qv1 rfl rfl rfl
    · skip
      refine goG rfl rfl ?_
      refine pu (ev tab rfl) rfl ?_
      refine goG rfl rfl ?_
      first | refine pu (ev tab rfl) rfl ?_ | refine pu (loadRow tab rfl rfl rfl rfl) rfl ?_ | refine pu (loadBox tab rfl rfl rfl rfl rfl) rfl ?_
      refine goG rfl rfl ?_
      refine pu (puCall rfl rfl rfl (contains_fn s.cols wTo) rfl) rfl ?_
      refine pu (ev tab rfl) rfl ?_
      refine WO.nil ?_
      refine qv1 rfl rfl rfl
  refine qs ?_
  refine condK rfl (fun h18 => ?_) (fun h18 => ?_)
  · skip
    have h18 : (s.cols.any (fun x => decide (wFrom = x)) || s.cols.any (fun x => decide (wTo = x))) = true := by revert h18; generalize s.cols.any (fun x => decide (wFrom = x)) = a; generalize s.cols.any (fun x => decide (wTo = x)) = b; cases a <;> cases b <;> simp
    have hg : coalT cols s = ([], 4) := by unfold coalT; rw [if_pos h18]
    refine W.seq ?_
    refine W.region ?_
    iterate 2 refine pu (ev tab rfl) rfl ?_
    refine WO.nil ?_
    refine qs ?_
    try refine ownNilR (d := 4) rfl rfl ?_
    refine W.ret ?_
    refine qsRet ?_
    refine QF.ret0 trivial rfl ?_
    rw [hg]; rfl
  · skip
    have h18 : ¬ ((s.cols.any (fun x => decide (wFrom = x)) || s.cols.any (fun x => decide (wTo = x))) = true) := by revert h18; generalize s.cols.any (fun x => decide (wFrom = x)) = a; generalize s.cols.any (fun x => decide (wTo = x)) = b; cases a <;> cases b <;> simp
    refine W.skip ?_
    refine qs ?_
    refine W.seq ?_
    refine W.region ?_
    iterate 2 refine pu (ev tab rfl) rfl ?_
    first | refine pu (ev tab rfl) rfl ?_ | refine pu (loadRow tab rfl rfl rfl rfl) rfl ?_ | refine pu (loadBox tab rfl rfl rfl rfl rfl) rfl ?_
    refine callR rfl rfl rfl (take_fn cols s.cols (by omega)) (by rfl) rfl rfl ?_
    iterate 5 refine pu (ev tab rfl) rfl ?_
    refine WO.nil ?_
    refine qs ?_
    refine W.seq ?_
    refine W.seq ?_
    refine W.region ?_
    iterate 2 refine pu (ev tab rfl) rfl ?_
    refine WO.nil ?_
    refine qs ?_
    refine condK rfl (fun h27 => ?_) (fun h27 => ?_)
    · skip
      have h27 : (takeT cols [] s.cols).2 ≠ 0 := by simpa using h27
      have hg : coalT cols s = ([], (takeT cols [] s.cols).2) := by unfold coalT; rw [if_neg h18, if_pos h27]
      refine W.seq ?_
      refine W.region ?_
      iterate 3 refine pu (ev tab rfl) rfl ?_
      refine WO.nil ?_
      refine qs ?_
      try refine ownNilR (d := 4) rfl rfl ?_
      refine W.ret ?_
      refine qsRet ?_
      refine QF.ret0 trivial rfl ?_
      rw [hg]; rfl
    · skip
      have h27 : (takeT cols [] s.cols).2 = 0 := by simpa using h27
      have hg := coalT_eq cols s h18 h27
      generalize hT : putT cols (takeT cols [] s.cols).1 [wFrom, wTo] = TT at hg
      refine W.skip ?_
      refine qs ?_
      refine W.seq ?_
      refine W.seq ?_
      refine W.region ?_
      refine pu (buildV (es := [wFrom, wTo].map sc) tab rfl rfl rfl rfl rfl rfl rfl rfl rfl) rfl ?_
      iterate 2 refine pu (ev tab rfl) rfl ?_
      refine WO.nil ?_
      refine qs ?_
      refine W.block ?_
      refine W.len (t := 29) rfl rfl (fun hlen => ?_)
      try simp only [List.length_map, Ex.kc_len] at hlen
      refine W.loopR (ι := {x : Nat × List Col // match x with | (k, out) => k ≤ [wFrom, wTo].length ∧ putT cols out ([wFrom, wTo].drop k) = TT ∧ out.length ≤ 1000 + k})
        (fun x => match x.1 with | (k, out) => [(6, .own 0 (out.map Col.c)), (31, .d (.v (.int .i64 ((k : Nat) : Int))))]) [(0, _), (29, _), (30, _)]
        (fun x => match x.1 with | (k, out) => []) [] [0] 1 (fun x => match x.1 with | (k, out) => [wFrom, wTo].length - k)
        [1] ⟨(0, (takeT cols [] s.cols).1), ?_⟩ rfl ?_ ⟨rfl, rfl, rfl, rfl, rfl, rfl, trivial⟩ ?_ trivial rfl ?_
      · exact ⟨Nat.zero_le _, hT, by simp at htl; omega⟩
      · repeat' first | exact trivial | refine ⟨rfl, ?_⟩ | refine ⟨step_nat (by assumption) (by assumption), ?_⟩
      · repeat' first | exact trivial | refine ⟨rfl, ?_⟩ | refine ⟨step_nat (by assumption) (by assumption), ?_⟩
      rintro ⟨⟨k, out⟩, hk, hI, hL⟩
      show W _ _ _ _ _ ⟨[(6, .own 0 (out.map Col.c)), (31, .d (.v (.int .i64 ((k : Nat) : Int)))), (0, _), (29, _), (30, _)], [], [0], 1⟩
      refine W.seq ?_
      refine W.region ?_
      refine pu (ev tab rfl) rfl ?_
      refine WO.nil ?_
      refine qs ?_
      refine W.seq ?_
      refine eachR (l := [wFrom, wTo]) (k := k) rfl (by simp [Ex.kc_len, bytes_len]) hk (fun x hx hd hlt => ?_) (fun he hd => ?_)
      · skip
        rw [hd] at hI
        simp only [putT] at hI
        have hlt2 : k < 2 := hlt
        refine W.skip ?_
        refine qs ?_
        refine W.seq ?_
        refine W.block ?_
        refine W.seq ?_
        refine W.region ?_
        refine pu (indexAddr (es := [wFrom, wTo].map sc) tab rfl rfl rfl rfl rfl rfl (Int.natCast_nonneg _) (idx_map hx) rfl) rfl ?_
        first | refine pu (ev tab rfl) rfl ?_ | refine pu (loadRow tab rfl rfl rfl rfl) rfl ?_ | refine pu (loadBox tab rfl rfl rfl rfl rfl) rfl ?_
        refine pu (ev tab rfl) rfl ?_
        refine WO.nil ?_
        refine qs ?_
        refine W.seq ?_
        refine W.seq ?_
        refine W.region ?_
        iterate 2 refine pu (ev tab rfl) rfl ?_
        refine pu (puCall rfl rfl rfl (integer_fn cols x) rfl) rfl ?_
        refine pu (ev tab rfl) rfl ?_
        refine WO.nil ?_
        refine qs ?_
        refine W.seq ?_
        refine W.region ?_
        iterate 2 refine pu (ev tab rfl) rfl ?_
        refine WO.nil ?_
        refine qs ?_
        refine condK rfl (fun h39 => ?_) (fun h39 => ?_)
        · skip
          rw [if_pos (by simpa using h39)] at hI
          refine W.seq ?_
          refine W.region ?_
          iterate 3 refine pu (ev tab rfl) rfl ?_
          refine WO.nil ?_
          refine qs ?_
          try refine ownNilR (d := 4) rfl rfl ?_
          refine W.ret ?_
          refine qsRet ?_
          refine qbRet ?_
          refine qsRet ?_
          refine qlRet ?_
          refine qbRet ?_
          refine qsRet ?_
          refine QF.ret0 trivial rfl ?_
          rw [hg, ← hI]; rfl
        · skip
          rw [if_neg (by simpa using h39)] at hI
          refine W.skip ?_
          refine qs ?_
          refine W.region ?_
          iterate 2 refine pu (ev tab rfl) rfl ?_
          refine pu (build tab rfl rfl rfl rfl) rfl ?_
          refine pu (buildV tab rfl rfl rfl rfl rfl rfl rfl rfl rfl) rfl ?_
          refine appendM (fn := Col.c) (a := ⟨x, 2⟩) tab rfl rfl rfl rfl rfl rfl rfl rfl rfl rfl (fun _ => rfl) (by show (out.length + 1) * 24 ≤ _; omega) ?_
          refine pu (ev tab rfl) rfl ?_
          refine WO.nil ?_
          refine qbN ?_
          refine qs ?_
          refine W.region ?_
          iterate 2 refine pu (ev tab rfl) rfl ?_
          refine WO.nil ?_
          refine W.endR [1] ⟨(k + 1, out ++ [⟨x, 2⟩]), ?_⟩ ?_ rfl ?_ ⟨rfl, rfl, rfl, rfl, rfl, rfl, trivial⟩ ?_ trivial rfl
          · exact ⟨hlt, hI, by simp; omega⟩
          · dsimp only; omega
          · repeat' first | exact trivial | refine ⟨rfl, ?_⟩ | refine ⟨step_nat (by assumption) (by assumption), ?_⟩
          · repeat' first | exact trivial | refine ⟨rfl, ?_⟩ | refine ⟨step_nat (by assumption) (by assumption), ?_⟩
      · skip
        rw [hd] at hI
        simp only [putT] at hI
        refine W.exit ?_
        refine qsExit ?_
        refine qlExit ?_
        refine qbExit ?_
        refine qs ?_
        refine W.seq ?_
        refine W.region ?_
        iterate 3 refine pu (ev tab rfl) rfl ?_
        refine WO.nil ?_
        refine qs ?_
        try refine ownNilR (d := 4) rfl rfl ?_
        refine W.ret ?_
        refine QF.ret0 trivial rfl ?_
        rw [hg, ← hI]; rfl

theorem joined1_fn (n : ByteArray) (s : Stp) : Does Try.prog 45 [.d (.v (.string n)), .row (s.c.map A.d)] (.d (.v (.bool (s.cols.any fun x => decide (n = x))))) 0 := by
  refine Does.of_W (n := 8) (ts := [3]) Try.func45 (by kernel_rfl) rfl Try.ntmps45 Try.results45 rfl rfl fun C hC hG => ?_
  refine W.seq ?_
  refine W.region ?_
  refine pu (ev tab rfl) rfl ?_
  refine WO.nil ?_
  refine qs ?_
  refine W.seq ?_
  refine W.region ?_
  refine pu (ev tab rfl) rfl ?_
  first | refine pu (ev tab rfl) rfl ?_ | refine pu (loadRow tab rfl rfl rfl rfl) rfl ?_ | refine pu (loadBox tab rfl rfl rfl rfl rfl) rfl ?_
  refine pu (ev tab rfl) rfl ?_
  refine pu (puCall rfl rfl rfl (contains_fn s.cols n) rfl) rfl ?_
  refine pu (ev tab rfl) rfl ?_
  refine WO.nil ?_
  refine qs ?_
  refine W.ret ?_
  refine QF.ret0 trivial rfl ?_
  rfl
end Go.Proofs.Ytlmgnlhagpoggaa
namespace Go.Proofs.Ytlmgnlhagpoggaa
open Go.Ab Go.Tb
set_option maxRecDepth 10000
attribute [local irreducible] W WO Pu QS QB QL QF QV QV1 CH QE
def sidesErr (spans : List ByteArray) : List (List Col) → Int
  | [] => 0
  | c :: r => if intsErr c spans ≠ 0 then intsErr c spans else sidesErr spans r

theorem joinT_eq (cols right : List Col) (s : Stp) : joinT cols right s =
    if (spansOf s.op).any (fun n => s.cols.any fun x => decide (n = x)) then ([], 4)
    else if onErr cols right s.cols ≠ 0 then ([], onErr cols right s.cols)
    else if sidesErr (spansOf s.op) [cols, right] ≠ 0 then ([], sidesErr (spansOf s.op) [cols, right])
    else outT (cols ++ restOf s.cols (spansOf s.op) right) := by
  unfold joinT
  simp only [sidesErr]
  by_cases h1 : intsErr cols (spansOf s.op) = 0 <;> by_cases h2 : intsErr right (spansOf s.op) = 0 <;> simp [h1, h2]

@[reducible] def lc (c : List Col) : List D := [.sl (c.map Col.c)]

theorem findT_mem {d : List Nmd} {name : ByteArray} {t : Tbl} (h : findT d name = some t) : ∃ x ∈ d, x.table = t := by
  unfold findT at h
  cases hf : d.find? (fun x => decide (x.name = name)) with
  | none => rw [hf] at h; cases h
  | some x => rw [hf] at h; exact ⟨x, List.mem_of_find?_eq_some hf, Option.some.inj h⟩

theorem onErr_none {a b : List Col} {x : ByteArray} {r : List ByteArray} (h : findCol a x = none ∨ findCol b x = none) : onErr a b (x :: r) = 16 := by
  simp only [onErr]
  rcases h with h | h
  · rw [h]
  · rw [h]; cases findCol a x <;> rfl
theorem onErr_some {a b : List Col} {x : ByteArray} {r : List ByteArray} {c e : Col} (h : findCol a x = some c) (h' : findCol b x = some e) : onErr a b (x :: r) = if c.type ≠ e.type then 14 else onErr a b r := by
  simp only [onErr, h, h']

theorem joined_fn (d : List Nmd) (cols : List Col) (s : Stp) (hc : cols.length ≤ 1000) (hd1 : ∀ x ∈ d, x.table.cols.length ≤ 1000) : Does Try.prog 25 [.d (.sl (d.map Nmd.c)), .d (.sl (cols.map Col.c)), .ag s.c]
    (.tup [.d (.sl ((joinedT d cols s).1.map Col.c)), .d (.v (.int .i64 (joinedT d cols s).2))]) 0 := by
  refine Does.of_W (n := 149) (ts := [6, 7]) Try.func25 (by kernel_rfl) rfl Try.ntmps25 Try.results25 rfl rfl fun C hC hG => ?_
  refine W.seq ?_
  refine W.region ?_
  refine boxR rfl rfl rfl ?_
  iterate 2 refine pu (ev tab rfl) rfl ?_
  refine WO.nil ?_
  refine qs ?_
  refine W.seq ?_
  obtain ⟨p, q, hpq⟩ := tcells2 (findT d s.table)
  have hf := find_fn d s.table
  rw [hpq] at hf
  refine W.region ?_
  iterate 2 refine pu (ev tab rfl) rfl ?_
  first | refine pu (ev tab rfl) rfl ?_ | refine pu (loadRow tab rfl rfl rfl rfl) rfl ?_ | refine pu (loadBox tab rfl rfl rfl rfl rfl) rfl ?_
  refine pu (puCall rfl rfl rfl hf rfl) rfl ?_
  iterate 3 refine pu (ev tab rfl) rfl ?_
  refine allocR tab rfl rfl rfl ?_
  refine storeR tab rfl rfl rfl rfl rfl rfl rfl rfl ?_
  refine pu (ev tab rfl) rfl ?_
  refine WO.nil ?_
  refine qs ?_
  refine W.seq ?_
  refine W.seq ?_
  refine W.region ?_
  iterate 2 refine pu (ev tab rfl) rfl ?_
  refine WO.nil ?_
  refine qs ?_
  refine condK rfl (fun h33 => ?_) (fun h33 => ?_)
  · skip
    have hg : joinedT d cols s = ([], 17) := by cases hq : findT d s.table with | none => simp [joinedT, hq] | some t => rw [hq] at h33; simp at h33
    refine W.seq ?_
    refine W.region ?_
    iterate 2 refine pu (ev tab rfl) rfl ?_
    refine WO.nil ?_
    refine qs ?_
    try refine ownNilR (d := 6) rfl rfl ?_
    refine W.ret ?_
    refine qsRet ?_
    refine QF.ret0 trivial rfl ?_
    rw [hg]; rfl
  · skip
    obtain ⟨t, ht⟩ : ∃ t, findT d s.table = some t := by cases hq : findT d s.table with | none => rw [hq] at h33; simp at h33 | some t => exact ⟨t, rfl⟩
    have hg : joinedT d cols s = joinT cols t.cols s := by simp [joinedT, ht]
    rw [joinT_eq] at hg
    have htc : t.cols.length ≤ 1000 := by obtain ⟨x, hx, rfl⟩ := findT_mem ht; exact hd1 x hx
    rw [ht] at hpq
    simp only [tcells, Tbl.c, List.cons.injEq, and_true] at hpq
    obtain ⟨rfl, rfl⟩ := hpq
    refine W.skip ?_
    refine qs ?_
    refine W.seq ?_
    refine W.region ?_
    refine pu (ev tab rfl) rfl ?_
    refine WO.nil ?_
    refine qs ?_
    refine W.seq ?_
    refine W.seq ?_
    refine W.region ?_
    refine pu (ev tab rfl) rfl ?_
    first | refine pu (ev tab rfl) rfl ?_ | refine pu (loadRow tab rfl rfl rfl rfl) rfl ?_ | refine pu (loadBox tab rfl rfl rfl rfl rfl) rfl ?_
    refine WO.nil ?_
    refine qs ?_
    refine W.cutS [(5, .ptr 0 0), (8, .ptr 1 0), (10, .d (.sl ((spansOf s.op).map sc)))] [1] [] [0, 1] [] 2 ?_ ?_
    · skip
      refine W.block ?_
      refine W.seq ?_
      refine W.region ?_
      iterate 2 refine pu (ev tab rfl) rfl ?_
      refine WO.nil ?_
      refine qs ?_
      refine condK rfl (fun h36 => ?_) (fun h36 => ?_)
      · skip
        have h36 : s.op = 7 := by simpa using h36
        have hsp : spansOf s.op = [wFrom, wTo] := by simp [spansOf, h36]
        refine W.region ?_
        refine pu (buildV tab rfl rfl rfl rfl rfl rfl rfl rfl rfl) rfl ?_
        refine pu (ev tab rfl) rfl ?_
        refine WO.nil ?_
        refine qbN ?_
        refine cutEnd [0, 1] rfl ?_ ⟨rfl, rfl, trivial⟩ ?_ ⟨rfl, rfl, rfl, rfl, trivial⟩ rfl
        · rw [hsp]; exact ⟨rfl, rfl, rfl, trivial⟩
        · repeat' first | exact trivial | refine ⟨rfl, ?_⟩ | refine ⟨step_nat (by assumption) (by assumption), ?_⟩
      · skip
        have h36 : ¬ s.op = 7 := by simpa using h36
        refine W.seq ?_
        refine W.region ?_
        iterate 2 refine pu (ev tab rfl) rfl ?_
        refine WO.nil ?_
        refine qs ?_
        refine condK rfl (fun h39 => ?_) (fun h39 => ?_)
        · skip
          have h39 : s.op = 8 := by simpa using h39
          have hsp : spansOf s.op = [wFrom] := by simp [spansOf, h39]
          refine W.region ?_
          refine pu (buildV tab rfl rfl rfl rfl rfl rfl rfl rfl rfl) rfl ?_
          refine pu (ev tab rfl) rfl ?_
          refine WO.nil ?_
          refine qbN ?_
          refine cutEnd [0, 1] rfl ?_ ⟨rfl, rfl, trivial⟩ ?_ ⟨rfl, rfl, rfl, rfl, trivial⟩ rfl
          · rw [hsp]; exact ⟨rfl, rfl, rfl, trivial⟩
          · repeat' first | exact trivial | refine ⟨rfl, ?_⟩ | refine ⟨step_nat (by assumption) (by assumption), ?_⟩
        · skip
          have h39 : ¬ s.op = 8 := by simpa using h39
          have hsp : spansOf s.op = [] := by simp [spansOf, h36, h39]
          refine nilSl (t := 10) rfl ?_
          refine W.skip ?_
          refine qbN ?_
          refine cutEnd [0, 1] rfl ?_ ⟨rfl, rfl, trivial⟩ ?_ ⟨rfl, rfl, rfl, rfl, trivial⟩ rfl
          · rw [hsp]; exact ⟨rfl, rfl, rfl, trivial⟩
          · repeat' first | exact trivial | refine ⟨rfl, ?_⟩ | refine ⟨step_nat (by assumption) (by assumption), ?_⟩
    refine qs ?_
    refine W.seq ?_
    refine W.seq ?_
    refine W.region ?_
    iterate 2 refine pu (ev tab rfl) rfl ?_
    refine pu (puCall rfl rfl rfl (containsStr_fn _ _ ⟨fun _ _ => rfl, rfl⟩ _ (fun n => joined1_fn n s) (spansOf s.op)) rfl) rfl ?_
    refine WO.nil ?_
    refine qs ?_
    refine condK rfl (fun h44 => ?_) (fun h44 => ?_)
    · skip
      rw [if_pos h44] at hg
      refine W.seq ?_
      refine W.region ?_
      iterate 2 refine pu (ev tab rfl) rfl ?_
      refine WO.nil ?_
      refine qs ?_
      try refine ownNilR (d := 6) rfl rfl ?_
      refine W.ret ?_
      refine qsRet ?_
      refine QF.ret0 trivial rfl ?_
      rw [hg]; rfl
    · skip
      rw [if_neg (by rw [h44]; decide)] at hg
      refine W.skip ?_
      refine qs ?_
      refine W.seq ?_
      refine W.seq ?_
      refine W.region ?_
      refine pu (ev tab rfl) rfl ?_
      first | refine pu (ev tab rfl) rfl ?_ | refine pu (loadRow tab rfl rfl rfl rfl) rfl ?_ | refine pu (loadBox tab rfl rfl rfl rfl rfl) rfl ?_
      iterate 2 refine pu (ev tab rfl) rfl ?_
      refine WO.nil ?_
      refine qs ?_
      refine W.block ?_
      refine W.len (t := 46) rfl rfl (fun hlen => ?_)
      try simp only [List.length_map, Ex.kc_len] at hlen
      refine W.loopR (ι := {x : Nat // match x with | k => k ≤ s.cols.length ∧ onErr cols t.cols (s.cols.drop k) = onErr cols t.cols s.cols})
        (fun x => match x.1 with | k => [(5, .ptr 0 0), (8, .ptr 1 0), (48, .d (.v (.int .i64 ((k : Nat) : Int))))]) [(1, _), (10, _), (46, _), (47, _)]
        (fun x => match x.1 with | k => []) [(0, _), (1, _)] [] 2 (fun x => match x.1 with | k => s.cols.length - k)
        [0, 1] ⟨0, ?_⟩ rfl ?_ ⟨rfl, rfl, rfl, rfl, rfl, rfl, rfl, rfl, trivial⟩ ?_ ⟨rfl, rfl, rfl, rfl, trivial⟩ rfl ?_
      · first | exact ⟨Nat.zero_le _, rfl⟩ | exact trivial | simp
      · repeat' first | exact trivial | refine ⟨rfl, ?_⟩ | refine ⟨step_nat (by assumption) (by assumption), ?_⟩
      · repeat' first | exact trivial | refine ⟨rfl, ?_⟩ | refine ⟨step_nat (by assumption) (by assumption), ?_⟩
      rintro ⟨k, hk, hI⟩
      show W _ _ _ _ _ ⟨[(5, .ptr 0 0), (8, .ptr 1 0), (48, .d (.v (.int .i64 ((k : Nat) : Int)))), (1, _), (10, _), (46, _), (47, _)], [(0, _), (1, _)], [], 2⟩
      refine W.seq ?_
      refine W.region ?_
      refine pu (ev tab rfl) rfl ?_
      refine WO.nil ?_
      refine qs ?_
      refine W.seq ?_
      refine eachR (l := s.cols) (k := k) rfl (by simp [Ex.kc_len, bytes_len]) hk (fun x hx hd hlt => ?_) (fun he hd => ?_)
      · skip
        rw [hd] at hI
        refine W.skip ?_
        refine qs ?_
        refine W.seq ?_
        refine W.block ?_
        refine W.seq ?_
        refine W.region ?_
        refine pu (indexAddr tab rfl rfl rfl rfl rfl rfl (Int.natCast_nonneg _) (idx_map hx) rfl) rfl ?_
        first | refine pu (ev tab rfl) rfl ?_ | refine pu (loadRow tab rfl rfl rfl rfl) rfl ?_ | refine pu (loadBox tab rfl rfl rfl rfl rfl) rfl ?_
        refine pu (ev tab rfl) rfl ?_
        refine WO.nil ?_
        refine qs ?_
        refine W.seq ?_
        refine W.regionD tab (by kernel_rfl) ?_
        refine chPu (ev tab rfl) rfl ?_
        refine chPu (ev tab rfl) rfl ?_
        refine chPu (puCall rfl rfl rfl (column_fn ..) rfl) rfl ?_
        refine chPu (ev tab rfl) rfl ?_
        first | refine chPu (ev tab rfl) rfl ?_ | refine chPu (loadRow tab rfl rfl rfl rfl) rfl ?_ | refine chPu (loadBox tab rfl rfl rfl rfl rfl) rfl ?_
        refine chPu (ev tab rfl) rfl ?_
        refine chPu (puCall rfl rfl rfl (column_fn ..) rfl) rfl ?_
        refine chPu (ev tab rfl) rfl ?_
        refine chPu (ev tab rfl) rfl ?_
        refine CH.nil ?_
        refine qs ?_
        refine W.block ?_
        refine W.seq ?_
        apply regionB; (case hb => rfl)
        · skip
          iterate 3 refine pu (ev tab rfl) rfl ?_
          apply splitJ; (case hj => rfl); (case hl => rfl)
          · skip
            refine skipT rfl rfl rfl rfl ?_
            refine skipT rfl rfl rfl rfl ?_
            iterate 2 refine pu (ev tab rfl) rfl ?_
            refine WO.nil ?_
            refine qv1 rfl rfl rfl
          · skip
            refine goG rfl rfl ?_
            refine pu (ev tab rfl) rfl ?_
            refine goG rfl rfl ?_
            iterate 3 refine pu (ev tab rfl) rfl ?_
            refine WO.nil ?_
            refine qv1 rfl rfl rfl
        refine qs ?_
        refine condK rfl (fun h59 => ?_) (fun h59 => ?_)
        · skip
          have h5 : findCol cols x = none ∨ findCol t.cols x = none := by
            by_cases q1 : idx (cols.findIdx? fun c => decide (c.name = x)) < 0
            · exact .inl (find_none q1)
            · refine .inr (find_none ?_)
              revert h59
              simp [q1]
          rw [onErr_none h5] at hI
          rw [← hI, if_pos (by decide)] at hg
          refine W.seq ?_
          refine W.region ?_
          iterate 2 refine pu (ev tab rfl) rfl ?_
          refine WO.nil ?_
          refine qs ?_
          try refine ownNilR (d := 6) rfl rfl ?_
          refine W.ret ?_
          refine qbRet ?_
          refine qbRet ?_
          refine qsRet ?_
          refine qlRet ?_
          refine qbRet ?_
          refine qsRet ?_
          refine QF.ret0 trivial rfl ?_
          rw [hg]; rfl
        · skip
          have h59' : ¬ (idx (cols.findIdx? fun c => decide (c.name = x)) < 0) ∧ ¬ (idx (t.cols.findIdx? fun c => decide (c.name = x)) < 0) := by
            revert h59
            generalize idx (cols.findIdx? fun c => decide (c.name = x)) = u
            generalize idx (t.cols.findIdx? fun c => decide (c.name = x)) = v
            by_cases q1 : u < 0 <;> by_cases q2 : v < 0 <;> simp [q1, q2]
          obtain ⟨i, a, a3, a4, a5, a6⟩ := find_some h59'.1
          obtain ⟨j, b, b3, b4, b5, b6⟩ := find_some h59'.2
          rw [onErr_some (c := a) (e := b) a5 b5] at hI
          refine W.seq ?_
          refine W.regionD tab (by kernel_rfl) ?_
          refine chPu (ev tab rfl) rfl ?_
          refine chPu (ev tab rfl) rfl ?_
          refine chPu (indexAddr tab rfl rfl rfl rfl rfl rfl (i := idx _) (by rw [a3]; exact Int.natCast_nonneg _) (by rw [a3]; exact idx_map a4) rfl) rfl ?_
          refine chPu (ev tab rfl) rfl ?_
          first | refine chPu (ev tab rfl) rfl ?_ | refine chPu (loadRow tab rfl rfl rfl rfl) rfl ?_ | refine chPu (loadBox tab rfl rfl rfl rfl rfl) rfl ?_
          refine chPu (ev tab rfl) rfl ?_
          first | refine chPu (ev tab rfl) rfl ?_ | refine chPu (loadRow tab rfl rfl rfl rfl) rfl ?_ | refine chPu (loadBox tab rfl rfl rfl rfl rfl) rfl ?_
          refine chPu (ev tab rfl) rfl ?_
          refine chPu (indexAddr tab rfl rfl rfl rfl rfl rfl (i := idx _) (by rw [b3]; exact Int.natCast_nonneg _) (by rw [b3]; exact idx_map b4) rfl) rfl ?_
          refine chPu (ev tab rfl) rfl ?_
          first | refine chPu (ev tab rfl) rfl ?_ | refine chPu (loadRow tab rfl rfl rfl rfl) rfl ?_ | refine chPu (loadBox tab rfl rfl rfl rfl rfl) rfl ?_
          refine chPu (ev tab rfl) rfl ?_
          refine chPu (ev tab rfl) rfl ?_
          refine CH.nil ?_
          refine qs ?_
          refine condK rfl (fun h66 => ?_) (fun h66 => ?_)
          · skip
            have h66 : a.type ≠ b.type := by simpa using h66
            rw [if_pos h66] at hI
            rw [← hI, if_pos (by decide)] at hg
            refine W.seq ?_
            refine W.region ?_
            iterate 2 refine pu (ev tab rfl) rfl ?_
            refine WO.nil ?_
            refine qs ?_
            try refine ownNilR (d := 6) rfl rfl ?_
            refine W.ret ?_
            refine qbRet ?_
            refine qbRet ?_
            refine qsRet ?_
            refine qlRet ?_
            refine qbRet ?_
            refine qsRet ?_
            refine QF.ret0 trivial rfl ?_
            rw [hg]; rfl
          · skip
            have h66 : ¬ (a.type ≠ b.type) := by simpa using h66
            rw [if_neg h66] at hI
            refine W.skip ?_
            refine qbN ?_
            refine qbN ?_
            refine qs ?_
            refine W.region ?_
            iterate 2 refine pu (ev tab rfl) rfl ?_
            refine WO.nil ?_
            refine W.endR [0, 1] ⟨k + 1, ?_⟩ ?_ rfl ?_ ⟨rfl, rfl, rfl, rfl, rfl, rfl, rfl, rfl, trivial⟩ ?_ ⟨rfl, rfl, rfl, rfl, trivial⟩ rfl
            · exact ⟨hlt, hI⟩
            · dsimp only; omega
            · repeat' first | exact trivial | refine ⟨rfl, ?_⟩ | refine ⟨step_nat (by assumption) (by assumption), ?_⟩
            · repeat' first | exact trivial | refine ⟨rfl, ?_⟩ | refine ⟨step_nat (by assumption) (by assumption), ?_⟩
      · skip
        rw [hd] at hI
        simp only [onErr] at hI
        rw [← hI] at hg
        simp only [ne_eq, not_true_eq_false, if_false] at hg
        generalize hS : sidesErr (spansOf s.op) [cols, t.cols] = SS at hg
        refine W.exit ?_
        refine qsExit ?_
        refine qlExit ?_
        refine qbExit ?_
        refine qs ?_
        refine W.seq ?_
        refine W.seq ?_
        refine W.region ?_
        iterate 2 refine pu (ev tab rfl) rfl ?_
        first | refine pu (ev tab rfl) rfl ?_ | refine pu (loadRow tab rfl rfl rfl rfl) rfl ?_ | refine pu (loadBox tab rfl rfl rfl rfl rfl) rfl ?_
        refine pu (buildV (es := [cols, t.cols].map lc) tab rfl rfl rfl rfl rfl rfl rfl rfl rfl) rfl ?_
        iterate 2 refine pu (ev tab rfl) rfl ?_
        refine WO.nil ?_
        refine qs ?_
        refine W.block ?_
        refine W.len (t := 83) rfl rfl (fun hlen => ?_)
        try simp only [List.length_map, Ex.kc_len] at hlen
        refine W.loopR (ι := {x : Nat // match x with | k => k ≤ [cols, t.cols].length ∧ sidesErr (spansOf s.op) ([cols, t.cols].drop k) = SS})
          (fun x => match x.1 with | k => [(5, .ptr 0 0), (8, .ptr 1 0), (85, .d (.v (.int .i64 ((k : Nat) : Int))))]) [(1, _), (10, _), (83, _), (84, _)]
          (fun x => match x.1 with | k => []) [(0, _), (1, _)] [] 2 (fun x => match x.1 with | k => [cols, t.cols].length - k)
          [0, 1] ⟨0, ?_⟩ rfl ?_ ⟨rfl, rfl, rfl, rfl, rfl, rfl, rfl, rfl, trivial⟩ ?_ ⟨rfl, rfl, rfl, rfl, trivial⟩ rfl ?_
        · exact ⟨Nat.zero_le _, hS⟩
        · repeat' first | exact trivial | refine ⟨rfl, ?_⟩ | refine ⟨step_nat (by assumption) (by assumption), ?_⟩
        · repeat' first | exact trivial | refine ⟨rfl, ?_⟩ | refine ⟨step_nat (by assumption) (by assumption), ?_⟩
        rintro ⟨k, hk, hK⟩
        show W _ _ _ _ _ ⟨[(5, .ptr 0 0), (8, .ptr 1 0), (85, .d (.v (.int .i64 ((k : Nat) : Int)))), (1, _), (10, _), (83, _), (84, _)], [(0, _), (1, _)], [], 2⟩
        refine W.seq ?_
        refine W.region ?_
        refine pu (ev tab rfl) rfl ?_
        refine WO.nil ?_
        refine qs ?_
        refine W.seq ?_
        refine eachR (l := [cols, t.cols]) (k := k) rfl (by simp [Ex.kc_len, bytes_len]) hk (fun c hx hd hlt => ?_) (fun he hd => ?_)
        · skip
          rw [hd] at hK
          simp only [sidesErr] at hK
          refine W.skip ?_
          refine qs ?_
          refine W.seq ?_
          refine W.block ?_
          refine W.seq ?_
          refine W.region ?_
          refine pu (indexAddr (es := [cols, t.cols].map lc) tab rfl rfl rfl rfl rfl rfl (Int.natCast_nonneg _) (idx_map hx) rfl) rfl ?_
          first | refine pu (ev tab rfl) rfl ?_ | refine pu (loadRow tab rfl rfl rfl rfl) rfl ?_ | refine pu (loadBox tab rfl rfl rfl rfl rfl) rfl ?_
          refine pu (ev tab rfl) rfl ?_
          refine WO.nil ?_
          refine qs ?_
          refine W.seq ?_
          refine W.region ?_
          iterate 3 refine pu (ev tab rfl) rfl ?_
          refine WO.nil ?_
          refine qs ?_
          refine W.block ?_
          refine W.len (t := 89) rfl rfl (fun hlen => ?_)
          try simp only [List.length_map, Ex.kc_len] at hlen
          refine W.loopR (ι := {x : Nat // match x with | j => j ≤ (spansOf s.op).length ∧ intsErr c ((spansOf s.op).drop j) = intsErr c (spansOf s.op)})
            (fun x => match x.1 with | j => [(5, .ptr 0 0), (8, .ptr 1 0), (91, .d (.v (.int .i64 ((j : Nat) : Int))))]) [(1, _), (10, _), (16, _), (83, _), (84, _), (85, _), (89, _), (90, _)]
            (fun x => match x.1 with | j => []) [(0, _), (1, _)] [] 2 (fun x => match x.1 with | j => (spansOf s.op).length - j)
            [0, 1] ⟨0, ?_⟩ rfl ?_ ⟨rfl, rfl, rfl, rfl, rfl, rfl, rfl, rfl, rfl, rfl, rfl, rfl, rfl, rfl, rfl, rfl, trivial⟩ ?_ ⟨rfl, rfl, rfl, rfl, trivial⟩ rfl ?_
          · first | exact ⟨Nat.zero_le _, rfl⟩ | exact trivial | simp
          · repeat' first | exact trivial | refine ⟨rfl, ?_⟩ | refine ⟨step_nat (by assumption) (by assumption), ?_⟩
          · repeat' first | exact trivial | refine ⟨rfl, ?_⟩ | refine ⟨step_nat (by assumption) (by assumption), ?_⟩
          rintro ⟨j, hk, hJ⟩
          show W _ _ _ _ _ ⟨[(5, .ptr 0 0), (8, .ptr 1 0), (91, .d (.v (.int .i64 ((j : Nat) : Int)))), (1, _), (10, _), (16, _), (83, _), (84, _), (85, _), (89, _), (90, _)], [(0, _), (1, _)], [], 2⟩
          refine W.seq ?_
          refine W.region ?_
          refine pu (ev tab rfl) rfl ?_
          refine WO.nil ?_
          refine qs ?_
          refine W.seq ?_
          refine eachR (l := spansOf s.op) (k := j) rfl (by simp [Ex.kc_len, bytes_len]) hk (fun m hx hd hlt => ?_) (fun he hd => ?_)
          · skip
            rw [hd] at hJ
            simp only [intsErr] at hJ
            refine W.skip ?_
            refine qs ?_
            refine W.seq ?_
            refine W.block ?_
            refine W.seq ?_
            refine W.region ?_
            refine pu (indexAddr tab rfl rfl rfl rfl rfl rfl (Int.natCast_nonneg _) (idx_map hx) rfl) rfl ?_
            first | refine pu (ev tab rfl) rfl ?_ | refine pu (loadRow tab rfl rfl rfl rfl) rfl ?_ | refine pu (loadBox tab rfl rfl rfl rfl rfl) rfl ?_
            refine pu (ev tab rfl) rfl ?_
            refine WO.nil ?_
            refine qs ?_
            refine W.seq ?_
            refine W.region ?_
            iterate 2 refine pu (ev tab rfl) rfl ?_
            refine pu (puCall rfl rfl rfl (integer_fn c m) rfl) rfl ?_
            refine pu (ev tab rfl) rfl ?_
            refine WO.nil ?_
            refine qs ?_
            refine W.seq ?_
            refine W.region ?_
            iterate 2 refine pu (ev tab rfl) rfl ?_
            refine WO.nil ?_
            refine qs ?_
            refine condK rfl (fun h99 => ?_) (fun h99 => ?_)
            · skip
              have h99 : intErr c m ≠ 0 := by simpa using h99
              rw [if_pos h99] at hJ
              simp only [← hJ] at hK
              rw [if_pos h99] at hK
              simp only [← hK] at hg
              rw [if_pos h99] at hg
              refine W.seq ?_
              refine W.region ?_
              iterate 3 refine pu (ev tab rfl) rfl ?_
              refine WO.nil ?_
              refine qs ?_
              try refine ownNilR (d := 6) rfl rfl ?_
              refine W.ret ?_
              refine qbRet ?_
              refine qsRet ?_
              refine qlRet ?_
              refine qbRet ?_
              refine qbRet ?_
              refine qsRet ?_
              refine qlRet ?_
              refine qbRet ?_
              refine qsRet ?_
              refine QF.ret0 trivial rfl ?_
              rw [hg]; rfl
            · skip
              rw [if_neg (by simpa using h99)] at hJ
              refine W.skip ?_
              refine qbN ?_
              refine qs ?_
              refine W.region ?_
              iterate 2 refine pu (ev tab rfl) rfl ?_
              refine WO.nil ?_
              refine W.endR [0, 1] ⟨j + 1, ?_⟩ ?_ rfl ?_ ⟨rfl, rfl, rfl, rfl, rfl, rfl, rfl, rfl, rfl, rfl, rfl, rfl, rfl, rfl, rfl, rfl, trivial⟩ ?_ ⟨rfl, rfl, rfl, rfl, trivial⟩ rfl
              · exact ⟨hlt, hJ⟩
              · dsimp only; omega
              · repeat' first | exact trivial | refine ⟨rfl, ?_⟩ | refine ⟨step_nat (by assumption) (by assumption), ?_⟩
              · repeat' first | exact trivial | refine ⟨rfl, ?_⟩ | refine ⟨step_nat (by assumption) (by assumption), ?_⟩
          · skip
            rw [hd] at hJ
            simp only [intsErr] at hJ
            simp only [← hJ] at hK
            rw [if_neg (by decide)] at hK
            refine W.exit ?_
            refine qsExit ?_
            refine qlExit ?_
            refine qbExit ?_
            refine qbN ?_
            refine qs ?_
            refine W.region ?_
            iterate 2 refine pu (ev tab rfl) rfl ?_
            refine WO.nil ?_
            refine W.endR [0, 1] ⟨k + 1, ?_⟩ ?_ rfl ?_ ⟨rfl, rfl, rfl, rfl, rfl, rfl, rfl, rfl, trivial⟩ ?_ ⟨rfl, rfl, rfl, rfl, trivial⟩ rfl
            · exact ⟨hlt, hK⟩
            · dsimp only; omega
            · repeat' first | exact trivial | refine ⟨rfl, ?_⟩ | refine ⟨step_nat (by assumption) (by assumption), ?_⟩
            · repeat' first | exact trivial | refine ⟨rfl, ?_⟩ | refine ⟨step_nat (by assumption) (by assumption), ?_⟩
        · skip
          rw [hd] at hK
          simp only [sidesErr] at hK
          rw [← hK] at hg
          simp only [ne_eq, not_true_eq_false, if_false] at hg
          refine W.exit ?_
          refine qsExit ?_
          refine qlExit ?_
          refine qbExit ?_
          refine qs ?_
          refine W.seq ?_
          refine W.region ?_
          refine pu (ev tab rfl) rfl ?_
          refine callR rfl rfl rfl (clone_fn cols (by omega)) (by rfl) rfl rfl ?_
          refine pu (ev tab rfl) rfl ?_
          refine WO.nil ?_
          refine qs ?_
          refine W.seq ?_
          refine W.seq ?_
          refine W.region ?_
          refine pu (ev tab rfl) rfl ?_
          first | refine pu (ev tab rfl) rfl ?_ | refine pu (loadRow tab rfl rfl rfl rfl) rfl ?_ | refine pu (loadBox tab rfl rfl rfl rfl rfl) rfl ?_
          iterate 2 refine pu (ev tab rfl) rfl ?_
          refine WO.nil ?_
          refine qs ?_
          refine W.block ?_
          refine W.len (t := 106) rfl rfl (fun hlen => ?_)
          try simp only [List.length_map, Ex.kc_len] at hlen
          refine W.loopR (ι := {x : Nat × List Col // match x with | (k, out) => k ≤ t.cols.length ∧ out ++ restOf s.cols (spansOf s.op) (t.cols.drop k) = cols ++ restOf s.cols (spansOf s.op) t.cols ∧ out.length ≤ 1000 + k})
            (fun x => match x.1 with | (k, out) => [(5, .ptr 0 0), (20, .own 1 (out.map Col.c)), (108, .d (.v (.int .i64 ((k : Nat) : Int))))]) [(10, _), (106, _), (107, _)]
            (fun x => match x.1 with | (k, out) => []) [(0, _)] [1] 2 (fun x => match x.1 with | (k, out) => t.cols.length - k)
            [0, 2] ⟨(0, cols), ?_⟩ rfl ?_ ⟨rfl, rfl, rfl, rfl, rfl, rfl, trivial⟩ ?_ ⟨rfl, rfl, trivial⟩ rfl ?_
          · exact ⟨Nat.zero_le _, rfl, by omega⟩
          · repeat' first | exact trivial | refine ⟨rfl, ?_⟩ | refine ⟨step_nat (by assumption) (by assumption), ?_⟩
          · repeat' first | exact trivial | refine ⟨rfl, ?_⟩ | refine ⟨step_nat (by assumption) (by assumption), ?_⟩
          rintro ⟨⟨k, out⟩, hk, hL, hN⟩
          show W _ _ _ _ _ ⟨[(5, .ptr 0 0), (20, .own 1 (out.map Col.c)), (108, .d (.v (.int .i64 ((k : Nat) : Int)))), (10, _), (106, _), (107, _)], [(0, _)], [1], 2⟩
          refine W.seq ?_
          refine W.region ?_
          refine pu (ev tab rfl) rfl ?_
          refine WO.nil ?_
          refine qs ?_
          refine W.seq ?_
          refine eachR (l := t.cols) (k := k) rfl (by simp [Ex.kc_len, bytes_len]) hk (fun c hx hd hlt => ?_) (fun he hd => ?_)
          · skip
            rw [hd] at hL
            refine W.skip ?_
            refine qs ?_
            refine W.seq ?_
            refine W.block ?_
            refine W.seq ?_
            refine W.region ?_
            refine pu (indexAddr tab rfl rfl rfl rfl rfl rfl (Int.natCast_nonneg _) (idx_map hx) rfl) rfl ?_
            first | refine pu (ev tab rfl) rfl ?_ | refine pu (loadRow tab rfl rfl rfl rfl) rfl ?_ | refine pu (loadBox tab rfl rfl rfl rfl rfl) rfl ?_
            refine allocR tab rfl rfl rfl ?_
            refine storeR tab rfl rfl rfl rfl rfl rfl rfl rfl ?_
            refine WO.nil ?_
            refine qs ?_
            refine W.seq ?_
            apply regionB; (case hb => rfl)
            · skip
              refine pu (ev tab rfl) rfl ?_
              first | refine pu (ev tab rfl) rfl ?_ | refine pu (loadRow tab rfl rfl rfl rfl) rfl ?_ | refine pu (loadBox tab rfl rfl rfl rfl rfl) rfl ?_
              refine pu (ev tab rfl) rfl ?_
              first | refine pu (ev tab rfl) rfl ?_ | refine pu (loadRow tab rfl rfl rfl rfl) rfl ?_ | refine pu (loadBox tab rfl rfl rfl rfl rfl) rfl ?_
              refine pu (puCall rfl rfl rfl (contains_fn s.cols c.name) rfl) rfl ?_
              iterate 2 refine pu (ev tab rfl) rfl ?_
              apply splitJ; (case hj => rfl); (case hl => rfl)
              · skip
                refine goG rfl rfl ?_
                refine pu (ev tab rfl) rfl ?_
                refine goG rfl rfl ?_
                refine pu (ev tab rfl) rfl ?_
                refine goG rfl rfl ?_
                first | refine pu (ev tab rfl) rfl ?_ | refine pu (loadRow tab rfl rfl rfl rfl) rfl ?_ | refine pu (loadBox tab rfl rfl rfl rfl rfl) rfl ?_
                refine goG rfl rfl ?_
                refine pu (puCall rfl rfl rfl (contains_fn (spansOf s.op) c.name) rfl) rfl ?_
                refine goG rfl rfl ?_
                iterate 2 refine pu (ev tab rfl) rfl ?_
                refine WO.nil ?_
                refine qv1 rfl rfl rfl
              · skip
                refine skipT rfl rfl rfl rfl ?_
                refine skipT rfl rfl rfl rfl ?_
                refine skipT rfl rfl rfl rfl ?_
                refine skipT rfl rfl rfl rfl ?_
                refine skipT rfl rfl rfl rfl ?_
                refine pu (ev tab rfl) rfl ?_
                refine WO.nil ?_
                refine qv1 rfl rfl rfl
            refine qs ?_
            refine condK rfl (fun h124 => ?_) (fun h124 => ?_)
            · skip
              have hr : restOf s.cols (spansOf s.op) (c :: t.cols.drop (k + 1)) = c :: restOf s.cols (spansOf s.op) (t.cols.drop (k + 1)) := by
                simp only [restOf]
                rw [List.filter_cons_of_pos]
                revert h124
                generalize s.cols.any (fun x => decide (c.name = x)) = u
                generalize (spansOf s.op).any (fun x => decide (c.name = x)) = v
                cases u <;> cases v <;> simp
              rw [hr] at hL
              refine W.region ?_
              refine pu (ev tab rfl) rfl ?_
              first | refine pu (ev tab rfl) rfl ?_ | refine pu (loadRow tab rfl rfl rfl rfl) rfl ?_ | refine pu (loadBox tab rfl rfl rfl rfl rfl) rfl ?_
              refine pu (buildV tab rfl rfl rfl rfl rfl rfl rfl rfl rfl) rfl ?_
              refine appendM (fn := Col.c) (a := c) tab rfl rfl rfl rfl rfl rfl rfl rfl rfl rfl (fun _ => rfl) (by show (out.length + 1) * 24 ≤ _; omega) ?_
              refine pu (ev tab rfl) rfl ?_
              refine WO.nil ?_
              refine qbN ?_
              refine qs ?_
              refine W.region ?_
              iterate 2 refine pu (ev tab rfl) rfl ?_
              refine WO.nil ?_
              first | (refine W.endR [0, 3] ⟨(k + 1, out ++ [c]), ?_⟩ ?_ rfl ?_ ⟨rfl, rfl, rfl, rfl, rfl, rfl, trivial⟩ ?_ ⟨rfl, rfl, trivial⟩ rfl) | (refine W.endR [0, 1] ⟨(k + 1, out), ?_⟩ ?_ rfl ?_ ⟨rfl, rfl, rfl, rfl, rfl, rfl, trivial⟩ ?_ ⟨rfl, rfl, trivial⟩ rfl)
              · first | exact ⟨hlt, by rw [← hL]; simp, by simp; omega⟩ | exact ⟨hlt, hL, by omega⟩
              · dsimp only; omega
              · repeat' first | exact trivial | refine ⟨rfl, ?_⟩ | refine ⟨step_nat (by assumption) (by assumption), ?_⟩
              · repeat' first | exact trivial | refine ⟨rfl, ?_⟩ | refine ⟨step_nat (by assumption) (by assumption), ?_⟩
            · skip
              have hr : restOf s.cols (spansOf s.op) (c :: t.cols.drop (k + 1)) = restOf s.cols (spansOf s.op) (t.cols.drop (k + 1)) := by
                simp only [restOf]
                rw [List.filter_cons_of_neg]
                revert h124
                generalize s.cols.any (fun x => decide (c.name = x)) = u
                generalize (spansOf s.op).any (fun x => decide (c.name = x)) = v
                cases u <;> cases v <;> simp
              rw [hr] at hL
              refine W.skip ?_
              refine qbN ?_
              refine qs ?_
              refine W.region ?_
              iterate 2 refine pu (ev tab rfl) rfl ?_
              refine WO.nil ?_
              first | (refine W.endR [0, 3] ⟨(k + 1, out ++ [c]), ?_⟩ ?_ rfl ?_ ⟨rfl, rfl, rfl, rfl, rfl, rfl, trivial⟩ ?_ ⟨rfl, rfl, trivial⟩ rfl) | (refine W.endR [0, 1] ⟨(k + 1, out), ?_⟩ ?_ rfl ?_ ⟨rfl, rfl, rfl, rfl, rfl, rfl, trivial⟩ ?_ ⟨rfl, rfl, trivial⟩ rfl)
              · first | exact ⟨hlt, by rw [← hL]; simp, by simp; omega⟩ | exact ⟨hlt, hL, by omega⟩
              · dsimp only; omega
              · repeat' first | exact trivial | refine ⟨rfl, ?_⟩ | refine ⟨step_nat (by assumption) (by assumption), ?_⟩
              · repeat' first | exact trivial | refine ⟨rfl, ?_⟩ | refine ⟨step_nat (by assumption) (by assumption), ?_⟩
          · skip
            rw [hd] at hL
            rw [show restOf s.cols (spansOf s.op) [] = [] from rfl, List.append_nil] at hL
            rw [← hL] at hg
            unfold outT at hg
            refine W.exit ?_
            refine qsExit ?_
            refine qlExit ?_
            refine qbExit ?_
            refine qs ?_
            refine W.seq ?_
            refine W.seq ?_
            refine W.region ?_
            iterate 3 refine pu (ev tab rfl) rfl ?_
            refine WO.nil ?_
            refine qs ?_
            refine W.block ?_
            refine W.len (t := 130) rfl rfl (fun hlen => ?_)
            try simp only [List.length_map, Ex.kc_len] at hlen
            refine W.loopR (ι := {x : Nat // match x with | k => k ≤ out.length ∧ twice out k (out.drop k) = twice out 0 out})
              (fun x => match x.1 with | k => [(20, .own 0 (out.map Col.c)), (130, .own 0 (out.map Col.c)), (132, .d (.v (.int .i64 ((k : Nat) : Int))))]) [(131, _)]
              (fun x => match x.1 with | k => []) [] [0] 1 (fun x => match x.1 with | k => out.length - k)
              [1] ⟨0, ?_⟩ rfl ?_ ⟨rfl, rfl, trivial⟩ ?_ trivial rfl ?_
            · first | exact ⟨Nat.zero_le _, rfl⟩ | exact trivial | simp
            · repeat' first | exact trivial | refine ⟨rfl, ?_⟩ | refine ⟨step_nat (by assumption) (by assumption), ?_⟩
            · repeat' first | exact trivial | refine ⟨rfl, ?_⟩ | refine ⟨step_nat (by assumption) (by assumption), ?_⟩
            rintro ⟨k, hk, hM⟩
            show W _ _ _ _ _ ⟨[(20, .own 0 (out.map Col.c)), (130, .own 0 (out.map Col.c)), (132, .d (.v (.int .i64 ((k : Nat) : Int)))), (131, _)], [], [0], 1⟩
            refine W.seq ?_
            refine W.region ?_
            refine pu (ev tab rfl) rfl ?_
            refine WO.nil ?_
            refine qs ?_
            refine W.seq ?_
            refine eachR (l := out) (k := k) rfl (by simp [Ex.kc_len, bytes_len]) hk (fun c hx hd hlt => ?_) (fun he hd => ?_)
            · skip
              rw [hd] at hM
              simp only [twice] at hM
              refine W.skip ?_
              refine qs ?_
              refine W.seq ?_
              refine W.block ?_
              refine W.seq ?_
              refine W.region ?_
              refine pu (ev tab rfl) rfl ?_
              refine pu (indexAddr tab rfl rfl rfl rfl rfl rfl (Int.natCast_nonneg _) (idx_map hx) rfl) rfl ?_
              first | refine pu (ev tab rfl) rfl ?_ | refine pu (loadRow tab rfl rfl rfl rfl) rfl ?_ | refine pu (loadBox tab rfl rfl rfl rfl rfl) rfl ?_
              refine allocR tab rfl rfl rfl ?_
              refine pu (ev tab rfl) rfl ?_
              refine storeR tab rfl rfl rfl rfl rfl rfl rfl rfl ?_
              refine WO.nil ?_
              refine qs ?_
              refine W.seq ?_
              refine W.regionD tab (by kernel_rfl) ?_
              refine chPu (ev tab rfl) rfl ?_
              refine chPu (ev tab rfl) rfl ?_
              refine chPu (slToM (fn := Col.c) tab rfl rfl rfl rfl rfl rfl (fun _ => rfl) (by omega)) rfl ?_
              refine chPu (ev tab rfl) rfl ?_
              first | refine chPu (ev tab rfl) rfl ?_ | refine chPu (loadRow tab rfl rfl rfl rfl) rfl ?_ | refine chPu (loadBox tab rfl rfl rfl rfl rfl) rfl ?_
              refine chPu (puCall rfl rfl rfl (column_fn (out.take k) c.name) rfl) rfl ?_
              refine chPu (ev tab rfl) rfl ?_
              refine CH.nil ?_
              refine qs ?_
              refine condK rfl (fun h143 => ?_) (fun h143 => ?_)
              · skip
                have h143 : ((out.take k).any fun y => decide (y.name = c.name)) = true := idx_nonneg.symm.trans h143
                rw [h143, Bool.true_or] at hM
                rw [if_pos hM.symm] at hg
                refine W.seq ?_
                refine W.region ?_
                iterate 2 refine pu (ev tab rfl) rfl ?_
                refine WO.nil ?_
                refine qs ?_
                try refine ownNilR (d := 6) rfl rfl ?_
                refine W.ret ?_
                refine qbRet ?_
                refine qsRet ?_
                refine qlRet ?_
                refine qbRet ?_
                refine qsRet ?_
                refine QF.ret0 trivial rfl ?_
                rw [hg]; rfl
              · skip
                have h143 : ((out.take k).any fun y => decide (y.name = c.name)) = false := idx_nonneg.symm.trans h143
                rw [h143, Bool.false_or] at hM
                refine W.skip ?_
                refine qbN ?_
                refine qs ?_
                refine W.region ?_
                iterate 2 refine pu (ev tab rfl) rfl ?_
                refine WO.nil ?_
                refine W.endR [0] ⟨k + 1, ?_⟩ ?_ rfl ?_ ⟨rfl, rfl, trivial⟩ ?_ trivial rfl
                · exact ⟨hlt, hM⟩
                · dsimp only; omega
                · repeat' first | exact trivial | refine ⟨rfl, ?_⟩ | refine ⟨step_nat (by assumption) (by assumption), ?_⟩
                · repeat' first | exact trivial | refine ⟨rfl, ?_⟩ | refine ⟨step_nat (by assumption) (by assumption), ?_⟩
            · skip
              rw [hd] at hM
              simp only [twice] at hM
              rw [if_neg (by rw [← hM]; decide)] at hg
              refine W.exit ?_
              refine qsExit ?_
              refine qlExit ?_
              refine qbExit ?_
              refine qs ?_
              refine W.seq ?_
              refine W.seq ?_
              refine W.region ?_
              iterate 3 refine pu (ev tab rfl) rfl ?_
              refine WO.nil ?_
              refine qs ?_
              refine condK rfl (fun h147 => ?_) (fun h147 => ?_)
              · skip
                rw [if_pos (by simp at h147; omega)] at hg
                refine W.seq ?_
                refine W.region ?_
                iterate 2 refine pu (ev tab rfl) rfl ?_
                refine WO.nil ?_
                refine qs ?_
                try refine ownNilR (d := 6) rfl rfl ?_
                refine W.ret ?_
                refine qsRet ?_
                refine QF.ret0 trivial rfl ?_
                rw [hg]; rfl
              · skip
                rw [if_neg (by simp at h147; omega)] at hg
                refine W.skip ?_
                refine qs ?_
                refine W.seq ?_
                refine W.region ?_
                iterate 3 refine pu (ev tab rfl) rfl ?_
                refine WO.nil ?_
                refine qs ?_
                try refine ownNilR (d := 6) rfl rfl ?_
                refine W.ret ?_
                refine QF.ret0 trivial rfl ?_
                rw [hg]; rfl
end Go.Proofs.Ytlmgnlhagpoggaa
namespace Go.Proofs.Ytlmgnlhagpoggaa
open Go.Ab Go.Tb
set_option maxRecDepth 10000
attribute [local irreducible] W WO Pu QS QB QL QF QV QV1 CH QE
def fewS (s : Stp) : Prop := s.items.length ≤ 400 ∧ s.cols.length ≤ 400 ∧ s.aggs.length ≤ 400 ∧ s.sorts.length ≤ 400
def fewT (d : List Nmd) : Prop := ∀ x ∈ d, x.table.cols.length ≤ 1000

theorem selErr_valid : ∀ (l : List Itm) (ks : List ByteArray), selErr ks l = 0 → ∀ x ∈ l, nodesErr x.e = 0
  | [], _, _, x, hx => by cases hx
  | y :: r, ks, h, x, hx => by
    simp only [selErr] at h
    split at h
    · rename_i h1; exact absurd h h1
    · rename_i h1
      split at h
      · rename_i h2; exact absurd h h2
      · rcases List.mem_cons.1 hx with rfl | hx
        · exact exprErr_zero (by omega)
        · exact selErr_valid r _ h x hx

theorem tstep_fn (d : List Nmd) (cols : List Col) (s : Stp) (hf : fewS s) (ht : fewT d) (hc : cols.length ≤ 1000) : Does Try.prog 10 [.d (.sl (d.map Nmd.c)), .d (.sl (cols.map Col.c)), .ag s.c]
    (.tup [.d (.sl ((stepCT d cols s).1.map Col.c)), .d (.v (.int .i64 (stepCT d cols s).2))]) 0 := by
  obtain ⟨hf1, hf2, hf3, hf4⟩ := id hf
  have hg : stepCT d cols s = stepCT d cols s := rfl
  conv at hg => rhs; unfold stepCT
  refine Does.of_W (n := 88) (ts := [6, 7]) Try.func10 (by kernel_rfl) rfl Try.ntmps10 Try.results10 rfl rfl fun C hC hG => ?_
  refine W.seq ?_
  refine W.region ?_
  refine boxR rfl rfl rfl ?_
  iterate 2 refine pu (ev tab rfl) rfl ?_
  refine WO.nil ?_
  refine qs ?_
  refine W.seq ?_
  refine W.seq ?_
  refine W.region ?_
  first | refine pu (ev tab rfl) rfl ?_ | refine pu (loadRow tab rfl rfl rfl rfl) rfl ?_ | refine pu (loadBox tab rfl rfl rfl rfl rfl) rfl ?_
  refine pu (puCall rfl rfl rfl (step_fn s (by omega)) rfl) rfl ?_
  refine pu (ev tab rfl) rfl ?_
  refine WO.nil ?_
  refine qs ?_
  refine W.seq ?_
  refine W.region ?_
  iterate 2 refine pu (ev tab rfl) rfl ?_
  refine WO.nil ?_
  refine qs ?_
  refine condK rfl (fun h16 => ?_) (fun h16 => ?_)
  · skip
    rw [if_pos (by simpa using h16)] at hg
    refine W.seq ?_
    refine W.region ?_
    iterate 3 refine pu (ev tab rfl) rfl ?_
    refine WO.nil ?_
    refine qs ?_
    try refine ownNilR (d := 6) rfl rfl ?_
    refine W.ret ?_
    refine qsRet ?_
    refine QF.ret0 trivial rfl ?_
    first | (rw [hg]; rfl) | (rw [hg, if_neg (by simp_all)]; rfl)
  · skip
    have h16 : stepErr s = 0 := by simpa using h16
    rw [if_neg (by simp [h16])] at hg
    have hse := h16
    unfold stepErr at hse
    split at hse
    · cases hse
    refine W.skip ?_
    refine qs ?_
    refine W.seq ?_
    refine W.seq ?_
    refine W.region ?_
    refine pu (ev tab rfl) rfl ?_
    first | refine pu (ev tab rfl) rfl ?_ | refine pu (loadRow tab rfl rfl rfl rfl) rfl ?_ | refine pu (loadBox tab rfl rfl rfl rfl rfl) rfl ?_
    refine WO.nil ?_
    refine qs ?_
    refine W.block ?_
    refine W.seq ?_
    refine W.region ?_
    iterate 2 refine pu (ev tab rfl) rfl ?_
    refine WO.nil ?_
    refine qs ?_
    refine condK rfl (fun h20 => ?_) (fun h20 => ?_)
    · skip
      have h20 : s.op = 1 := by simpa using h20
      rw [if_pos h20] at hg hse
      have hv := exprErr_zero hse
      refine W.seq ?_
      refine W.region ?_
      iterate 2 refine pu (ev tab rfl) rfl ?_
      first | refine pu (ev tab rfl) rfl ?_ | refine pu (loadRow tab rfl rfl rfl rfl) rfl ?_ | refine pu (loadBox tab rfl rfl rfl rfl rfl) rfl ?_
      refine pu (puCall rfl rfl rfl (tnode_fn cols s.cond hv) rfl) rfl ?_
      iterate 5 refine pu (ev tab rfl) rfl ?_
      refine WO.nil ?_
      refine qs ?_
      refine W.seq ?_
      refine W.seq ?_
      apply regionB; (case hb => rfl)
      · skip
        iterate 3 refine pu (ev tab rfl) rfl ?_
        apply splitJ; (case hj => rfl); (case hl => rfl)
        · skip
          refine goG rfl rfl ?_
          refine pu (ev tab rfl) rfl ?_
          refine goG rfl rfl ?_
          refine pu (puCall rfl rfl rfl (fits_fn ..) rfl) rfl ?_
          refine goG rfl rfl ?_
          iterate 2 refine pu (ev tab rfl) rfl ?_
          refine WO.nil ?_
          refine qv1 rfl rfl rfl
        · skip
          refine skipT rfl rfl rfl rfl ?_
          refine skipT rfl rfl rfl rfl ?_
          refine skipT rfl rfl rfl rfl ?_
          refine pu (ev tab rfl) rfl ?_
          refine WO.nil ?_
          refine qv1 rfl rfl rfl
      refine qs ?_
      refine condK rfl (fun h35 => ?_) (fun h35 => ?_)
      · skip
        have h35 : (typ cols s.cond).2 = 0 ∧ fits (typ cols s.cond).1 1 = false := by revert h35; generalize fits (typ cols s.cond).1 1 = u; by_cases q : (typ cols s.cond).2 = 0 <;> cases u <;> simp [q]
        have hw : whereErr cols s.cond = 14 := by unfold whereErr; rw [if_pos h35]
        simp only [hw] at hg
        refine W.region ?_
        refine pu (ev tab rfl) rfl ?_
        refine WO.nil ?_
        refine qs ?_
        refine W.seq ?_
        refine W.region ?_
        iterate 2 refine pu (ev tab rfl) rfl ?_
        refine WO.nil ?_
        refine qs ?_
        refine condK rfl (fun h37 => ?_) (fun h37 => ?_)
        · skip
          rw [if_pos (by first | decide | simpa using h37)] at hg
          refine W.seq ?_
          refine W.region ?_
          iterate 3 refine pu (ev tab rfl) rfl ?_
          refine WO.nil ?_
          refine qs ?_
          try refine ownNilR (d := 6) rfl rfl ?_
          refine W.ret ?_
          refine qbRet ?_
          refine qsRet ?_
          refine QF.ret0 trivial rfl ?_
          first | (rw [hg]; rfl) | (rw [hg, if_neg (by simp_all)]; rfl)
        · skip
          rw [if_neg (by first | (exfalso; revert h37; decide) | simpa using h37)] at hg
          refine W.skip ?_
          refine qbN ?_
          refine qs ?_
          refine W.seq ?_
          refine W.region ?_
          refine pu (ev tab rfl) rfl ?_
          refine callR rfl rfl rfl (clone_fn cols (by omega)) (by rfl) rfl rfl ?_
          iterate 2 refine pu (ev tab rfl) rfl ?_
          refine WO.nil ?_
          refine qs ?_
          try refine ownNilR (d := 6) rfl rfl ?_
          refine W.ret ?_
          refine QF.ret0 trivial rfl ?_
          first | (rw [hg]; rfl) | (rw [hg, if_neg (by simp_all)]; rfl)
      · skip
        have h35 : ¬ ((typ cols s.cond).2 = 0 ∧ fits (typ cols s.cond).1 1 = false) := by revert h35; generalize fits (typ cols s.cond).1 1 = u; by_cases q : (typ cols s.cond).2 = 0 <;> cases u <;> simp [q]
        have hw : whereErr cols s.cond = (typ cols s.cond).2 := by unfold whereErr; rw [if_neg h35]
        simp only [hw] at hg
        refine W.skip ?_
        refine qs ?_
        refine W.seq ?_
        refine W.region ?_
        iterate 2 refine pu (ev tab rfl) rfl ?_
        refine WO.nil ?_
        refine qs ?_
        refine condK rfl (fun h37 => ?_) (fun h37 => ?_)
        · skip
          rw [if_pos (by first | decide | simpa using h37)] at hg
          refine W.seq ?_
          refine W.region ?_
          iterate 3 refine pu (ev tab rfl) rfl ?_
          refine WO.nil ?_
          refine qs ?_
          try refine ownNilR (d := 6) rfl rfl ?_
          refine W.ret ?_
          refine qbRet ?_
          refine qsRet ?_
          refine QF.ret0 trivial rfl ?_
          first | (rw [hg]; rfl) | (rw [hg, if_neg (by simp_all)]; rfl)
        · skip
          rw [if_neg (by first | (exfalso; revert h37; decide) | simpa using h37)] at hg
          refine W.skip ?_
          refine qbN ?_
          refine qs ?_
          refine W.seq ?_
          refine W.region ?_
          refine pu (ev tab rfl) rfl ?_
          refine callR rfl rfl rfl (clone_fn cols (by omega)) (by rfl) rfl rfl ?_
          iterate 2 refine pu (ev tab rfl) rfl ?_
          refine WO.nil ?_
          refine qs ?_
          try refine ownNilR (d := 6) rfl rfl ?_
          refine W.ret ?_
          refine QF.ret0 trivial rfl ?_
          first | (rw [hg]; rfl) | (rw [hg, if_neg (by simp_all)]; rfl)
    · skip
      have h20 : ¬ s.op = 1 := by simpa using h20
      rw [if_neg h20] at hg hse
      refine W.seq ?_
      refine W.region ?_
      iterate 2 refine pu (ev tab rfl) rfl ?_
      refine WO.nil ?_
      refine qs ?_
      refine condK rfl (fun h39 => ?_) (fun h39 => ?_)
      · skip
        have h39 : s.op = 2 := by simpa using h39
        rw [if_pos h39] at hg hse
        have hsel : selErr [] s.items = 0 := by
          split at hse
          · rename_i h1; exact absurd hse h1
          · exact hse
        refine W.seq ?_
        refine W.region ?_
        iterate 2 refine pu (ev tab rfl) rfl ?_
        first | refine pu (ev tab rfl) rfl ?_ | refine pu (loadRow tab rfl rfl rfl rfl) rfl ?_ | refine pu (loadBox tab rfl rfl rfl rfl rfl) rfl ?_
        refine pu (puCall rfl rfl rfl (selected_fn cols s.items (by omega) (selErr_valid _ _ hsel)) rfl) rfl ?_
        iterate 4 refine pu (ev tab rfl) rfl ?_
        refine WO.nil ?_
        refine qs ?_
        try refine ownNilR (d := 6) rfl rfl ?_
        refine W.ret ?_
        refine qbRet ?_
        refine qsRet ?_
        refine QF.ret0 trivial rfl ?_
        first | (rw [hg]; rfl) | (rw [hg, if_neg (by simp_all)]; rfl)
      · skip
        have h39 : ¬ s.op = 2 := by simpa using h39
        rw [if_neg h39] at hg hse
        refine W.seq ?_
        refine W.region ?_
        iterate 2 refine pu (ev tab rfl) rfl ?_
        refine WO.nil ?_
        refine qs ?_
        refine condK rfl (fun h47 => ?_) (fun h47 => ?_)
        · skip
          have h47 : s.op = 3 := by simpa using h47
          rw [if_pos h47] at hg hse
          refine W.seq ?_
          refine W.region ?_
          refine pu (ev tab rfl) rfl ?_
          first | refine pu (ev tab rfl) rfl ?_ | refine pu (loadRow tab rfl rfl rfl rfl) rfl ?_ | refine pu (loadBox tab rfl rfl rfl rfl rfl) rfl ?_
          refine pu (puCall rfl rfl rfl (grouped_fn cols s (by omega) (by omega)) rfl) rfl ?_
          iterate 4 refine pu (ev tab rfl) rfl ?_
          refine WO.nil ?_
          refine qs ?_
          try refine ownNilR (d := 6) rfl rfl ?_
          refine W.ret ?_
          refine qbRet ?_
          refine qsRet ?_
          refine QF.ret0 trivial rfl ?_
          first | (rw [hg]; rfl) | (rw [hg, if_neg (by simp_all)]; rfl)
        · skip
          have h47 : ¬ s.op = 3 := by simpa using h47
          rw [if_neg h47] at hg hse
          refine W.seq ?_
          refine W.region ?_
          iterate 2 refine pu (ev tab rfl) rfl ?_
          refine WO.nil ?_
          refine qs ?_
          refine condK rfl (fun h54 => ?_) (fun h54 => ?_)
          · skip
            have h54 : s.op = 4 := by simpa using h54
            rw [if_pos h54] at hg hse
            refine W.seq ?_
            refine W.region ?_
            refine pu (ev tab rfl) rfl ?_
            first | refine pu (ev tab rfl) rfl ?_ | refine pu (loadRow tab rfl rfl rfl rfl) rfl ?_ | refine pu (loadBox tab rfl rfl rfl rfl rfl) rfl ?_
            iterate 2 refine pu (ev tab rfl) rfl ?_
            refine WO.nil ?_
            refine qs ?_
            refine W.block ?_
            refine W.len (t := 57) rfl rfl (fun hlen => ?_)
            try simp only [List.length_map, Ex.kc_len] at hlen
            refine W.loopR (ι := {x : Nat // match x with | k => k ≤ s.sorts.length ∧ sortErr cols (s.sorts.drop k) = sortErr cols s.sorts})
              (fun x => match x.1 with | k => [(59, .d (.v (.int .i64 ((k : Nat) : Int))))]) [(1, _), (57, _), (58, _)]
              (fun x => match x.1 with | k => []) [] [] 0 (fun x => match x.1 with | k => s.sorts.length - k)
              [] ⟨0, ?_⟩ rfl ?_ ⟨rfl, rfl, rfl, rfl, rfl, rfl, trivial⟩ ?_ trivial rfl ?_
            · first | exact ⟨Nat.zero_le _, rfl⟩ | exact trivial | simp
            · repeat' first | exact trivial | refine ⟨rfl, ?_⟩ | refine ⟨step_nat (by assumption) (by assumption), ?_⟩
            · repeat' first | exact trivial | refine ⟨rfl, ?_⟩ | refine ⟨step_nat (by assumption) (by assumption), ?_⟩
            rintro ⟨k, hk, hI⟩
            show W _ _ _ _ _ ⟨[(59, .d (.v (.int .i64 ((k : Nat) : Int)))), (1, _), (57, _), (58, _)], [], [], 0⟩
            refine W.seq ?_
            refine W.region ?_
            refine pu (ev tab rfl) rfl ?_
            refine WO.nil ?_
            refine qs ?_
            refine W.seq ?_
            refine eachR (l := s.sorts) (k := k) rfl (by simp [Ex.kc_len, bytes_len]) hk (fun x hx hd hlt => ?_) (fun he hd => ?_)
            · skip
              rw [hd] at hI
              rw [show sortErr cols (x :: s.sorts.drop (k + 1)) = (!(cols.any fun c => decide (c.name = x.col)) || sortErr cols (s.sorts.drop (k + 1))) from rfl] at hI
              refine W.skip ?_
              refine qs ?_
              refine W.seq ?_
              refine W.block ?_
              refine W.seq ?_
              refine W.region ?_
              refine pu (indexAddr tab rfl rfl rfl rfl rfl rfl (Int.natCast_nonneg _) (idx_map hx) rfl) rfl ?_
              first | refine pu (ev tab rfl) rfl ?_ | refine pu (loadRow tab rfl rfl rfl rfl) rfl ?_ | refine pu (loadBox tab rfl rfl rfl rfl rfl) rfl ?_
              refine allocR tab rfl rfl rfl ?_
              refine storeR tab rfl rfl rfl rfl rfl rfl rfl rfl ?_
              refine WO.nil ?_
              refine qs ?_
              refine W.seq ?_
              refine W.region ?_
              iterate 2 refine pu (ev tab rfl) rfl ?_
              first | refine pu (ev tab rfl) rfl ?_ | refine pu (loadRow tab rfl rfl rfl rfl) rfl ?_ | refine pu (loadBox tab rfl rfl rfl rfl rfl) rfl ?_
              refine pu (puCall rfl rfl rfl (column_fn ..) rfl) rfl ?_
              refine pu (ev tab rfl) rfl ?_
              refine WO.nil ?_
              refine qs ?_
              refine condK rfl (fun h67 => ?_) (fun h67 => ?_)
              · skip
                have h67 : (cols.any fun c => decide (c.name = x.col)) = false := by rw [← idx_nonneg]; simp at h67 ⊢; omega
                rw [h67] at hI
                rw [if_pos (by rw [← hI]; rfl)] at hg
                refine W.seq ?_
                refine W.region ?_
                iterate 2 refine pu (ev tab rfl) rfl ?_
                refine WO.nil ?_
                refine qs ?_
                try refine ownNilR (d := 6) rfl rfl ?_
                refine W.ret ?_
                refine qbRet ?_
                refine qsRet ?_
                refine qlRet ?_
                refine qbRet ?_
                refine qbRet ?_
                refine qsRet ?_
                refine QF.ret0 trivial rfl ?_
                first | (rw [hg]; rfl) | (rw [hg, if_neg (by simp_all)]; rfl)
              · skip
                have h67 : (cols.any fun c => decide (c.name = x.col)) = true := by rw [← idx_nonneg]; simp at h67 ⊢; omega
                rw [h67] at hI
                refine W.skip ?_
                refine qbN ?_
                refine qs ?_
                refine W.region ?_
                iterate 2 refine pu (ev tab rfl) rfl ?_
                refine WO.nil ?_
                refine W.endR [] ⟨k + 1, ?_⟩ ?_ rfl ?_ ⟨rfl, rfl, rfl, rfl, rfl, rfl, trivial⟩ ?_ trivial rfl
                · exact ⟨hlt, hI⟩
                · dsimp only; omega
                · repeat' first | exact trivial | refine ⟨rfl, ?_⟩ | refine ⟨step_nat (by assumption) (by assumption), ?_⟩
                · repeat' first | exact trivial | refine ⟨rfl, ?_⟩ | refine ⟨step_nat (by assumption) (by assumption), ?_⟩
            · skip
              rw [hd] at hI
              rw [if_neg (by rw [← hI]; simp [sortErr])] at hg
              refine W.exit ?_
              refine qsExit ?_
              refine qlExit ?_
              refine qbExit ?_
              refine qbN ?_
              refine qs ?_
              refine W.seq ?_
              refine W.region ?_
              refine pu (ev tab rfl) rfl ?_
              refine callR rfl rfl rfl (clone_fn cols (by omega)) (by rfl) rfl rfl ?_
              iterate 2 refine pu (ev tab rfl) rfl ?_
              refine WO.nil ?_
              refine qs ?_
              try refine ownNilR (d := 6) rfl rfl ?_
              refine W.ret ?_
              refine QF.ret0 trivial rfl ?_
              first | (rw [hg]; rfl) | (rw [hg, if_neg (by simp_all)]; rfl)
          · skip
            have h54 : ¬ s.op = 4 := by simpa using h54
            rw [if_neg h54] at hg hse
            refine W.seq ?_
            refine W.region ?_
            iterate 2 refine pu (ev tab rfl) rfl ?_
            refine WO.nil ?_
            refine qs ?_
            refine condK rfl (fun h69 => ?_) (fun h69 => ?_)
            · skip
              have h69 : s.op = 9 := by simpa using h69
              rw [if_pos h69] at hg
              refine W.seq ?_
              refine W.region ?_
              refine pu (ev tab rfl) rfl ?_
              first | refine pu (ev tab rfl) rfl ?_ | refine pu (loadRow tab rfl rfl rfl rfl) rfl ?_ | refine pu (loadBox tab rfl rfl rfl rfl rfl) rfl ?_
              refine pu (puCall rfl rfl rfl (coalesced_fn cols s (by omega)) rfl) rfl ?_
              iterate 4 refine pu (ev tab rfl) rfl ?_
              refine WO.nil ?_
              refine qs ?_
              try refine ownNilR (d := 6) rfl rfl ?_
              refine W.ret ?_
              refine qbRet ?_
              refine qsRet ?_
              refine QF.ret0 trivial rfl ?_
              first | (rw [hg]; rfl) | (rw [hg, if_neg (by simp_all)]; rfl)
            · skip
              have h69 : ¬ s.op = 9 := by simpa using h69
              rw [if_neg h69] at hg
              refine W.seq ?_
              refine W.seq ?_
              refine W.region ?_
              iterate 2 refine pu (ev tab rfl) rfl ?_
              refine WO.nil ?_
              refine qs ?_
              refine condK rfl (fun h76 => ?_) (fun h76 => ?_)
              · skip
                have h76' : s.op = 6 ∨ s.op = 7 ∨ s.op = 8 := by simp_all
                first | rw [if_pos h76'] at hg | skip
                refine W.skip ?_
                refine qs ?_
                refine W.condT rfl ?_
                refine W.seq ?_
                refine W.region ?_
                iterate 2 refine pu (ev tab rfl) rfl ?_
                first | refine pu (ev tab rfl) rfl ?_ | refine pu (loadRow tab rfl rfl rfl rfl) rfl ?_ | refine pu (loadBox tab rfl rfl rfl rfl rfl) rfl ?_
                refine pu (puCall rfl rfl rfl (joined_fn d cols s hc ht) rfl) rfl ?_
                iterate 4 refine pu (ev tab rfl) rfl ?_
                refine WO.nil ?_
                refine qs ?_
                try refine ownNilR (d := 6) rfl rfl ?_
                refine W.ret ?_
                refine qbRet ?_
                refine qsRet ?_
                refine QF.ret0 trivial rfl ?_
                first | (rw [hg]; rfl) | (rw [hg, if_neg (by simp_all)]; rfl)
              · skip
                have h76a := h76
                refine W.seq ?_
                refine W.region ?_
                iterate 2 refine pu (ev tab rfl) rfl ?_
                refine WO.nil ?_
                refine qs ?_
                refine condK rfl (fun h76 => ?_) (fun h76 => ?_)
                · skip
                  have h76' : s.op = 6 ∨ s.op = 7 ∨ s.op = 8 := by simp_all
                  first | rw [if_pos h76'] at hg | skip
                  refine W.skip ?_
                  refine qs ?_
                  refine W.condT rfl ?_
                  refine W.seq ?_
                  refine W.region ?_
                  iterate 2 refine pu (ev tab rfl) rfl ?_
                  first | refine pu (ev tab rfl) rfl ?_ | refine pu (loadRow tab rfl rfl rfl rfl) rfl ?_ | refine pu (loadBox tab rfl rfl rfl rfl rfl) rfl ?_
                  refine pu (puCall rfl rfl rfl (joined_fn d cols s hc ht) rfl) rfl ?_
                  iterate 4 refine pu (ev tab rfl) rfl ?_
                  refine WO.nil ?_
                  refine qs ?_
                  try refine ownNilR (d := 6) rfl rfl ?_
                  refine W.ret ?_
                  refine qbRet ?_
                  refine qsRet ?_
                  refine QF.ret0 trivial rfl ?_
                  first | (rw [hg]; rfl) | (rw [hg, if_neg (by simp_all)]; rfl)
                · skip
                  have h76a := h76
                  refine W.region ?_
                  iterate 2 refine pu (ev tab rfl) rfl ?_
                  refine WO.nil ?_
                  refine qs ?_
                  refine condK rfl (fun h76 => ?_) (fun h76 => ?_)
                  · skip
                    have h76' : s.op = 6 ∨ s.op = 7 ∨ s.op = 8 := by simp_all
                    first | rw [if_pos h76'] at hg | skip
                    refine W.seq ?_
                    refine W.region ?_
                    iterate 2 refine pu (ev tab rfl) rfl ?_
                    first | refine pu (ev tab rfl) rfl ?_ | refine pu (loadRow tab rfl rfl rfl rfl) rfl ?_ | refine pu (loadBox tab rfl rfl rfl rfl rfl) rfl ?_
                    refine pu (puCall rfl rfl rfl (joined_fn d cols s hc ht) rfl) rfl ?_
                    iterate 4 refine pu (ev tab rfl) rfl ?_
                    refine WO.nil ?_
                    refine qs ?_
                    try refine ownNilR (d := 6) rfl rfl ?_
                    refine W.ret ?_
                    refine qbRet ?_
                    refine qsRet ?_
                    refine QF.ret0 trivial rfl ?_
                    first | (rw [hg]; rfl) | (rw [hg, if_neg (by simp_all)]; rfl)
                  · skip
                    have h76a := h76
                    refine W.skip ?_
                    refine qbN ?_
                    refine qs ?_
                    refine W.seq ?_
                    refine W.region ?_
                    refine pu (ev tab rfl) rfl ?_
                    refine callR rfl rfl rfl (clone_fn cols (by omega)) (by rfl) rfl rfl ?_
                    iterate 2 refine pu (ev tab rfl) rfl ?_
                    refine WO.nil ?_
                    refine qs ?_
                    try refine ownNilR (d := 6) rfl rfl ?_
                    refine W.ret ?_
                    refine QF.ret0 trivial rfl ?_
                    first | (rw [hg]; rfl) | (rw [hg, if_neg (by simp_all)]; rfl)

theorem selT_len (cols : List Col) : ∀ (l : List Itm) (out : List Col), (selT cols out l).1.length ≤ out.length + l.length
  | [], out => by simp [selT]
  | x :: r, out => by
    simp only [selT]
    split
    · simp
    · split
      · simp
      · have := selT_len cols r (out ++ [⟨x.name, (typ cols x.e).1⟩]); simp at this ⊢; omega
theorem aggT_len (cols : List Col) : ∀ (l : List Agr) (out : List Col), (aggT cols out l).1.length ≤ out.length + l.length
  | [], out => by simp [aggT]
  | x :: r, out => by
    simp only [aggT]
    split
    · have := aggT_len cols r (out ++ [⟨x.name, 2⟩]); simp at this ⊢; omega
    · split
      · simp
      · rename_i c _
        split
        · simp
        · have := aggT_len cols r (out ++ [⟨x.name, c.type⟩]); simp at this ⊢; omega

theorem stepCT_len (d : List Nmd) (cols : List Col) (s : Stp) (hf : fewS s) (hc : cols.length ≤ 1000) : (stepCT d cols s).1.length ≤ 1000 := by
  obtain ⟨h1, h2, h3, h4⟩ := hf
  have a1 := selT_len cols s.items []
  have a2 := takeT_len cols s.cols []
  have a3 := aggT_len cols s.aggs (takeT cols [] s.cols).1
  simp only [List.length_nil, Nat.zero_add] at a1 a2
  unfold stepCT
  split
  · simp
  split
  · split <;> simp; omega
  split
  · omega
  split
  · unfold groupT; split
    · simp
    · omega
  split
  · split <;> simp; omega
  split
  · unfold coalT; split
    · simp
    split
    · simp
    split
    · simp
    split
    · simp
    · simp; omega
  split
  · unfold joinedT
    split
    · simp
    · unfold joinT
      split
      · simp
      split
      · simp
      split
      · simp
      split
      · simp
      · unfold outT
        split
        · simp
        split
        · simp
        · simp at *; omega
  · exact hc

theorem tquery_fn (d : List Nmd) (q : Qry) (hf : ∀ s ∈ q.steps, fewS s) (ht : fewT d) : Does Try.prog 9 [.d (.sl (d.map Nmd.c)), .ag q.c]
    (.tup [.d (.sl ((queryCT d q).1.map Col.c)), .d (.v (.int .i64 (queryCT d q).2))]) 0 := by
  have hg : queryCT d q = queryCT d q := rfl
  conv at hg => rhs; unfold queryCT
  refine Does.of_W (n := 57) (ts := [4, 5]) Try.func9 (by kernel_rfl) rfl Try.ntmps9 Try.results9 rfl rfl fun C hC hG => ?_
  refine W.seq ?_
  refine W.region ?_
  refine boxR rfl rfl rfl ?_
  iterate 2 refine pu (ev tab rfl) rfl ?_
  refine WO.nil ?_
  refine qs ?_
  refine W.seq ?_
  refine W.seq ?_
  refine W.region ?_
  refine pu (ev tab rfl) rfl ?_
  refine pu (puCall rfl rfl rfl (checkAll_fn d) rfl) rfl ?_
  refine pu (ev tab rfl) rfl ?_
  refine WO.nil ?_
  refine qs ?_
  refine W.seq ?_
  refine W.region ?_
  iterate 2 refine pu (ev tab rfl) rfl ?_
  refine WO.nil ?_
  refine qs ?_
  refine condK rfl (fun h18 => ?_) (fun h18 => ?_)
  · skip
    rw [if_pos (by simpa using h18)] at hg
    refine W.seq ?_
    refine W.region ?_
    iterate 3 refine pu (ev tab rfl) rfl ?_
    refine WO.nil ?_
    refine qs ?_
    try refine ownNilR (d := 4) rfl rfl ?_
    refine W.ret ?_
    refine qsRet ?_
    refine QF.ret0 trivial rfl ?_
    rw [hg]; rfl
  · skip
    rw [if_neg (by simpa using h18)] at hg
    refine W.skip ?_
    refine qs ?_
    refine W.seq ?_
    refine W.seq ?_
    refine W.region ?_
    first | refine pu (ev tab rfl) rfl ?_ | refine pu (loadRow tab rfl rfl rfl rfl) rfl ?_ | refine pu (loadBox tab rfl rfl rfl rfl rfl) rfl ?_
    refine pu (puCall rfl rfl rfl (query_fn q (fun s hs => by have := (hf s hs).2.2.2; omega)) rfl) rfl ?_
    refine pu (ev tab rfl) rfl ?_
    refine WO.nil ?_
    refine qs ?_
    refine W.seq ?_
    refine W.region ?_
    iterate 2 refine pu (ev tab rfl) rfl ?_
    refine WO.nil ?_
    refine qs ?_
    refine condK rfl (fun h23 => ?_) (fun h23 => ?_)
    · skip
      rw [if_pos (by simpa using h23)] at hg
      refine W.seq ?_
      refine W.region ?_
      iterate 3 refine pu (ev tab rfl) rfl ?_
      refine WO.nil ?_
      refine qs ?_
      try refine ownNilR (d := 4) rfl rfl ?_
      refine W.ret ?_
      refine qsRet ?_
      refine QF.ret0 trivial rfl ?_
      rw [hg]; rfl
    · skip
      rw [if_neg (by simpa using h23)] at hg
      refine W.skip ?_
      refine qs ?_
      refine W.seq ?_
      obtain ⟨p, q', hpq⟩ := tcells2 (findT d q.from_)
      have hf' := find_fn d q.from_
      rw [hpq] at hf'
      refine W.region ?_
      iterate 2 refine pu (ev tab rfl) rfl ?_
      first | refine pu (ev tab rfl) rfl ?_ | refine pu (loadRow tab rfl rfl rfl rfl) rfl ?_ | refine pu (loadBox tab rfl rfl rfl rfl rfl) rfl ?_
      refine pu (puCall rfl rfl rfl hf' rfl) rfl ?_
      iterate 3 refine pu (ev tab rfl) rfl ?_
      refine allocR tab rfl rfl rfl ?_
      refine storeR tab rfl rfl rfl rfl rfl rfl rfl rfl ?_
      refine pu (ev tab rfl) rfl ?_
      refine WO.nil ?_
      refine qs ?_
      refine W.seq ?_
      refine W.seq ?_
      refine W.region ?_
      iterate 2 refine pu (ev tab rfl) rfl ?_
      refine WO.nil ?_
      refine qs ?_
      refine condK rfl (fun h33 => ?_) (fun h33 => ?_)
      · skip
        have hq : findT d q.from_ = none := by cases hq : findT d q.from_ with | none => rfl | some t => rw [hq] at h33; simp at h33
        rw [hq] at hg
        refine W.seq ?_
        refine W.region ?_
        iterate 2 refine pu (ev tab rfl) rfl ?_
        refine WO.nil ?_
        refine qs ?_
        try refine ownNilR (d := 4) rfl rfl ?_
        refine W.ret ?_
        refine qsRet ?_
        refine QF.ret0 trivial rfl ?_
        rw [hg]; rfl
      · skip
        obtain ⟨t, hq⟩ : ∃ t, findT d q.from_ = some t := by cases hq : findT d q.from_ with | none => rw [hq] at h33; simp at h33 | some t => exact ⟨t, rfl⟩
        rw [hq] at hg hpq
        simp only at hg
        have htc : t.cols.length ≤ 1000 := by obtain ⟨x, hx, rfl⟩ := findT_mem hq; exact ht x hx
        simp only [tcells, Tbl.c, List.cons.injEq, and_true] at hpq
        obtain ⟨rfl, rfl⟩ := hpq
        refine W.skip ?_
        refine qs ?_
        refine W.seq ?_
        refine W.region ?_
        refine pu (ev tab rfl) rfl ?_
        first | refine pu (ev tab rfl) rfl ?_ | refine pu (loadRow tab rfl rfl rfl rfl) rfl ?_ | refine pu (loadBox tab rfl rfl rfl rfl rfl) rfl ?_
        refine callR rfl rfl rfl (clone_fn t.cols (by omega)) (by rfl) rfl rfl ?_
        refine pu (ev tab rfl) rfl ?_
        refine WO.nil ?_
        refine qs ?_
        refine W.seq ?_
        refine W.seq ?_
        refine W.region ?_
        refine pu (ev tab rfl) rfl ?_
        first | refine pu (ev tab rfl) rfl ?_ | refine pu (loadRow tab rfl rfl rfl rfl) rfl ?_ | refine pu (loadBox tab rfl rfl rfl rfl rfl) rfl ?_
        iterate 2 refine pu (ev tab rfl) rfl ?_
        refine WO.nil ?_
        refine qs ?_
        refine W.block ?_
        refine W.len (t := 38) rfl rfl (fun hlen => ?_)
        try simp only [List.length_map, Ex.kc_len] at hlen
        refine W.loopR (ι := {x : Nat × List Col // match x with | (k, cols) => k ≤ q.steps.length ∧ stepsCT d cols (q.steps.drop k) = stepsCT d t.cols q.steps ∧ cols.length ≤ 1000})
          (fun x => match x.1 with | (k, cols) => [(10, .d (.sl (cols.map Col.c))), (40, .d (.v (.int .i64 ((k : Nat) : Int))))]) [(0, _), (38, _), (39, _)]
          (fun x => match x.1 with | (k, cols) => []) [] [] 0 (fun x => match x.1 with | (k, cols) => q.steps.length - k)
          [] ⟨(0, t.cols), ?_⟩ rfl ?_ ⟨rfl, rfl, rfl, rfl, rfl, rfl, trivial⟩ ?_ trivial rfl ?_
        · exact ⟨Nat.zero_le _, rfl, htc⟩
        · repeat' first | exact trivial | refine ⟨rfl, ?_⟩ | refine ⟨step_nat (by assumption) (by assumption), ?_⟩
        · repeat' first | exact trivial | refine ⟨rfl, ?_⟩ | refine ⟨step_nat (by assumption) (by assumption), ?_⟩
        rintro ⟨⟨k, cols⟩, hk, hI, hL⟩
        show W _ _ _ _ _ ⟨[(10, .d (.sl (cols.map Col.c))), (40, .d (.v (.int .i64 ((k : Nat) : Int)))), (0, _), (38, _), (39, _)], [], [], 0⟩
        refine W.seq ?_
        refine W.region ?_
        refine pu (ev tab rfl) rfl ?_
        refine WO.nil ?_
        refine qs ?_
        refine W.seq ?_
        refine eachR (l := q.steps) (k := k) rfl (by simp [Ex.kc_len, bytes_len]) hk (fun x hx hd hlt => ?_) (fun he hd => ?_)
        · skip
          rw [hd] at hI
          simp only [stepsCT] at hI
          have hfx := hf x (List.mem_of_getElem? hx)
          refine W.skip ?_
          refine qs ?_
          refine W.seq ?_
          refine W.block ?_
          refine W.seq ?_
          refine W.region ?_
          refine pu (indexAddr tab rfl rfl rfl rfl rfl rfl (Int.natCast_nonneg _) (idx_map hx) rfl) rfl ?_
          first | refine pu (ev tab rfl) rfl ?_ | refine pu (loadRow tab rfl rfl rfl rfl) rfl ?_ | refine pu (loadBox tab rfl rfl rfl rfl rfl) rfl ?_
          refine allocR tab rfl rfl rfl ?_
          refine storeR tab rfl rfl rfl rfl rfl rfl rfl rfl ?_
          refine WO.nil ?_
          refine qs ?_
          refine W.seq ?_
          refine W.region ?_
          iterate 2 refine pu (ev tab rfl) rfl ?_
          first | refine pu (ev tab rfl) rfl ?_ | refine pu (loadRow tab rfl rfl rfl rfl) rfl ?_ | refine pu (loadBox tab rfl rfl rfl rfl rfl) rfl ?_
          refine pu (puCall rfl rfl rfl (tstep_fn d cols x hfx ht hL) rfl) rfl ?_
          iterate 5 refine pu (ev tab rfl) rfl ?_
          refine WO.nil ?_
          refine qs ?_
          refine W.seq ?_
          refine W.seq ?_
          refine W.region ?_
          iterate 2 refine pu (ev tab rfl) rfl ?_
          refine WO.nil ?_
          refine qs ?_
          refine condK rfl (fun h52 => ?_) (fun h52 => ?_)
          · skip
            rw [if_pos (by simpa using h52)] at hI
            refine W.seq ?_
            refine W.region ?_
            iterate 3 refine pu (ev tab rfl) rfl ?_
            refine WO.nil ?_
            refine qs ?_
            try refine ownNilR (d := 4) rfl rfl ?_
            refine W.ret ?_
            refine qsRet ?_
            refine qbRet ?_
            refine qsRet ?_
            refine qlRet ?_
            refine qbRet ?_
            refine qsRet ?_
            refine QF.ret0 trivial rfl ?_
            rw [hg, ← hI]; rfl
          · skip
            rw [if_neg (by simpa using h52)] at hI
            refine W.skip ?_
            refine qs ?_
            refine W.region ?_
            iterate 2 refine pu (ev tab rfl) rfl ?_
            refine WO.nil ?_
            refine qbN ?_
            refine qs ?_
            refine W.region ?_
            iterate 2 refine pu (ev tab rfl) rfl ?_
            refine WO.nil ?_
            refine W.endR [] ⟨(k + 1, (stepCT d cols x).1), ?_⟩ ?_ rfl ?_ ⟨rfl, rfl, rfl, rfl, rfl, rfl, trivial⟩ ?_ trivial rfl
            · exact ⟨hlt, hI, stepCT_len d cols x hfx hL⟩
            · dsimp only; omega
            · repeat' first | exact trivial | refine ⟨rfl, ?_⟩ | refine ⟨step_nat (by assumption) (by assumption), ?_⟩
            · repeat' first | exact trivial | refine ⟨rfl, ?_⟩ | refine ⟨step_nat (by assumption) (by assumption), ?_⟩
        · skip
          rw [hd] at hI
          simp only [stepsCT] at hI
          refine W.exit ?_
          refine qsExit ?_
          refine qlExit ?_
          refine qbExit ?_
          refine qs ?_
          refine W.seq ?_
          refine W.region ?_
          iterate 3 refine pu (ev tab rfl) rfl ?_
          refine WO.nil ?_
          refine qs ?_
          try refine ownNilR (d := 4) rfl rfl ?_
          refine W.ret ?_
          refine QF.ret0 trivial rfl ?_
          rw [hg, ← hI]; rfl
end Go.Proofs.Ytlmgnlhagpoggaa
namespace Go.Proofs.Ytlmgnlhagpoggaa
open Go.Ab Go.Tb
set_option maxRecDepth 10000
attribute [local irreducible] W WO Pu QS QB QL QF QV QV1 CH QE
theorem fewCols_fn (l : List Col) : Does Try.prog 5 [.d (.sl (l.map Col.c))] (.d (.v (.bool (fewCols l)))) 0 := by
  refine Does.of_W (n := 24) (ts := [2]) Try.func5 (by kernel_rfl) rfl Try.ntmps5 Try.results5 rfl rfl fun C hC hG => ?_
  refine W.seq ?_
  refine W.region ?_
  refine pu (ev tab rfl) rfl ?_
  refine WO.nil ?_
  refine qs ?_
  refine W.seq ?_
  refine W.seq ?_
  refine W.region ?_
  refine pu (ev tab rfl) rfl ?_
  refine WO.nil ?_
  refine qs ?_
  refine W.block ?_
  refine W.len (t := 0) rfl rfl (fun hlen => ?_)
  try simp only [List.length_map, Ex.kc_len] at hlen
  refine W.loopR (ι := {x : Nat // match x with | k => k ≤ l.length ∧ (l.drop k).all (fun c => decide (c.name.size ≤ 300)) = l.all (fun c => decide (c.name.size ≤ 300))})
    (fun x => match x.1 with | k => [(3, .d (.v (.int .i64 ((k : Nat) : Int))))]) [(0, _)]
    (fun x => match x.1 with | k => []) [] [] 0 (fun x => match x.1 with | k => l.length - k)
    [] ⟨0, ?_⟩ rfl ?_ ⟨rfl, rfl, trivial⟩ ?_ trivial rfl ?_
  · first | exact ⟨Nat.zero_le _, rfl⟩ | exact trivial | simp
  · repeat' first | exact trivial | refine ⟨rfl, ?_⟩ | refine ⟨step_nat (by assumption) (by assumption), ?_⟩
  · repeat' first | exact trivial | refine ⟨rfl, ?_⟩ | refine ⟨step_nat (by assumption) (by assumption), ?_⟩
  rintro ⟨k, hk, hI⟩
  show W _ _ _ _ _ ⟨[(3, .d (.v (.int .i64 ((k : Nat) : Int)))), (0, _)], [], [], 0⟩
  refine W.seq ?_
  refine W.seq ?_
  apply regionB; (case hb => rfl)
  · skip
    iterate 5 refine pu (ev tab rfl) rfl ?_
    apply splitJ; (case hj => rfl); (case hl => rfl)
    · skip
      refine goG rfl rfl ?_
      refine pu (ev tab rfl) rfl ?_
      refine goG rfl rfl ?_
      iterate 2 refine pu (ev tab rfl) rfl ?_
      refine WO.nil ?_
      refine qv1 rfl rfl rfl
    · skip
      refine skipT rfl rfl rfl rfl ?_
      refine skipT rfl rfl rfl rfl ?_
      refine pu (ev tab rfl) rfl ?_
      refine WO.nil ?_
      refine qv1 rfl rfl rfl
  refine qs ?_
  refine condK rfl (fun h11 => ?_) (fun h11 => ?_)
  · skip
    have h11' : k < l.length ∧ k ≤ 40 := by simp [List.length_map] at h11; omega
    have hlt := h11'.1
    obtain ⟨x, hx, hd⟩ := exAt hlt
    rw [hd, List.all_cons] at hI
    refine W.skip ?_
    refine qs ?_
    refine W.seq ?_
    refine W.block ?_
    refine W.seq ?_
    refine W.region ?_
    iterate 2 refine pu (ev tab rfl) rfl ?_
    refine pu (indexAddr tab rfl rfl rfl rfl rfl rfl (Int.natCast_nonneg _) (idx_map hx) rfl) rfl ?_
    refine pu (ev tab rfl) rfl ?_
    first | refine pu (ev tab rfl) rfl ?_ | refine pu (loadRow tab rfl rfl rfl rfl) rfl ?_ | refine pu (loadBox tab rfl rfl rfl rfl rfl) rfl ?_
    iterate 2 refine pu (ev tab rfl) rfl ?_
    refine WO.nil ?_
    refine qs ?_
    refine condK rfl (fun h20 => ?_) (fun h20 => ?_)
    · skip
      have h20 : decide (x.name.size ≤ 300) = false := by simp at h20 ⊢; omega
      rw [h20, Bool.false_and] at hI
      refine W.seq ?_
      refine W.region ?_
      refine pu (ev tab rfl) rfl ?_
      refine WO.nil ?_
      refine qs ?_
      refine W.ret ?_
      refine qbRet ?_
      refine qsRet ?_
      refine qlRet ?_
      refine qbRet ?_
      refine qsRet ?_
      refine QF.ret0 trivial rfl ?_
      simp only [norm, oneA, fewCols]; rw [← hI]; rfl
    · skip
      have h20 : decide (x.name.size ≤ 300) = true := by simp at h20 ⊢; omega
      rw [h20, Bool.true_and] at hI
      refine W.skip ?_
      refine qbN ?_
      refine qs ?_
      refine W.region ?_
      iterate 3 refine pu (ev tab rfl) rfl ?_
      refine WO.nil ?_
      refine W.endR [] ⟨k + 1, ?_⟩ ?_ rfl ?_ ⟨rfl, rfl, trivial⟩ ?_ trivial rfl
      · exact ⟨hlt, hI⟩
      · dsimp only; omega
      · repeat' first | exact trivial | refine ⟨rfl, ?_⟩ | refine ⟨step_nat (by assumption) (by assumption), ?_⟩
      · repeat' first | exact trivial | refine ⟨rfl, ?_⟩ | refine ⟨step_nat (by assumption) (by assumption), ?_⟩
  · skip
    have h11' : k < l.length → ¬ k ≤ 40 := by simp [List.length_map] at h11; omega
    refine W.exit ?_
    refine qsExit ?_
    refine qlExit ?_
    refine qbExit ?_
    refine qs ?_
    refine W.seq ?_
    refine W.region ?_
    iterate 4 refine pu (ev tab rfl) rfl ?_
    refine WO.nil ?_
    refine qs ?_
    refine W.ret ?_
    refine QF.ret0 trivial rfl ?_
    simp only [norm, oneA, fewCols, List.length_map]
    by_cases hk2 : k < l.length
    · have := h11' hk2
      have e1 : decide ((l.length : Int) ≤ 40) = false := by simp; omega
      have e2 : decide (l.length ≤ 40) = false := by simp; omega
      rw [e1, e2, Bool.and_false]
    · rw [List.drop_of_length_le (by omega)] at hI
      rw [← hI]
      simp
      omega



theorem same_fn (a b : List Col) : Does Try.prog 11 [.d (.sl (a.map Col.c)), .d (.sl (b.map Col.c))] (.d (.v (.bool (decide (a = b))))) 0 := by
  refine Does.of_W (n := 26) (ts := [4]) Try.func11 (by kernel_rfl) rfl Try.ntmps11 Try.results11 rfl rfl fun C hC hG => ?_
  refine W.seq ?_
  refine W.region ?_
  refine pu (ev tab rfl) rfl ?_
  refine WO.nil ?_
  refine qs ?_
  refine W.seq ?_
  refine W.seq ?_
  refine W.region ?_
  iterate 5 refine pu (ev tab rfl) rfl ?_
  refine WO.nil ?_
  refine qs ?_
  refine condK rfl (fun h10 => ?_) (fun h10 => ?_)
  · skip
    have hg : decide (a = b) = false := by simp at h10 ⊢; rintro rfl; simp at h10
    refine W.seq ?_
    refine W.region ?_
    refine pu (ev tab rfl) rfl ?_
    refine WO.nil ?_
    refine qs ?_
    refine W.ret ?_
    refine qsRet ?_
    refine QF.ret0 trivial rfl ?_
    rw [hg]; rfl
  · skip
    have hl : a.length = b.length := by simp at h10; omega
    refine W.skip ?_
    refine qs ?_
    refine W.seq ?_
    refine W.seq ?_
    refine W.region ?_
    refine pu (ev tab rfl) rfl ?_
    refine WO.nil ?_
    refine qs ?_
    refine W.block ?_
    refine W.len (t := 0) rfl rfl (fun hlen => ?_)
    try simp only [List.length_map, Ex.kc_len] at hlen
    refine W.loopR (ι := {x : Nat // match x with | k => k ≤ a.length ∧ decide (a.drop k = b.drop k) = decide (a = b)})
      (fun x => match x.1 with | k => [(5, .d (.v (.int .i64 ((k : Nat) : Int))))]) [(0, _), (1, _)]
      (fun x => match x.1 with | k => []) [] [] 0 (fun x => match x.1 with | k => a.length - k)
      [] ⟨0, ?_⟩ rfl ?_ ⟨rfl, rfl, rfl, rfl, trivial⟩ ?_ trivial rfl ?_
    · first | exact ⟨Nat.zero_le _, rfl⟩ | exact trivial | simp
    · repeat' first | exact trivial | refine ⟨rfl, ?_⟩ | refine ⟨step_nat (by assumption) (by assumption), ?_⟩
    · repeat' first | exact trivial | refine ⟨rfl, ?_⟩ | refine ⟨step_nat (by assumption) (by assumption), ?_⟩
    rintro ⟨k, hk, hI⟩
    show W _ _ _ _ _ ⟨[(5, .d (.v (.int .i64 ((k : Nat) : Int)))), (0, _), (1, _)], [], [], 0⟩
    refine W.seq ?_
    refine W.seq ?_
    refine W.region ?_
    iterate 4 refine pu (ev tab rfl) rfl ?_
    refine WO.nil ?_
    refine qs ?_
    refine eachR (l := a) (k := k) rfl (by simp [Ex.kc_len, bytes_len]) hk (fun x hx hd hlt => ?_) (fun he hd => ?_)
    · skip
      obtain ⟨y, hy, hyd⟩ := exAt (l := b) (k := k) (by omega)
      rw [hd, hyd] at hI
      refine W.skip ?_
      refine qs ?_
      refine W.seq ?_
      refine W.block ?_
      refine W.seq ?_
      refine W.regionD tab (by kernel_rfl) ?_
      refine chPu (ev tab rfl) rfl ?_
      refine chPu (ev tab rfl) rfl ?_
      refine chPu (indexAddr tab rfl rfl rfl rfl rfl rfl (Int.natCast_nonneg _) (idx_map hx) rfl) rfl ?_
      first | refine chPu (ev tab rfl) rfl ?_ | refine chPu (loadRow tab rfl rfl rfl rfl) rfl ?_ | refine chPu (loadBox tab rfl rfl rfl rfl rfl) rfl ?_
      refine chPu (ev tab rfl) rfl ?_
      refine chPu (ev tab rfl) rfl ?_
      refine chPu (indexAddr tab rfl rfl rfl rfl rfl rfl (Int.natCast_nonneg _) (idx_map hy) rfl) rfl ?_
      first | refine chPu (ev tab rfl) rfl ?_ | refine chPu (loadRow tab rfl rfl rfl rfl) rfl ?_ | refine chPu (loadBox tab rfl rfl rfl rfl rfl) rfl ?_
      refine chPu (ev tab rfl) rfl ?_
      refine CH.nil ?_
      refine qs ?_
      refine condK rfl (fun h25 => ?_) (fun h25 => ?_)
      · skip
        have hxy : x ≠ y := by rintro rfl; simp at h25
        have hg : decide (a = b) = false := by rw [← hI]; simp [hxy]
        refine W.seq ?_
        refine W.region ?_
        refine pu (ev tab rfl) rfl ?_
        refine WO.nil ?_
        refine qs ?_
        refine W.ret ?_
        refine qbRet ?_
        refine qsRet ?_
        refine qlRet ?_
        refine qbRet ?_
        refine qsRet ?_
        refine QF.ret0 trivial rfl ?_
        rw [hg]; rfl
      · skip
        have hxy : x = y := by cases x; cases y; simp_all
        refine W.skip ?_
        refine qbN ?_
        refine qs ?_
        refine W.region ?_
        iterate 3 refine pu (ev tab rfl) rfl ?_
        refine WO.nil ?_
        refine W.endR [] ⟨k + 1, ?_⟩ ?_ rfl ?_ ⟨rfl, rfl, rfl, rfl, trivial⟩ ?_ trivial rfl
        · refine ⟨hlt, ?_⟩
          rw [← hI, hxy]
          simp
        · dsimp only; omega
        · repeat' first | exact trivial | refine ⟨rfl, ?_⟩ | refine ⟨step_nat (by assumption) (by assumption), ?_⟩
        · repeat' first | exact trivial | refine ⟨rfl, ?_⟩ | refine ⟨step_nat (by assumption) (by assumption), ?_⟩
    · skip
      rw [hd, dropEnd (l := b) (by omega)] at hI
      refine W.exit ?_
      refine qsExit ?_
      refine qlExit ?_
      refine qbExit ?_
      refine qs ?_
      refine W.seq ?_
      refine W.region ?_
      refine pu (ev tab rfl) rfl ?_
      refine WO.nil ?_
      refine qs ?_
      refine W.ret ?_
      refine QF.ret0 trivial rfl ?_
      rw [← hI]; rfl
end Go.Proofs.Ytlmgnlhagpoggaa
namespace Go.Proofs.Ytlmgnlhagpoggaa
open Go.Ab Go.Tb
set_option maxRecDepth 10000
attribute [local irreducible] W WO Pu QS QB QL QF QV QV1 CH QE
end Go.Proofs.Ytlmgnlhagpoggaa
namespace Go.Proofs.Ytlmgnlhagpoggaa
open Go.Ab Go.Tb
set_option maxRecDepth 10000
attribute [local irreducible] W WO Pu QS QB QL QF QV QV1 CH QE
def bK : ByteArray := B #[107]
def bZ : ByteArray := B #[122]
def bName : ByteArray := B #[110, 97, 109, 101]
def bN : ByteArray := B #[110]
def bA : ByteArray := B #[97]
def bSlices : ByteArray := B #[115, 108, 105, 99, 101, 115]
def v0 : Val := ⟨0, 0, B #[]⟩
def fieldE (s : ByteArray) : Ex := .mk 2 s v0 []
def wCols : List Col := [⟨bK, 2⟩, ⟨bName, 3⟩]
def wE1 : Ex := .mk 12 (B #[]) v0 [fieldE bK, .mk 1 (B #[]) ⟨3, 0, bA⟩ []]
def wE2 : Ex := .mk 4 (B #[]) v0 [fieldE bZ]
def wE3 : Ex := .mk 16 wMin v0 [.mk 1 (B #[]) v0 [], fieldE bK]
def e0 : Ex := .mk 0 (B #[]) v0 []
def wS1 : Stp := ⟨3, e0, [], [bName], [⟨wCount, B #[], bN⟩], [], 0, B #[]⟩
def wD : List Nmd := [⟨bSlices, ⟨wCols, []⟩⟩]
def wQ : Qry := ⟨bSlices, [wS1]⟩
def wS2 : Stp := ⟨3, e0, [], [], [⟨wSum, bName, bN⟩], [], 0, B #[]⟩
theorem w1 : exprT wCols wE1 = (0, 14) := by kernel_rfl
theorem w2 : exprT wCols wE2 = (0, 16) := by kernel_rfl
theorem w3 : exprT wCols wE3 = (2, 0) := by kernel_rfl
theorem w4 : queryCT wD wQ = ([⟨bName, 3⟩, ⟨bN, 2⟩], 0) := by kernel_rfl
theorem w5 : (stepCT [] wCols wS2).2 = 14 := by kernel_rfl

theorem field_fn (s : ByteArray) : Does Try.prog 8 [.d (.v (.string s))] (.ag [ci 2, cs s, ci 0, ci 0, cs (B #[]), .v (.slice none 0 0)]) 0 := by
  refine Does.of_V tab (n := 5) (rs := [.cell 2 29]) Try.func8 (by kernel_rfl) rfl Try.ntmps8 Try.results8 rfl fun C hC hG => ?_
  refine W.seq ?_
  refine W.region ?_
  refine allocR tab rfl rfl rfl ?_
  refine WO.nil ?_
  refine qs ?_
  refine W.seq ?_
  refine W.region ?_
  refine pu (ev tab rfl) rfl ?_
  refine pu (build tab rfl rfl rfl rfl) rfl ?_
  refine storeR tab rfl rfl rfl rfl rfl rfl rfl rfl ?_
  refine WO.nil ?_
  refine qs ?_
  refine W.ret ?_
  refine QV.ret0 tab trivial rfl ?_
  rfl

theorem few0 : fewS wS2 := ⟨by decide, by decide, by decide, by decide⟩
theorem few1 : ∀ s ∈ wQ.steps, fewS s := by
  intro s hs
  have : s = wS1 := by simpa [wQ] using hs
  subst this
  exact ⟨by decide, by decide, by decide, by decide⟩
theorem few2 : fewT wD := by
  intro x hx
  have : x = ⟨bSlices, ⟨wCols, []⟩⟩ := by simpa [wD] using hx
  subst this
  decide
theorem awake_fn : Does Try.prog 4 [] (.d (.v (.bool true))) 0 := by
  have a1 := texpr_fn wCols wE1
  have a2 := texpr_fn wCols wE2
  have a3 := texpr_fn wCols wE3
  have a4 := tquery_fn wD wQ few1 few2
  have a5 := tstep_fn [] wCols wS2 few0 (fun x hx => by cases hx) (by decide)
  rw [w1] at a1
  rw [w2] at a2
  rw [w3] at a3
  rw [w4] at a4
  rw [w5] at a5
  refine Does.of_W (n := 95) (ts := [0]) Try.func4 (by kernel_rfl) rfl Try.ntmps4 Try.results4 rfl rfl fun C hC hG => ?_
  refine W.seq ?_
  refine W.region ?_
  refine pu (ev tab rfl) rfl ?_
  refine WO.nil ?_
  refine qs ?_
  refine W.seq ?_
  refine W.region ?_
  refine pu (build tab rfl rfl rfl rfl) rfl ?_
  refine pu (build tab rfl rfl rfl rfl) rfl ?_
  refine pu (buildV tab rfl rfl rfl rfl rfl rfl rfl rfl rfl) rfl ?_
  refine pu (ev tab rfl) rfl ?_
  refine WO.nil ?_
  refine qs ?_
  refine W.seq ?_
  refine W.region ?_
  refine pu (ev tab rfl) rfl ?_
  refine pu (puCall rfl rfl rfl (field_fn ..) rfl) rfl ?_
  refine pu (build tab rfl rfl rfl rfl) rfl ?_
  refine pu (build tab rfl rfl rfl rfl) rfl ?_
  refine pu (buildV tab rfl rfl rfl rfl rfl rfl rfl rfl rfl) rfl ?_
  refine pu (build tab rfl rfl rfl rfl) rfl ?_
  refine pu (puCallN rfl rfl rfl a1 rfl) rfl ?_
  iterate 5 refine pu (ev tab rfl) rfl ?_
  refine WO.nil ?_
  refine qs ?_
  refine W.seq ?_
  refine W.region ?_
  refine pu (ev tab rfl) rfl ?_
  refine pu (puCall rfl rfl rfl (field_fn ..) rfl) rfl ?_
  refine pu (buildV tab rfl rfl rfl rfl rfl rfl rfl rfl rfl) rfl ?_
  refine pu (build tab rfl rfl rfl rfl) rfl ?_
  refine pu (puCallN rfl rfl rfl a2 rfl) rfl ?_
  iterate 5 refine pu (ev tab rfl) rfl ?_
  refine WO.nil ?_
  refine qs ?_
  refine W.seq ?_
  refine W.region ?_
  refine pu (ev tab rfl) rfl ?_
  refine pu (build tab rfl rfl rfl rfl) rfl ?_
  refine pu (puCall rfl rfl rfl (field_fn ..) rfl) rfl ?_
  refine pu (buildV tab rfl rfl rfl rfl rfl rfl rfl rfl rfl) rfl ?_
  refine pu (build tab rfl rfl rfl rfl) rfl ?_
  refine pu (puCallN rfl rfl rfl a3 rfl) rfl ?_
  iterate 5 refine pu (ev tab rfl) rfl ?_
  refine WO.nil ?_
  refine qs ?_
  refine W.seq ?_
  refine W.region ?_
  refine pu (buildV tab rfl rfl rfl rfl rfl rfl rfl rfl rfl) rfl ?_
  refine pu (build tab rfl rfl rfl rfl) rfl ?_
  refine pu (buildV tab rfl rfl rfl rfl rfl rfl rfl rfl rfl) rfl ?_
  refine pu (build tab rfl rfl rfl rfl) rfl ?_
  refine allocR tab rfl rfl rfl ?_
  refine storeR tab rfl rfl rfl rfl rfl rfl rfl rfl ?_
  refine WO.nil ?_
  refine qs ?_
  refine W.seq ?_
  refine W.region ?_
  refine pu (ev tab rfl) rfl ?_
  refine pu (build tab rfl rfl rfl rfl) rfl ?_
  refine pu (build tab rfl rfl rfl rfl) rfl ?_
  refine pu (buildV tab rfl rfl rfl rfl rfl rfl rfl rfl rfl) rfl ?_
  first | refine pu (ev tab rfl) rfl ?_ | refine pu (loadRow tab rfl rfl rfl rfl) rfl ?_ | refine pu (loadBox tab rfl rfl rfl rfl rfl) rfl ?_
  refine pu (buildV tab rfl rfl rfl rfl rfl rfl rfl rfl rfl) rfl ?_
  refine pu (build tab rfl rfl rfl rfl) rfl ?_
  refine pu (puCallN rfl rfl rfl a4 rfl) rfl ?_
  iterate 5 refine pu (ev tab rfl) rfl ?_
  refine WO.nil ?_
  refine qs ?_
  refine W.seq ?_
  refine W.region ?_
  refine pu (ev tab rfl) rfl ?_
  refine pu (build tab rfl rfl rfl rfl) rfl ?_
  refine pu (buildV tab rfl rfl rfl rfl rfl rfl rfl rfl rfl) rfl ?_
  refine pu (build tab rfl rfl rfl rfl) rfl ?_
  refine pu (puCallN rfl rfl rfl a5 rfl) rfl ?_
  iterate 5 refine pu (ev tab rfl) rfl ?_
  refine WO.nil ?_
  refine qs ?_
  refine W.seq ?_
  apply regionB; (case hb => rfl)
  · skip
    iterate 3 refine pu (ev tab rfl) rfl ?_
    apply splitJ; (case hj => rfl); (case hl => rfl)
    · skip
      refine goG rfl rfl ?_
      refine pu (ev tab rfl) rfl ?_
      refine goG rfl rfl ?_
      iterate 3 refine pu (ev tab rfl) rfl ?_
      apply splitJ; (case hj => rfl); (case hl => rfl)
      · skip
        refine goG rfl rfl ?_
        refine pu (ev tab rfl) rfl ?_
        refine goG rfl rfl ?_
        iterate 3 refine pu (ev tab rfl) rfl ?_
        apply splitJ; (case hj => rfl); (case hl => rfl)
        · skip
          refine goG rfl rfl ?_
          refine pu (ev tab rfl) rfl ?_
          refine goG rfl rfl ?_
          iterate 3 refine pu (ev tab rfl) rfl ?_
          apply splitJ; (case hj => rfl); (case hl => rfl)
          · skip
            refine goG rfl rfl ?_
            refine pu (ev tab rfl) rfl ?_
            refine goG rfl rfl ?_
            iterate 3 refine pu (ev tab rfl) rfl ?_
            apply splitJ; (case hj => rfl); (case hl => rfl)
            · skip
              refine goG rfl rfl ?_
              refine pu (ev tab rfl) rfl ?_
              refine goG rfl rfl ?_
              refine pu (build tab rfl rfl rfl rfl) rfl ?_
              refine goG rfl rfl ?_
              refine pu (build tab rfl rfl rfl rfl) rfl ?_
              refine goG rfl rfl ?_
              refine pu (buildV tab rfl rfl rfl rfl rfl rfl rfl rfl rfl) rfl ?_
              refine goG rfl rfl ?_
              refine pu (puCall rfl rfl rfl (same_fn [⟨bName, 3⟩, ⟨bN, 2⟩] [⟨bName, 3⟩, ⟨bN, 2⟩]) rfl) rfl ?_
              iterate 2 refine pu (ev tab rfl) rfl ?_
              apply splitJ; (case hj => rfl); (case hl => rfl)
              · skip
                refine goG rfl rfl ?_
                refine pu (ev tab rfl) rfl ?_
                refine goG rfl rfl ?_
                iterate 3 refine pu (ev tab rfl) rfl ?_
                refine WO.nil ?_
                refine qv1 rfl rfl rfl
              · skip
                refine skipT rfl rfl rfl rfl ?_
                refine skipT rfl rfl rfl rfl ?_
                iterate 2 refine pu (ev tab rfl) rfl ?_
                refine WO.nil ?_
                refine qv1 rfl rfl rfl
            · skip
              refine skipT rfl rfl rfl rfl ?_
              refine skipT rfl rfl rfl rfl ?_
              refine skipT rfl rfl rfl rfl ?_
              refine skipT rfl rfl rfl rfl ?_
              refine skipT rfl rfl rfl rfl ?_
              iterate 2 refine pu (ev tab rfl) rfl ?_
              refine skipT rfl rfl rfl rfl ?_
              refine skipT rfl rfl rfl rfl ?_
              iterate 2 refine pu (ev tab rfl) rfl ?_
              refine WO.nil ?_
              refine qv1 rfl rfl rfl
          · skip
            refine skipT rfl rfl rfl rfl ?_
            refine skipT rfl rfl rfl rfl ?_
            iterate 2 refine pu (ev tab rfl) rfl ?_
            refine skipT rfl rfl rfl rfl ?_
            refine skipT rfl rfl rfl rfl ?_
            refine skipT rfl rfl rfl rfl ?_
            refine skipT rfl rfl rfl rfl ?_
            refine skipT rfl rfl rfl rfl ?_
            iterate 2 refine pu (ev tab rfl) rfl ?_
            refine skipT rfl rfl rfl rfl ?_
            refine skipT rfl rfl rfl rfl ?_
            iterate 2 refine pu (ev tab rfl) rfl ?_
            refine WO.nil ?_
            refine qv1 rfl rfl rfl
        · skip
          refine skipT rfl rfl rfl rfl ?_
          refine skipT rfl rfl rfl rfl ?_
          iterate 2 refine pu (ev tab rfl) rfl ?_
          refine skipT rfl rfl rfl rfl ?_
          refine skipT rfl rfl rfl rfl ?_
          iterate 2 refine pu (ev tab rfl) rfl ?_
          refine skipT rfl rfl rfl rfl ?_
          refine skipT rfl rfl rfl rfl ?_
          refine skipT rfl rfl rfl rfl ?_
          refine skipT rfl rfl rfl rfl ?_
          refine skipT rfl rfl rfl rfl ?_
          iterate 2 refine pu (ev tab rfl) rfl ?_
          refine skipT rfl rfl rfl rfl ?_
          refine skipT rfl rfl rfl rfl ?_
          iterate 2 refine pu (ev tab rfl) rfl ?_
          refine WO.nil ?_
          refine qv1 rfl rfl rfl
      · skip
        refine skipT rfl rfl rfl rfl ?_
        refine skipT rfl rfl rfl rfl ?_
        iterate 2 refine pu (ev tab rfl) rfl ?_
        refine skipT rfl rfl rfl rfl ?_
        refine skipT rfl rfl rfl rfl ?_
        iterate 2 refine pu (ev tab rfl) rfl ?_
        refine skipT rfl rfl rfl rfl ?_
        refine skipT rfl rfl rfl rfl ?_
        iterate 2 refine pu (ev tab rfl) rfl ?_
        refine skipT rfl rfl rfl rfl ?_
        refine skipT rfl rfl rfl rfl ?_
        refine skipT rfl rfl rfl rfl ?_
        refine skipT rfl rfl rfl rfl ?_
        refine skipT rfl rfl rfl rfl ?_
        iterate 2 refine pu (ev tab rfl) rfl ?_
        refine skipT rfl rfl rfl rfl ?_
        refine skipT rfl rfl rfl rfl ?_
        iterate 2 refine pu (ev tab rfl) rfl ?_
        refine WO.nil ?_
        refine qv1 rfl rfl rfl
    · skip
      refine skipT rfl rfl rfl rfl ?_
      refine skipT rfl rfl rfl rfl ?_
      iterate 2 refine pu (ev tab rfl) rfl ?_
      refine skipT rfl rfl rfl rfl ?_
      refine skipT rfl rfl rfl rfl ?_
      iterate 2 refine pu (ev tab rfl) rfl ?_
      refine skipT rfl rfl rfl rfl ?_
      refine skipT rfl rfl rfl rfl ?_
      iterate 2 refine pu (ev tab rfl) rfl ?_
      refine skipT rfl rfl rfl rfl ?_
      refine skipT rfl rfl rfl rfl ?_
      iterate 2 refine pu (ev tab rfl) rfl ?_
      refine skipT rfl rfl rfl rfl ?_
      refine skipT rfl rfl rfl rfl ?_
      refine skipT rfl rfl rfl rfl ?_
      refine skipT rfl rfl rfl rfl ?_
      refine skipT rfl rfl rfl rfl ?_
      iterate 2 refine pu (ev tab rfl) rfl ?_
      refine skipT rfl rfl rfl rfl ?_
      refine skipT rfl rfl rfl rfl ?_
      iterate 2 refine pu (ev tab rfl) rfl ?_
      refine WO.nil ?_
      refine qv1 rfl rfl rfl
  refine qs ?_
  refine W.ret ?_
  refine QF.ret0 trivial rfl ?_
  rfl
end Go.Proofs.Ytlmgnlhagpoggaa
namespace Go.Proofs.Ytlmgnlhagpoggaa
open Go.Ab Go.Tb
set_option maxRecDepth 10000
attribute [local irreducible] W WO Pu QS QB QL QF QV QV1 CH QE
theorem null_kc (e : Ex) (j : Nat) (k : Ex) : e.kc.set j (putD k.c 0 nullE.c) = (nullAt e j).kc := by
  have h1 : putD k.c 0 nullE.c = nullE.c := by simp [putD]
  rw [h1, Ex.kc_eq, Ex.kc_eq]
  show _ = (e.kids.set j nullE).map Ex.c
  rw [List.map_set]
theorem kids_two {cols : List Col} {e : Ex} (h : (exprT cols e).2 = 0) : e.kids.length ≤ 2 := by
  unfold exprT at h
  by_cases he : exprErr e = 0
  · have hn : nodesErr e = 0 := by
      unfold exprErr at he
      split at he
      · omega
      · split at he
        · omega
        · exact he
    rw [nodesErr_eq] at hn
    by_cases hz : nodeErr e = 0
    · exact (valid_kids hz).2.2.2.2.1
    · rw [if_pos hz] at hn; exact absurd hn hz
  · rw [if_pos he] at h
    exact absurd h he
theorem nulls_fn (cols : List Col) (e : Ex) (m : Int) (hu : okc (.int .u8 m) = true) : Does Try.prog 3 [.d (.sl (cols.map Col.c)), .ag e.c, .d (.v (.int .u8 m))] (.d (.v (.bool true))) 0 := by
  obtain ⟨h0, h1⟩ : 0 ≤ m ∧ m ≤ 255 := by simp [okc, IntKind.min, IntKind.max, IntKind.signed, IntKind.bits] at hu; omega
  refine Does.of_W (n := 63) (ts := [6]) Try.func3 (by kernel_rfl) rfl Try.ntmps3 Try.results3 rfl rfl fun C hC hG => ?_
  refine W.seq ?_
  refine W.region ?_
  refine boxR rfl rfl rfl ?_
  refine pu (ev tab rfl) rfl ?_
  refine WO.nil ?_
  refine qs ?_
  refine W.seq ?_
  refine W.seq ?_
  apply regionB; (case hb => rfl)
  · skip
    refine pu (puCall rfl rfl rfl awake_fn rfl) rfl ?_
    iterate 2 refine pu (ev tab rfl) rfl ?_
    apply splitJ; (case hj => rfl); (case hl => rfl)
    · skip
      refine skipT rfl rfl rfl rfl ?_
      refine skipT rfl rfl rfl rfl ?_
      refine skipT rfl rfl rfl rfl ?_
      iterate 2 refine pu (ev tab rfl) rfl ?_
      refine skipT rfl rfl rfl rfl ?_
      refine skipT rfl rfl rfl rfl ?_
      refine skipT rfl rfl rfl rfl ?_
      iterate 2 refine pu (ev tab rfl) rfl ?_
      refine skipT rfl rfl rfl rfl ?_
      refine skipT rfl rfl rfl rfl ?_
      refine skipT rfl rfl rfl rfl ?_
      refine skipT rfl rfl rfl rfl ?_
      refine pu (ev tab rfl) rfl ?_
      refine WO.nil ?_
      refine qv1 rfl rfl rfl
    · skip
      refine goG rfl rfl ?_
      refine pu (ev tab rfl) rfl ?_
      refine goG rfl rfl ?_
      refine pu (puCall rfl rfl rfl (fewCols_fn cols) rfl) rfl ?_
      refine goG rfl rfl ?_
      iterate 3 refine pu (ev tab rfl) rfl ?_
      apply splitJ; (case hj => rfl); (case hl => rfl)
      · skip
        refine skipT rfl rfl rfl rfl ?_
        refine skipT rfl rfl rfl rfl ?_
        refine skipT rfl rfl rfl rfl ?_
        iterate 2 refine pu (ev tab rfl) rfl ?_
        refine skipT rfl rfl rfl rfl ?_
        refine skipT rfl rfl rfl rfl ?_
        refine skipT rfl rfl rfl rfl ?_
        refine skipT rfl rfl rfl rfl ?_
        refine pu (ev tab rfl) rfl ?_
        refine WO.nil ?_
        refine qv1 rfl rfl rfl
      · skip
        refine goG rfl rfl ?_
        first | refine pu (ev tab rfl) rfl ?_ | refine pu (loadRow tab rfl rfl rfl rfl) rfl ?_ | refine pu (loadBox tab rfl rfl rfl rfl rfl) rfl ?_
        refine goG rfl rfl ?_
        refine pu (puCall rfl rfl rfl (small_fn e) rfl) rfl ?_
        refine goG rfl rfl ?_
        iterate 3 refine pu (ev tab rfl) rfl ?_
        apply splitJ; (case hj => rfl); (case hl => rfl)
        · skip
          refine skipT rfl rfl rfl rfl ?_
          refine skipT rfl rfl rfl rfl ?_
          refine skipT rfl rfl rfl rfl ?_
          refine skipT rfl rfl rfl rfl ?_
          refine pu (ev tab rfl) rfl ?_
          refine WO.nil ?_
          refine qv1 rfl rfl rfl
        · skip
          refine goG rfl rfl ?_
          refine pu (ev tab rfl) rfl ?_
          refine goG rfl rfl ?_
          first | refine pu (ev tab rfl) rfl ?_ | refine pu (loadRow tab rfl rfl rfl rfl) rfl ?_ | refine pu (loadBox tab rfl rfl rfl rfl rfl) rfl ?_
          refine goG rfl rfl ?_
          refine pu (ev tab rfl) rfl ?_
          refine goG rfl rfl ?_
          iterate 2 refine pu (ev tab rfl) rfl ?_
          refine WO.nil ?_
          refine qv1 rfl rfl rfl
  refine qs ?_
  refine condK rfl (fun h29 => ?_) (fun h29 => ?_)
  · skip
    refine W.seq ?_
    refine W.region ?_
    refine pu (puCall rfl rfl rfl awake_fn rfl) rfl ?_
    refine pu (ev tab rfl) rfl ?_
    refine WO.nil ?_
    refine qs ?_
    refine W.ret ?_
    refine qsRet ?_
    refine QF.ret0 trivial rfl ?_
    first | (have hF := null_kept j hE; simp only [norm, oneA]; simp [hF]) | simp [norm, oneA]
  · skip
    refine W.skip ?_
    refine qs ?_
    refine W.seq ?_
    refine W.region ?_
    refine pu (ev tab rfl) rfl ?_
    first | refine pu (ev tab rfl) rfl ?_ | refine pu (loadRow tab rfl rfl rfl rfl) rfl ?_ | refine pu (loadBox tab rfl rfl rfl rfl rfl) rfl ?_
    refine pu (puCall rfl rfl rfl (texpr_fn cols e) rfl) rfl ?_
    iterate 5 refine pu (ev tab rfl) rfl ?_
    refine WO.nil ?_
    refine qs ?_
    refine W.seq ?_
    refine W.seq ?_
    refine W.region ?_
    iterate 2 refine pu (ev tab rfl) rfl ?_
    refine WO.nil ?_
    refine qs ?_
    refine condK rfl (fun h38 => ?_) (fun h38 => ?_)
    · skip
      refine W.seq ?_
      refine W.region ?_
      refine pu (ev tab rfl) rfl ?_
      refine WO.nil ?_
      refine qs ?_
      refine W.ret ?_
      refine qsRet ?_
      refine QF.ret0 trivial rfl ?_
      first | (have hF := null_kept j hE; simp only [norm, oneA]; simp [hF]) | simp [norm, oneA]
    · skip
      have hE : (exprT cols e).2 = 0 := by simpa using h38
      have hK := kids_two hE
      have hpos : 0 < e.kc.length := by
        rcases Nat.eq_zero_or_pos e.kc.length with hz | hz
        · exfalso; simp [hz] at h29
        · exact hz
      have hle2 : e.kc.length ≤ 2 := by rw [Ex.kc_len]; exact hK
      have hkk := e.kc_len
      obtain ⟨j, hj⟩ : ∃ j : Nat, m.tmod (e.kc.length : Int) = (j : Int) := ⟨(m.tmod (e.kc.length : Int)).toNat, by have := Int.tmod_nonneg (e.kc.length : Int) h0; omega⟩
      have hjl : j < e.kids.length := by have := Int.tmod_lt_of_pos m (show (0 : Int) < (e.kc.length : Int) by omega); omega
      obtain ⟨k, hk⟩ : ∃ k, e.kids[j]? = some k := ⟨e.kids[j], by simp [hjl]⟩
      have hkc : e.kc[((j : Int)).toNat]? = some k.c := Ex.kc_idx hk
      have hlen6 : ∀ (x : List D), x ∈ [] ++ e.kc → x.length = 6 := by
        intro x hx
        rw [List.nil_append, Ex.kc_eq] at hx
        obtain ⟨y, _, rfl⟩ := List.mem_map.1 hx
        rfl
      refine W.skip ?_
      refine qs ?_
      refine W.seq ?_
      refine W.region ?_
      first | refine pu (ev tab rfl) rfl ?_ | refine pu (loadRow tab rfl rfl rfl rfl) rfl ?_ | refine pu (loadBox tab rfl rfl rfl rfl rfl) rfl ?_
      refine allocR tab rfl rfl rfl ?_
      refine storeR tab rfl rfl rfl rfl rfl rfl rfl rfl ?_
      refine WO.nil ?_
      refine qs ?_
      refine W.seq ?_
      refine W.region ?_
      refine buildX (es := []) tab rfl rfl rfl rfl rfl rfl rfl (fun x hx => nomatch hx) rfl ?_
      refine pu (ev tab rfl) rfl ?_
      first | refine pu (ev tab rfl) rfl ?_ | refine pu (loadRow tab rfl rfl rfl rfl) rfl ?_ | refine pu (loadBox tab rfl rfl rfl rfl rfl) rfl ?_
      refine appendXR (es2 := e.kc) tab rfl rfl rfl rfl rfl rfl rfl rfl rfl rfl (List.nil_append _) hlen6 (by show (0 + e.kc.length) * 80 ≤ _; omega) rfl ?_
      refine pu (ev tab rfl) rfl ?_
      refine storeR tab rfl rfl rfl rfl rfl rfl rfl rfl ?_
      refine WO.nil ?_
      refine qs ?_
      refine W.seq ?_
      refine W.regionE tab 9 0 (by kernel_rfl) rfl rfl ?_
      refine cePu rfl (ev tab rfl) rfl ?_
      first | refine cePu rfl (ev tab rfl) rfl ?_ | refine cePu rfl (loadRow tab rfl rfl rfl rfl) rfl ?_ | refine cePu rfl (loadBox tab rfl rfl rfl rfl rfl) rfl ?_
      refine cePu rfl (ev tab rfl) rfl ?_
      refine cePu rfl (puI (ev tab rfl) (wrap64 (by omega))) rfl ?_
      refine cePu rfl (ev tab rfl) rfl ?_
      first | refine cePu rfl (ev tab rfl) rfl ?_ | refine cePu rfl (loadRow tab rfl rfl rfl rfl) rfl ?_ | refine cePu rfl (loadBox tab rfl rfl rfl rfl rfl) rfl ?_
      refine cePu rfl (ev tab rfl) rfl ?_
      refine cePu rfl (puI (remR rfl rfl (by omega) (by rw [hj]; simp [okc, IntKind.min, IntKind.max, IntKind.signed, IntKind.bits]; omega)) hj) rfl ?_
      refine cePu rfl (build tab rfl rfl rfl rfl) rfl ?_
      refine CE.nil ?_
      refine pu (indexX tab rfl rfl rfl rfl rfl rfl (Int.natCast_nonneg _) hkc rfl) rfl ?_
      refine nilO 53 rfl rfl rfl ?_
      refine storeXB tab 1 5 rfl rfl rfl rfl rfl hkc rfl rfl rfl rfl rfl (null_kc e j k) rfl rfl ?_
      refine WO.nil ?_
      refine qs ?_
      refine W.seq ?_
      refine freezeB 1 5 rfl rfl rfl rfl rfl ?_
      refine W.region ?_
      refine pu (ev tab rfl) rfl ?_
      first | refine pu (ev tab rfl) rfl ?_ | refine pu (loadRow tab rfl rfl rfl rfl) rfl ?_ | refine pu (loadBox tab rfl rfl rfl rfl rfl) rfl ?_
      refine pu (puCall rfl rfl rfl (texpr_fn cols (nullAt e j)) rfl) rfl ?_
      iterate 5 refine pu (ev tab rfl) rfl ?_
      refine WO.nil ?_
      refine qs ?_
      refine W.seq ?_
      refine W.region ?_
      iterate 3 refine pu (ev tab rfl) rfl ?_
      refine WO.nil ?_
      refine qs ?_
      refine W.ret ?_
      refine QF.ret0 trivial rfl ?_
      first | (have hF := null_kept j hE; simp only [norm, oneA]; simp [hF]) | simp [norm, oneA]
end Go.Proofs.Ytlmgnlhagpoggaa
