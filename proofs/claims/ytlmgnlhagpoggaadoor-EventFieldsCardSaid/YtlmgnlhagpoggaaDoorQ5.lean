import Derived.Test.YtlmgnlhagpoggaaDoorQ4
namespace Go.Proofs.YtlmgnlhagpoggaaDoor
open Go.Ab Go.Tb
set_option maxRecDepth 10000
attribute [local irreducible] W WO Pu QS QB QL QF QV QV1 CH QE
theorem texts_fn (a b : List ByteArray) : Does Tryd.prog 37 [.d (.sl (txs a)), .d (.sl (txs b))] (.d (.v (.bool (decide (a = b))))) 0 := by
  refine Does.of_W (n := 26) (ts := [4]) Tryd.func37 (by kernel_rfl) rfl Tryd.ntmps37 Tryd.results37 rfl rfl fun C hC hG => ?_
  refine W.seq ?_
  refine W.region ?_
  refine pu (ev tab rfl) rfl ?_
  refine WO.nil ?_
  refine qs ?_
  refine W.seq ?_
  refine W.seq ?_
  refine W.region ?_
  iterate 5 refine pu (ev tab rfl) rfl ?_
  refine WO.nil ?_
  refine qs ?_
  refine condK rfl (fun h10 => ?_) (fun h10 => ?_)
  · skip
    have hg : decide (a = b) = false := by simp at h10 ⊢; rintro rfl; simp at h10
    refine W.seq ?_
    refine W.region ?_
    refine pu (ev tab rfl) rfl ?_
    refine WO.nil ?_
    refine qs ?_
    refine W.ret ?_
    refine qsRet ?_
    refine QF.ret0 trivial rfl ?_
    rw [hg]; rfl
  · skip
    have hl : a.length = b.length := by simp at h10; omega
    refine W.skip ?_
    refine qs ?_
    refine W.seq ?_
    refine W.seq ?_
    refine W.region ?_
    refine pu (ev tab rfl) rfl ?_
    refine WO.nil ?_
    refine qs ?_
    refine W.block ?_
    refine W.len (t := 0) rfl rfl (fun hlen => ?_)
    try simp only [List.length_map, Ex.kc_len] at hlen
    refine W.loopR (ι := {x : Nat // match x with | k => k ≤ a.length ∧ decide (a.drop k = b.drop k) = decide (a = b)})
      (fun x => match x.1 with | k => [(5, .d (.v (.int .i64 ((k : Nat) : Int))))]) [(0, _), (1, _)]
      (fun x => match x.1 with | k => []) [] [] 0 (fun x => match x.1 with | k => a.length - k)
      [] ⟨0, ?_⟩ rfl ?_ ⟨rfl, rfl, rfl, rfl, trivial⟩ ?_ trivial rfl ?_
    · first | exact ⟨Nat.zero_le _, rfl⟩ | exact trivial | simp
    · repeat' first | exact trivial | refine ⟨rfl, ?_⟩ | refine ⟨step_nat (by assumption) (by assumption), ?_⟩
    · repeat' first | exact trivial | refine ⟨rfl, ?_⟩ | refine ⟨step_nat (by assumption) (by assumption), ?_⟩
    rintro ⟨k, hk, hI⟩
    show W _ _ _ _ _ ⟨[(5, .d (.v (.int .i64 ((k : Nat) : Int)))), (0, _), (1, _)], [], [], 0⟩
    refine W.seq ?_
    refine W.seq ?_
    refine W.region ?_
    iterate 4 refine pu (ev tab rfl) rfl ?_
    refine WO.nil ?_
    refine qs ?_
    refine eachR (l := a) (k := k) rfl (by simp [Ex.kc_len, bytes_len]) hk (fun x hx hd hlt => ?_) (fun he hd => ?_)
    · skip
      obtain ⟨y, hy, hyd⟩ := exAt (l := b) (k := k) (by omega)
      rw [hd, hyd] at hI
      refine W.skip ?_
      refine qs ?_
      refine W.seq ?_
      refine W.block ?_
      refine W.seq ?_
      refine W.regionD tab (by kernel_rfl) ?_
      refine chPu (ev tab rfl) rfl ?_
      refine chPu (ev tab rfl) rfl ?_
      refine chPu (indexAddr tab rfl rfl rfl rfl rfl rfl (Int.natCast_nonneg _) (idx_map hx) rfl) rfl ?_
      first | refine chPu (ev tab rfl) rfl ?_ | refine chPu (loadRow tab rfl rfl rfl rfl) rfl ?_ | refine chPu (loadBox tab rfl rfl rfl rfl rfl) rfl ?_
      refine chPu (ev tab rfl) rfl ?_
      refine chPu (ev tab rfl) rfl ?_
      refine chPu (indexAddr tab rfl rfl rfl rfl rfl rfl (Int.natCast_nonneg _) (idx_map hy) rfl) rfl ?_
      first | refine chPu (ev tab rfl) rfl ?_ | refine chPu (loadRow tab rfl rfl rfl rfl) rfl ?_ | refine chPu (loadBox tab rfl rfl rfl rfl rfl) rfl ?_
      refine chPu (ev tab rfl) rfl ?_
      refine CH.nil ?_
      refine qs ?_
      refine condK rfl (fun h25 => ?_) (fun h25 => ?_)
      · skip
        have hxy : x ≠ y := by rintro rfl; simp at h25
        have hg : decide (a = b) = false := by rw [← hI]; simp [hxy]
        refine W.seq ?_
        refine W.region ?_
        refine pu (ev tab rfl) rfl ?_
        refine WO.nil ?_
        refine qs ?_
        refine W.ret ?_
        refine qbRet ?_
        refine qsRet ?_
        refine qlRet ?_
        refine qbRet ?_
        refine qsRet ?_
        refine QF.ret0 trivial rfl ?_
        rw [hg]; rfl
      · skip
        have hxy : x = y := by simpa using h25
        refine W.skip ?_
        refine qbN ?_
        refine qs ?_
        refine W.region ?_
        iterate 3 refine pu (ev tab rfl) rfl ?_
        refine WO.nil ?_
        refine W.endR [] ⟨k + 1, ?_⟩ ?_ rfl ?_ ⟨rfl, rfl, rfl, rfl, trivial⟩ ?_ trivial rfl
        · refine ⟨hlt, ?_⟩
          rw [← hI, hxy]
          simp
        · dsimp only; omega
        · repeat' first | exact trivial | refine ⟨rfl, ?_⟩ | refine ⟨step_nat (by assumption) (by assumption), ?_⟩
        · repeat' first | exact trivial | refine ⟨rfl, ?_⟩ | refine ⟨step_nat (by assumption) (by assumption), ?_⟩
    · skip
      rw [hd, dropEnd (l := b) (by omega)] at hI
      refine W.exit ?_
      refine qsExit ?_
      refine qlExit ?_
      refine qbExit ?_
      refine qs ?_
      refine W.seq ?_
      refine W.region ?_
      refine pu (ev tab rfl) rfl ?_
      refine WO.nil ?_
      refine qs ?_
      refine W.ret ?_
      refine QF.ret0 trivial rfl ?_
      rw [← hI]; rfl
theorem equal_fn (a b : List ByteArray) : Does Tryd.prog 40 [.d (.sl (txs a)), .d (.sl (txs b))] (.d (.v (.bool (decide (a = b))))) 0 := by
  refine Does.of_W (n := 26) (ts := [4]) Tryd.func40 (by kernel_rfl) rfl Tryd.ntmps40 Tryd.results40 rfl rfl fun C hC hG => ?_
  refine W.seq ?_
  refine W.region ?_
  refine pu (ev tab rfl) rfl ?_
  refine WO.nil ?_
  refine qs ?_
  refine W.seq ?_
  refine W.seq ?_
  refine W.region ?_
  iterate 5 refine pu (ev tab rfl) rfl ?_
  refine WO.nil ?_
  refine qs ?_
  refine condK rfl (fun h10 => ?_) (fun h10 => ?_)
  · skip
    have hg : decide (a = b) = false := by simp at h10 ⊢; rintro rfl; simp at h10
    refine W.seq ?_
    refine W.region ?_
    refine pu (ev tab rfl) rfl ?_
    refine WO.nil ?_
    refine qs ?_
    refine W.ret ?_
    refine qsRet ?_
    refine QF.ret0 trivial rfl ?_
    rw [hg]; rfl
  · skip
    have hl : a.length = b.length := by simp at h10; omega
    refine W.skip ?_
    refine qs ?_
    refine W.seq ?_
    refine W.seq ?_
    refine W.region ?_
    iterate 3 refine pu (ev tab rfl) rfl ?_
    refine WO.nil ?_
    refine qs ?_
    refine W.block ?_
    refine W.len (t := 0) rfl rfl (fun hlen => ?_)
    try simp only [List.length_map, Ex.kc_len] at hlen
    refine W.loopR (ι := {x : Nat // match x with | k => k ≤ a.length ∧ decide (a.drop k = b.drop k) = decide (a = b)})
      (fun x => match x.1 with | k => [(13, .d (.v (.int .i64 ((k : Nat) : Int))))]) [(0, _), (1, _), (12, _)]
      (fun x => match x.1 with | k => []) [] [] 0 (fun x => match x.1 with | k => a.length - k)
      [] ⟨0, ?_⟩ rfl ?_ ⟨rfl, rfl, rfl, rfl, rfl, rfl, trivial⟩ ?_ trivial rfl ?_
    · first | exact ⟨Nat.zero_le _, rfl⟩ | exact trivial | simp
    · repeat' first | exact trivial | refine ⟨rfl, ?_⟩ | refine ⟨step_nat (by assumption) (by assumption), ?_⟩
    · repeat' first | exact trivial | refine ⟨rfl, ?_⟩ | refine ⟨step_nat (by assumption) (by assumption), ?_⟩
    rintro ⟨k, hk, hI⟩
    show W _ _ _ _ _ ⟨[(13, .d (.v (.int .i64 ((k : Nat) : Int)))), (0, _), (1, _), (12, _)], [], [], 0⟩
    refine W.seq ?_
    refine W.region ?_
    refine pu (ev tab rfl) rfl ?_
    refine WO.nil ?_
    refine qs ?_
    refine W.seq ?_
    refine eachR (l := a) (k := k) rfl (by simp [Ex.kc_len, bytes_len]) hk (fun x hx hd hlt => ?_) (fun he hd => ?_)
    · skip
      obtain ⟨y, hy, hyd⟩ := exAt (l := b) (k := k) (by omega)
      rw [hd, hyd] at hI
      refine W.skip ?_
      refine qs ?_
      refine W.seq ?_
      refine W.block ?_
      refine W.seq ?_
      refine W.region ?_
      iterate 2 refine pu (ev tab rfl) rfl ?_
      refine WO.nil ?_
      refine qs ?_
      refine W.seq ?_
      refine W.regionD tab (by kernel_rfl) ?_
      refine chPu (ev tab rfl) rfl ?_
      refine chPu (ev tab rfl) rfl ?_
      refine chPu (indexAddr tab rfl rfl rfl rfl rfl rfl (Int.natCast_nonneg _) (idx_map hx) rfl) rfl ?_
      first | refine chPu (ev tab rfl) rfl ?_ | refine chPu (loadRow tab rfl rfl rfl rfl) rfl ?_ | refine chPu (loadBox tab rfl rfl rfl rfl rfl) rfl ?_
      refine chPu (ev tab rfl) rfl ?_
      refine chPu (ev tab rfl) rfl ?_
      refine chPu (indexAddr tab rfl rfl rfl rfl rfl rfl (Int.natCast_nonneg _) (idx_map hy) rfl) rfl ?_
      first | refine chPu (ev tab rfl) rfl ?_ | refine chPu (loadRow tab rfl rfl rfl rfl) rfl ?_ | refine chPu (loadBox tab rfl rfl rfl rfl rfl) rfl ?_
      refine chPu (ev tab rfl) rfl ?_
      refine CH.nil ?_
      refine qs ?_
      refine condK rfl (fun h24 => ?_) (fun h24 => ?_)
      · skip
        have hxy : x ≠ y := by rintro rfl; simp at h24
        have hg : decide (a = b) = false := by rw [← hI]; simp [hxy]
        refine W.seq ?_
        refine W.region ?_
        refine pu (ev tab rfl) rfl ?_
        refine WO.nil ?_
        refine qs ?_
        refine W.ret ?_
        refine qbRet ?_
        refine qsRet ?_
        refine qlRet ?_
        refine qbRet ?_
        refine qsRet ?_
        refine QF.ret0 trivial rfl ?_
        rw [hg]; rfl
      · skip
        have hxy : x = y := by simpa using h24
        refine W.skip ?_
        refine qbN ?_
        refine qs ?_
        refine W.region ?_
        iterate 2 refine pu (ev tab rfl) rfl ?_
        refine WO.nil ?_
        refine W.endR [] ⟨k + 1, ?_⟩ ?_ rfl ?_ ⟨rfl, rfl, rfl, rfl, rfl, rfl, trivial⟩ ?_ trivial rfl
        · refine ⟨hlt, ?_⟩
          rw [← hI, hxy]
          simp
        · dsimp only; omega
        · repeat' first | exact trivial | refine ⟨rfl, ?_⟩ | refine ⟨step_nat (by assumption) (by assumption), ?_⟩
        · repeat' first | exact trivial | refine ⟨rfl, ?_⟩ | refine ⟨step_nat (by assumption) (by assumption), ?_⟩
    · skip
      rw [hd, dropEnd (l := b) (by omega)] at hI
      refine W.exit ?_
      refine qsExit ?_
      refine qlExit ?_
      refine qbExit ?_
      refine qs ?_
      refine W.seq ?_
      refine W.region ?_
      refine pu (ev tab rfl) rfl ?_
      refine WO.nil ?_
      refine qs ?_
      refine W.ret ?_
      refine QF.ret0 trivial rfl ?_
      rw [← hI]; rfl
/-- equality, field by field -/
def sameEv (a b : Ev) : Bool := decide (a.time = b.time) && decide (a.kind = b.kind) && decide (a.name = b.name) && decide (a.n = b.n) && decide (a.m = b.m) && decide (a.stack = b.stack)
theorem sameEv_iff (a b : Ev) : sameEv a b = true ↔ a = b := by
  cases a; cases b
  simp only [sameEv, Bool.and_eq_true, decide_eq_true_eq, Ev.mk.injEq]
  constructor
  · rintro ⟨⟨⟨⟨⟨h1, h2⟩, h3⟩, h4⟩, h5⟩, h6⟩; exact ⟨h1, h2, h3, h4, h5, h6⟩
  · rintro ⟨h1, h2, h3, h4, h5, h6⟩; exact ⟨⟨⟨⟨⟨h1, h2⟩, h3⟩, h4⟩, h5⟩, h6⟩
theorem same_fn (a b : Ev) : Does Tryd.prog 17 [.ag a.c, .ag b.c] (.d (.v (.bool (sameEv a b)))) 0 := by
  refine Does.of_W (n := 45) (ts := [4]) Tryd.func17 (by kernel_rfl) rfl Tryd.ntmps17 Tryd.results17 rfl rfl fun C hC hG => ?_
  refine W.seq ?_
  refine W.region ?_
  refine boxR rfl rfl rfl ?_
  refine boxR rfl rfl rfl ?_
  refine pu (ev tab rfl) rfl ?_
  refine WO.nil ?_
  refine qs ?_
  refine W.seq ?_
  apply regionB; (case hb => rfl)
  · skip
    refine pu (ev tab rfl) rfl ?_
    first | refine pu (ev tab rfl) rfl ?_ | refine pu (loadRow tab rfl rfl rfl rfl) rfl ?_ | refine pu (loadBox tab rfl rfl rfl rfl rfl) rfl ?_
    refine pu (ev tab rfl) rfl ?_
    first | refine pu (ev tab rfl) rfl ?_ | refine pu (loadRow tab rfl rfl rfl rfl) rfl ?_ | refine pu (loadBox tab rfl rfl rfl rfl rfl) rfl ?_
    iterate 2 refine pu (ev tab rfl) rfl ?_
    apply splitJ; (case hj => rfl); (case hl => rfl)
    · skip
      refine goG rfl rfl ?_
      refine pu (ev tab rfl) rfl ?_
      refine goG rfl rfl ?_
      first | refine pu (ev tab rfl) rfl ?_ | refine pu (loadRow tab rfl rfl rfl rfl) rfl ?_ | refine pu (loadBox tab rfl rfl rfl rfl rfl) rfl ?_
      refine goG rfl rfl ?_
      refine pu (ev tab rfl) rfl ?_
      refine goG rfl rfl ?_
      first | refine pu (ev tab rfl) rfl ?_ | refine pu (loadRow tab rfl rfl rfl rfl) rfl ?_ | refine pu (loadBox tab rfl rfl rfl rfl rfl) rfl ?_
      refine goG rfl rfl ?_
      iterate 3 refine pu (ev tab rfl) rfl ?_
      apply splitJ; (case hj => rfl); (case hl => rfl)
      · skip
        refine goG rfl rfl ?_
        refine pu (ev tab rfl) rfl ?_
        refine goG rfl rfl ?_
        first | refine pu (ev tab rfl) rfl ?_ | refine pu (loadRow tab rfl rfl rfl rfl) rfl ?_ | refine pu (loadBox tab rfl rfl rfl rfl rfl) rfl ?_
        refine goG rfl rfl ?_
        refine pu (ev tab rfl) rfl ?_
        refine goG rfl rfl ?_
        first | refine pu (ev tab rfl) rfl ?_ | refine pu (loadRow tab rfl rfl rfl rfl) rfl ?_ | refine pu (loadBox tab rfl rfl rfl rfl rfl) rfl ?_
        refine goG rfl rfl ?_
        iterate 3 refine pu (ev tab rfl) rfl ?_
        apply splitJ; (case hj => rfl); (case hl => rfl)
        · skip
          refine goG rfl rfl ?_
          refine pu (ev tab rfl) rfl ?_
          refine goG rfl rfl ?_
          first | refine pu (ev tab rfl) rfl ?_ | refine pu (loadRow tab rfl rfl rfl rfl) rfl ?_ | refine pu (loadBox tab rfl rfl rfl rfl rfl) rfl ?_
          refine goG rfl rfl ?_
          refine pu (ev tab rfl) rfl ?_
          refine goG rfl rfl ?_
          first | refine pu (ev tab rfl) rfl ?_ | refine pu (loadRow tab rfl rfl rfl rfl) rfl ?_ | refine pu (loadBox tab rfl rfl rfl rfl rfl) rfl ?_
          refine goG rfl rfl ?_
          iterate 3 refine pu (ev tab rfl) rfl ?_
          apply splitJ; (case hj => rfl); (case hl => rfl)
          · skip
            refine goG rfl rfl ?_
            refine pu (ev tab rfl) rfl ?_
            refine goG rfl rfl ?_
            first | refine pu (ev tab rfl) rfl ?_ | refine pu (loadRow tab rfl rfl rfl rfl) rfl ?_ | refine pu (loadBox tab rfl rfl rfl rfl rfl) rfl ?_
            refine goG rfl rfl ?_
            refine pu (ev tab rfl) rfl ?_
            refine goG rfl rfl ?_
            first | refine pu (ev tab rfl) rfl ?_ | refine pu (loadRow tab rfl rfl rfl rfl) rfl ?_ | refine pu (loadBox tab rfl rfl rfl rfl rfl) rfl ?_
            refine goG rfl rfl ?_
            iterate 3 refine pu (ev tab rfl) rfl ?_
            apply splitJ; (case hj => rfl); (case hl => rfl)
            · skip
              refine goG rfl rfl ?_
              refine pu (ev tab rfl) rfl ?_
              refine goG rfl rfl ?_
              first | refine pu (ev tab rfl) rfl ?_ | refine pu (loadRow tab rfl rfl rfl rfl) rfl ?_ | refine pu (loadBox tab rfl rfl rfl rfl rfl) rfl ?_
              refine goG rfl rfl ?_
              refine pu (ev tab rfl) rfl ?_
              refine goG rfl rfl ?_
              first | refine pu (ev tab rfl) rfl ?_ | refine pu (loadRow tab rfl rfl rfl rfl) rfl ?_ | refine pu (loadBox tab rfl rfl rfl rfl rfl) rfl ?_
              refine goG rfl rfl ?_
              refine pu (puCall rfl rfl rfl (equal_fn ..) rfl) rfl ?_
              iterate 2 refine pu (ev tab rfl) rfl ?_
              refine WO.nil ?_
              refine qv1 rfl rfl rfl
            · skip
              refine skipT rfl rfl rfl rfl ?_
              refine skipT rfl rfl rfl rfl ?_
              refine skipT rfl rfl rfl rfl ?_
              refine skipT rfl rfl rfl rfl ?_
              refine skipT rfl rfl rfl rfl ?_
              iterate 2 refine pu (ev tab rfl) rfl ?_
              refine WO.nil ?_
              refine qv1 rfl rfl rfl
          · skip
            refine skipT rfl rfl rfl rfl ?_
            refine skipT rfl rfl rfl rfl ?_
            refine skipT rfl rfl rfl rfl ?_
            refine skipT rfl rfl rfl rfl ?_
            refine skipT rfl rfl rfl rfl ?_
            iterate 2 refine pu (ev tab rfl) rfl ?_
            refine skipT rfl rfl rfl rfl ?_
            refine skipT rfl rfl rfl rfl ?_
            refine skipT rfl rfl rfl rfl ?_
            refine skipT rfl rfl rfl rfl ?_
            refine skipT rfl rfl rfl rfl ?_
            iterate 2 refine pu (ev tab rfl) rfl ?_
            refine WO.nil ?_
            refine qv1 rfl rfl rfl
        · skip
          refine skipT rfl rfl rfl rfl ?_
          refine skipT rfl rfl rfl rfl ?_
          refine skipT rfl rfl rfl rfl ?_
          refine skipT rfl rfl rfl rfl ?_
          refine skipT rfl rfl rfl rfl ?_
          iterate 2 refine pu (ev tab rfl) rfl ?_
          refine skipT rfl rfl rfl rfl ?_
          refine skipT rfl rfl rfl rfl ?_
          refine skipT rfl rfl rfl rfl ?_
          refine skipT rfl rfl rfl rfl ?_
          refine skipT rfl rfl rfl rfl ?_
          iterate 2 refine pu (ev tab rfl) rfl ?_
          refine skipT rfl rfl rfl rfl ?_
          refine skipT rfl rfl rfl rfl ?_
          refine skipT rfl rfl rfl rfl ?_
          refine skipT rfl rfl rfl rfl ?_
          refine skipT rfl rfl rfl rfl ?_
          iterate 2 refine pu (ev tab rfl) rfl ?_
          refine WO.nil ?_
          refine qv1 rfl rfl rfl
      · skip
        refine skipT rfl rfl rfl rfl ?_
        refine skipT rfl rfl rfl rfl ?_
        refine skipT rfl rfl rfl rfl ?_
        refine skipT rfl rfl rfl rfl ?_
        refine skipT rfl rfl rfl rfl ?_
        iterate 2 refine pu (ev tab rfl) rfl ?_
        refine skipT rfl rfl rfl rfl ?_
        refine skipT rfl rfl rfl rfl ?_
        refine skipT rfl rfl rfl rfl ?_
        refine skipT rfl rfl rfl rfl ?_
        refine skipT rfl rfl rfl rfl ?_
        iterate 2 refine pu (ev tab rfl) rfl ?_
        refine skipT rfl rfl rfl rfl ?_
        refine skipT rfl rfl rfl rfl ?_
        refine skipT rfl rfl rfl rfl ?_
        refine skipT rfl rfl rfl rfl ?_
        refine skipT rfl rfl rfl rfl ?_
        iterate 2 refine pu (ev tab rfl) rfl ?_
        refine skipT rfl rfl rfl rfl ?_
        refine skipT rfl rfl rfl rfl ?_
        refine skipT rfl rfl rfl rfl ?_
        refine skipT rfl rfl rfl rfl ?_
        refine skipT rfl rfl rfl rfl ?_
        iterate 2 refine pu (ev tab rfl) rfl ?_
        refine WO.nil ?_
        refine qv1 rfl rfl rfl
    · skip
      refine skipT rfl rfl rfl rfl ?_
      refine skipT rfl rfl rfl rfl ?_
      refine skipT rfl rfl rfl rfl ?_
      refine skipT rfl rfl rfl rfl ?_
      refine skipT rfl rfl rfl rfl ?_
      iterate 2 refine pu (ev tab rfl) rfl ?_
      refine skipT rfl rfl rfl rfl ?_
      refine skipT rfl rfl rfl rfl ?_
      refine skipT rfl rfl rfl rfl ?_
      refine skipT rfl rfl rfl rfl ?_
      refine skipT rfl rfl rfl rfl ?_
      iterate 2 refine pu (ev tab rfl) rfl ?_
      refine skipT rfl rfl rfl rfl ?_
      refine skipT rfl rfl rfl rfl ?_
      refine skipT rfl rfl rfl rfl ?_
      refine skipT rfl rfl rfl rfl ?_
      refine skipT rfl rfl rfl rfl ?_
      iterate 2 refine pu (ev tab rfl) rfl ?_
      refine skipT rfl rfl rfl rfl ?_
      refine skipT rfl rfl rfl rfl ?_
      refine skipT rfl rfl rfl rfl ?_
      refine skipT rfl rfl rfl rfl ?_
      refine skipT rfl rfl rfl rfl ?_
      iterate 2 refine pu (ev tab rfl) rfl ?_
      refine skipT rfl rfl rfl rfl ?_
      refine skipT rfl rfl rfl rfl ?_
      refine skipT rfl rfl rfl rfl ?_
      refine skipT rfl rfl rfl rfl ?_
      refine skipT rfl rfl rfl rfl ?_
      iterate 2 refine pu (ev tab rfl) rfl ?_
      refine WO.nil ?_
      refine qv1 rfl rfl rfl
  refine qs ?_
  refine W.ret ?_
  refine QF.ret0 trivial rfl ?_
  simp only [norm, oneA, sameEv]; grind
theorem rsame_fn (a b : Ev) : Does Tryd.prog 15 [.ag a.c, .ag b.c] (.d (.v (.bool (sameEv a b)))) 0 := by
  refine Does.of_W (n := 45) (ts := [4]) Tryd.func15 (by kernel_rfl) rfl Tryd.ntmps15 Tryd.results15 rfl rfl fun C hC hG => ?_
  refine W.seq ?_
  refine W.region ?_
  refine boxR rfl rfl rfl ?_
  refine boxR rfl rfl rfl ?_
  refine pu (ev tab rfl) rfl ?_
  refine WO.nil ?_
  refine qs ?_
  refine W.seq ?_
  apply regionB; (case hb => rfl)
  · skip
    refine pu (ev tab rfl) rfl ?_
    first | refine pu (ev tab rfl) rfl ?_ | refine pu (loadRow tab rfl rfl rfl rfl) rfl ?_ | refine pu (loadBox tab rfl rfl rfl rfl rfl) rfl ?_
    refine pu (ev tab rfl) rfl ?_
    first | refine pu (ev tab rfl) rfl ?_ | refine pu (loadRow tab rfl rfl rfl rfl) rfl ?_ | refine pu (loadBox tab rfl rfl rfl rfl rfl) rfl ?_
    iterate 2 refine pu (ev tab rfl) rfl ?_
    apply splitJ; (case hj => rfl); (case hl => rfl)
    · skip
      refine goG rfl rfl ?_
      refine pu (ev tab rfl) rfl ?_
      refine goG rfl rfl ?_
      first | refine pu (ev tab rfl) rfl ?_ | refine pu (loadRow tab rfl rfl rfl rfl) rfl ?_ | refine pu (loadBox tab rfl rfl rfl rfl rfl) rfl ?_
      refine goG rfl rfl ?_
      refine pu (ev tab rfl) rfl ?_
      refine goG rfl rfl ?_
      first | refine pu (ev tab rfl) rfl ?_ | refine pu (loadRow tab rfl rfl rfl rfl) rfl ?_ | refine pu (loadBox tab rfl rfl rfl rfl rfl) rfl ?_
      refine goG rfl rfl ?_
      iterate 3 refine pu (ev tab rfl) rfl ?_
      apply splitJ; (case hj => rfl); (case hl => rfl)
      · skip
        refine goG rfl rfl ?_
        refine pu (ev tab rfl) rfl ?_
        refine goG rfl rfl ?_
        first | refine pu (ev tab rfl) rfl ?_ | refine pu (loadRow tab rfl rfl rfl rfl) rfl ?_ | refine pu (loadBox tab rfl rfl rfl rfl rfl) rfl ?_
        refine goG rfl rfl ?_
        refine pu (ev tab rfl) rfl ?_
        refine goG rfl rfl ?_
        first | refine pu (ev tab rfl) rfl ?_ | refine pu (loadRow tab rfl rfl rfl rfl) rfl ?_ | refine pu (loadBox tab rfl rfl rfl rfl rfl) rfl ?_
        refine goG rfl rfl ?_
        iterate 3 refine pu (ev tab rfl) rfl ?_
        apply splitJ; (case hj => rfl); (case hl => rfl)
        · skip
          refine goG rfl rfl ?_
          refine pu (ev tab rfl) rfl ?_
          refine goG rfl rfl ?_
          first | refine pu (ev tab rfl) rfl ?_ | refine pu (loadRow tab rfl rfl rfl rfl) rfl ?_ | refine pu (loadBox tab rfl rfl rfl rfl rfl) rfl ?_
          refine goG rfl rfl ?_
          refine pu (ev tab rfl) rfl ?_
          refine goG rfl rfl ?_
          first | refine pu (ev tab rfl) rfl ?_ | refine pu (loadRow tab rfl rfl rfl rfl) rfl ?_ | refine pu (loadBox tab rfl rfl rfl rfl rfl) rfl ?_
          refine goG rfl rfl ?_
          iterate 3 refine pu (ev tab rfl) rfl ?_
          apply splitJ; (case hj => rfl); (case hl => rfl)
          · skip
            refine goG rfl rfl ?_
            refine pu (ev tab rfl) rfl ?_
            refine goG rfl rfl ?_
            first | refine pu (ev tab rfl) rfl ?_ | refine pu (loadRow tab rfl rfl rfl rfl) rfl ?_ | refine pu (loadBox tab rfl rfl rfl rfl rfl) rfl ?_
            refine goG rfl rfl ?_
            refine pu (ev tab rfl) rfl ?_
            refine goG rfl rfl ?_
            first | refine pu (ev tab rfl) rfl ?_ | refine pu (loadRow tab rfl rfl rfl rfl) rfl ?_ | refine pu (loadBox tab rfl rfl rfl rfl rfl) rfl ?_
            refine goG rfl rfl ?_
            iterate 3 refine pu (ev tab rfl) rfl ?_
            apply splitJ; (case hj => rfl); (case hl => rfl)
            · skip
              refine goG rfl rfl ?_
              refine pu (ev tab rfl) rfl ?_
              refine goG rfl rfl ?_
              first | refine pu (ev tab rfl) rfl ?_ | refine pu (loadRow tab rfl rfl rfl rfl) rfl ?_ | refine pu (loadBox tab rfl rfl rfl rfl rfl) rfl ?_
              refine goG rfl rfl ?_
              refine pu (ev tab rfl) rfl ?_
              refine goG rfl rfl ?_
              first | refine pu (ev tab rfl) rfl ?_ | refine pu (loadRow tab rfl rfl rfl rfl) rfl ?_ | refine pu (loadBox tab rfl rfl rfl rfl rfl) rfl ?_
              refine goG rfl rfl ?_
              refine pu (puCall rfl rfl rfl (texts_fn ..) rfl) rfl ?_
              iterate 2 refine pu (ev tab rfl) rfl ?_
              refine WO.nil ?_
              refine qv1 rfl rfl rfl
            · skip
              refine skipT rfl rfl rfl rfl ?_
              refine skipT rfl rfl rfl rfl ?_
              refine skipT rfl rfl rfl rfl ?_
              refine skipT rfl rfl rfl rfl ?_
              refine skipT rfl rfl rfl rfl ?_
              iterate 2 refine pu (ev tab rfl) rfl ?_
              refine WO.nil ?_
              refine qv1 rfl rfl rfl
          · skip
            refine skipT rfl rfl rfl rfl ?_
            refine skipT rfl rfl rfl rfl ?_
            refine skipT rfl rfl rfl rfl ?_
            refine skipT rfl rfl rfl rfl ?_
            refine skipT rfl rfl rfl rfl ?_
            iterate 2 refine pu (ev tab rfl) rfl ?_
            refine skipT rfl rfl rfl rfl ?_
            refine skipT rfl rfl rfl rfl ?_
            refine skipT rfl rfl rfl rfl ?_
            refine skipT rfl rfl rfl rfl ?_
            refine skipT rfl rfl rfl rfl ?_
            iterate 2 refine pu (ev tab rfl) rfl ?_
            refine WO.nil ?_
            refine qv1 rfl rfl rfl
        · skip
          refine skipT rfl rfl rfl rfl ?_
          refine skipT rfl rfl rfl rfl ?_
          refine skipT rfl rfl rfl rfl ?_
          refine skipT rfl rfl rfl rfl ?_
          refine skipT rfl rfl rfl rfl ?_
          iterate 2 refine pu (ev tab rfl) rfl ?_
          refine skipT rfl rfl rfl rfl ?_
          refine skipT rfl rfl rfl rfl ?_
          refine skipT rfl rfl rfl rfl ?_
          refine skipT rfl rfl rfl rfl ?_
          refine skipT rfl rfl rfl rfl ?_
          iterate 2 refine pu (ev tab rfl) rfl ?_
          refine skipT rfl rfl rfl rfl ?_
          refine skipT rfl rfl rfl rfl ?_
          refine skipT rfl rfl rfl rfl ?_
          refine skipT rfl rfl rfl rfl ?_
          refine skipT rfl rfl rfl rfl ?_
          iterate 2 refine pu (ev tab rfl) rfl ?_
          refine WO.nil ?_
          refine qv1 rfl rfl rfl
      · skip
        refine skipT rfl rfl rfl rfl ?_
        refine skipT rfl rfl rfl rfl ?_
        refine skipT rfl rfl rfl rfl ?_
        refine skipT rfl rfl rfl rfl ?_
        refine skipT rfl rfl rfl rfl ?_
        iterate 2 refine pu (ev tab rfl) rfl ?_
        refine skipT rfl rfl rfl rfl ?_
        refine skipT rfl rfl rfl rfl ?_
        refine skipT rfl rfl rfl rfl ?_
        refine skipT rfl rfl rfl rfl ?_
        refine skipT rfl rfl rfl rfl ?_
        iterate 2 refine pu (ev tab rfl) rfl ?_
        refine skipT rfl rfl rfl rfl ?_
        refine skipT rfl rfl rfl rfl ?_
        refine skipT rfl rfl rfl rfl ?_
        refine skipT rfl rfl rfl rfl ?_
        refine skipT rfl rfl rfl rfl ?_
        iterate 2 refine pu (ev tab rfl) rfl ?_
        refine skipT rfl rfl rfl rfl ?_
        refine skipT rfl rfl rfl rfl ?_
        refine skipT rfl rfl rfl rfl ?_
        refine skipT rfl rfl rfl rfl ?_
        refine skipT rfl rfl rfl rfl ?_
        iterate 2 refine pu (ev tab rfl) rfl ?_
        refine WO.nil ?_
        refine qv1 rfl rfl rfl
    · skip
      refine skipT rfl rfl rfl rfl ?_
      refine skipT rfl rfl rfl rfl ?_
      refine skipT rfl rfl rfl rfl ?_
      refine skipT rfl rfl rfl rfl ?_
      refine skipT rfl rfl rfl rfl ?_
      iterate 2 refine pu (ev tab rfl) rfl ?_
      refine skipT rfl rfl rfl rfl ?_
      refine skipT rfl rfl rfl rfl ?_
      refine skipT rfl rfl rfl rfl ?_
      refine skipT rfl rfl rfl rfl ?_
      refine skipT rfl rfl rfl rfl ?_
      iterate 2 refine pu (ev tab rfl) rfl ?_
      refine skipT rfl rfl rfl rfl ?_
      refine skipT rfl rfl rfl rfl ?_
      refine skipT rfl rfl rfl rfl ?_
      refine skipT rfl rfl rfl rfl ?_
      refine skipT rfl rfl rfl rfl ?_
      iterate 2 refine pu (ev tab rfl) rfl ?_
      refine skipT rfl rfl rfl rfl ?_
      refine skipT rfl rfl rfl rfl ?_
      refine skipT rfl rfl rfl rfl ?_
      refine skipT rfl rfl rfl rfl ?_
      refine skipT rfl rfl rfl rfl ?_
      iterate 2 refine pu (ev tab rfl) rfl ?_
      refine skipT rfl rfl rfl rfl ?_
      refine skipT rfl rfl rfl rfl ?_
      refine skipT rfl rfl rfl rfl ?_
      refine skipT rfl rfl rfl rfl ?_
      refine skipT rfl rfl rfl rfl ?_
      iterate 2 refine pu (ev tab rfl) rfl ?_
      refine WO.nil ?_
      refine qv1 rfl rfl rfl
  refine qs ?_
  refine W.ret ?_
  refine QF.ret0 trivial rfl ?_
  simp only [norm, oneA, sameEv]; grind
theorem echeck_fn (e : Ev) : Does Tryd.prog 10 [.ag e.c] (.d (.v (.int .i64 (checkE e)))) 0 := by
  refine Does.of_W (n := 127) (ts := [2]) Tryd.func10 (by kernel_rfl) rfl Tryd.ntmps10 Tryd.results10 rfl rfl fun C hC hG => ?_
  refine W.seq ?_
  refine W.region ?_
  refine boxR rfl rfl rfl ?_
  refine pu (ev tab rfl) rfl ?_
  refine WO.nil ?_
  refine qs ?_
  refine W.seq ?_
  refine W.seq ?_
  apply regionB; (case hb => rfl)
  · skip
    refine pu (ev tab rfl) rfl ?_
    first | refine pu (ev tab rfl) rfl ?_ | refine pu (loadRow tab rfl rfl rfl rfl) rfl ?_ | refine pu (loadBox tab rfl rfl rfl rfl rfl) rfl ?_
    iterate 2 refine pu (ev tab rfl) rfl ?_
    apply splitJ; (case hj => rfl); (case hl => rfl)
    · skip
      refine skipT rfl rfl rfl rfl ?_
      refine skipT rfl rfl rfl rfl ?_
      refine skipT rfl rfl rfl rfl ?_
      refine pu (ev tab rfl) rfl ?_
      refine WO.nil ?_
      refine qv1 rfl rfl rfl
    · skip
      refine goG rfl rfl ?_
      refine pu (ev tab rfl) rfl ?_
      refine goG rfl rfl ?_
      first | refine pu (ev tab rfl) rfl ?_ | refine pu (loadRow tab rfl rfl rfl rfl) rfl ?_ | refine pu (loadBox tab rfl rfl rfl rfl rfl) rfl ?_
      refine goG rfl rfl ?_
      iterate 2 refine pu (ev tab rfl) rfl ?_
      refine WO.nil ?_
      refine qv1 rfl rfl rfl
  refine qs ?_
  refine condK rfl (fun h13 => ?_) (fun h13 => ?_)
  · skip
    refine W.seq ?_
    refine W.region ?_
    refine pu (ev tab rfl) rfl ?_
    refine WO.nil ?_
    refine qs ?_
    refine W.ret ?_
    refine qsRet ?_
    refine QF.ret0 trivial rfl ?_
    simp only [norm, oneA]; grind [checkE]
  · skip
    refine W.skip ?_
    refine qs ?_
    refine W.seq ?_
    refine W.region ?_
    refine pu (ev tab rfl) rfl ?_
    first | refine pu (ev tab rfl) rfl ?_ | refine pu (loadRow tab rfl rfl rfl rfl) rfl ?_ | refine pu (loadBox tab rfl rfl rfl rfl rfl) rfl ?_
    refine pu (puCall rfl rfl rfl (formOf_fn ..) rfl) rfl ?_
    iterate 3 refine pu (ev tab rfl) rfl ?_
    refine allocR tab rfl rfl rfl ?_
    refine storeR tab rfl rfl rfl rfl rfl rfl rfl rfl ?_
    refine pu (ev tab rfl) rfl ?_
    refine WO.nil ?_
    refine qs ?_
    refine W.seq ?_
    refine W.seq ?_
    apply regionB; (case hb => rfl)
    · skip
      iterate 3 refine pu (ev tab rfl) rfl ?_
      apply splitJ; (case hj => rfl); (case hl => rfl)
      · skip
        refine skipT rfl rfl rfl rfl ?_
        refine skipT rfl rfl rfl rfl ?_
        refine skipT rfl rfl rfl rfl ?_
        refine skipT rfl rfl rfl rfl ?_
        refine skipU rfl rfl rfl ?_
        refine skipU rfl rfl rfl ?_
        refine skipU rfl rfl rfl ?_
        refine skipT rfl rfl rfl rfl ?_
        iterate 2 refine pu (ev tab rfl) rfl ?_
        refine skipT rfl rfl rfl rfl ?_
        refine skipT rfl rfl rfl rfl ?_
        refine skipT rfl rfl rfl rfl ?_
        refine skipT rfl rfl rfl rfl ?_
        refine skipU rfl rfl rfl ?_
        refine skipU rfl rfl rfl ?_
        refine skipU rfl rfl rfl ?_
        refine skipT rfl rfl rfl rfl ?_
        iterate 2 refine pu (ev tab rfl) rfl ?_
        refine skipT rfl rfl rfl rfl ?_
        refine skipT rfl rfl rfl rfl ?_
        refine skipT rfl rfl rfl rfl ?_
        refine skipT rfl rfl rfl rfl ?_
        refine skipU rfl rfl rfl ?_
        refine skipU rfl rfl rfl ?_
        refine skipU rfl rfl rfl ?_
        refine skipT rfl rfl rfl rfl ?_
        iterate 2 refine pu (ev tab rfl) rfl ?_
        refine skipT rfl rfl rfl rfl ?_
        refine skipT rfl rfl rfl rfl ?_
        refine skipT rfl rfl rfl rfl ?_
        refine skipT rfl rfl rfl rfl ?_
        refine skipU rfl rfl rfl ?_
        refine skipU rfl rfl rfl ?_
        refine skipU rfl rfl rfl ?_
        refine skipU rfl rfl rfl ?_
        refine skipT rfl rfl rfl rfl ?_
        refine pu (ev tab rfl) rfl ?_
        refine WO.nil ?_
        refine qv1 rfl rfl rfl
      · skip
        refine goG rfl rfl ?_
        refine pu (ev tab rfl) rfl ?_
        refine goG rfl rfl ?_
        first | refine pu (ev tab rfl) rfl ?_ | refine pu (loadRow tab rfl rfl rfl rfl) rfl ?_ | refine pu (loadBox tab rfl rfl rfl rfl rfl) rfl ?_
        refine goG rfl rfl ?_
        refine pu (ev tab rfl) rfl ?_
        refine goG rfl rfl ?_
        refine pu (ev tab rfl) rfl ?_
        apply splitJ; (case hj => rfl); (case hl => rfl)
        · skip
          refine goG rfl rfl ?_
          refine pu (ev tab rfl) rfl ?_
          refine goG rfl rfl ?_
          first | refine pu (ev tab rfl) rfl ?_ | refine pu (loadRow tab rfl rfl rfl rfl) rfl ?_ | refine pu (loadBox tab rfl rfl rfl rfl rfl) rfl ?_
          refine goG rfl rfl ?_
          refine pu (ev tab rfl) rfl ?_
          refine goG rfl rfl ?_
          iterate 3 refine pu (ev tab rfl) rfl ?_
          apply splitJ; (case hj => rfl); (case hl => rfl)
          · skip
            refine skipT rfl rfl rfl rfl ?_
            refine skipT rfl rfl rfl rfl ?_
            refine skipT rfl rfl rfl rfl ?_
            refine skipT rfl rfl rfl rfl ?_
            refine skipU rfl rfl rfl ?_
            refine skipU rfl rfl rfl ?_
            refine skipU rfl rfl rfl ?_
            refine skipT rfl rfl rfl rfl ?_
            iterate 2 refine pu (ev tab rfl) rfl ?_
            refine skipT rfl rfl rfl rfl ?_
            refine skipT rfl rfl rfl rfl ?_
            refine skipT rfl rfl rfl rfl ?_
            refine skipT rfl rfl rfl rfl ?_
            refine skipU rfl rfl rfl ?_
            refine skipU rfl rfl rfl ?_
            refine skipU rfl rfl rfl ?_
            refine skipT rfl rfl rfl rfl ?_
            iterate 2 refine pu (ev tab rfl) rfl ?_
            refine skipT rfl rfl rfl rfl ?_
            refine skipT rfl rfl rfl rfl ?_
            refine skipT rfl rfl rfl rfl ?_
            refine skipT rfl rfl rfl rfl ?_
            refine skipU rfl rfl rfl ?_
            refine skipU rfl rfl rfl ?_
            refine skipU rfl rfl rfl ?_
            refine skipU rfl rfl rfl ?_
            refine skipT rfl rfl rfl rfl ?_
            refine pu (ev tab rfl) rfl ?_
            refine WO.nil ?_
            refine qv1 rfl rfl rfl
          · skip
            refine goG rfl rfl ?_
            refine pu (ev tab rfl) rfl ?_
            refine goG rfl rfl ?_
            first | refine pu (ev tab rfl) rfl ?_ | refine pu (loadRow tab rfl rfl rfl rfl) rfl ?_ | refine pu (loadBox tab rfl rfl rfl rfl rfl) rfl ?_
            refine goG rfl rfl ?_
            refine pu (ev tab rfl) rfl ?_
            refine goG rfl rfl ?_
            refine pu (ev tab rfl) rfl ?_
            apply splitJ; (case hj => rfl); (case hl => rfl)
            · skip
              refine goG rfl rfl ?_
              refine pu (ev tab rfl) rfl ?_
              refine goG rfl rfl ?_
              first | refine pu (ev tab rfl) rfl ?_ | refine pu (loadRow tab rfl rfl rfl rfl) rfl ?_ | refine pu (loadBox tab rfl rfl rfl rfl rfl) rfl ?_
              refine goG rfl rfl ?_
              refine pu (ev tab rfl) rfl ?_
              refine goG rfl rfl ?_
              iterate 3 refine pu (ev tab rfl) rfl ?_
              apply splitJ; (case hj => rfl); (case hl => rfl)
              · skip
                refine skipT rfl rfl rfl rfl ?_
                refine skipT rfl rfl rfl rfl ?_
                refine skipT rfl rfl rfl rfl ?_
                refine skipT rfl rfl rfl rfl ?_
                refine skipU rfl rfl rfl ?_
                refine skipU rfl rfl rfl ?_
                refine skipU rfl rfl rfl ?_
                refine skipT rfl rfl rfl rfl ?_
                iterate 2 refine pu (ev tab rfl) rfl ?_
                refine skipT rfl rfl rfl rfl ?_
                refine skipT rfl rfl rfl rfl ?_
                refine skipT rfl rfl rfl rfl ?_
                refine skipT rfl rfl rfl rfl ?_
                refine skipU rfl rfl rfl ?_
                refine skipU rfl rfl rfl ?_
                refine skipU rfl rfl rfl ?_
                refine skipU rfl rfl rfl ?_
                refine skipT rfl rfl rfl rfl ?_
                refine pu (ev tab rfl) rfl ?_
                refine WO.nil ?_
                refine qv1 rfl rfl rfl
              · skip
                refine goG rfl rfl ?_
                refine pu (ev tab rfl) rfl ?_
                refine goG rfl rfl ?_
                first | refine pu (ev tab rfl) rfl ?_ | refine pu (loadRow tab rfl rfl rfl rfl) rfl ?_ | refine pu (loadBox tab rfl rfl rfl rfl rfl) rfl ?_
                refine goG rfl rfl ?_
                refine pu (ev tab rfl) rfl ?_
                refine goG rfl rfl ?_
                refine pu (ev tab rfl) rfl ?_
                apply splitJ; (case hj => rfl); (case hl => rfl)
                · skip
                  refine goG rfl rfl ?_
                  refine pu (ev tab rfl) rfl ?_
                  refine goG rfl rfl ?_
                  first | refine pu (ev tab rfl) rfl ?_ | refine pu (loadRow tab rfl rfl rfl rfl) rfl ?_ | refine pu (loadBox tab rfl rfl rfl rfl rfl) rfl ?_
                  refine goG rfl rfl ?_
                  refine pu (ev tab rfl) rfl ?_
                  refine goG rfl rfl ?_
                  iterate 3 refine pu (ev tab rfl) rfl ?_
                  apply splitJ; (case hj => rfl); (case hl => rfl)
                  · skip
                    refine skipT rfl rfl rfl rfl ?_
                    refine skipT rfl rfl rfl rfl ?_
                    refine skipT rfl rfl rfl rfl ?_
                    refine skipT rfl rfl rfl rfl ?_
                    refine skipU rfl rfl rfl ?_
                    refine skipU rfl rfl rfl ?_
                    refine skipU rfl rfl rfl ?_
                    refine skipU rfl rfl rfl ?_
                    refine skipT rfl rfl rfl rfl ?_
                    refine pu (ev tab rfl) rfl ?_
                    refine WO.nil ?_
                    refine qv1 rfl rfl rfl
                  · skip
                    refine goG rfl rfl ?_
                    refine pu (ev tab rfl) rfl ?_
                    refine goG rfl rfl ?_
                    first | refine pu (ev tab rfl) rfl ?_ | refine pu (loadRow tab rfl rfl rfl rfl) rfl ?_ | refine pu (loadBox tab rfl rfl rfl rfl rfl) rfl ?_
                    refine goG rfl rfl ?_
                    refine pu (ev tab rfl) rfl ?_
                    refine goG rfl rfl ?_
                    refine pu (ev tab rfl) rfl ?_
                    apply splitJ; (case hj => rfl); (case hl => rfl)
                    · skip
                      refine goG rfl rfl ?_
                      refine pu (ev tab rfl) rfl ?_
                      refine goG rfl rfl ?_
                      first | refine pu (ev tab rfl) rfl ?_ | refine pu (loadRow tab rfl rfl rfl rfl) rfl ?_ | refine pu (loadBox tab rfl rfl rfl rfl rfl) rfl ?_
                      refine goG rfl rfl ?_
                      refine pu (ev tab rfl) rfl ?_
                      refine goG rfl rfl ?_
                      refine pu (ev tab rfl) rfl ?_
                      refine goG rfl rfl ?_
                      iterate 2 refine pu (ev tab rfl) rfl ?_
                      refine WO.nil ?_
                      refine qv1 rfl rfl rfl
                    · skip
                      refine skipT rfl rfl rfl rfl ?_
                      refine skipT rfl rfl rfl rfl ?_
                      refine skipT rfl rfl rfl rfl ?_
                      refine skipT rfl rfl rfl rfl ?_
                      refine goG rfl rfl ?_
                      iterate 2 refine pu (ev tab rfl) rfl ?_
                      refine WO.nil ?_
                      refine qv1 rfl rfl rfl
                · skip
                  refine skipT rfl rfl rfl rfl ?_
                  refine skipT rfl rfl rfl rfl ?_
                  refine skipT rfl rfl rfl rfl ?_
                  refine goG rfl rfl ?_
                  iterate 3 refine pu (ev tab rfl) rfl ?_
                  refine goG rfl rfl ?_
                  refine pu (ev tab rfl) rfl ?_
                  refine goG rfl rfl ?_
                  first | refine pu (ev tab rfl) rfl ?_ | refine pu (loadRow tab rfl rfl rfl rfl) rfl ?_ | refine pu (loadBox tab rfl rfl rfl rfl rfl) rfl ?_
                  refine goG rfl rfl ?_
                  refine pu (ev tab rfl) rfl ?_
                  refine goG rfl rfl ?_
                  refine pu (ev tab rfl) rfl ?_
                  apply splitJ; (case hj => rfl); (case hl => rfl)
                  · skip
                    refine goG rfl rfl ?_
                    refine pu (ev tab rfl) rfl ?_
                    refine goG rfl rfl ?_
                    first | refine pu (ev tab rfl) rfl ?_ | refine pu (loadRow tab rfl rfl rfl rfl) rfl ?_ | refine pu (loadBox tab rfl rfl rfl rfl rfl) rfl ?_
                    refine goG rfl rfl ?_
                    refine pu (ev tab rfl) rfl ?_
                    refine goG rfl rfl ?_
                    refine pu (ev tab rfl) rfl ?_
                    refine goG rfl rfl ?_
                    iterate 2 refine pu (ev tab rfl) rfl ?_
                    refine WO.nil ?_
                    refine qv1 rfl rfl rfl
                  · skip
                    refine skipT rfl rfl rfl rfl ?_
                    refine skipT rfl rfl rfl rfl ?_
                    refine skipT rfl rfl rfl rfl ?_
                    refine skipT rfl rfl rfl rfl ?_
                    refine goG rfl rfl ?_
                    iterate 2 refine pu (ev tab rfl) rfl ?_
                    refine WO.nil ?_
                    refine qv1 rfl rfl rfl
            · skip
              refine skipT rfl rfl rfl rfl ?_
              refine skipT rfl rfl rfl rfl ?_
              refine skipT rfl rfl rfl rfl ?_
              refine goG rfl rfl ?_
              iterate 3 refine pu (ev tab rfl) rfl ?_
              refine goG rfl rfl ?_
              refine pu (ev tab rfl) rfl ?_
              refine goG rfl rfl ?_
              first | refine pu (ev tab rfl) rfl ?_ | refine pu (loadRow tab rfl rfl rfl rfl) rfl ?_ | refine pu (loadBox tab rfl rfl rfl rfl rfl) rfl ?_
              refine goG rfl rfl ?_
              refine pu (ev tab rfl) rfl ?_
              refine goG rfl rfl ?_
              refine pu (ev tab rfl) rfl ?_
              apply splitJ; (case hj => rfl); (case hl => rfl)
              · skip
                refine goG rfl rfl ?_
                refine pu (ev tab rfl) rfl ?_
                refine goG rfl rfl ?_
                first | refine pu (ev tab rfl) rfl ?_ | refine pu (loadRow tab rfl rfl rfl rfl) rfl ?_ | refine pu (loadBox tab rfl rfl rfl rfl rfl) rfl ?_
                refine goG rfl rfl ?_
                refine pu (ev tab rfl) rfl ?_
                refine goG rfl rfl ?_
                iterate 3 refine pu (ev tab rfl) rfl ?_
                apply splitJ; (case hj => rfl); (case hl => rfl)
                · skip
                  refine skipT rfl rfl rfl rfl ?_
                  refine skipT rfl rfl rfl rfl ?_
                  refine skipT rfl rfl rfl rfl ?_
                  refine skipT rfl rfl rfl rfl ?_
                  refine skipU rfl rfl rfl ?_
                  refine skipU rfl rfl rfl ?_
                  refine skipU rfl rfl rfl ?_
                  refine skipU rfl rfl rfl ?_
                  refine skipT rfl rfl rfl rfl ?_
                  refine pu (ev tab rfl) rfl ?_
                  refine WO.nil ?_
                  refine qv1 rfl rfl rfl
                · skip
                  refine goG rfl rfl ?_
                  refine pu (ev tab rfl) rfl ?_
                  refine goG rfl rfl ?_
                  first | refine pu (ev tab rfl) rfl ?_ | refine pu (loadRow tab rfl rfl rfl rfl) rfl ?_ | refine pu (loadBox tab rfl rfl rfl rfl rfl) rfl ?_
                  refine goG rfl rfl ?_
                  refine pu (ev tab rfl) rfl ?_
                  refine goG rfl rfl ?_
                  refine pu (ev tab rfl) rfl ?_
                  apply splitJ; (case hj => rfl); (case hl => rfl)
                  · skip
                    refine goG rfl rfl ?_
                    refine pu (ev tab rfl) rfl ?_
                    refine goG rfl rfl ?_
                    first | refine pu (ev tab rfl) rfl ?_ | refine pu (loadRow tab rfl rfl rfl rfl) rfl ?_ | refine pu (loadBox tab rfl rfl rfl rfl rfl) rfl ?_
                    refine goG rfl rfl ?_
                    refine pu (ev tab rfl) rfl ?_
                    refine goG rfl rfl ?_
                    refine pu (ev tab rfl) rfl ?_
                    refine goG rfl rfl ?_
                    iterate 2 refine pu (ev tab rfl) rfl ?_
                    refine WO.nil ?_
                    refine qv1 rfl rfl rfl
                  · skip
                    refine skipT rfl rfl rfl rfl ?_
                    refine skipT rfl rfl rfl rfl ?_
                    refine skipT rfl rfl rfl rfl ?_
                    refine skipT rfl rfl rfl rfl ?_
                    refine goG rfl rfl ?_
                    iterate 2 refine pu (ev tab rfl) rfl ?_
                    refine WO.nil ?_
                    refine qv1 rfl rfl rfl
              · skip
                refine skipT rfl rfl rfl rfl ?_
                refine skipT rfl rfl rfl rfl ?_
                refine skipT rfl rfl rfl rfl ?_
                refine goG rfl rfl ?_
                iterate 3 refine pu (ev tab rfl) rfl ?_
                refine goG rfl rfl ?_
                refine pu (ev tab rfl) rfl ?_
                refine goG rfl rfl ?_
                first | refine pu (ev tab rfl) rfl ?_ | refine pu (loadRow tab rfl rfl rfl rfl) rfl ?_ | refine pu (loadBox tab rfl rfl rfl rfl rfl) rfl ?_
                refine goG rfl rfl ?_
                refine pu (ev tab rfl) rfl ?_
                refine goG rfl rfl ?_
                refine pu (ev tab rfl) rfl ?_
                apply splitJ; (case hj => rfl); (case hl => rfl)
                · skip
                  refine goG rfl rfl ?_
                  refine pu (ev tab rfl) rfl ?_
                  refine goG rfl rfl ?_
                  first | refine pu (ev tab rfl) rfl ?_ | refine pu (loadRow tab rfl rfl rfl rfl) rfl ?_ | refine pu (loadBox tab rfl rfl rfl rfl rfl) rfl ?_
                  refine goG rfl rfl ?_
                  refine pu (ev tab rfl) rfl ?_
                  refine goG rfl rfl ?_
                  refine pu (ev tab rfl) rfl ?_
                  refine goG rfl rfl ?_
                  iterate 2 refine pu (ev tab rfl) rfl ?_
                  refine WO.nil ?_
                  refine qv1 rfl rfl rfl
                · skip
                  refine skipT rfl rfl rfl rfl ?_
                  refine skipT rfl rfl rfl rfl ?_
                  refine skipT rfl rfl rfl rfl ?_
                  refine skipT rfl rfl rfl rfl ?_
                  refine goG rfl rfl ?_
                  iterate 2 refine pu (ev tab rfl) rfl ?_
                  refine WO.nil ?_
                  refine qv1 rfl rfl rfl
        · skip
          refine skipT rfl rfl rfl rfl ?_
          refine skipT rfl rfl rfl rfl ?_
          refine skipT rfl rfl rfl rfl ?_
          refine goG rfl rfl ?_
          iterate 3 refine pu (ev tab rfl) rfl ?_
          refine goG rfl rfl ?_
          refine pu (ev tab rfl) rfl ?_
          refine goG rfl rfl ?_
          first | refine pu (ev tab rfl) rfl ?_ | refine pu (loadRow tab rfl rfl rfl rfl) rfl ?_ | refine pu (loadBox tab rfl rfl rfl rfl rfl) rfl ?_
          refine goG rfl rfl ?_
          refine pu (ev tab rfl) rfl ?_
          refine goG rfl rfl ?_
          refine pu (ev tab rfl) rfl ?_
          apply splitJ; (case hj => rfl); (case hl => rfl)
          · skip
            refine goG rfl rfl ?_
            refine pu (ev tab rfl) rfl ?_
            refine goG rfl rfl ?_
            first | refine pu (ev tab rfl) rfl ?_ | refine pu (loadRow tab rfl rfl rfl rfl) rfl ?_ | refine pu (loadBox tab rfl rfl rfl rfl rfl) rfl ?_
            refine goG rfl rfl ?_
            refine pu (ev tab rfl) rfl ?_
            refine goG rfl rfl ?_
            iterate 3 refine pu (ev tab rfl) rfl ?_
            apply splitJ; (case hj => rfl); (case hl => rfl)
            · skip
              refine skipT rfl rfl rfl rfl ?_
              refine skipT rfl rfl rfl rfl ?_
              refine skipT rfl rfl rfl rfl ?_
              refine skipT rfl rfl rfl rfl ?_
              refine skipU rfl rfl rfl ?_
              refine skipU rfl rfl rfl ?_
              refine skipU rfl rfl rfl ?_
              refine skipT rfl rfl rfl rfl ?_
              iterate 2 refine pu (ev tab rfl) rfl ?_
              refine skipT rfl rfl rfl rfl ?_
              refine skipT rfl rfl rfl rfl ?_
              refine skipT rfl rfl rfl rfl ?_
              refine skipT rfl rfl rfl rfl ?_
              refine skipU rfl rfl rfl ?_
              refine skipU rfl rfl rfl ?_
              refine skipU rfl rfl rfl ?_
              refine skipU rfl rfl rfl ?_
              refine skipT rfl rfl rfl rfl ?_
              refine pu (ev tab rfl) rfl ?_
              refine WO.nil ?_
              refine qv1 rfl rfl rfl
            · skip
              refine goG rfl rfl ?_
              refine pu (ev tab rfl) rfl ?_
              refine goG rfl rfl ?_
              first | refine pu (ev tab rfl) rfl ?_ | refine pu (loadRow tab rfl rfl rfl rfl) rfl ?_ | refine pu (loadBox tab rfl rfl rfl rfl rfl) rfl ?_
              refine goG rfl rfl ?_
              refine pu (ev tab rfl) rfl ?_
              refine goG rfl rfl ?_
              refine pu (ev tab rfl) rfl ?_
              apply splitJ; (case hj => rfl); (case hl => rfl)
              · skip
                refine goG rfl rfl ?_
                refine pu (ev tab rfl) rfl ?_
                refine goG rfl rfl ?_
                first | refine pu (ev tab rfl) rfl ?_ | refine pu (loadRow tab rfl rfl rfl rfl) rfl ?_ | refine pu (loadBox tab rfl rfl rfl rfl rfl) rfl ?_
                refine goG rfl rfl ?_
                refine pu (ev tab rfl) rfl ?_
                refine goG rfl rfl ?_
                iterate 3 refine pu (ev tab rfl) rfl ?_
                apply splitJ; (case hj => rfl); (case hl => rfl)
                · skip
                  refine skipT rfl rfl rfl rfl ?_
                  refine skipT rfl rfl rfl rfl ?_
                  refine skipT rfl rfl rfl rfl ?_
                  refine skipT rfl rfl rfl rfl ?_
                  refine skipU rfl rfl rfl ?_
                  refine skipU rfl rfl rfl ?_
                  refine skipU rfl rfl rfl ?_
                  refine skipU rfl rfl rfl ?_
                  refine skipT rfl rfl rfl rfl ?_
                  refine pu (ev tab rfl) rfl ?_
                  refine WO.nil ?_
                  refine qv1 rfl rfl rfl
                · skip
                  refine goG rfl rfl ?_
                  refine pu (ev tab rfl) rfl ?_
                  refine goG rfl rfl ?_
                  first | refine pu (ev tab rfl) rfl ?_ | refine pu (loadRow tab rfl rfl rfl rfl) rfl ?_ | refine pu (loadBox tab rfl rfl rfl rfl rfl) rfl ?_
                  refine goG rfl rfl ?_
                  refine pu (ev tab rfl) rfl ?_
                  refine goG rfl rfl ?_
                  refine pu (ev tab rfl) rfl ?_
                  apply splitJ; (case hj => rfl); (case hl => rfl)
                  · skip
                    refine goG rfl rfl ?_
                    refine pu (ev tab rfl) rfl ?_
                    refine goG rfl rfl ?_
                    first | refine pu (ev tab rfl) rfl ?_ | refine pu (loadRow tab rfl rfl rfl rfl) rfl ?_ | refine pu (loadBox tab rfl rfl rfl rfl rfl) rfl ?_
                    refine goG rfl rfl ?_
                    refine pu (ev tab rfl) rfl ?_
                    refine goG rfl rfl ?_
                    refine pu (ev tab rfl) rfl ?_
                    refine goG rfl rfl ?_
                    iterate 2 refine pu (ev tab rfl) rfl ?_
                    refine WO.nil ?_
                    refine qv1 rfl rfl rfl
                  · skip
                    refine skipT rfl rfl rfl rfl ?_
                    refine skipT rfl rfl rfl rfl ?_
                    refine skipT rfl rfl rfl rfl ?_
                    refine skipT rfl rfl rfl rfl ?_
                    refine goG rfl rfl ?_
                    iterate 2 refine pu (ev tab rfl) rfl ?_
                    refine WO.nil ?_
                    refine qv1 rfl rfl rfl
              · skip
                refine skipT rfl rfl rfl rfl ?_
                refine skipT rfl rfl rfl rfl ?_
                refine skipT rfl rfl rfl rfl ?_
                refine goG rfl rfl ?_
                iterate 3 refine pu (ev tab rfl) rfl ?_
                refine goG rfl rfl ?_
                refine pu (ev tab rfl) rfl ?_
                refine goG rfl rfl ?_
                first | refine pu (ev tab rfl) rfl ?_ | refine pu (loadRow tab rfl rfl rfl rfl) rfl ?_ | refine pu (loadBox tab rfl rfl rfl rfl rfl) rfl ?_
                refine goG rfl rfl ?_
                refine pu (ev tab rfl) rfl ?_
                refine goG rfl rfl ?_
                refine pu (ev tab rfl) rfl ?_
                apply splitJ; (case hj => rfl); (case hl => rfl)
                · skip
                  refine goG rfl rfl ?_
                  refine pu (ev tab rfl) rfl ?_
                  refine goG rfl rfl ?_
                  first | refine pu (ev tab rfl) rfl ?_ | refine pu (loadRow tab rfl rfl rfl rfl) rfl ?_ | refine pu (loadBox tab rfl rfl rfl rfl rfl) rfl ?_
                  refine goG rfl rfl ?_
                  refine pu (ev tab rfl) rfl ?_
                  refine goG rfl rfl ?_
                  refine pu (ev tab rfl) rfl ?_
                  refine goG rfl rfl ?_
                  iterate 2 refine pu (ev tab rfl) rfl ?_
                  refine WO.nil ?_
                  refine qv1 rfl rfl rfl
                · skip
                  refine skipT rfl rfl rfl rfl ?_
                  refine skipT rfl rfl rfl rfl ?_
                  refine skipT rfl rfl rfl rfl ?_
                  refine skipT rfl rfl rfl rfl ?_
                  refine goG rfl rfl ?_
                  iterate 2 refine pu (ev tab rfl) rfl ?_
                  refine WO.nil ?_
                  refine qv1 rfl rfl rfl
          · skip
            refine skipT rfl rfl rfl rfl ?_
            refine skipT rfl rfl rfl rfl ?_
            refine skipT rfl rfl rfl rfl ?_
            refine goG rfl rfl ?_
            iterate 3 refine pu (ev tab rfl) rfl ?_
            refine goG rfl rfl ?_
            refine pu (ev tab rfl) rfl ?_
            refine goG rfl rfl ?_
            first | refine pu (ev tab rfl) rfl ?_ | refine pu (loadRow tab rfl rfl rfl rfl) rfl ?_ | refine pu (loadBox tab rfl rfl rfl rfl rfl) rfl ?_
            refine goG rfl rfl ?_
            refine pu (ev tab rfl) rfl ?_
            refine goG rfl rfl ?_
            refine pu (ev tab rfl) rfl ?_
            apply splitJ; (case hj => rfl); (case hl => rfl)
            · skip
              refine goG rfl rfl ?_
              refine pu (ev tab rfl) rfl ?_
              refine goG rfl rfl ?_
              first | refine pu (ev tab rfl) rfl ?_ | refine pu (loadRow tab rfl rfl rfl rfl) rfl ?_ | refine pu (loadBox tab rfl rfl rfl rfl rfl) rfl ?_
              refine goG rfl rfl ?_
              refine pu (ev tab rfl) rfl ?_
              refine goG rfl rfl ?_
              iterate 3 refine pu (ev tab rfl) rfl ?_
              apply splitJ; (case hj => rfl); (case hl => rfl)
              · skip
                refine skipT rfl rfl rfl rfl ?_
                refine skipT rfl rfl rfl rfl ?_
                refine skipT rfl rfl rfl rfl ?_
                refine skipT rfl rfl rfl rfl ?_
                refine skipU rfl rfl rfl ?_
                refine skipU rfl rfl rfl ?_
                refine skipU rfl rfl rfl ?_
                refine skipU rfl rfl rfl ?_
                refine skipT rfl rfl rfl rfl ?_
                refine pu (ev tab rfl) rfl ?_
                refine WO.nil ?_
                refine qv1 rfl rfl rfl
              · skip
                refine goG rfl rfl ?_
                refine pu (ev tab rfl) rfl ?_
                refine goG rfl rfl ?_
                first | refine pu (ev tab rfl) rfl ?_ | refine pu (loadRow tab rfl rfl rfl rfl) rfl ?_ | refine pu (loadBox tab rfl rfl rfl rfl rfl) rfl ?_
                refine goG rfl rfl ?_
                refine pu (ev tab rfl) rfl ?_
                refine goG rfl rfl ?_
                refine pu (ev tab rfl) rfl ?_
                apply splitJ; (case hj => rfl); (case hl => rfl)
                · skip
                  refine goG rfl rfl ?_
                  refine pu (ev tab rfl) rfl ?_
                  refine goG rfl rfl ?_
                  first | refine pu (ev tab rfl) rfl ?_ | refine pu (loadRow tab rfl rfl rfl rfl) rfl ?_ | refine pu (loadBox tab rfl rfl rfl rfl rfl) rfl ?_
                  refine goG rfl rfl ?_
                  refine pu (ev tab rfl) rfl ?_
                  refine goG rfl rfl ?_
                  refine pu (ev tab rfl) rfl ?_
                  refine goG rfl rfl ?_
                  iterate 2 refine pu (ev tab rfl) rfl ?_
                  refine WO.nil ?_
                  refine qv1 rfl rfl rfl
                · skip
                  refine skipT rfl rfl rfl rfl ?_
                  refine skipT rfl rfl rfl rfl ?_
                  refine skipT rfl rfl rfl rfl ?_
                  refine skipT rfl rfl rfl rfl ?_
                  refine goG rfl rfl ?_
                  iterate 2 refine pu (ev tab rfl) rfl ?_
                  refine WO.nil ?_
                  refine qv1 rfl rfl rfl
            · skip
              refine skipT rfl rfl rfl rfl ?_
              refine skipT rfl rfl rfl rfl ?_
              refine skipT rfl rfl rfl rfl ?_
              refine goG rfl rfl ?_
              iterate 3 refine pu (ev tab rfl) rfl ?_
              refine goG rfl rfl ?_
              refine pu (ev tab rfl) rfl ?_
              refine goG rfl rfl ?_
              first | refine pu (ev tab rfl) rfl ?_ | refine pu (loadRow tab rfl rfl rfl rfl) rfl ?_ | refine pu (loadBox tab rfl rfl rfl rfl rfl) rfl ?_
              refine goG rfl rfl ?_
              refine pu (ev tab rfl) rfl ?_
              refine goG rfl rfl ?_
              refine pu (ev tab rfl) rfl ?_
              apply splitJ; (case hj => rfl); (case hl => rfl)
              · skip
                refine goG rfl rfl ?_
                refine pu (ev tab rfl) rfl ?_
                refine goG rfl rfl ?_
                first | refine pu (ev tab rfl) rfl ?_ | refine pu (loadRow tab rfl rfl rfl rfl) rfl ?_ | refine pu (loadBox tab rfl rfl rfl rfl rfl) rfl ?_
                refine goG rfl rfl ?_
                refine pu (ev tab rfl) rfl ?_
                refine goG rfl rfl ?_
                refine pu (ev tab rfl) rfl ?_
                refine goG rfl rfl ?_
                iterate 2 refine pu (ev tab rfl) rfl ?_
                refine WO.nil ?_
                refine qv1 rfl rfl rfl
              · skip
                refine skipT rfl rfl rfl rfl ?_
                refine skipT rfl rfl rfl rfl ?_
                refine skipT rfl rfl rfl rfl ?_
                refine skipT rfl rfl rfl rfl ?_
                refine goG rfl rfl ?_
                iterate 2 refine pu (ev tab rfl) rfl ?_
                refine WO.nil ?_
                refine qv1 rfl rfl rfl
    refine qs ?_
    refine condK rfl (fun h62 => ?_) (fun h62 => ?_)
    · skip
      refine W.seq ?_
      refine W.region ?_
      refine pu (ev tab rfl) rfl ?_
      refine WO.nil ?_
      refine qs ?_
      refine W.ret ?_
      refine qsRet ?_
      refine QF.ret0 trivial rfl ?_
      simp only [norm, oneA]; grind [checkE]
    · skip
      refine W.skip ?_
      refine qs ?_
      refine W.seq ?_
      refine W.seq ?_
      refine W.region ?_
      first | refine pu (ev tab rfl) rfl ?_ | refine pu (loadRow tab rfl rfl rfl rfl) rfl ?_ | refine pu (loadBox tab rfl rfl rfl rfl rfl) rfl ?_
      first | refine pu (ev tab rfl) rfl ?_ | refine pu (loadRow tab rfl rfl rfl rfl) rfl ?_ | refine pu (loadBox tab rfl rfl rfl rfl rfl) rfl ?_
      refine pu (puCall rfl rfl rfl (names_fn ..) rfl) rfl ?_
      refine pu (ev tab rfl) rfl ?_
      refine WO.nil ?_
      refine qs ?_
      refine W.seq ?_
      refine W.region ?_
      iterate 2 refine pu (ev tab rfl) rfl ?_
      refine WO.nil ?_
      refine qs ?_
      refine condK rfl (fun h67 => ?_) (fun h67 => ?_)
      · skip
        refine W.seq ?_
        refine W.region ?_
        iterate 2 refine pu (ev tab rfl) rfl ?_
        refine WO.nil ?_
        refine qs ?_
        refine W.ret ?_
        refine qsRet ?_
        refine QF.ret0 trivial rfl ?_
        simp only [norm, oneA]; grind [checkE]
      · skip
        refine W.skip ?_
        refine qs ?_
        refine W.seq ?_
        refine W.block ?_
        refine W.seq ?_
        apply regionB; (case hb => rfl)
        · skip
          refine pu (ev tab rfl) rfl ?_
          first | refine pu (ev tab rfl) rfl ?_ | refine pu (loadRow tab rfl rfl rfl rfl) rfl ?_ | refine pu (loadBox tab rfl rfl rfl rfl rfl) rfl ?_
          refine pu (ev tab rfl) rfl ?_
          apply splitJ; (case hj => rfl); (case hl => rfl)
          · skip
            refine goG rfl rfl ?_
            refine pu (ev tab rfl) rfl ?_
            refine goG rfl rfl ?_
            first | refine pu (ev tab rfl) rfl ?_ | refine pu (loadRow tab rfl rfl rfl rfl) rfl ?_ | refine pu (loadBox tab rfl rfl rfl rfl rfl) rfl ?_
            refine goG rfl rfl ?_
            refine pu (ev tab rfl) rfl ?_
            refine goG rfl rfl ?_
            first | refine pu (ev tab rfl) rfl ?_ | refine pu (loadRow tab rfl rfl rfl rfl) rfl ?_ | refine pu (loadBox tab rfl rfl rfl rfl rfl) rfl ?_
            refine goG rfl rfl ?_
            refine pu (ev tab rfl) rfl ?_
            refine goG rfl rfl ?_
            refine pu (ev tab rfl) rfl ?_
            apply splitJ; (case hj => rfl); (case hl => rfl)
            · skip
              refine skipT rfl rfl rfl rfl ?_
              refine skipT rfl rfl rfl rfl ?_
              refine skipT rfl rfl rfl rfl ?_
              refine skipT rfl rfl rfl rfl ?_
              refine skipT rfl rfl rfl rfl ?_
              refine goG rfl rfl ?_
              iterate 3 refine pu (ev tab rfl) rfl ?_
              refine WO.nil ?_
              refine qv1 rfl rfl rfl
            · skip
              refine goG rfl rfl ?_
              refine pu (ev tab rfl) rfl ?_
              refine goG rfl rfl ?_
              first | refine pu (ev tab rfl) rfl ?_ | refine pu (loadRow tab rfl rfl rfl rfl) rfl ?_ | refine pu (loadBox tab rfl rfl rfl rfl rfl) rfl ?_
              refine goG rfl rfl ?_
              refine pu (ev tab rfl) rfl ?_
              refine goG rfl rfl ?_
              first | refine pu (ev tab rfl) rfl ?_ | refine pu (loadRow tab rfl rfl rfl rfl) rfl ?_ | refine pu (loadBox tab rfl rfl rfl rfl rfl) rfl ?_
              refine goG rfl rfl ?_
              refine pu (ev tab rfl) rfl ?_
              refine goG rfl rfl ?_
              iterate 3 refine pu (ev tab rfl) rfl ?_
              refine WO.nil ?_
              refine qv1 rfl rfl rfl
          · skip
            refine skipT rfl rfl rfl rfl ?_
            refine skipT rfl rfl rfl rfl ?_
            refine skipT rfl rfl rfl rfl ?_
            refine skipT rfl rfl rfl rfl ?_
            refine skipT rfl rfl rfl rfl ?_
            refine skipT rfl rfl rfl rfl ?_
            refine skipU rfl rfl rfl ?_
            refine skipU rfl rfl rfl ?_
            refine skipU rfl rfl rfl ?_
            refine skipU rfl rfl rfl ?_
            refine skipU rfl rfl rfl ?_
            refine skipT rfl rfl rfl rfl ?_
            iterate 2 refine pu (ev tab rfl) rfl ?_
            refine WO.nil ?_
            refine qv1 rfl rfl rfl
        refine qs ?_
        refine condK rfl (fun h69 => ?_) (fun h69 => ?_)
        · skip
          refine W.seq ?_
          refine W.region ?_
          refine pu (ev tab rfl) rfl ?_
          refine WO.nil ?_
          refine qs ?_
          refine W.ret ?_
          refine qbRet ?_
          refine qsRet ?_
          refine QF.ret0 trivial rfl ?_
          simp only [norm, oneA]; grind [checkE]
        · skip
          refine W.seq ?_
          apply regionB; (case hb => rfl)
          · skip
            refine pu (ev tab rfl) rfl ?_
            first | refine pu (ev tab rfl) rfl ?_ | refine pu (loadRow tab rfl rfl rfl rfl) rfl ?_ | refine pu (loadBox tab rfl rfl rfl rfl rfl) rfl ?_
            iterate 2 refine pu (ev tab rfl) rfl ?_
            apply splitJ; (case hj => rfl); (case hl => rfl)
            · skip
              refine goG rfl rfl ?_
              refine pu (ev tab rfl) rfl ?_
              refine goG rfl rfl ?_
              first | refine pu (ev tab rfl) rfl ?_ | refine pu (loadRow tab rfl rfl rfl rfl) rfl ?_ | refine pu (loadBox tab rfl rfl rfl rfl rfl) rfl ?_
              refine goG rfl rfl ?_
              iterate 3 refine pu (ev tab rfl) rfl ?_
              apply splitJ; (case hj => rfl); (case hl => rfl)
              · skip
                refine goG rfl rfl ?_
                refine pu (ev tab rfl) rfl ?_
                refine goG rfl rfl ?_
                first | refine pu (ev tab rfl) rfl ?_ | refine pu (loadRow tab rfl rfl rfl rfl) rfl ?_ | refine pu (loadBox tab rfl rfl rfl rfl rfl) rfl ?_
                refine goG rfl rfl ?_
                iterate 3 refine pu (ev tab rfl) rfl ?_
                refine WO.nil ?_
                refine qv1 rfl rfl rfl
              · skip
                refine skipT rfl rfl rfl rfl ?_
                refine skipT rfl rfl rfl rfl ?_
                refine skipT rfl rfl rfl rfl ?_
                iterate 2 refine pu (ev tab rfl) rfl ?_
                refine WO.nil ?_
                refine qv1 rfl rfl rfl
            · skip
              refine skipT rfl rfl rfl rfl ?_
              refine skipT rfl rfl rfl rfl ?_
              refine skipT rfl rfl rfl rfl ?_
              iterate 2 refine pu (ev tab rfl) rfl ?_
              refine skipT rfl rfl rfl rfl ?_
              refine skipT rfl rfl rfl rfl ?_
              refine skipT rfl rfl rfl rfl ?_
              iterate 2 refine pu (ev tab rfl) rfl ?_
              refine WO.nil ?_
              refine qv1 rfl rfl rfl
          refine qs ?_
          refine condK rfl (fun h86 => ?_) (fun h86 => ?_)
          · skip
            refine W.seq ?_
            refine W.region ?_
            refine pu (ev tab rfl) rfl ?_
            refine WO.nil ?_
            refine qs ?_
            refine W.ret ?_
            refine qbRet ?_
            refine qsRet ?_
            refine QF.ret0 trivial rfl ?_
            simp only [norm, oneA]; grind [checkE]
          · skip
            refine W.seq ?_
            apply regionB; (case hb => rfl)
            · skip
              refine pu (ev tab rfl) rfl ?_
              first | refine pu (ev tab rfl) rfl ?_ | refine pu (loadRow tab rfl rfl rfl rfl) rfl ?_ | refine pu (loadBox tab rfl rfl rfl rfl rfl) rfl ?_
              refine pu (ev tab rfl) rfl ?_
              apply splitJ; (case hj => rfl); (case hl => rfl)
              · skip
                refine goG rfl rfl ?_
                refine pu (ev tab rfl) rfl ?_
                refine goG rfl rfl ?_
                first | refine pu (ev tab rfl) rfl ?_ | refine pu (loadRow tab rfl rfl rfl rfl) rfl ?_ | refine pu (loadBox tab rfl rfl rfl rfl rfl) rfl ?_
                refine goG rfl rfl ?_
                refine pu (ev tab rfl) rfl ?_
                refine goG rfl rfl ?_
                first | refine pu (ev tab rfl) rfl ?_ | refine pu (loadRow tab rfl rfl rfl rfl) rfl ?_ | refine pu (loadBox tab rfl rfl rfl rfl rfl) rfl ?_
                refine goG rfl rfl ?_
                refine pu (ev tab rfl) rfl ?_
                refine goG rfl rfl ?_
                refine pu (ev tab rfl) rfl ?_
                apply splitJ; (case hj => rfl); (case hl => rfl)
                · skip
                  refine skipT rfl rfl rfl rfl ?_
                  refine skipT rfl rfl rfl rfl ?_
                  refine skipT rfl rfl rfl rfl ?_
                  refine skipT rfl rfl rfl rfl ?_
                  refine skipT rfl rfl rfl rfl ?_
                  refine goG rfl rfl ?_
                  iterate 3 refine pu (ev tab rfl) rfl ?_
                  refine goG rfl rfl ?_
                  refine pu (ev tab rfl) rfl ?_
                  refine goG rfl rfl ?_
                  first | refine pu (ev tab rfl) rfl ?_ | refine pu (loadRow tab rfl rfl rfl rfl) rfl ?_ | refine pu (loadBox tab rfl rfl rfl rfl rfl) rfl ?_
                  refine goG rfl rfl ?_
                  refine pu (ev tab rfl) rfl ?_
                  refine goG rfl rfl ?_
                  refine pu (ev tab rfl) rfl ?_
                  apply splitJ; (case hj => rfl); (case hl => rfl)
                  · skip
                    refine skipT rfl rfl rfl rfl ?_
                    refine skipT rfl rfl rfl rfl ?_
                    refine skipT rfl rfl rfl rfl ?_
                    refine goG rfl rfl ?_
                    iterate 3 refine pu (ev tab rfl) rfl ?_
                    refine WO.nil ?_
                    refine qv1 rfl rfl rfl
                  · skip
                    refine goG rfl rfl ?_
                    refine pu (ev tab rfl) rfl ?_
                    refine goG rfl rfl ?_
                    first | refine pu (ev tab rfl) rfl ?_ | refine pu (loadRow tab rfl rfl rfl rfl) rfl ?_ | refine pu (loadBox tab rfl rfl rfl rfl rfl) rfl ?_
                    refine goG rfl rfl ?_
                    refine pu (ev tab rfl) rfl ?_
                    refine goG rfl rfl ?_
                    iterate 3 refine pu (ev tab rfl) rfl ?_
                    refine WO.nil ?_
                    refine qv1 rfl rfl rfl
                · skip
                  refine goG rfl rfl ?_
                  refine pu (ev tab rfl) rfl ?_
                  refine goG rfl rfl ?_
                  first | refine pu (ev tab rfl) rfl ?_ | refine pu (loadRow tab rfl rfl rfl rfl) rfl ?_ | refine pu (loadBox tab rfl rfl rfl rfl rfl) rfl ?_
                  refine goG rfl rfl ?_
                  refine pu (ev tab rfl) rfl ?_
                  refine goG rfl rfl ?_
                  first | refine pu (ev tab rfl) rfl ?_ | refine pu (loadRow tab rfl rfl rfl rfl) rfl ?_ | refine pu (loadBox tab rfl rfl rfl rfl rfl) rfl ?_
                  refine goG rfl rfl ?_
                  refine pu (ev tab rfl) rfl ?_
                  refine goG rfl rfl ?_
                  iterate 3 refine pu (ev tab rfl) rfl ?_
                  apply splitJ; (case hj => rfl); (case hl => rfl)
                  · skip
                    refine goG rfl rfl ?_
                    refine pu (ev tab rfl) rfl ?_
                    refine goG rfl rfl ?_
                    first | refine pu (ev tab rfl) rfl ?_ | refine pu (loadRow tab rfl rfl rfl rfl) rfl ?_ | refine pu (loadBox tab rfl rfl rfl rfl rfl) rfl ?_
                    refine goG rfl rfl ?_
                    refine pu (ev tab rfl) rfl ?_
                    refine goG rfl rfl ?_
                    refine pu (ev tab rfl) rfl ?_
                    apply splitJ; (case hj => rfl); (case hl => rfl)
                    · skip
                      refine skipT rfl rfl rfl rfl ?_
                      refine skipT rfl rfl rfl rfl ?_
                      refine skipT rfl rfl rfl rfl ?_
                      refine goG rfl rfl ?_
                      iterate 3 refine pu (ev tab rfl) rfl ?_
                      refine WO.nil ?_
                      refine qv1 rfl rfl rfl
                    · skip
                      refine goG rfl rfl ?_
                      refine pu (ev tab rfl) rfl ?_
                      refine goG rfl rfl ?_
                      first | refine pu (ev tab rfl) rfl ?_ | refine pu (loadRow tab rfl rfl rfl rfl) rfl ?_ | refine pu (loadBox tab rfl rfl rfl rfl rfl) rfl ?_
                      refine goG rfl rfl ?_
                      refine pu (ev tab rfl) rfl ?_
                      refine goG rfl rfl ?_
                      iterate 3 refine pu (ev tab rfl) rfl ?_
                      refine WO.nil ?_
                      refine qv1 rfl rfl rfl
                  · skip
                    refine skipT rfl rfl rfl rfl ?_
                    refine skipT rfl rfl rfl rfl ?_
                    refine skipT rfl rfl rfl rfl ?_
                    refine skipT rfl rfl rfl rfl ?_
                    refine skipU rfl rfl rfl ?_
                    refine skipU rfl rfl rfl ?_
                    refine skipU rfl rfl rfl ?_
                    refine skipT rfl rfl rfl rfl ?_
                    iterate 2 refine pu (ev tab rfl) rfl ?_
                    refine WO.nil ?_
                    refine qv1 rfl rfl rfl
              · skip
                refine skipT rfl rfl rfl rfl ?_
                refine skipT rfl rfl rfl rfl ?_
                refine skipT rfl rfl rfl rfl ?_
                refine skipT rfl rfl rfl rfl ?_
                refine skipT rfl rfl rfl rfl ?_
                refine skipT rfl rfl rfl rfl ?_
                refine skipU rfl rfl rfl ?_
                refine skipU rfl rfl rfl ?_
                refine skipU rfl rfl rfl ?_
                refine skipU rfl rfl rfl ?_
                refine skipU rfl rfl rfl ?_
                refine skipT rfl rfl rfl rfl ?_
                iterate 2 refine pu (ev tab rfl) rfl ?_
                refine skipT rfl rfl rfl rfl ?_
                refine skipT rfl rfl rfl rfl ?_
                refine skipT rfl rfl rfl rfl ?_
                refine skipT rfl rfl rfl rfl ?_
                refine skipU rfl rfl rfl ?_
                refine skipU rfl rfl rfl ?_
                refine skipU rfl rfl rfl ?_
                refine skipT rfl rfl rfl rfl ?_
                iterate 2 refine pu (ev tab rfl) rfl ?_
                refine WO.nil ?_
                refine qv1 rfl rfl rfl
            refine qs ?_
            refine condK rfl (fun h100 => ?_) (fun h100 => ?_)
            · skip
              refine W.seq ?_
              refine W.region ?_
              refine pu (ev tab rfl) rfl ?_
              refine WO.nil ?_
              refine qs ?_
              refine W.ret ?_
              refine qbRet ?_
              refine qsRet ?_
              refine QF.ret0 trivial rfl ?_
              simp only [norm, oneA]; grind [checkE]
            · skip
              refine W.skip ?_
              refine qbN ?_
              refine qs ?_
              refine W.seq ?_
              refine W.region ?_
              refine pu (ev tab rfl) rfl ?_
              refine WO.nil ?_
              refine qs ?_
              refine W.ret ?_
              refine QF.ret0 trivial rfl ?_
              simp only [norm, oneA]; grind [checkE]
theorem rcheck_fn (e : Ev) : Does Tryd.prog 11 [.ag e.c] (.d (.v (.int .i64 (checkE e)))) 0 := by
  rw [← checkR_eq]
  refine Does.of_W (n := 80) (ts := [2]) Tryd.func11 (by kernel_rfl) rfl Tryd.ntmps11 Tryd.results11 rfl rfl fun C hC hG => ?_
  refine W.seq ?_
  refine W.region ?_
  refine boxR rfl rfl rfl ?_
  refine pu (ev tab rfl) rfl ?_
  refine WO.nil ?_
  refine qs ?_
  refine W.seq ?_
  refine W.seq ?_
  apply regionB; (case hb => rfl)
  · skip
    refine pu (ev tab rfl) rfl ?_
    first | refine pu (ev tab rfl) rfl ?_ | refine pu (loadRow tab rfl rfl rfl rfl) rfl ?_ | refine pu (loadBox tab rfl rfl rfl rfl rfl) rfl ?_
    iterate 2 refine pu (ev tab rfl) rfl ?_
    apply splitJ; (case hj => rfl); (case hl => rfl)
    · skip
      refine skipT rfl rfl rfl rfl ?_
      refine skipT rfl rfl rfl rfl ?_
      refine skipT rfl rfl rfl rfl ?_
      refine pu (ev tab rfl) rfl ?_
      refine WO.nil ?_
      refine qv1 rfl rfl rfl
    · skip
      refine goG rfl rfl ?_
      refine pu (ev tab rfl) rfl ?_
      refine goG rfl rfl ?_
      first | refine pu (ev tab rfl) rfl ?_ | refine pu (loadRow tab rfl rfl rfl rfl) rfl ?_ | refine pu (loadBox tab rfl rfl rfl rfl rfl) rfl ?_
      refine goG rfl rfl ?_
      iterate 2 refine pu (ev tab rfl) rfl ?_
      refine WO.nil ?_
      refine qv1 rfl rfl rfl
  refine qs ?_
  refine condK rfl (fun h15 => ?_) (fun h15 => ?_)
  · skip
    refine W.seq ?_
    refine W.region ?_
    refine pu (ev tab rfl) rfl ?_
    refine WO.nil ?_
    refine qs ?_
    refine W.ret ?_
    refine qsRet ?_
    refine QF.ret0 trivial rfl ?_
    simp only [norm, oneA]; grind [checkR]
  · skip
    refine W.skip ?_
    refine qs ?_
    refine W.seq ?_
    refine W.seq ?_
    apply regionB; (case hb => rfl)
    · skip
      refine pu (ev tab rfl) rfl ?_
      first | refine pu (ev tab rfl) rfl ?_ | refine pu (loadRow tab rfl rfl rfl rfl) rfl ?_ | refine pu (loadBox tab rfl rfl rfl rfl rfl) rfl ?_
      iterate 2 refine pu (ev tab rfl) rfl ?_
      apply splitJ; (case hj => rfl); (case hl => rfl)
      · skip
        refine skipT rfl rfl rfl rfl ?_
        refine skipT rfl rfl rfl rfl ?_
        refine skipT rfl rfl rfl rfl ?_
        refine pu (ev tab rfl) rfl ?_
        refine WO.nil ?_
        refine qv1 rfl rfl rfl
      · skip
        refine goG rfl rfl ?_
        refine pu (ev tab rfl) rfl ?_
        refine goG rfl rfl ?_
        first | refine pu (ev tab rfl) rfl ?_ | refine pu (loadRow tab rfl rfl rfl rfl) rfl ?_ | refine pu (loadBox tab rfl rfl rfl rfl rfl) rfl ?_
        refine goG rfl rfl ?_
        iterate 2 refine pu (ev tab rfl) rfl ?_
        refine WO.nil ?_
        refine qv1 rfl rfl rfl
    refine qs ?_
    refine condK rfl (fun h23 => ?_) (fun h23 => ?_)
    · skip
      refine W.seq ?_
      refine W.region ?_
      refine pu (ev tab rfl) rfl ?_
      refine WO.nil ?_
      refine qs ?_
      refine W.ret ?_
      refine qsRet ?_
      refine QF.ret0 trivial rfl ?_
      simp only [norm, oneA]; grind [checkR]
    · skip
      refine W.skip ?_
      refine qs ?_
      refine W.seq ?_
      refine W.region ?_
      refine pu (ev tab rfl) rfl ?_
      first | refine pu (ev tab rfl) rfl ?_ | refine pu (loadRow tab rfl rfl rfl rfl) rfl ?_ | refine pu (loadBox tab rfl rfl rfl rfl rfl) rfl ?_
      refine pu (puCall rfl rfl rfl (uses_fn2 ..) rfl) rfl ?_
      iterate 9 refine pu (ev tab rfl) rfl ?_
      refine WO.nil ?_
      refine qs ?_
      refine W.seq ?_
      refine W.seq ?_
      apply regionB; (case hb => rfl)
      · skip
        iterate 3 refine pu (ev tab rfl) rfl ?_
        apply splitJ; (case hj => rfl); (case hl => rfl)
        · skip
          refine goG rfl rfl ?_
          refine pu (ev tab rfl) rfl ?_
          refine goG rfl rfl ?_
          first | refine pu (ev tab rfl) rfl ?_ | refine pu (loadRow tab rfl rfl rfl rfl) rfl ?_ | refine pu (loadBox tab rfl rfl rfl rfl rfl) rfl ?_
          refine goG rfl rfl ?_
          iterate 3 refine pu (ev tab rfl) rfl ?_
          apply splitJ; (case hj => rfl); (case hl => rfl)
          · skip
            refine skipT rfl rfl rfl rfl ?_
            refine skipT rfl rfl rfl rfl ?_
            refine skipT rfl rfl rfl rfl ?_
            refine skipU rfl rfl rfl ?_
            refine skipU rfl rfl rfl ?_
            refine skipU rfl rfl rfl ?_
            refine skipT rfl rfl rfl rfl ?_
            iterate 2 refine pu (ev tab rfl) rfl ?_
            refine skipT rfl rfl rfl rfl ?_
            refine skipT rfl rfl rfl rfl ?_
            refine skipT rfl rfl rfl rfl ?_
            refine skipU rfl rfl rfl ?_
            refine skipU rfl rfl rfl ?_
            refine skipU rfl rfl rfl ?_
            refine skipT rfl rfl rfl rfl ?_
            iterate 2 refine pu (ev tab rfl) rfl ?_
            refine skipT rfl rfl rfl rfl ?_
            refine skipT rfl rfl rfl rfl ?_
            refine skipT rfl rfl rfl rfl ?_
            refine skipU rfl rfl rfl ?_
            refine skipU rfl rfl rfl ?_
            refine skipU rfl rfl rfl ?_
            refine skipU rfl rfl rfl ?_
            refine skipT rfl rfl rfl rfl ?_
            refine pu (ev tab rfl) rfl ?_
            refine WO.nil ?_
            refine qv1 rfl rfl rfl
          · skip
            refine goG rfl rfl ?_
            refine pu (ev tab rfl) rfl ?_
            refine goG rfl rfl ?_
            refine pu (ev tab rfl) rfl ?_
            refine goG rfl rfl ?_
            refine pu (ev tab rfl) rfl ?_
            apply splitJ; (case hj => rfl); (case hl => rfl)
            · skip
              refine goG rfl rfl ?_
              refine pu (ev tab rfl) rfl ?_
              refine goG rfl rfl ?_
              first | refine pu (ev tab rfl) rfl ?_ | refine pu (loadRow tab rfl rfl rfl rfl) rfl ?_ | refine pu (loadBox tab rfl rfl rfl rfl rfl) rfl ?_
              refine goG rfl rfl ?_
              refine pu (ev tab rfl) rfl ?_
              refine goG rfl rfl ?_
              iterate 3 refine pu (ev tab rfl) rfl ?_
              apply splitJ; (case hj => rfl); (case hl => rfl)
              · skip
                refine skipT rfl rfl rfl rfl ?_
                refine skipT rfl rfl rfl rfl ?_
                refine skipT rfl rfl rfl rfl ?_
                refine skipU rfl rfl rfl ?_
                refine skipU rfl rfl rfl ?_
                refine skipU rfl rfl rfl ?_
                refine skipT rfl rfl rfl rfl ?_
                iterate 2 refine pu (ev tab rfl) rfl ?_
                refine skipT rfl rfl rfl rfl ?_
                refine skipT rfl rfl rfl rfl ?_
                refine skipT rfl rfl rfl rfl ?_
                refine skipU rfl rfl rfl ?_
                refine skipU rfl rfl rfl ?_
                refine skipU rfl rfl rfl ?_
                refine skipU rfl rfl rfl ?_
                refine skipT rfl rfl rfl rfl ?_
                refine pu (ev tab rfl) rfl ?_
                refine WO.nil ?_
                refine qv1 rfl rfl rfl
              · skip
                refine goG rfl rfl ?_
                refine pu (ev tab rfl) rfl ?_
                refine goG rfl rfl ?_
                refine pu (ev tab rfl) rfl ?_
                refine goG rfl rfl ?_
                refine pu (ev tab rfl) rfl ?_
                apply splitJ; (case hj => rfl); (case hl => rfl)
                · skip
                  refine goG rfl rfl ?_
                  refine pu (ev tab rfl) rfl ?_
                  refine goG rfl rfl ?_
                  first | refine pu (ev tab rfl) rfl ?_ | refine pu (loadRow tab rfl rfl rfl rfl) rfl ?_ | refine pu (loadBox tab rfl rfl rfl rfl rfl) rfl ?_
                  refine goG rfl rfl ?_
                  refine pu (ev tab rfl) rfl ?_
                  refine goG rfl rfl ?_
                  iterate 3 refine pu (ev tab rfl) rfl ?_
                  apply splitJ; (case hj => rfl); (case hl => rfl)
                  · skip
                    refine skipT rfl rfl rfl rfl ?_
                    refine skipT rfl rfl rfl rfl ?_
                    refine skipT rfl rfl rfl rfl ?_
                    refine skipU rfl rfl rfl ?_
                    refine skipU rfl rfl rfl ?_
                    refine skipU rfl rfl rfl ?_
                    refine skipU rfl rfl rfl ?_
                    refine skipT rfl rfl rfl rfl ?_
                    refine pu (ev tab rfl) rfl ?_
                    refine WO.nil ?_
                    refine qv1 rfl rfl rfl
                  · skip
                    refine goG rfl rfl ?_
                    refine pu (ev tab rfl) rfl ?_
                    refine goG rfl rfl ?_
                    refine pu (ev tab rfl) rfl ?_
                    refine goG rfl rfl ?_
                    refine pu (ev tab rfl) rfl ?_
                    apply splitJ; (case hj => rfl); (case hl => rfl)
                    · skip
                      refine goG rfl rfl ?_
                      refine pu (ev tab rfl) rfl ?_
                      refine goG rfl rfl ?_
                      first | refine pu (ev tab rfl) rfl ?_ | refine pu (loadRow tab rfl rfl rfl rfl) rfl ?_ | refine pu (loadBox tab rfl rfl rfl rfl rfl) rfl ?_
                      refine goG rfl rfl ?_
                      refine pu (ev tab rfl) rfl ?_
                      refine goG rfl rfl ?_
                      refine pu (ev tab rfl) rfl ?_
                      refine goG rfl rfl ?_
                      iterate 2 refine pu (ev tab rfl) rfl ?_
                      refine WO.nil ?_
                      refine qv1 rfl rfl rfl
                    · skip
                      refine skipT rfl rfl rfl rfl ?_
                      refine skipT rfl rfl rfl rfl ?_
                      refine skipT rfl rfl rfl rfl ?_
                      refine skipT rfl rfl rfl rfl ?_
                      refine goG rfl rfl ?_
                      iterate 2 refine pu (ev tab rfl) rfl ?_
                      refine WO.nil ?_
                      refine qv1 rfl rfl rfl
                · skip
                  refine skipT rfl rfl rfl rfl ?_
                  refine skipT rfl rfl rfl rfl ?_
                  refine skipT rfl rfl rfl rfl ?_
                  refine goG rfl rfl ?_
                  iterate 3 refine pu (ev tab rfl) rfl ?_
                  refine goG rfl rfl ?_
                  refine pu (ev tab rfl) rfl ?_
                  refine goG rfl rfl ?_
                  refine pu (ev tab rfl) rfl ?_
                  refine goG rfl rfl ?_
                  refine pu (ev tab rfl) rfl ?_
                  apply splitJ; (case hj => rfl); (case hl => rfl)
                  · skip
                    refine goG rfl rfl ?_
                    refine pu (ev tab rfl) rfl ?_
                    refine goG rfl rfl ?_
                    first | refine pu (ev tab rfl) rfl ?_ | refine pu (loadRow tab rfl rfl rfl rfl) rfl ?_ | refine pu (loadBox tab rfl rfl rfl rfl rfl) rfl ?_
                    refine goG rfl rfl ?_
                    refine pu (ev tab rfl) rfl ?_
                    refine goG rfl rfl ?_
                    refine pu (ev tab rfl) rfl ?_
                    refine goG rfl rfl ?_
                    iterate 2 refine pu (ev tab rfl) rfl ?_
                    refine WO.nil ?_
                    refine qv1 rfl rfl rfl
                  · skip
                    refine skipT rfl rfl rfl rfl ?_
                    refine skipT rfl rfl rfl rfl ?_
                    refine skipT rfl rfl rfl rfl ?_
                    refine skipT rfl rfl rfl rfl ?_
                    refine goG rfl rfl ?_
                    iterate 2 refine pu (ev tab rfl) rfl ?_
                    refine WO.nil ?_
                    refine qv1 rfl rfl rfl
            · skip
              refine skipT rfl rfl rfl rfl ?_
              refine skipT rfl rfl rfl rfl ?_
              refine skipT rfl rfl rfl rfl ?_
              refine goG rfl rfl ?_
              iterate 3 refine pu (ev tab rfl) rfl ?_
              refine goG rfl rfl ?_
              refine pu (ev tab rfl) rfl ?_
              refine goG rfl rfl ?_
              refine pu (ev tab rfl) rfl ?_
              refine goG rfl rfl ?_
              refine pu (ev tab rfl) rfl ?_
              apply splitJ; (case hj => rfl); (case hl => rfl)
              · skip
                refine goG rfl rfl ?_
                refine pu (ev tab rfl) rfl ?_
                refine goG rfl rfl ?_
                first | refine pu (ev tab rfl) rfl ?_ | refine pu (loadRow tab rfl rfl rfl rfl) rfl ?_ | refine pu (loadBox tab rfl rfl rfl rfl rfl) rfl ?_
                refine goG rfl rfl ?_
                refine pu (ev tab rfl) rfl ?_
                refine goG rfl rfl ?_
                iterate 3 refine pu (ev tab rfl) rfl ?_
                apply splitJ; (case hj => rfl); (case hl => rfl)
                · skip
                  refine skipT rfl rfl rfl rfl ?_
                  refine skipT rfl rfl rfl rfl ?_
                  refine skipT rfl rfl rfl rfl ?_
                  refine skipU rfl rfl rfl ?_
                  refine skipU rfl rfl rfl ?_
                  refine skipU rfl rfl rfl ?_
                  refine skipU rfl rfl rfl ?_
                  refine skipT rfl rfl rfl rfl ?_
                  refine pu (ev tab rfl) rfl ?_
                  refine WO.nil ?_
                  refine qv1 rfl rfl rfl
                · skip
                  refine goG rfl rfl ?_
                  refine pu (ev tab rfl) rfl ?_
                  refine goG rfl rfl ?_
                  refine pu (ev tab rfl) rfl ?_
                  refine goG rfl rfl ?_
                  refine pu (ev tab rfl) rfl ?_
                  apply splitJ; (case hj => rfl); (case hl => rfl)
                  · skip
                    refine goG rfl rfl ?_
                    refine pu (ev tab rfl) rfl ?_
                    refine goG rfl rfl ?_
                    first | refine pu (ev tab rfl) rfl ?_ | refine pu (loadRow tab rfl rfl rfl rfl) rfl ?_ | refine pu (loadBox tab rfl rfl rfl rfl rfl) rfl ?_
                    refine goG rfl rfl ?_
                    refine pu (ev tab rfl) rfl ?_
                    refine goG rfl rfl ?_
                    refine pu (ev tab rfl) rfl ?_
                    refine goG rfl rfl ?_
                    iterate 2 refine pu (ev tab rfl) rfl ?_
                    refine WO.nil ?_
                    refine qv1 rfl rfl rfl
                  · skip
                    refine skipT rfl rfl rfl rfl ?_
                    refine skipT rfl rfl rfl rfl ?_
                    refine skipT rfl rfl rfl rfl ?_
                    refine skipT rfl rfl rfl rfl ?_
                    refine goG rfl rfl ?_
                    iterate 2 refine pu (ev tab rfl) rfl ?_
                    refine WO.nil ?_
                    refine qv1 rfl rfl rfl
              · skip
                refine skipT rfl rfl rfl rfl ?_
                refine skipT rfl rfl rfl rfl ?_
                refine skipT rfl rfl rfl rfl ?_
                refine goG rfl rfl ?_
                iterate 3 refine pu (ev tab rfl) rfl ?_
                refine goG rfl rfl ?_
                refine pu (ev tab rfl) rfl ?_
                refine goG rfl rfl ?_
                refine pu (ev tab rfl) rfl ?_
                refine goG rfl rfl ?_
                refine pu (ev tab rfl) rfl ?_
                apply splitJ; (case hj => rfl); (case hl => rfl)
                · skip
                  refine goG rfl rfl ?_
                  refine pu (ev tab rfl) rfl ?_
                  refine goG rfl rfl ?_
                  first | refine pu (ev tab rfl) rfl ?_ | refine pu (loadRow tab rfl rfl rfl rfl) rfl ?_ | refine pu (loadBox tab rfl rfl rfl rfl rfl) rfl ?_
                  refine goG rfl rfl ?_
                  refine pu (ev tab rfl) rfl ?_
                  refine goG rfl rfl ?_
                  refine pu (ev tab rfl) rfl ?_
                  refine goG rfl rfl ?_
                  iterate 2 refine pu (ev tab rfl) rfl ?_
                  refine WO.nil ?_
                  refine qv1 rfl rfl rfl
                · skip
                  refine skipT rfl rfl rfl rfl ?_
                  refine skipT rfl rfl rfl rfl ?_
                  refine skipT rfl rfl rfl rfl ?_
                  refine skipT rfl rfl rfl rfl ?_
                  refine goG rfl rfl ?_
                  iterate 2 refine pu (ev tab rfl) rfl ?_
                  refine WO.nil ?_
                  refine qv1 rfl rfl rfl
        · skip
          refine skipT rfl rfl rfl rfl ?_
          refine skipT rfl rfl rfl rfl ?_
          refine skipT rfl rfl rfl rfl ?_
          iterate 2 refine pu (ev tab rfl) rfl ?_
          refine goG rfl rfl ?_
          refine pu (ev tab rfl) rfl ?_
          refine goG rfl rfl ?_
          refine pu (ev tab rfl) rfl ?_
          refine goG rfl rfl ?_
          refine pu (ev tab rfl) rfl ?_
          apply splitJ; (case hj => rfl); (case hl => rfl)
          · skip
            refine goG rfl rfl ?_
            refine pu (ev tab rfl) rfl ?_
            refine goG rfl rfl ?_
            first | refine pu (ev tab rfl) rfl ?_ | refine pu (loadRow tab rfl rfl rfl rfl) rfl ?_ | refine pu (loadBox tab rfl rfl rfl rfl rfl) rfl ?_
            refine goG rfl rfl ?_
            refine pu (ev tab rfl) rfl ?_
            refine goG rfl rfl ?_
            iterate 3 refine pu (ev tab rfl) rfl ?_
            apply splitJ; (case hj => rfl); (case hl => rfl)
            · skip
              refine skipT rfl rfl rfl rfl ?_
              refine skipT rfl rfl rfl rfl ?_
              refine skipT rfl rfl rfl rfl ?_
              refine skipU rfl rfl rfl ?_
              refine skipU rfl rfl rfl ?_
              refine skipU rfl rfl rfl ?_
              refine skipT rfl rfl rfl rfl ?_
              iterate 2 refine pu (ev tab rfl) rfl ?_
              refine skipT rfl rfl rfl rfl ?_
              refine skipT rfl rfl rfl rfl ?_
              refine skipT rfl rfl rfl rfl ?_
              refine skipU rfl rfl rfl ?_
              refine skipU rfl rfl rfl ?_
              refine skipU rfl rfl rfl ?_
              refine skipU rfl rfl rfl ?_
              refine skipT rfl rfl rfl rfl ?_
              refine pu (ev tab rfl) rfl ?_
              refine WO.nil ?_
              refine qv1 rfl rfl rfl
            · skip
              refine goG rfl rfl ?_
              refine pu (ev tab rfl) rfl ?_
              refine goG rfl rfl ?_
              refine pu (ev tab rfl) rfl ?_
              refine goG rfl rfl ?_
              refine pu (ev tab rfl) rfl ?_
              apply splitJ; (case hj => rfl); (case hl => rfl)
              · skip
                refine goG rfl rfl ?_
                refine pu (ev tab rfl) rfl ?_
                refine goG rfl rfl ?_
                first | refine pu (ev tab rfl) rfl ?_ | refine pu (loadRow tab rfl rfl rfl rfl) rfl ?_ | refine pu (loadBox tab rfl rfl rfl rfl rfl) rfl ?_
                refine goG rfl rfl ?_
                refine pu (ev tab rfl) rfl ?_
                refine goG rfl rfl ?_
                iterate 3 refine pu (ev tab rfl) rfl ?_
                apply splitJ; (case hj => rfl); (case hl => rfl)
                · skip
                  refine skipT rfl rfl rfl rfl ?_
                  refine skipT rfl rfl rfl rfl ?_
                  refine skipT rfl rfl rfl rfl ?_
                  refine skipU rfl rfl rfl ?_
                  refine skipU rfl rfl rfl ?_
                  refine skipU rfl rfl rfl ?_
                  refine skipU rfl rfl rfl ?_
                  refine skipT rfl rfl rfl rfl ?_
                  refine pu (ev tab rfl) rfl ?_
                  refine WO.nil ?_
                  refine qv1 rfl rfl rfl
                · skip
                  refine goG rfl rfl ?_
                  refine pu (ev tab rfl) rfl ?_
                  refine goG rfl rfl ?_
                  refine pu (ev tab rfl) rfl ?_
                  refine goG rfl rfl ?_
                  refine pu (ev tab rfl) rfl ?_
                  apply splitJ; (case hj => rfl); (case hl => rfl)
                  · skip
                    refine goG rfl rfl ?_
                    refine pu (ev tab rfl) rfl ?_
                    refine goG rfl rfl ?_
                    first | refine pu (ev tab rfl) rfl ?_ | refine pu (loadRow tab rfl rfl rfl rfl) rfl ?_ | refine pu (loadBox tab rfl rfl rfl rfl rfl) rfl ?_
                    refine goG rfl rfl ?_
                    refine pu (ev tab rfl) rfl ?_
                    refine goG rfl rfl ?_
                    refine pu (ev tab rfl) rfl ?_
                    refine goG rfl rfl ?_
                    iterate 2 refine pu (ev tab rfl) rfl ?_
                    refine WO.nil ?_
                    refine qv1 rfl rfl rfl
                  · skip
                    refine skipT rfl rfl rfl rfl ?_
                    refine skipT rfl rfl rfl rfl ?_
                    refine skipT rfl rfl rfl rfl ?_
                    refine skipT rfl rfl rfl rfl ?_
                    refine goG rfl rfl ?_
                    iterate 2 refine pu (ev tab rfl) rfl ?_
                    refine WO.nil ?_
                    refine qv1 rfl rfl rfl
              · skip
                refine skipT rfl rfl rfl rfl ?_
                refine skipT rfl rfl rfl rfl ?_
                refine skipT rfl rfl rfl rfl ?_
                refine goG rfl rfl ?_
                iterate 3 refine pu (ev tab rfl) rfl ?_
                refine goG rfl rfl ?_
                refine pu (ev tab rfl) rfl ?_
                refine goG rfl rfl ?_
                refine pu (ev tab rfl) rfl ?_
                refine goG rfl rfl ?_
                refine pu (ev tab rfl) rfl ?_
                apply splitJ; (case hj => rfl); (case hl => rfl)
                · skip
                  refine goG rfl rfl ?_
                  refine pu (ev tab rfl) rfl ?_
                  refine goG rfl rfl ?_
                  first | refine pu (ev tab rfl) rfl ?_ | refine pu (loadRow tab rfl rfl rfl rfl) rfl ?_ | refine pu (loadBox tab rfl rfl rfl rfl rfl) rfl ?_
                  refine goG rfl rfl ?_
                  refine pu (ev tab rfl) rfl ?_
                  refine goG rfl rfl ?_
                  refine pu (ev tab rfl) rfl ?_
                  refine goG rfl rfl ?_
                  iterate 2 refine pu (ev tab rfl) rfl ?_
                  refine WO.nil ?_
                  refine qv1 rfl rfl rfl
                · skip
                  refine skipT rfl rfl rfl rfl ?_
                  refine skipT rfl rfl rfl rfl ?_
                  refine skipT rfl rfl rfl rfl ?_
                  refine skipT rfl rfl rfl rfl ?_
                  refine goG rfl rfl ?_
                  iterate 2 refine pu (ev tab rfl) rfl ?_
                  refine WO.nil ?_
                  refine qv1 rfl rfl rfl
          · skip
            refine skipT rfl rfl rfl rfl ?_
            refine skipT rfl rfl rfl rfl ?_
            refine skipT rfl rfl rfl rfl ?_
            refine goG rfl rfl ?_
            iterate 3 refine pu (ev tab rfl) rfl ?_
            refine goG rfl rfl ?_
            refine pu (ev tab rfl) rfl ?_
            refine goG rfl rfl ?_
            refine pu (ev tab rfl) rfl ?_
            refine goG rfl rfl ?_
            refine pu (ev tab rfl) rfl ?_
            apply splitJ; (case hj => rfl); (case hl => rfl)
            · skip
              refine goG rfl rfl ?_
              refine pu (ev tab rfl) rfl ?_
              refine goG rfl rfl ?_
              first | refine pu (ev tab rfl) rfl ?_ | refine pu (loadRow tab rfl rfl rfl rfl) rfl ?_ | refine pu (loadBox tab rfl rfl rfl rfl rfl) rfl ?_
              refine goG rfl rfl ?_
              refine pu (ev tab rfl) rfl ?_
              refine goG rfl rfl ?_
              iterate 3 refine pu (ev tab rfl) rfl ?_
              apply splitJ; (case hj => rfl); (case hl => rfl)
              · skip
                refine skipT rfl rfl rfl rfl ?_
                refine skipT rfl rfl rfl rfl ?_
                refine skipT rfl rfl rfl rfl ?_
                refine skipU rfl rfl rfl ?_
                refine skipU rfl rfl rfl ?_
                refine skipU rfl rfl rfl ?_
                refine skipU rfl rfl rfl ?_
                refine skipT rfl rfl rfl rfl ?_
                refine pu (ev tab rfl) rfl ?_
                refine WO.nil ?_
                refine qv1 rfl rfl rfl
              · skip
                refine goG rfl rfl ?_
                refine pu (ev tab rfl) rfl ?_
                refine goG rfl rfl ?_
                refine pu (ev tab rfl) rfl ?_
                refine goG rfl rfl ?_
                refine pu (ev tab rfl) rfl ?_
                apply splitJ; (case hj => rfl); (case hl => rfl)
                · skip
                  refine goG rfl rfl ?_
                  refine pu (ev tab rfl) rfl ?_
                  refine goG rfl rfl ?_
                  first | refine pu (ev tab rfl) rfl ?_ | refine pu (loadRow tab rfl rfl rfl rfl) rfl ?_ | refine pu (loadBox tab rfl rfl rfl rfl rfl) rfl ?_
                  refine goG rfl rfl ?_
                  refine pu (ev tab rfl) rfl ?_
                  refine goG rfl rfl ?_
                  refine pu (ev tab rfl) rfl ?_
                  refine goG rfl rfl ?_
                  iterate 2 refine pu (ev tab rfl) rfl ?_
                  refine WO.nil ?_
                  refine qv1 rfl rfl rfl
                · skip
                  refine skipT rfl rfl rfl rfl ?_
                  refine skipT rfl rfl rfl rfl ?_
                  refine skipT rfl rfl rfl rfl ?_
                  refine skipT rfl rfl rfl rfl ?_
                  refine goG rfl rfl ?_
                  iterate 2 refine pu (ev tab rfl) rfl ?_
                  refine WO.nil ?_
                  refine qv1 rfl rfl rfl
            · skip
              refine skipT rfl rfl rfl rfl ?_
              refine skipT rfl rfl rfl rfl ?_
              refine skipT rfl rfl rfl rfl ?_
              refine goG rfl rfl ?_
              iterate 3 refine pu (ev tab rfl) rfl ?_
              refine goG rfl rfl ?_
              refine pu (ev tab rfl) rfl ?_
              refine goG rfl rfl ?_
              refine pu (ev tab rfl) rfl ?_
              refine goG rfl rfl ?_
              refine pu (ev tab rfl) rfl ?_
              apply splitJ; (case hj => rfl); (case hl => rfl)
              · skip
                refine goG rfl rfl ?_
                refine pu (ev tab rfl) rfl ?_
                refine goG rfl rfl ?_
                first | refine pu (ev tab rfl) rfl ?_ | refine pu (loadRow tab rfl rfl rfl rfl) rfl ?_ | refine pu (loadBox tab rfl rfl rfl rfl rfl) rfl ?_
                refine goG rfl rfl ?_
                refine pu (ev tab rfl) rfl ?_
                refine goG rfl rfl ?_
                refine pu (ev tab rfl) rfl ?_
                refine goG rfl rfl ?_
                iterate 2 refine pu (ev tab rfl) rfl ?_
                refine WO.nil ?_
                refine qv1 rfl rfl rfl
              · skip
                refine skipT rfl rfl rfl rfl ?_
                refine skipT rfl rfl rfl rfl ?_
                refine skipT rfl rfl rfl rfl ?_
                refine skipT rfl rfl rfl rfl ?_
                refine goG rfl rfl ?_
                iterate 2 refine pu (ev tab rfl) rfl ?_
                refine WO.nil ?_
                refine qv1 rfl rfl rfl
      refine qs ?_
      refine condK rfl (fun h66 => ?_) (fun h66 => ?_)
      · skip
        refine W.seq ?_
        refine W.region ?_
        refine pu (ev tab rfl) rfl ?_
        refine WO.nil ?_
        refine qs ?_
        refine W.ret ?_
        refine qsRet ?_
        refine QF.ret0 trivial rfl ?_
        simp only [norm, oneA]; grind [checkR]
      · skip
        refine W.skip ?_
        refine qs ?_
        refine W.seq ?_
        refine W.region ?_
        refine pu (ev tab rfl) rfl ?_
        refine WO.nil ?_
        refine qs ?_
        refine W.seq ?_
        refine W.seq ?_
        refine W.region ?_
        refine pu (ev tab rfl) rfl ?_
        refine WO.nil ?_
        refine qs ?_
        refine condK rfl (fun h67 => ?_) (fun h67 => ?_)
        · skip
          refine W.region ?_
          refine pu (ev tab rfl) rfl ?_
          first | refine pu (ev tab rfl) rfl ?_ | refine pu (loadRow tab rfl rfl rfl rfl) rfl ?_ | refine pu (loadBox tab rfl rfl rfl rfl rfl) rfl ?_
          refine pu (puCall rfl rfl rfl (rname_fn ..) rfl) rfl ?_
          refine pu (ev tab rfl) rfl ?_
          refine WO.nil ?_
          refine qs ?_
          refine W.seq ?_
          refine W.seq ?_
          refine W.region ?_
          refine pu (ev tab rfl) rfl ?_
          refine WO.nil ?_
          refine qs ?_
          refine condK rfl (fun h71 => ?_) (fun h71 => ?_)
          · skip
            refine W.region ?_
            refine pu (ev tab rfl) rfl ?_
            first | refine pu (ev tab rfl) rfl ?_ | refine pu (loadRow tab rfl rfl rfl rfl) rfl ?_ | refine pu (loadBox tab rfl rfl rfl rfl rfl) rfl ?_
            refine pu (puCall rfl rfl rfl (rframes_fn ..) rfl) rfl ?_
            refine pu (ev tab rfl) rfl ?_
            refine WO.nil ?_
            refine qs ?_
            refine W.seq ?_
            refine W.seq ?_
            refine W.region ?_
            iterate 2 refine pu (ev tab rfl) rfl ?_
            refine WO.nil ?_
            refine qs ?_
            refine condK rfl (fun h76 => ?_) (fun h76 => ?_)
            · skip
              refine W.seq ?_
              refine W.region ?_
              iterate 2 refine pu (ev tab rfl) rfl ?_
              refine WO.nil ?_
              refine qs ?_
              refine W.ret ?_
              refine qsRet ?_
              refine QF.ret0 trivial rfl ?_
              simp only [norm, oneA]; grind [checkR]
            · skip
              refine W.skip ?_
              refine qs ?_
              refine W.seq ?_
              refine W.region ?_
              first | refine pu (ev tab rfl) rfl ?_ | refine pu (loadRow tab rfl rfl rfl rfl) rfl ?_ | refine pu (loadBox tab rfl rfl rfl rfl rfl) rfl ?_
              refine pu (puCall rfl rfl rfl (numbers_fn2 ..) rfl) rfl ?_
              refine pu (ev tab rfl) rfl ?_
              refine WO.nil ?_
              refine qs ?_
              refine W.ret ?_
              refine QF.ret0 trivial rfl ?_
              simp only [norm, oneA]; grind [checkR]
          · skip
            refine W.skip ?_
            refine qs ?_
            refine W.seq ?_
            refine W.seq ?_
            refine W.region ?_
            iterate 2 refine pu (ev tab rfl) rfl ?_
            refine WO.nil ?_
            refine qs ?_
            refine condK rfl (fun h76 => ?_) (fun h76 => ?_)
            · skip
              refine W.seq ?_
              refine W.region ?_
              iterate 2 refine pu (ev tab rfl) rfl ?_
              refine WO.nil ?_
              refine qs ?_
              refine W.ret ?_
              refine qsRet ?_
              refine QF.ret0 trivial rfl ?_
              simp only [norm, oneA]; grind [checkR]
            · skip
              refine W.skip ?_
              refine qs ?_
              refine W.seq ?_
              refine W.region ?_
              first | refine pu (ev tab rfl) rfl ?_ | refine pu (loadRow tab rfl rfl rfl rfl) rfl ?_ | refine pu (loadBox tab rfl rfl rfl rfl rfl) rfl ?_
              refine pu (puCall rfl rfl rfl (numbers_fn2 ..) rfl) rfl ?_
              refine pu (ev tab rfl) rfl ?_
              refine WO.nil ?_
              refine qs ?_
              refine W.ret ?_
              refine QF.ret0 trivial rfl ?_
              simp only [norm, oneA]; grind [checkR]
        · skip
          refine W.skip ?_
          refine qs ?_
          refine W.seq ?_
          refine W.seq ?_
          refine W.region ?_
          refine pu (ev tab rfl) rfl ?_
          refine WO.nil ?_
          refine qs ?_
          refine condK rfl (fun h71 => ?_) (fun h71 => ?_)
          · skip
            refine W.region ?_
            refine pu (ev tab rfl) rfl ?_
            first | refine pu (ev tab rfl) rfl ?_ | refine pu (loadRow tab rfl rfl rfl rfl) rfl ?_ | refine pu (loadBox tab rfl rfl rfl rfl rfl) rfl ?_
            refine pu (puCall rfl rfl rfl (rframes_fn ..) rfl) rfl ?_
            refine pu (ev tab rfl) rfl ?_
            refine WO.nil ?_
            refine qs ?_
            refine W.seq ?_
            refine W.seq ?_
            refine W.region ?_
            iterate 2 refine pu (ev tab rfl) rfl ?_
            refine WO.nil ?_
            refine qs ?_
            refine condK rfl (fun h76 => ?_) (fun h76 => ?_)
            · skip
              refine W.seq ?_
              refine W.region ?_
              iterate 2 refine pu (ev tab rfl) rfl ?_
              refine WO.nil ?_
              refine qs ?_
              refine W.ret ?_
              refine qsRet ?_
              refine QF.ret0 trivial rfl ?_
              simp only [norm, oneA]; grind [checkR]
            · skip
              refine W.skip ?_
              refine qs ?_
              refine W.seq ?_
              refine W.region ?_
              first | refine pu (ev tab rfl) rfl ?_ | refine pu (loadRow tab rfl rfl rfl rfl) rfl ?_ | refine pu (loadBox tab rfl rfl rfl rfl rfl) rfl ?_
              refine pu (puCall rfl rfl rfl (numbers_fn2 ..) rfl) rfl ?_
              refine pu (ev tab rfl) rfl ?_
              refine WO.nil ?_
              refine qs ?_
              refine W.ret ?_
              refine QF.ret0 trivial rfl ?_
              simp only [norm, oneA]; grind [checkR]
          · skip
            refine W.skip ?_
            refine qs ?_
            refine W.seq ?_
            refine W.seq ?_
            refine W.region ?_
            iterate 2 refine pu (ev tab rfl) rfl ?_
            refine WO.nil ?_
            refine qs ?_
            refine condK rfl (fun h76 => ?_) (fun h76 => ?_)
            · skip
              refine W.seq ?_
              refine W.region ?_
              iterate 2 refine pu (ev tab rfl) rfl ?_
              refine WO.nil ?_
              refine qs ?_
              refine W.ret ?_
              refine qsRet ?_
              refine QF.ret0 trivial rfl ?_
              simp only [norm, oneA]; grind [checkR]
            · skip
              refine W.skip ?_
              refine qs ?_
              refine W.seq ?_
              refine W.region ?_
              first | refine pu (ev tab rfl) rfl ?_ | refine pu (loadRow tab rfl rfl rfl rfl) rfl ?_ | refine pu (loadBox tab rfl rfl rfl rfl rfl) rfl ?_
              refine pu (puCall rfl rfl rfl (numbers_fn2 ..) rfl) rfl ?_
              refine pu (ev tab rfl) rfl ?_
              refine WO.nil ?_
              refine qs ?_
              refine W.ret ?_
              refine QF.ret0 trivial rfl ?_
              simp only [norm, oneA]; grind [checkR]
end Go.Proofs.YtlmgnlhagpoggaaDoor
namespace Go.Proofs.YtlmgnlhagpoggaaDoor
open Go.Ab Go.Tb
set_option maxRecDepth 10000
attribute [local irreducible] W WO Pu QS QB QL QF QV QV1 CH QE
theorem nparse_ok (s : ByteArray) (v : Int) (h : Lib.atoiAll s.data.toList = .ok v) : numP s = (if (if numB v = s then true else false) && inR v then (v, true) else (0, false)) := by
  unfold numP
  rw [h]
  by_cases h1 : numB v = s <;> by_cases h2 : inR v = true <;> simp [h1, h2]
theorem sat_in (l : List UInt8) : -9223372036854775808 ≤ Lib.atoiSat l ∧ Lib.atoiSat l ≤ 9223372036854775807 := by
  unfold Lib.atoiSat
  split <;> decide
theorem wrap_u8 {x : Int} (h : 0 ≤ x ∧ x ≤ 255) : IntKind.u8.wrap x = x := IntWalk.u8_in x h
theorem nparse_fn (s : ByteArray) (hs : s.size ≤ 281474976710656) : Does Tryd.prog 50 [.d (.v (.string s))] (.tup [.d (.v (.int .i64 (numP s).1)), .d (.v (.bool (numP s).2))]) 0 := by
  have ha := atoi_fn s hs
  unfold atoiA at ha
  cases h : Lib.atoiAll s.data.toList with
  | ok v =>
    rw [h] at ha
    have hb := Lib.atoiAll_bounds h
    have hp := nparse_ok s v h
    refine Does.of_W (n := 23) (ts := [2, 3]) Tryd.func50 (by kernel_rfl) rfl Tryd.ntmps50 Tryd.results50 rfl rfl fun C hC hG => ?_
    refine W.seq ?_
    refine W.region ?_
    iterate 2 refine pu (ev tab rfl) rfl ?_
    refine WO.nil ?_
    refine qs ?_
    refine W.seq ?_
    refine W.region ?_
    refine pu (ev tab rfl) rfl ?_
    refine pu (puCall rfl rfl rfl ha rfl) rfl ?_
    iterate 5 refine pu (ev tab rfl) rfl ?_
    refine WO.nil ?_
    refine qs ?_
    refine W.seq ?_
    refine W.region ?_
    iterate 2 refine pu (ev tab rfl) rfl ?_
    refine pu (nilEq rfl (by kernel_rfl)) rfl ?_
    refine pu (ev tab rfl) rfl ?_
    refine splitG rfl rfl (fun _ => ?_) (fun _ => ?_)
    · skip
      refine goG rfl rfl ?_
      refine pu (ev tab rfl) rfl ?_
      refine goG rfl rfl ?_
      refine pu (puCall rfl rfl rfl (text_fn v hb.1 hb.2) rfl) rfl ?_
      refine goG rfl rfl ?_
      refine pu (ev tab rfl) rfl ?_
      refine goG rfl rfl ?_
      iterate 2 refine pu (ev tab rfl) rfl ?_
      refine pu (puCall rfl rfl rfl (within_fn ..) rfl) rfl ?_
      iterate 4 refine pu (ev tab rfl) rfl ?_
      refine WO.nil ?_
      refine qs ?_
      refine W.ret ?_
      refine QF.ret0 trivial rfl ?_
      first | contradiction | (rw [hp]; simp only [norm, normL, oneA]; by_cases h1 : numB v = s <;> by_cases h2 : inR v = true <;> simp [h1, h2])
    · skip
      refine skipT rfl rfl rfl rfl ?_
      refine skipT rfl rfl rfl rfl ?_
      refine skipT rfl rfl rfl rfl ?_
      refine skipT rfl rfl rfl rfl ?_
      refine pu (ev tab rfl) rfl ?_
      refine pu (puCall rfl rfl rfl (within_fn ..) rfl) rfl ?_
      iterate 4 refine pu (ev tab rfl) rfl ?_
      refine WO.nil ?_
      refine qs ?_
      refine W.ret ?_
      refine QF.ret0 trivial rfl ?_
      first | contradiction | (rw [hp]; simp only [norm, normL, oneA]; by_cases h1 : numB v = s <;> by_cases h2 : inR v = true <;> simp [h1, h2])
  | «syntax» =>
    rw [h] at ha
    have hp : numP s = (0, false) := by unfold numP; rw [h]
    refine Does.of_W (n := 23) (ts := [2, 3]) Tryd.func50 (by kernel_rfl) rfl Tryd.ntmps50 Tryd.results50 rfl rfl fun C hC hG => ?_
    refine W.seq ?_
    refine W.region ?_
    iterate 2 refine pu (ev tab rfl) rfl ?_
    refine WO.nil ?_
    refine qs ?_
    refine W.seq ?_
    refine W.region ?_
    refine pu (ev tab rfl) rfl ?_
    refine pu (puCall rfl rfl rfl ha rfl) rfl ?_
    iterate 5 refine pu (ev tab rfl) rfl ?_
    refine WO.nil ?_
    refine qs ?_
    refine W.seq ?_
    refine W.region ?_
    iterate 2 refine pu (ev tab rfl) rfl ?_
    refine pu (niEq rfl (by kernel_rfl)) rfl ?_
    refine pu (ev tab rfl) rfl ?_
    refine splitG rfl rfl (fun _ => ?_) (fun _ => ?_)
    · skip
      refine goG rfl rfl ?_
      refine pu (ev tab rfl) rfl ?_
      refine goG rfl rfl ?_
      refine pu (puCall rfl rfl rfl (text_fn 0 (by decide) (by decide)) rfl) rfl ?_
      refine goG rfl rfl ?_
      refine pu (ev tab rfl) rfl ?_
      refine goG rfl rfl ?_
      iterate 2 refine pu (ev tab rfl) rfl ?_
      refine pu (puCall rfl rfl rfl (within_fn ..) rfl) rfl ?_
      iterate 4 refine pu (ev tab rfl) rfl ?_
      refine WO.nil ?_
      refine qs ?_
      refine W.ret ?_
      refine QF.ret0 trivial rfl ?_
      first | contradiction | (rw [hp]; rfl)
    · skip
      refine skipT rfl rfl rfl rfl ?_
      refine skipT rfl rfl rfl rfl ?_
      refine skipT rfl rfl rfl rfl ?_
      refine skipT rfl rfl rfl rfl ?_
      refine pu (ev tab rfl) rfl ?_
      refine pu (puCall rfl rfl rfl (within_fn ..) rfl) rfl ?_
      iterate 4 refine pu (ev tab rfl) rfl ?_
      refine WO.nil ?_
      refine qs ?_
      refine W.ret ?_
      refine QF.ret0 trivial rfl ?_
      first | contradiction | (rw [hp]; rfl)
  | range =>
    rw [h] at ha
    have hp : numP s = (0, false) := by unfold numP; rw [h]
    refine Does.of_W (n := 23) (ts := [2, 3]) Tryd.func50 (by kernel_rfl) rfl Tryd.ntmps50 Tryd.results50 rfl rfl fun C hC hG => ?_
    refine W.seq ?_
    refine W.region ?_
    iterate 2 refine pu (ev tab rfl) rfl ?_
    refine WO.nil ?_
    refine qs ?_
    refine W.seq ?_
    refine W.region ?_
    refine pu (ev tab rfl) rfl ?_
    refine pu (puCall rfl rfl rfl ha rfl) rfl ?_
    iterate 5 refine pu (ev tab rfl) rfl ?_
    refine WO.nil ?_
    refine qs ?_
    refine W.seq ?_
    refine W.region ?_
    iterate 2 refine pu (ev tab rfl) rfl ?_
    refine pu (niEq rfl (by kernel_rfl)) rfl ?_
    refine pu (ev tab rfl) rfl ?_
    refine splitG rfl rfl (fun _ => ?_) (fun _ => ?_)
    · skip
      refine goG rfl rfl ?_
      refine pu (ev tab rfl) rfl ?_
      refine goG rfl rfl ?_
      refine pu (puCall rfl rfl rfl (text_fn _ (sat_in _).1 (sat_in _).2) rfl) rfl ?_
      refine goG rfl rfl ?_
      refine pu (ev tab rfl) rfl ?_
      refine goG rfl rfl ?_
      iterate 2 refine pu (ev tab rfl) rfl ?_
      refine pu (puCall rfl rfl rfl (within_fn ..) rfl) rfl ?_
      iterate 4 refine pu (ev tab rfl) rfl ?_
      refine WO.nil ?_
      refine qs ?_
      refine W.ret ?_
      refine QF.ret0 trivial rfl ?_
      first | contradiction | (rw [hp]; rfl)
    · skip
      refine skipT rfl rfl rfl rfl ?_
      refine skipT rfl rfl rfl rfl ?_
      refine skipT rfl rfl rfl rfl ?_
      refine skipT rfl rfl rfl rfl ?_
      refine pu (ev tab rfl) rfl ?_
      refine pu (puCall rfl rfl rfl (within_fn ..) rfl) rfl ?_
      iterate 4 refine pu (ev tab rfl) rfl ?_
      refine WO.nil ?_
      refine qs ?_
      refine W.ret ?_
      refine QF.ret0 trivial rfl ?_
      first | contradiction | (rw [hp]; rfl)
theorem rnparse_fn (s : ByteArray) : Does Tryd.prog 51 [.d (.v (.string s))] (.tup [.d (.v (.int .i64 (numP s).1)), .d (.v (.bool (numP s).2))]) 0 := by
  rw [← numR_eq]
  have hlen : (bys s).length = s.size := Array.length_toList
  have hp16 : (10 : Nat) ^ 17 = 100000000000000000 := by decide
  refine Does.of_W (n := 53) (ts := [2, 3]) Tryd.func51 (by kernel_rfl) rfl Tryd.ntmps51 Tryd.results51 rfl rfl fun C hC hG => ?_
  refine W.seq ?_
  refine W.region ?_
  iterate 2 refine pu (ev tab rfl) rfl ?_
  refine WO.nil ?_
  refine qs ?_
  refine W.seq ?_
  refine W.seq ?_
  refine W.region ?_
  iterate 3 refine pu (ev tab rfl) rfl ?_
  refine WO.nil ?_
  refine qs ?_
  refine condK rfl (fun h8 => ?_) (fun h8 => ?_)
  · skip
    have hg : numR s = (0, false) := by unfold numR; rw [if_pos (by simp at h8; omega)]
    refine W.seq ?_
    refine W.region ?_
    iterate 2 refine pu (ev tab rfl) rfl ?_
    refine WO.nil ?_
    refine qs ?_
    refine W.ret ?_
    refine qsRet ?_
    refine QF.ret0 trivial rfl ?_
    rw [hg]; rfl
  · skip
    have h17 : s.size ≤ 17 := by simp at h8; omega
    have hlenm : (bys s).length ≤ maxLen := by simp only [maxLen]; omega
    refine W.skip ?_
    refine qs ?_
    refine W.seq ?_
    refine W.region ?_
    refine pu (ev tab rfl) rfl ?_
    refine WO.nil ?_
    refine qs ?_
    refine W.seq ?_
    refine W.seq ?_
    refine W.region ?_
    refine pu (ev tab rfl) rfl ?_
    refine WO.nil ?_
    refine qs ?_
    refine W.block ?_
    refine W.loopR (ι := {x : Nat × Nat // match x with | (k, a) => k ≤ (bys s).length ∧ a = accD 0 ((bys s).take k) ∧ a < 10 ^ k})
      (fun x => match x.1 with | (k, a) => [(4, .d (.v (.int .i64 ((a : Nat) : Int)))), (5, .d (.v (.int .i64 ((k : Nat) : Int))))]) [(0, _)]
      (fun x => match x.1 with | (k, a) => []) [] [] 0 (fun x => match x.1 with | (k, a) => (bys s).length - k)
      [] ⟨(0, 0), ?_⟩ rfl ?_ ⟨rfl, rfl, trivial⟩ ?_ trivial rfl ?_
    · exact ⟨Nat.zero_le _, rfl, by decide⟩
    · repeat' first | exact trivial | refine ⟨rfl, ?_⟩ | refine ⟨step_nat (by assumption) (by assumption), ?_⟩
    · repeat' first | exact trivial | refine ⟨rfl, ?_⟩ | refine ⟨step_nat (by assumption) (by assumption), ?_⟩
    rintro ⟨⟨k, a⟩, hk, hI, hJ⟩
    show W _ _ _ _ _ ⟨[(4, .d (.v (.int .i64 ((a : Nat) : Int)))), (5, .d (.v (.int .i64 ((k : Nat) : Int)))), (0, _)], [], [], 0⟩
    refine W.seq ?_
    refine W.seq ?_
    refine W.region ?_
    iterate 4 refine pu (ev tab rfl) rfl ?_
    refine WO.nil ?_
    refine qs ?_
    refine eachR (l := bys s) (k := k) rfl (by simp [bytes_len]) hk (fun b hx hd hlt => ?_) (fun he hd => ?_)
    · skip
      have hk17 : k ≤ 16 := by omega
      have ha17 : a < 10000000000000000 := by
        have h1 := Nat.pow_le_pow_right (show 0 < 10 by decide) hk17
        have h0 : (10 : Nat) ^ 16 = 10000000000000000 := by decide
        omega
      have htk : (bys s).take (k + 1) = (bys s).take k ++ [b] := by rw [List.take_add_one, hx]; rfl
      refine W.skip ?_
      refine qs ?_
      refine W.seq ?_
      refine W.block ?_
      refine W.seq ?_
      apply regionB; (case hb => rfl)
      · skip
        iterate 2 refine pu (ev tab rfl) rfl ?_
        refine pu (indexStr tab rfl rfl rfl rfl (Int.natCast_nonneg _) (byteList hx)) rfl ?_
        iterate 2 refine pu (ev tab rfl) rfl ?_
        apply splitJ; (case hj => rfl); (case hl => rfl)
        · skip
          refine goG rfl rfl ?_
          refine pu (ev tab rfl) rfl ?_
          refine goG rfl rfl ?_
          refine pu (ev tab rfl) rfl ?_
          refine goG rfl rfl ?_
          refine pu (indexStr tab rfl rfl rfl rfl (Int.natCast_nonneg _) (byteList hx)) rfl ?_
          refine goG rfl rfl ?_
          iterate 2 refine pu (ev tab rfl) rfl ?_
          refine WO.nil ?_
          refine qv1 rfl rfl rfl
        · skip
          refine skipT rfl rfl rfl rfl ?_
          refine skipT rfl rfl rfl rfl ?_
          refine skipT rfl rfl rfl rfl ?_
          refine skipT rfl rfl rfl rfl ?_
          refine pu (ev tab rfl) rfl ?_
          refine WO.nil ?_
          refine qv1 rfl rfl rfl
      refine qs ?_
      refine condK rfl (fun h24 => ?_) (fun h24 => ?_)
      · skip
        have hdig : isDig b = true := by simp at h24; simp [isDig]; omega
        have hb48 : 48 ≤ b.toNat ∧ b.toNat ≤ 57 := by simp [isDig] at hdig; omega
        let nx : Nat := 10 * a + (b.toNat - 48)
        have hnext : accD 0 ((bys s).take (k + 1)) = nx := by show _ = 10 * a + (b.toNat - 48); rw [htk, accD_append, ← hI]; simp [accD, hdig]
        have hbound : nx < 10 ^ (k + 1) := by show 10 * a + (b.toNat - 48) < _; rw [Nat.pow_succ]; omega
        refine W.region ?_
        refine pu (ev tab rfl) rfl ?_
        refine pu (puI (ev tab rfl) (y := ((10 * a : Nat) : Int)) (by rw [show (10 : Int) * (a : Int) = ((10 * a : Nat) : Int) by omega]; exact wrap64 (by omega))) rfl ?_
        iterate 2 refine pu (ev tab rfl) rfl ?_
        refine pu (indexStr tab rfl rfl rfl rfl (Int.natCast_nonneg _) (byteList hx)) rfl ?_
        refine pu (puI (ev tab rfl) (y := ((b.toNat - 48 : Nat) : Int)) (by rw [show ((b.toNat : Int) - 48) = ((b.toNat - 48 : Nat) : Int) by omega]; exact wrap_u8 (by omega))) rfl ?_
        refine pu (puI (ev tab rfl) (y := ((b.toNat - 48 : Nat) : Int)) (wrap64 (by omega))) rfl ?_
        refine pu (puI (ev tab rfl) (y := ((10 * a + (b.toNat - 48) : Nat) : Int)) (by rw [show (((10 * a : Nat) : Int) + ((b.toNat - 48 : Nat) : Int)) = ((10 * a + (b.toNat - 48) : Nat) : Int) by omega]; exact wrap64 (by omega))) rfl ?_
        refine pu (ev tab rfl) rfl ?_
        refine WO.nil ?_
        refine qbN ?_
        refine qs ?_
        refine W.region ?_
        iterate 3 refine pu (ev tab rfl) rfl ?_
        refine WO.nil ?_
        refine W.endR [] ⟨(k + 1, nx), ?_⟩ ?_ rfl ?_ ⟨rfl, rfl, trivial⟩ ?_ trivial rfl
        · exact ⟨hlt, hnext.symm, hbound⟩
        · dsimp only; omega
        · repeat' first | exact trivial | refine ⟨rfl, ?_⟩ | refine ⟨step_nat (by assumption) (by assumption), ?_⟩
        · repeat' first | exact trivial | refine ⟨rfl, ?_⟩ | refine ⟨step_nat (by assumption) (by assumption), ?_⟩
      · skip
        have hdig : isDig b = false := by simp at h24; simp [isDig]; omega
        let nx : Nat := a
        have hnext : accD 0 ((bys s).take (k + 1)) = nx := by show _ = a; rw [htk, accD_append, ← hI]; simp [accD, hdig]
        have hbound : nx < 10 ^ (k + 1) := by show a < _; rw [Nat.pow_succ]; omega
        refine W.skip ?_
        refine qbN ?_
        refine qs ?_
        refine W.region ?_
        iterate 3 refine pu (ev tab rfl) rfl ?_
        refine WO.nil ?_
        refine W.endR [] ⟨(k + 1, nx), ?_⟩ ?_ rfl ?_ ⟨rfl, rfl, trivial⟩ ?_ trivial rfl
        · exact ⟨hlt, hnext.symm, hbound⟩
        · dsimp only; omega
        · repeat' first | exact trivial | refine ⟨rfl, ?_⟩ | refine ⟨step_nat (by assumption) (by assumption), ?_⟩
        · repeat' first | exact trivial | refine ⟨rfl, ?_⟩ | refine ⟨step_nat (by assumption) (by assumption), ?_⟩
    · skip
      have hIe : a = accD 0 s.data.toList := by rw [hI, List.take_of_length_le (by omega)]; rfl
      have ha18 : a < 100000000000000000 := by have := Nat.pow_le_pow_right (show 0 < 10 by decide) (show k ≤ 17 by omega); omega
      have hlo : -9223372036854775808 ≤ (a : Int) := by omega
      have hhi : (a : Int) ≤ 9223372036854775807 := by omega
      have hlo2 : -9223372036854775808 ≤ -(a : Int) := by omega
      have hhi2 : -(a : Int) ≤ 9223372036854775807 := by omega
      have hR : numR s = if inR (a : Int) = true ∧ numB (a : Int) = s then ((a : Int), true) else if inR (a : Int) = true ∧ numB (-(a : Int)) = s then (-(a : Int), true) else (0, false) := by unfold numR; rw [if_neg (by omega), ← hIe]
      refine W.exit ?_
      refine qsExit ?_
      refine qlExit ?_
      refine qbExit ?_
      refine qs ?_
      refine W.seq ?_
      refine W.seq ?_
      apply regionB; (case hb => rfl)
      · skip
        refine pu (ev tab rfl) rfl ?_
        refine pu (puCall rfl rfl rfl (rin_fn ..) rfl) rfl ?_
        refine pu (ev tab rfl) rfl ?_
        apply splitJ; (case hj => rfl); (case hl => rfl)
        · skip
          refine goG rfl rfl ?_
          refine pu (ev tab rfl) rfl ?_
          refine goG rfl rfl ?_
          refine pu (puCall rfl rfl rfl ((rtext_fn _ _ (Nat.lt_succ_self _) (by assumption) (by assumption))) rfl) rfl ?_
          refine goG rfl rfl ?_
          refine pu (ev tab rfl) rfl ?_
          refine goG rfl rfl ?_
          iterate 2 refine pu (ev tab rfl) rfl ?_
          refine WO.nil ?_
          refine qv1 rfl rfl rfl
        · skip
          refine skipT rfl rfl rfl rfl ?_
          refine skipT rfl rfl rfl rfl ?_
          refine skipT rfl rfl rfl rfl ?_
          refine skipT rfl rfl rfl rfl ?_
          refine pu (ev tab rfl) rfl ?_
          refine WO.nil ?_
          refine qv1 rfl rfl rfl
      refine qs ?_
      refine condK rfl (fun h40 => ?_) (fun h40 => ?_)
      · skip
        refine W.seq ?_
        refine W.region ?_
        iterate 3 refine pu (ev tab rfl) rfl ?_
        refine WO.nil ?_
        refine qs ?_
        refine W.ret ?_
        refine qsRet ?_
        refine QF.ret0 trivial rfl ?_
        rw [hR]; simp only [norm, normL, oneA]; grind
      · skip
        refine W.skip ?_
        refine qs ?_
        refine W.seq ?_
        refine W.seq ?_
        apply regionB; (case hb => rfl)
        · skip
          refine pu (ev tab rfl) rfl ?_
          refine pu (puCall rfl rfl rfl (rin_fn ..) rfl) rfl ?_
          refine pu (ev tab rfl) rfl ?_
          apply splitJ; (case hj => rfl); (case hl => rfl)
          · skip
            refine goG rfl rfl ?_
            refine pu (ev tab rfl) rfl ?_
            refine goG rfl rfl ?_
            refine pu (puI (ev tab rfl) (y := -(a : Int)) (by rw [Int.zero_sub]; exact wrap64 (by omega))) rfl ?_
            refine goG rfl rfl ?_
            refine pu (puCall rfl rfl rfl ((rtext_fn _ _ (Nat.lt_succ_self _) (by assumption) (by assumption))) rfl) rfl ?_
            refine goG rfl rfl ?_
            refine pu (ev tab rfl) rfl ?_
            refine goG rfl rfl ?_
            iterate 2 refine pu (ev tab rfl) rfl ?_
            refine WO.nil ?_
            refine qv1 rfl rfl rfl
          · skip
            refine skipT rfl rfl rfl rfl ?_
            refine skipT rfl rfl rfl rfl ?_
            refine skipT rfl rfl rfl rfl ?_
            refine skipT rfl rfl rfl rfl ?_
            refine skipT rfl rfl rfl rfl ?_
            refine pu (ev tab rfl) rfl ?_
            refine WO.nil ?_
            refine qv1 rfl rfl rfl
        refine qs ?_
        refine condK rfl (fun h50 => ?_) (fun h50 => ?_)
        · skip
          refine W.seq ?_
          refine W.region ?_
          refine pu (ev tab rfl) rfl ?_
          refine pu (puI (ev tab rfl) (y := -(a : Int)) (by rw [Int.zero_sub]; exact wrap64 (by omega))) rfl ?_
          iterate 2 refine pu (ev tab rfl) rfl ?_
          refine WO.nil ?_
          refine qs ?_
          refine W.ret ?_
          refine qsRet ?_
          refine QF.ret0 trivial rfl ?_
          rw [hR]; simp only [norm, normL, oneA]; grind
        · skip
          refine W.skip ?_
          refine qs ?_
          refine W.seq ?_
          refine W.region ?_
          iterate 2 refine pu (ev tab rfl) rfl ?_
          refine WO.nil ?_
          refine qs ?_
          refine W.ret ?_
          refine QF.ret0 trivial rfl ?_
          rw [hR]; simp only [norm, normL, oneA]; grind
end Go.Proofs.YtlmgnlhagpoggaaDoor
namespace Go.Proofs.YtlmgnlhagpoggaaDoor
open Go.Ab Go.Tb
set_option maxRecDepth 10000
attribute [local irreducible] W WO Pu QS QB QL QF QV QV1 CH QE
theorem rjoin_fn (l : List ByteArray) (sep : ByteArray) (hl : l.length ≤ 100000) (hb : (joinB l sep).size ≤ 1000000) : Does Tryd.prog 30 [.d (.sl (txs l)), .d (.v (.string sep))] (.d (.v (.string (joinB l sep)))) 0 := by
  refine Does.of_W (n := 25) (ts := [4]) Tryd.func30 (by kernel_rfl) rfl Tryd.ntmps30 Tryd.results30 rfl rfl fun C hC hG => ?_
  refine W.seq ?_
  refine W.region ?_
  refine pu (ev tab rfl) rfl ?_
  refine WO.nil ?_
  refine qs ?_
  refine W.seq ?_
  refine W.region ?_
  refine pu (ev tab rfl) rfl ?_
  refine WO.nil ?_
  refine qs ?_
  refine W.seq ?_
  refine W.seq ?_
  refine W.region ?_
  refine pu (ev tab rfl) rfl ?_
  refine WO.nil ?_
  refine qs ?_
  refine W.block ?_
  refine W.len (t := 0) rfl rfl (fun hlen => ?_)
  try simp only [List.length_map, Ex.kc_len] at hlen
  refine W.loopR (ι := {x : Nat // match x with | k => k ≤ l.length})
    (fun x => match x.1 with | k => [(5, .d (.v (.string (joinB (l.take k) sep)))), (6, .d (.v (.int .i64 ((k : Nat) : Int))))]) [(0, _), (1, _)]
    (fun x => match x.1 with | k => []) [] [] 0 (fun x => match x.1 with | k => l.length - k)
    [] ⟨0, ?_⟩ rfl ?_ ⟨rfl, rfl, rfl, rfl, trivial⟩ ?_ trivial rfl ?_
  · exact Nat.zero_le _
  · repeat' first | exact trivial | refine ⟨rfl, ?_⟩ | refine ⟨step_nat (by assumption) (by assumption), ?_⟩
  · repeat' first | exact trivial | refine ⟨rfl, ?_⟩ | refine ⟨step_nat (by assumption) (by assumption), ?_⟩
  rintro ⟨k, hk⟩
  show W _ _ _ _ _ ⟨[(5, .d (.v (.string (joinB (l.take k) sep)))), (6, .d (.v (.int .i64 ((k : Nat) : Int)))), (0, _), (1, _)], [], [], 0⟩
  refine W.seq ?_
  refine W.seq ?_
  refine W.region ?_
  iterate 4 refine pu (ev tab rfl) rfl ?_
  refine WO.nil ?_
  refine qs ?_
  refine eachR (l := l) (k := k) rfl (by simp [Ex.kc_len, bytes_len]) hk (fun x hx hd hlt => ?_) (fun he hd => ?_)
  · skip
    have hb1 := joinB_take l sep (k + 1)
    refine W.skip ?_
    refine qs ?_
    refine W.seq ?_
    refine W.block ?_
    refine W.seq ?_
    refine W.seq ?_
    refine W.region ?_
    iterate 2 refine pu (ev tab rfl) rfl ?_
    refine WO.nil ?_
    refine qs ?_
    refine condK rfl (fun h14 => ?_) (fun h14 => ?_)
    · skip
      have hk0 : 0 < k := by simp at h14; omega
      have heq := joinB_step hk0 hx (sep := sep)
      have hsz : (joinB (l.take k) sep).size + sep.size + x.size ≤ 1000000 := by
        have h1 := congrArg ByteArray.size heq
        simp only [ByteArray.size_append] at h1
        omega
      refine W.region ?_
      iterate 2 refine pu (ev tab rfl) rfl ?_
      refine pu (strAdd rfl rfl (by omega)) rfl ?_
      refine pu (ev tab rfl) rfl ?_
      refine WO.nil ?_
      refine qs ?_
      refine W.region ?_
      iterate 3 refine pu (ev tab rfl) rfl ?_
      refine pu (indexAddr tab rfl rfl rfl rfl rfl rfl (Int.natCast_nonneg _) (idx_map hx) rfl) rfl ?_
      first | refine pu (ev tab rfl) rfl ?_ | refine pu (loadRow tab rfl rfl rfl rfl) rfl ?_ | refine pu (loadBox tab rfl rfl rfl rfl rfl) rfl ?_
      refine pu (puS (strAdd rfl rfl (by first | omega | (simp only [ByteArray.size_append]; omega))) heq) rfl ?_
      refine pu (ev tab rfl) rfl ?_
      refine WO.nil ?_
      refine qbN ?_
      refine qs ?_
      refine W.region ?_
      iterate 3 refine pu (ev tab rfl) rfl ?_
      refine WO.nil ?_
      refine W.endR [] ⟨k + 1, ?_⟩ ?_ rfl ?_ ⟨rfl, rfl, rfl, rfl, trivial⟩ ?_ trivial rfl
      · exact hlt
      · dsimp only; omega
      · repeat' first | exact trivial | refine ⟨rfl, ?_⟩ | refine ⟨step_nat (by assumption) (by assumption), ?_⟩
      · repeat' first | exact trivial | refine ⟨rfl, ?_⟩ | refine ⟨step_nat (by assumption) (by assumption), ?_⟩
    · skip
      have hk0 : k = 0 := by simp at h14; omega
      have heq : joinB (l.take k) sep ++ x = joinB (l.take (k + 1)) sep := by subst hk0; exact joinB_first hx
      have hsz : (joinB (l.take k) sep).size + x.size ≤ 1000000 := by
        have h1 := congrArg ByteArray.size heq
        simp only [ByteArray.size_append] at h1
        omega
      refine W.skip ?_
      refine qs ?_
      refine W.region ?_
      iterate 3 refine pu (ev tab rfl) rfl ?_
      refine pu (indexAddr tab rfl rfl rfl rfl rfl rfl (Int.natCast_nonneg _) (idx_map hx) rfl) rfl ?_
      first | refine pu (ev tab rfl) rfl ?_ | refine pu (loadRow tab rfl rfl rfl rfl) rfl ?_ | refine pu (loadBox tab rfl rfl rfl rfl rfl) rfl ?_
      refine pu (puS (strAdd rfl rfl (by first | omega | (simp only [ByteArray.size_append]; omega))) heq) rfl ?_
      refine pu (ev tab rfl) rfl ?_
      refine WO.nil ?_
      refine qbN ?_
      refine qs ?_
      refine W.region ?_
      iterate 3 refine pu (ev tab rfl) rfl ?_
      refine WO.nil ?_
      refine W.endR [] ⟨k + 1, ?_⟩ ?_ rfl ?_ ⟨rfl, rfl, rfl, rfl, trivial⟩ ?_ trivial rfl
      · exact hlt
      · dsimp only; omega
      · repeat' first | exact trivial | refine ⟨rfl, ?_⟩ | refine ⟨step_nat (by assumption) (by assumption), ?_⟩
      · repeat' first | exact trivial | refine ⟨rfl, ?_⟩ | refine ⟨step_nat (by assumption) (by assumption), ?_⟩
  · skip
    have hgl : joinB (l.take k) sep = joinB l sep := by rw [List.take_of_length_le (by omega)]
    refine W.exit ?_
    refine qsExit ?_
    refine qlExit ?_
    refine qbExit ?_
    refine qs ?_
    refine W.seq ?_
    refine W.region ?_
    iterate 2 refine pu (ev tab rfl) rfl ?_
    refine WO.nil ?_
    refine qs ?_
    refine W.ret ?_
    refine QF.ret0 trivial rfl ?_
    simp only [norm, oneA, hgl]
theorem idxFrm_fn (fid : Nat) (caps : List A) (hc : Still caps) (p : Frm → Bool) (hp : ∀ x : Frm, Does Tryd.prog fid (.ag x.c :: caps) (.d (.v (.bool (p x)))) 0) (l : List Frm) :
    Does Tryd.prog 34 [.d (.sl (l.map Frm.c)), .clo fid caps] (.d (.v (.int .i64 (idx (l.findIdx? p))))) 0 := by
  refine Does.of_W (n := 19) (ts := [4]) Tryd.func34 (by kernel_rfl) rfl Tryd.ntmps34 Tryd.results34 rfl rfl fun C hC hG => ?_
  refine W.seq ?_
  refine W.region ?_
  refine pu (ev tab rfl) rfl ?_
  refine WO.nil ?_
  refine qs ?_
  refine W.seq ?_
  refine W.seq ?_
  refine W.region ?_
  iterate 3 refine pu (ev tab rfl) rfl ?_
  refine WO.nil ?_
  refine qs ?_
  refine W.block ?_
  refine W.len (t := 0) rfl rfl (fun hlen => ?_)
  try simp only [List.length_map, Ex.kc_len] at hlen
  refine W.loopR (ι := {x : Nat // match x with | k => k ≤ l.length ∧ noneBefore p l k})
    (fun x => match x.1 with | k => [(8, .d (.v (.int .i64 ((k : Nat) : Int))))]) [(0, _), (1, _), (7, _)]
    (fun x => match x.1 with | k => []) [] [] 0 (fun x => match x.1 with | k => l.length - k)
    [] ⟨0, ?_⟩ rfl ?_ ⟨rfl, (by first | rfl | exact hc.2), rfl, (by first | rfl | exact hc.2), rfl, (by first | rfl | exact hc.2), trivial⟩ ?_ trivial rfl ?_
  · exact ⟨Nat.zero_le _, noneBefore.zero⟩
  · repeat' first | exact trivial | refine ⟨rfl, ?_⟩ | refine ⟨step_nat (by assumption) (by assumption), ?_⟩
  · repeat' first | exact trivial | refine ⟨rfl, ?_⟩ | refine ⟨step_nat (by assumption) (by assumption), ?_⟩
  rintro ⟨k, hk, hI⟩
  show W _ _ _ _ _ ⟨[(8, .d (.v (.int .i64 ((k : Nat) : Int)))), (0, _), (1, _), (7, _)], [], [], 0⟩
  refine W.seq ?_
  refine W.region ?_
  refine pu (ev tab rfl) rfl ?_
  refine WO.nil ?_
  refine qs ?_
  refine W.seq ?_
  refine eachR (l := l) (k := k) rfl (by simp [Ex.kc_len, bytes_len]) hk (fun x hx hd hlt => ?_) (fun he hd => ?_)
  · skip
    refine W.skip ?_
    refine qs ?_
    refine W.seq ?_
    refine W.block ?_
    refine W.seq ?_
    refine W.region ?_
    iterate 2 refine pu (ev tab rfl) rfl ?_
    refine WO.nil ?_
    refine qs ?_
    refine W.seq ?_
    refine W.region ?_
    iterate 3 refine pu (ev tab rfl) rfl ?_
    refine pu (indexAddr tab rfl rfl rfl rfl rfl rfl (Int.natCast_nonneg _) (idx_map hx) rfl) rfl ?_
    first | refine pu (ev tab rfl) rfl ?_ | refine pu (loadRow tab rfl rfl rfl rfl) rfl ?_ | refine pu (loadBox tab rfl rfl rfl rfl rfl) rfl ?_
    refine pu (puCall rfl rfl (by rw [List.map_append, hc.1 _ 3]; rfl) (hp x) rfl) rfl ?_
    refine WO.nil ?_
    refine qs ?_
    refine condK rfl (fun h16 => ?_) (fun h16 => ?_)
    · skip
      refine W.seq ?_
      refine W.region ?_
      iterate 2 refine pu (ev tab rfl) rfl ?_
      refine WO.nil ?_
      refine qs ?_
      refine W.ret ?_
      refine qbRet ?_
      refine qsRet ?_
      refine qlRet ?_
      refine qbRet ?_
      refine qsRet ?_
      refine QF.ret0 trivial rfl ?_
      simp only [norm, oneA]; rw [hI.found hx h16]; rfl
    · skip
      refine W.skip ?_
      refine qbN ?_
      refine qs ?_
      refine W.region ?_
      iterate 2 refine pu (ev tab rfl) rfl ?_
      refine WO.nil ?_
      refine W.endR [] ⟨k + 1, ?_⟩ ?_ rfl ?_ ⟨rfl, (by first | rfl | exact hc.2), rfl, (by first | rfl | exact hc.2), rfl, (by first | rfl | exact hc.2), trivial⟩ ?_ trivial rfl
      · exact ⟨hlt, hI.step hx h16⟩
      · dsimp only; omega
      · repeat' first | exact trivial | refine ⟨rfl, ?_⟩ | refine ⟨step_nat (by assumption) (by assumption), ?_⟩
      · repeat' first | exact trivial | refine ⟨rfl, ?_⟩ | refine ⟨step_nat (by assumption) (by assumption), ?_⟩
  · skip
    refine W.exit ?_
    refine qsExit ?_
    refine qlExit ?_
    refine qbExit ?_
    refine qs ?_
    refine W.seq ?_
    refine W.region ?_
    refine pu (ev tab rfl) rfl ?_
    refine WO.nil ?_
    refine qs ?_
    refine W.ret ?_
    refine QF.ret0 trivial rfl ?_
    simp only [norm, oneA]; rw [hI.end_ he]; rfl
theorem isWord_fn (w : ByteArray) (f : Frm) : Does Tryd.prog 36 [.ag f.c, .row [.d (.v (.string w))]] (.d (.v (.bool (decide (f.word = w) && !decide (w = B #[]))))) 0 := by
  refine Does.of_W (n := 12) (ts := [3]) Tryd.func36 (by kernel_rfl) rfl Tryd.ntmps36 Tryd.results36 rfl rfl fun C hC hG => ?_
  refine W.seq ?_
  refine W.region ?_
  refine boxR rfl rfl rfl ?_
  refine pu (ev tab rfl) rfl ?_
  refine WO.nil ?_
  refine qs ?_
  refine W.seq ?_
  apply regionB; (case hb => rfl)
  · skip
    refine pu (ev tab rfl) rfl ?_
    first | refine pu (ev tab rfl) rfl ?_ | refine pu (loadRow tab rfl rfl rfl rfl) rfl ?_ | refine pu (loadBox tab rfl rfl rfl rfl rfl) rfl ?_
    first | refine pu (ev tab rfl) rfl ?_ | refine pu (loadRow tab rfl rfl rfl rfl) rfl ?_ | refine pu (loadBox tab rfl rfl rfl rfl rfl) rfl ?_
    iterate 2 refine pu (ev tab rfl) rfl ?_
    apply splitJ; (case hj => rfl); (case hl => rfl)
    · skip
      refine goG rfl rfl ?_
      first | refine pu (ev tab rfl) rfl ?_ | refine pu (loadRow tab rfl rfl rfl rfl) rfl ?_ | refine pu (loadBox tab rfl rfl rfl rfl rfl) rfl ?_
      refine goG rfl rfl ?_
      iterate 3 refine pu (ev tab rfl) rfl ?_
      refine WO.nil ?_
      refine qv1 rfl rfl rfl
    · skip
      refine skipT rfl rfl rfl rfl ?_
      refine skipT rfl rfl rfl rfl ?_
      iterate 2 refine pu (ev tab rfl) rfl ?_
      refine WO.nil ?_
      refine qv1 rfl rfl rfl
  refine qs ?_
  refine W.ret ?_
  refine QF.ret0 trivial rfl ?_
  simp only [norm, oneA]; grind
theorem kinds0 {k : Int} (h1 : 0 ≤ k) (h2 : k < 13) : k = 0 ∨ k = 1 ∨ k = 2 ∨ k = 3 ∨ k = 4 ∨ k = 5 ∨ k = 6 ∨ k = 7 ∨ k = 8 ∨ k = 9 ∨ k = 10 ∨ k = 11 ∨ k = 12 := by omega
theorem rword_fn (k : Int) (h1 : 0 ≤ k) (h2 : k < 13) : Does Tryd.prog 29 [.d (.v (.int .i64 k))] (.d (.v (.string (frmOf k).word))) 0 := by
  refine Does.of_W (n := 7) (ts := [2]) Tryd.func29 (by kernel_rfl) rfl Tryd.ntmps29 Tryd.results29 rfl rfl fun C hC hG => ?_
  refine W.seq ?_
  refine W.region ?_
  refine pu (ev tab rfl) rfl ?_
  refine WO.nil ?_
  refine qs ?_
  refine W.seq ?_
  refine W.region ?_
  refine pu (buildV tab rfl rfl rfl rfl rfl rfl rfl rfl rfl) rfl ?_
  refine pu (ev tab rfl) rfl ?_
  refine pu (indexAddr (l := [cs (frmOf k).word]) tab rfl rfl rfl rfl rfl rfl h1 (by rcases kinds0 h1 h2 with h | h | h | h | h | h | h | h | h | h | h | h | h <;> subst h <;> rfl) rfl) rfl ?_
  first | refine pu (ev tab rfl) rfl ?_ | refine pu (loadRow tab rfl rfl rfl rfl) rfl ?_ | refine pu (loadBox tab rfl rfl rfl rfl rfl) rfl ?_
  refine pu (ev tab rfl) rfl ?_
  refine WO.nil ?_
  refine qs ?_
  refine W.ret ?_
  refine QF.ret0 trivial rfl ?_
  rfl
def rb (ws : List ByteArray) (bad : Bool) : List A := [.d (.sl (txs ws)), .d (.v (.bool bad))]
theorem take_fn (ws : List ByteArray) (bad : Bool) : DoesB Tryd.prog 33 [.ptr 0 0] [[.d (.sl (txs ws)), .d (.v (.bool bad))]] 0 (.d (.v (.string (ws.headD (B #[]))))) [[.d (.sl (txs ws.tail)), .d (.v (.bool (bad || ws.isEmpty)))]] 0 := by
  cases ws with
  | nil =>
    have hb : (bad || ([] : List ByteArray).isEmpty) = true := by simp
    rw [hb]
    refine DoesB.of_V tab (n := 28) (rs := [.tmp 2]) Tryd.func33 (by kernel_rfl) rfl Tryd.ntmps33 Tryd.results33 rfl rfl fun C hC hG => ?_
    refine W.seq ?_
    refine W.region ?_
    refine pu (ev tab rfl) rfl ?_
    refine WO.nil ?_
    refine qs ?_
    refine W.seq ?_
    refine W.seq ?_
    refine W.region ?_
    iterate 3 refine pu (ev tab rfl) rfl ?_
    first | refine pu (ev tab rfl) rfl ?_ | refine pu (loadRow tab rfl rfl rfl rfl) rfl ?_ | refine pu (loadBox tab rfl rfl rfl rfl rfl) rfl ?_
    iterate 2 refine pu (ev tab rfl) rfl ?_
    refine WO.nil ?_
    refine qs ?_
    refine W.condT rfl ?_
    refine W.seq ?_
    refine W.region ?_
    iterate 3 refine pu (ev tab rfl) rfl ?_
    refine storeR tab rfl rfl rfl rfl rfl rfl rfl rfl ?_
    refine WO.nil ?_
    refine qs ?_
    refine W.seq ?_
    refine W.region ?_
    refine pu (ev tab rfl) rfl ?_
    refine WO.nil ?_
    refine qs ?_
    refine W.ret ?_
    refine qsRet ?_
    refine QB1.end tab [] trivial rfl rfl rfl rfl ?_ ?_
    · exact ⟨rfl, trivial⟩
    rfl
  | cons w r =>
    have hb : (bad || (w :: r).isEmpty) = bad := by simp
    rw [hb]
    refine DoesB.of_V tab (n := 28) (rs := [.tmp 2]) Tryd.func33 (by kernel_rfl) rfl Tryd.ntmps33 Tryd.results33 rfl rfl fun C hC hG => ?_
    refine W.seq ?_
    refine W.region ?_
    refine pu (ev tab rfl) rfl ?_
    refine WO.nil ?_
    refine qs ?_
    refine W.seq ?_
    refine W.seq ?_
    refine W.region ?_
    iterate 3 refine pu (ev tab rfl) rfl ?_
    first | refine pu (ev tab rfl) rfl ?_ | refine pu (loadRow tab rfl rfl rfl rfl) rfl ?_ | refine pu (loadBox tab rfl rfl rfl rfl rfl) rfl ?_
    iterate 2 refine pu (ev tab rfl) rfl ?_
    refine WO.nil ?_
    refine qs ?_
    refine condK rfl (fun h9 => ?_) (fun h9 => ?_)
    · skip
      exfalso
      simp at h9
      omega
    · skip
      refine W.skip ?_
      refine qs ?_
      refine W.seq ?_
      refine W.region ?_
      iterate 3 refine pu (ev tab rfl) rfl ?_
      first | refine pu (ev tab rfl) rfl ?_ | refine pu (loadRow tab rfl rfl rfl rfl) rfl ?_ | refine pu (loadBox tab rfl rfl rfl rfl rfl) rfl ?_
      refine pu (indexAddr (l := sc w) tab rfl rfl rfl rfl rfl rfl (Int.le_refl _) rfl rfl) rfl ?_
      first | refine pu (ev tab rfl) rfl ?_ | refine pu (loadRow tab rfl rfl rfl rfl) rfl ?_ | refine pu (loadBox tab rfl rfl rfl rfl rfl) rfl ?_
      refine pu (ev tab rfl) rfl ?_
      refine WO.nil ?_
      refine qs ?_
      refine W.seq ?_
      refine W.region ?_
      iterate 4 refine pu (ev tab rfl) rfl ?_
      first | refine pu (ev tab rfl) rfl ?_ | refine pu (loadRow tab rfl rfl rfl rfl) rfl ?_ | refine pu (loadBox tab rfl rfl rfl rfl rfl) rfl ?_
      refine pu (slFromM (fn := sc) (l := w :: r) (k := 1) tab rfl rfl rfl rfl rfl rfl (fun _ => rfl) (by simp)) rfl ?_
      iterate 2 refine pu (ev tab rfl) rfl ?_
      refine storeR tab rfl rfl rfl rfl rfl rfl rfl rfl ?_
      refine WO.nil ?_
      refine qs ?_
      refine W.seq ?_
      refine W.region ?_
      iterate 2 refine pu (ev tab rfl) rfl ?_
      refine WO.nil ?_
      refine qs ?_
      refine W.ret ?_
      refine QB1.end tab [] trivial rfl rfl rfl rfl ?_ ?_
      · exact ⟨rfl, trivial⟩
      rfl
theorem takeNum_fn (ws : List ByteArray) (bad : Bool) (hs : (ws.headD (B #[])).size ≤ 281474976710656) : DoesB Tryd.prog 32 [.ptr 0 0] [[.d (.sl (txs ws)), .d (.v (.bool bad))]] 0 (.d (.v (.int .i64 (numP (ws.headD (B #[]))).1))) [[.d (.sl (txs ws.tail)), .d (.v (.bool (bad || ws.isEmpty || !(numP (ws.headD (B #[]))).2)))]] 0 := by
  refine DoesB.of_V tab (n := 23) (rs := [.tmp 2]) Tryd.func32 (by kernel_rfl) rfl Tryd.ntmps32 Tryd.results32 rfl rfl fun C hC hG => ?_
  refine W.seq ?_
  refine W.region ?_
  refine pu (ev tab rfl) rfl ?_
  refine WO.nil ?_
  refine qs ?_
  refine W.seq ?_
  refine W.region ?_
  refine pu (ev tab rfl) rfl ?_
  refine callB [0] [] rfl rfl rfl rfl rfl ((take_fn ws bad)) rfl rfl (by rfl) (by rfl) rfl rfl rfl rfl ?_
  refine pu (puCall rfl rfl rfl ((nparse_fn _ (by assumption))) rfl) rfl ?_
  iterate 5 refine pu (ev tab rfl) rfl ?_
  refine WO.nil ?_
  refine qs ?_
  refine W.seq ?_
  refine W.region ?_
  iterate 4 refine pu (ev tab rfl) rfl ?_
  first | refine pu (ev tab rfl) rfl ?_ | refine pu (loadRow tab rfl rfl rfl rfl) rfl ?_ | refine pu (loadBox tab rfl rfl rfl rfl rfl) rfl ?_
  refine pu (ev tab rfl) rfl ?_
  refine splitG rfl rfl (fun _ => ?_) (fun _ => ?_)
  · skip
    refine skipT rfl rfl rfl rfl ?_
    refine skipT rfl rfl rfl rfl ?_
    iterate 3 refine pu (ev tab rfl) rfl ?_
    refine storeR tab rfl rfl rfl rfl rfl rfl rfl rfl ?_
    refine WO.nil ?_
    refine qs ?_
    refine W.seq ?_
    refine W.region ?_
    iterate 2 refine pu (ev tab rfl) rfl ?_
    refine WO.nil ?_
    refine qs ?_
    refine W.ret ?_
    refine QB1.end tab [] trivial rfl rfl rfl rfl ?_ ?_
    · rename_i hx
      rw [hx]
      exact ⟨rfl, trivial⟩
    rfl
  · skip
    refine goG rfl rfl ?_
    refine pu (ev tab rfl) rfl ?_
    refine goG rfl rfl ?_
    iterate 4 refine pu (ev tab rfl) rfl ?_
    refine storeR tab rfl rfl rfl rfl rfl rfl rfl rfl ?_
    refine WO.nil ?_
    refine qs ?_
    refine W.seq ?_
    refine W.region ?_
    iterate 2 refine pu (ev tab rfl) rfl ?_
    refine WO.nil ?_
    refine qs ?_
    refine W.ret ?_
    refine QB1.end tab [] trivial rfl rfl rfl rfl ?_ ?_
    · rename_i hx
      rw [hx]
      exact ⟨rfl, trivial⟩
    rfl
end Go.Proofs.YtlmgnlhagpoggaaDoor
namespace Go.Proofs.YtlmgnlhagpoggaaDoor
open Go.Ab Go.Tb
set_option maxRecDepth 10000
attribute [local irreducible] W WO Pu QS QB QL QF QV QV1 CH QE
def cutP (s : ByteArray) (c : UInt8) (k : Nat) : List ByteArray := (cutL c ((bys s).take k)).map ofL
theorem cutP_end {s : ByteArray} {c : UInt8} {k : Nat} (h : (bys s).length ≤ k) : cutP s c k = cutB s c := by unfold cutP cutB; rw [List.take_of_length_le h]; rfl
theorem cutP_len {s : ByteArray} {c : UInt8} {k : Nat} : (cutP s c k).length ≤ k + 1 := by
  have h := cutL_len c ((bys s).take k)
  have h2 : ((bys s).take k).length ≤ k := List.length_take_le _ _
  unfold cutP
  rw [List.length_map]
  omega
theorem cutP_pos {s : ByteArray} {c : UInt8} {k : Nat} : 0 < (cutP s c k).length := by
  obtain ⟨h, t, e⟩ := cutL_cons c ((bys s).take k)
  unfold cutP
  rw [e]
  simp
theorem take_snoc {s : ByteArray} {k : Nat} {b : UInt8} (h : (bys s)[k]? = some b) : (bys s).take (k + 1) = (bys s).take k ++ [b] := by rw [List.take_add_one, h]; rfl
theorem cutP_eq {s : ByteArray} {c b : UInt8} {k : Nat} (h : (bys s)[k]? = some b) (e : b = c) : cutP s c k ++ [B #[]] = cutP s c (k + 1) := by
  unfold cutP
  rw [take_snoc h, cut_snoc, if_pos e, List.map_append]
  rfl
def lastP (s : ByteArray) (c : UInt8) (k : Nat) : ByteArray := (cutP s c k).getLastD (B #[])
theorem cutP_ne {s : ByteArray} {c b : UInt8} {k : Nat} (h : (bys s)[k]? = some b) (e : b ≠ c) : (cutP s c k).dropLast ++ [lastP s c k ++ ofL [b]] = cutP s c (k + 1) := by
  obtain ⟨x, t, hx⟩ := cutL_cons c ((bys s).take k)
  unfold lastP cutP
  rw [take_snoc h, cut_snoc, if_neg e, hx]
  simp only [List.map_append, List.map_dropLast, List.map_cons, List.map_nil]
  congr 2
  rw [show ofL ((x :: t).getLastD [] ++ [b]) = ofL ((x :: t).getLastD []) ++ ofL [b] from (ofL_append _ _).symm]
  congr 1
  clear hx
  induction t generalizing x with
  | nil => rfl
  | cons y r ih => simpa [List.getLastD] using ih y
theorem last_at {l : List ByteArray} (h : 0 < l.length) : l[l.length - 1]? = some (l.getLastD (B #[])) := by
  cases l with
  | nil => simp at h
  | cons a r => rw [List.getLastD_cons, ← List.getLast?_eq_getElem?]; simp [List.getLast?_cons]
theorem set_last {l : List ByteArray} (h : 0 < l.length) (y : ByteArray) : (l.map sc).set (l.length - 1) (sc y) = (l.dropLast ++ [y]).map sc := by
  rw [List.map_append, List.map_dropLast]
  have : (l.map sc) ≠ [] := by cases l with
    | nil => simp at h
    | cons a r => simp
  rw [show l.length - 1 = (l.map sc).length - 1 by simp]
  generalize l.map sc = m at this
  clear h
  induction m with
  | nil => exact absurd rfl this
  | cons a r ih =>
    cases r with
    | nil => rfl
    | cons b r =>
      have := ih (by simp)
      simp only [List.length_cons, Nat.add_sub_cancel, List.dropLast_cons_cons, List.cons_append] at this ⊢
      rw [List.set_cons_succ, this]
theorem extract_one {s : ByteArray} {k : Nat} {b : UInt8} (h : (bys s)[k]? = some b) : s.extract k (k + 1) = ofL [b] := by
  refine data_inj ?_
  have hd : (bys s).drop k = b :: (bys s).drop (k + 1) := by
    have hlt : k < (bys s).length := (List.getElem?_eq_some_iff.1 h).1
    have := List.drop_eq_getElem_cons hlt
    rw [this, (List.getElem?_eq_some_iff.1 h).2]
  have : (s.extract k (k + 1)).data.toList = ((bys s).drop k).take 1 := by
    simp [bys, ByteArray.data_extract]
  rw [this, hd]
  rfl
theorem cut_fn (s : ByteArray) (c : UInt8) (hs : s.size ≤ 1000000) : Does Tryd.prog 39 [.d (.v (.string s)), .d (.v (.int .u8 c.toNat))] (.d (.sl (txs (cutB s c)))) 0 := by
  have hbl : (bys s).length = s.size := Array.length_toList
  have hlenm : (bys s).length ≤ maxLen := by simp only [maxLen]; omega
  refine Does.of_W (n := 40) (ts := [4]) Tryd.func39 (by kernel_rfl) rfl Tryd.ntmps39 Tryd.results39 rfl rfl fun C hC hG => ?_
  refine W.seq ?_
  refine W.region ?_
  refine pu (ev tab rfl) rfl ?_
  refine WO.nil ?_
  refine qs ?_
  refine W.seq ?_
  refine W.region ?_
  refine buildX (es := [sc (B #[])]) tab rfl rfl rfl rfl rfl rfl rfl (by simp) rfl ?_
  refine pu (ev tab rfl) rfl ?_
  refine WO.nil ?_
  refine qs ?_
  refine W.seq ?_
  refine W.seq ?_
  refine W.region ?_
  refine pu (ev tab rfl) rfl ?_
  refine WO.nil ?_
  refine qs ?_
  refine W.block ?_
  refine W.loopR (ι := {x : Nat // match x with | k => k ≤ (bys s).length})
    (fun x => match x.1 with | k => [(5, .xs 0 ((cutP s c k).map sc)), (6, .d (.v (.int .i64 ((k : Nat) : Int))))]) [(0, _), (1, _)]
    (fun x => match x.1 with | k => []) [] [0] 1 (fun x => match x.1 with | k => (bys s).length - k)
    [0] ⟨0, ?_⟩ rfl ?_ ⟨rfl, rfl, rfl, rfl, trivial⟩ ?_ trivial rfl ?_
  · exact Nat.zero_le _
  · repeat' first | exact trivial | refine ⟨rfl, ?_⟩ | refine ⟨step_nat (by assumption) (by assumption), ?_⟩
  · repeat' first | exact trivial | refine ⟨rfl, ?_⟩ | refine ⟨step_nat (by assumption) (by assumption), ?_⟩
  rintro ⟨k, hk⟩
  show W _ _ _ _ _ ⟨[(5, .xs 0 ((cutP s c k).map sc)), (6, .d (.v (.int .i64 ((k : Nat) : Int)))), (0, _), (1, _)], [], [0], 1⟩
  refine W.seq ?_
  refine W.seq ?_
  refine W.region ?_
  iterate 4 refine pu (ev tab rfl) rfl ?_
  refine WO.nil ?_
  refine qs ?_
  refine eachR (l := bys s) (k := k) rfl (by simp [bytes_len]) hk (fun b hx hd hlt => ?_) (fun he hd => ?_)
  · skip
    have hL := cutP_len (s := s) (c := c) (k := k)
    have hL0 := cutP_pos (s := s) (c := c) (k := k)
    have hlen1 : ∀ (l : List ByteArray), ∀ (x : List D), x ∈ l.map sc → x.length = 1 := by
      intro l x hx
      obtain ⟨y, _, rfl⟩ := List.mem_map.1 hx
      rfl
    refine W.skip ?_
    refine qs ?_
    refine W.seq ?_
    refine W.block ?_
    refine W.seq ?_
    refine W.region ?_
    iterate 2 refine pu (ev tab rfl) rfl ?_
    refine pu (indexStr tab rfl rfl rfl rfl (Int.natCast_nonneg _) (byteList hx)) rfl ?_
    iterate 2 refine pu (ev tab rfl) rfl ?_
    refine WO.nil ?_
    refine qs ?_
    refine condK rfl (fun h18 => ?_) (fun h18 => ?_)
    · skip
      have hbc : b = c := by simp at h18; exact UInt8.toNat_inj.1 (by omega)
      have hes : (cutP s c k).map sc ++ [sc (B #[])] = (cutP s c (k + 1)).map sc := by rw [← cutP_eq hx hbc, List.map_append]; rfl
      refine W.region ?_
      refine pu (ev tab rfl) rfl ?_
      refine pu (buildV tab rfl rfl rfl rfl rfl rfl rfl rfl rfl) rfl ?_
      refine appendXR (es2 := [sc (B #[])]) tab rfl rfl rfl rfl rfl rfl rfl rfl rfl rfl hes (by intro x hx; rcases List.mem_append.1 hx with hx | hx; exact hlen1 _ x hx; simp at hx; subst hx; rfl) (by show (((cutP s c k).map sc).length + 1) * 16 ≤ _; rw [List.length_map]; omega) rfl ?_
      refine pu (ev tab rfl) rfl ?_
      refine WO.nil ?_
      refine qbN ?_
      refine qs ?_
      refine W.region ?_
      iterate 3 refine pu (ev tab rfl) rfl ?_
      refine WO.nil ?_
      refine W.endR [1] ⟨k + 1, ?_⟩ ?_ rfl ?_ ⟨rfl, rfl, rfl, rfl, trivial⟩ ?_ trivial rfl
      · exact hlt
      · dsimp only; omega
      · repeat' first | exact trivial | refine ⟨rfl, ?_⟩ | refine ⟨step_nat (by assumption) (by assumption), ?_⟩
      · repeat' first | exact trivial | refine ⟨rfl, ?_⟩ | refine ⟨step_nat (by assumption) (by assumption), ?_⟩
    · skip
      have hbc : b ≠ c := by rintro rfl; simp at h18
      have hes : ((cutP s c k).map sc).set ((cutP s c k).length - 1) (putD (sc (lastP s c k)) 0 (sc (lastP s c k ++ ofL [b]))) = (cutP s c (k + 1)).map sc := by
        rw [← cutP_ne hx hbc, ← set_last hL0]
        rfl
      have hsub : IntKind.i64.wrap ((((cutP s c k).map sc).length : Int) - 1) = (((cutP s c k).length - 1 : Nat) : Int) := by rw [List.length_map, wrap64 (by omega)]; omega
      have hlast : ((cutP s c k).map sc)[((((cutP s c k).length - 1 : Nat) : Int)).toNat]? = some (sc (lastP s c k)) := by rw [List.getElem?_map, show ((((cutP s c k).length - 1 : Nat) : Int)).toNat = (cutP s c k).length - 1 from rfl, last_at hL0]; rfl
      have hlsz : (lastP s c k).size ≤ 1000000 := by
        have hm : lastP s c k ∈ cutP s c k := List.mem_of_getElem? (last_at hL0)
        unfold cutP at hm
        obtain ⟨x, hx1, hx2⟩ := List.mem_map.1 hm
        have h1 := cutL_mem c _ x hx1
        have h2 : ((bys s).take k).length ≤ (bys s).length := List.length_take_le' _ _
        rw [← hx2, ofL_size]
        omega
      refine W.regionE tab 16 0 (by kernel_rfl) rfl rfl ?_
      refine cePu rfl (ev tab rfl) rfl ?_
      refine cePu rfl (ev tab rfl) rfl ?_
      refine cePu rfl (lenX tab rfl rfl rfl rfl) rfl ?_
      refine cePu rfl (puI (ev tab rfl) hsub) rfl ?_
      refine cePu rfl (ev tab rfl) rfl ?_
      refine cePu rfl (ev tab rfl) rfl ?_
      refine cePu rfl (lenX tab rfl rfl rfl rfl) rfl ?_
      refine cePu rfl (puI (ev tab rfl) hsub) rfl ?_
      refine cePu rfl (indexX (l := sc (lastP s c k)) tab rfl rfl rfl rfl rfl rfl (Int.natCast_nonneg _) hlast rfl) rfl ?_
      refine cePu rfl (loadX tab rfl rfl rfl) rfl ?_
      refine cePu rfl (ev tab rfl) rfl ?_
      refine cePu rfl (ev tab rfl) rfl ?_
      refine cePu rfl (ev tab rfl) rfl ?_
      refine cePu rfl (puI (ev tab rfl) (y := ((k + 1 : Nat) : Int)) (wrap_nat (n := k + 1) (Nat.lt_succ_self k) (by simp only [maxLen]; omega))) rfl ?_
      refine cePu rfl (puS (strPart (s := s) (l := (k : Int)) (h := ((k + 1 : Nat) : Int)) tab rfl rfl rfl rfl rfl (Int.natCast_nonneg _) (by omega) (by omega)) (extract_one hx)) rfl ?_
      refine cePu rfl (strAdd rfl rfl (by rw [show (ofL [b]).size = 1 from rfl]; omega)) rfl ?_
      refine CE.nil ?_
      refine pu (indexX (l := sc (lastP s c k)) tab rfl rfl rfl rfl rfl rfl (Int.natCast_nonneg _) hlast rfl) rfl ?_
      refine storeX tab 5 rfl rfl rfl rfl hlast rfl rfl rfl rfl rfl rfl hes rfl ?_
      refine WO.nil ?_
      refine qbN ?_
      refine qs ?_
      refine W.region ?_
      iterate 3 refine pu (ev tab rfl) rfl ?_
      refine WO.nil ?_
      refine W.endR [1] ⟨k + 1, ?_⟩ ?_ rfl ?_ ⟨rfl, rfl, rfl, rfl, trivial⟩ ?_ trivial rfl
      · exact hlt
      · dsimp only; omega
      · repeat' first | exact trivial | refine ⟨rfl, ?_⟩ | refine ⟨step_nat (by assumption) (by assumption), ?_⟩
      · repeat' first | exact trivial | refine ⟨rfl, ?_⟩ | refine ⟨step_nat (by assumption) (by assumption), ?_⟩
  · skip
    have hfin := cutP_end (s := s) (c := c) (k := k) (by omega)
    refine W.exit ?_
    refine qsExit ?_
    refine qlExit ?_
    refine qbExit ?_
    refine qs ?_
    refine W.seq ?_
    refine W.region ?_
    iterate 2 refine pu (ev tab rfl) rfl ?_
    refine WO.nil ?_
    refine qs ?_
    refine freezeX 4 rfl rfl rfl rfl ?_
    refine W.ret ?_
    refine QF.ret0 trivial rfl ?_
    simp only [norm, oneA]; rw [hfin]; rfl
end Go.Proofs.YtlmgnlhagpoggaaDoor
namespace Go.Proofs.YtlmgnlhagpoggaaDoor
open Go.Ab Go.Tb
set_option maxRecDepth 10000
attribute [local irreducible] W WO Pu QS QB QL QF QV QV1 CH QE
theorem joinW_fn {es : List (List D)} (l : List ByteArray) (sep : ByteArray) (he : es = l.map sc) (hl : l.length ≤ 100000) (hb : (joinB l sep).size ≤ 1000000) : Does Tryd.prog 27 [.d (.sl es), .d (.v (.string sep))] (.d (.v (.string (joinB l sep)))) 0 := by
  subst he
  exact join_fn l sep hl hb
theorem rjoinW_fn {es : List (List D)} (l : List ByteArray) (sep : ByteArray) (he : es = l.map sc) (hl : l.length ≤ 100000) (hb : (joinB l sep).size ≤ 1000000) : Does Tryd.prog 30 [.d (.sl es), .d (.v (.string sep))] (.d (.v (.string (joinB l sep)))) 0 := by
  subst he
  exact rjoin_fn l sep hl hb
theorem int_of {n : Int} (h : inR n = true) : -9223372036854775808 ≤ n ∧ n ≤ 9223372036854775807 := by have := inR_iff.1 h; omega
theorem etext_fn (e : Ev) : Does Tryd.prog 12 [.ag e.c] (.d (.v (.string (textE e)))) 0 := by
  refine Does.of_W (n := 67) (ts := [2]) Tryd.func12 (by kernel_rfl) rfl Tryd.ntmps12 Tryd.results12 rfl rfl fun C hC hG => ?_
  refine W.seq ?_
  refine W.region ?_
  refine boxR rfl rfl rfl ?_
  refine pu (ev tab rfl) rfl ?_
  refine WO.nil ?_
  refine qs ?_
  refine W.seq ?_
  refine W.seq ?_
  refine W.region ?_
  first | refine pu (ev tab rfl) rfl ?_ | refine pu (loadRow tab rfl rfl rfl rfl) rfl ?_ | refine pu (loadBox tab rfl rfl rfl rfl rfl) rfl ?_
  refine pu (puCall rfl rfl rfl (echeck_fn ..) rfl) rfl ?_
  refine pu (ev tab rfl) rfl ?_
  refine WO.nil ?_
  refine qs ?_
  refine condK rfl (fun h8 => ?_) (fun h8 => ?_)
  · skip
    have hg : textE e = B #[] := by unfold textE; rw [if_neg (by simpa using h8)]
    refine W.seq ?_
    refine W.region ?_
    refine pu (ev tab rfl) rfl ?_
    refine WO.nil ?_
    refine qs ?_
    refine W.ret ?_
    refine qsRet ?_
    refine QF.ret0 trivial rfl ?_
    rw [hg]; rfl
  · skip
    have hc : checkE e = 0 := by simpa using h8
    have g := good_of hc
    obtain ⟨w1, w2, w3⟩ := g.wordsSize
    have hg : textE e = joinB (wordsE e) wSpace := by unfold textE; rw [if_pos hc]
    refine W.skip ?_
    refine qs ?_
    refine W.seq ?_
    refine W.region ?_
    refine pu (ev tab rfl) rfl ?_
    first | refine pu (ev tab rfl) rfl ?_ | refine pu (loadRow tab rfl rfl rfl rfl) rfl ?_ | refine pu (loadBox tab rfl rfl rfl rfl rfl) rfl ?_
    refine pu (puCall rfl rfl rfl (formOf_fn ..) rfl) rfl ?_
    iterate 3 refine pu (ev tab rfl) rfl ?_
    refine allocR tab rfl rfl rfl ?_
    refine storeR tab rfl rfl rfl rfl rfl rfl rfl rfl ?_
    refine pu (ev tab rfl) rfl ?_
    refine WO.nil ?_
    refine qs ?_
    refine W.seq ?_
    refine W.regionD tab (by kernel_rfl) ?_
    refine chPu (ev tab rfl) rfl ?_
    first | refine chPu (ev tab rfl) rfl ?_ | refine chPu (loadRow tab rfl rfl rfl rfl) rfl ?_ | refine chPu (loadBox tab rfl rfl rfl rfl rfl) rfl ?_
    refine chPu (puCall rfl rfl rfl (text_fn e.time (int_of g.timeIn).1 (int_of g.timeIn).2) rfl) rfl ?_
    refine chPu (ev tab rfl) rfl ?_
    first | refine chPu (ev tab rfl) rfl ?_ | refine chPu (loadRow tab rfl rfl rfl rfl) rfl ?_ | refine chPu (loadBox tab rfl rfl rfl rfl rfl) rfl ?_
    refine chPu (buildFl tab rfl rfl rfl rfl rfl rfl rfl rfl rfl) rfl ?_
    refine chPu (ev tab rfl) rfl ?_
    refine CH.nil ?_
    refine qs ?_
    refine W.seq ?_
    refine W.seq ?_
    refine W.region ?_
    refine pu (ev tab rfl) rfl ?_
    first | refine pu (ev tab rfl) rfl ?_ | refine pu (loadRow tab rfl rfl rfl rfl) rfl ?_ | refine pu (loadBox tab rfl rfl rfl rfl rfl) rfl ?_
    refine WO.nil ?_
    refine qs ?_
    refine condK rfl (fun h22 => ?_) (fun h22 => ?_)
    · skip
      refine W.region ?_
      iterate 2 refine pu (ev tab rfl) rfl ?_
      first | refine pu (ev tab rfl) rfl ?_ | refine pu (loadRow tab rfl rfl rfl rfl) rfl ?_ | refine pu (loadBox tab rfl rfl rfl rfl rfl) rfl ?_
      refine pu (buildV tab rfl rfl rfl rfl rfl rfl rfl rfl rfl) rfl ?_
      first | refine appendFl tab rfl rfl rfl rfl rfl rfl rfl rfl rfl rfl rfl rfl (lensB_mem rfl) (Nat.le_of_ble_eq_true rfl) ?_ | refine appendO tab rfl rfl rfl rfl rfl rfl rfl rfl rfl rfl rfl rfl rfl rfl ?_
      refine pu (ev tab rfl) rfl ?_
      refine WO.nil ?_
      refine qs ?_
      refine W.seq ?_
      refine W.seq ?_
      refine W.region ?_
      refine pu (ev tab rfl) rfl ?_
      first | refine pu (ev tab rfl) rfl ?_ | refine pu (loadRow tab rfl rfl rfl rfl) rfl ?_ | refine pu (loadBox tab rfl rfl rfl rfl rfl) rfl ?_
      refine WO.nil ?_
      refine qs ?_
      refine condK rfl (fun h29 => ?_) (fun h29 => ?_)
      · skip
        refine W.region ?_
        iterate 2 refine pu (ev tab rfl) rfl ?_
        first | refine pu (ev tab rfl) rfl ?_ | refine pu (loadRow tab rfl rfl rfl rfl) rfl ?_ | refine pu (loadBox tab rfl rfl rfl rfl rfl) rfl ?_
        refine pu (puCall rfl rfl rfl (text_fn e.n (int_of g.nIn).1 (int_of g.nIn).2) rfl) rfl ?_
        refine pu (buildV tab rfl rfl rfl rfl rfl rfl rfl rfl rfl) rfl ?_
        first | refine appendFl tab rfl rfl rfl rfl rfl rfl rfl rfl rfl rfl rfl rfl (lensB_mem rfl) (Nat.le_of_ble_eq_true rfl) ?_ | refine appendO tab rfl rfl rfl rfl rfl rfl rfl rfl rfl rfl rfl rfl rfl rfl ?_
        refine pu (ev tab rfl) rfl ?_
        refine WO.nil ?_
        refine qs ?_
        refine W.seq ?_
        refine W.seq ?_
        refine W.region ?_
        first | refine pu (ev tab rfl) rfl ?_ | refine pu (loadRow tab rfl rfl rfl rfl) rfl ?_ | refine pu (loadBox tab rfl rfl rfl rfl rfl) rfl ?_
        refine pu (ev tab rfl) rfl ?_
        first | refine pu (ev tab rfl) rfl ?_ | refine pu (loadRow tab rfl rfl rfl rfl) rfl ?_ | refine pu (loadBox tab rfl rfl rfl rfl rfl) rfl ?_
        refine pu (puCall rfl rfl rfl (shows_fn ..) rfl) rfl ?_
        refine WO.nil ?_
        refine qs ?_
        refine condK rfl (fun h39 => ?_) (fun h39 => ?_)
        · skip
          refine W.region ?_
          iterate 2 refine pu (ev tab rfl) rfl ?_
          first | refine pu (ev tab rfl) rfl ?_ | refine pu (loadRow tab rfl rfl rfl rfl) rfl ?_ | refine pu (loadBox tab rfl rfl rfl rfl rfl) rfl ?_
          refine pu (puCall rfl rfl rfl (text_fn e.m (int_of g.mIn).1 (int_of g.mIn).2) rfl) rfl ?_
          refine pu (buildV tab rfl rfl rfl rfl rfl rfl rfl rfl rfl) rfl ?_
          first | refine appendFl tab rfl rfl rfl rfl rfl rfl rfl rfl rfl rfl rfl rfl (lensB_mem rfl) (Nat.le_of_ble_eq_true rfl) ?_ | refine appendO tab rfl rfl rfl rfl rfl rfl rfl rfl rfl rfl rfl rfl rfl rfl ?_
          refine pu (ev tab rfl) rfl ?_
          refine WO.nil ?_
          refine qs ?_
          refine W.seq ?_
          refine W.seq ?_
          apply regionB; (case hb => rfl)
          · skip
            refine pu (ev tab rfl) rfl ?_
            first | refine pu (ev tab rfl) rfl ?_ | refine pu (loadRow tab rfl rfl rfl rfl) rfl ?_ | refine pu (loadBox tab rfl rfl rfl rfl rfl) rfl ?_
            refine pu (ev tab rfl) rfl ?_
            apply splitJ; (case hj => rfl); (case hl => rfl)
            · skip
              refine goG rfl rfl ?_
              refine pu (ev tab rfl) rfl ?_
              refine goG rfl rfl ?_
              first | refine pu (ev tab rfl) rfl ?_ | refine pu (loadRow tab rfl rfl rfl rfl) rfl ?_ | refine pu (loadBox tab rfl rfl rfl rfl rfl) rfl ?_
              refine goG rfl rfl ?_
              refine pu (ev tab rfl) rfl ?_
              refine goG rfl rfl ?_
              iterate 2 refine pu (ev tab rfl) rfl ?_
              refine WO.nil ?_
              refine qv1 rfl rfl rfl
            · skip
              refine skipT rfl rfl rfl rfl ?_
              refine skipT rfl rfl rfl rfl ?_
              refine skipT rfl rfl rfl rfl ?_
              refine skipT rfl rfl rfl rfl ?_
              refine pu (ev tab rfl) rfl ?_
              refine WO.nil ?_
              refine qv1 rfl rfl rfl
          refine qs ?_
          refine condK rfl (fun h53 => ?_) (fun h53 => ?_)
          · skip
            refine W.region ?_
            refine pu (ev tab rfl) rfl ?_
            refine pu (buildV tab rfl rfl rfl rfl rfl rfl rfl rfl rfl) rfl ?_
            first | refine appendFl tab rfl rfl rfl rfl rfl rfl rfl rfl rfl rfl rfl rfl (lensB_mem rfl) (Nat.le_of_ble_eq_true rfl) ?_ | refine appendO tab rfl rfl rfl rfl rfl rfl rfl rfl rfl rfl rfl rfl rfl rfl ?_
            refine pu (ev tab rfl) rfl ?_
            refine WO.nil ?_
            refine qs ?_
            refine W.seq ?_
            refine W.region ?_
            refine pu (ev tab rfl) rfl ?_
            try refine unfl 65 rfl rfl ?_
            refine pu (puCall rfl rfl rfl (joinW_fn (wordsE e) wSpace (by unfold wordsE wordsF stackW showsB; simp_all [sc, wSemi, wStop]) (by omega) w3) rfl) rfl ?_
            refine pu (ev tab rfl) rfl ?_
            refine WO.nil ?_
            refine qs ?_
            refine W.ret ?_
            refine QF.ret0 trivial rfl ?_
            rw [hg]; rfl
          · skip
            refine W.seq ?_
            refine W.region ?_
            refine pu (ev tab rfl) rfl ?_
            first | refine pu (ev tab rfl) rfl ?_ | refine pu (loadRow tab rfl rfl rfl rfl) rfl ?_ | refine pu (loadBox tab rfl rfl rfl rfl rfl) rfl ?_
            refine WO.nil ?_
            refine qs ?_
            refine condK rfl (fun h58 => ?_) (fun h58 => ?_)
            · skip
              refine W.region ?_
              iterate 2 refine pu (ev tab rfl) rfl ?_
              first | refine pu (ev tab rfl) rfl ?_ | refine pu (loadRow tab rfl rfl rfl rfl) rfl ?_ | refine pu (loadBox tab rfl rfl rfl rfl rfl) rfl ?_
              refine pu (puCall rfl rfl rfl (join_fn e.stack wSemi (by have := (frames_ok g.frames).1; omega) (by have := g.stackSize; omega)) rfl) rfl ?_
              refine pu (buildV tab rfl rfl rfl rfl rfl rfl rfl rfl rfl) rfl ?_
              first | refine appendFl tab rfl rfl rfl rfl rfl rfl rfl rfl rfl rfl rfl rfl (lensB_mem rfl) (Nat.le_of_ble_eq_true rfl) ?_ | refine appendO tab rfl rfl rfl rfl rfl rfl rfl rfl rfl rfl rfl rfl rfl rfl ?_
              refine pu (ev tab rfl) rfl ?_
              refine WO.nil ?_
              refine qs ?_
              refine W.seq ?_
              refine W.region ?_
              refine pu (ev tab rfl) rfl ?_
              try refine unfl 65 rfl rfl ?_
              refine pu (puCall rfl rfl rfl (joinW_fn (wordsE e) wSpace (by unfold wordsE wordsF stackW showsB; simp_all [sc, wSemi, wStop]) (by omega) w3) rfl) rfl ?_
              refine pu (ev tab rfl) rfl ?_
              refine WO.nil ?_
              refine qs ?_
              refine W.ret ?_
              refine QF.ret0 trivial rfl ?_
              rw [hg]; rfl
            · skip
              refine W.skip ?_
              refine qs ?_
              refine W.seq ?_
              refine W.region ?_
              refine pu (ev tab rfl) rfl ?_
              try refine unfl 65 rfl rfl ?_
              refine pu (puCall rfl rfl rfl (joinW_fn (wordsE e) wSpace (by unfold wordsE wordsF stackW showsB; simp_all [sc, wSemi, wStop]) (by omega) w3) rfl) rfl ?_
              refine pu (ev tab rfl) rfl ?_
              refine WO.nil ?_
              refine qs ?_
              refine W.ret ?_
              refine QF.ret0 trivial rfl ?_
              rw [hg]; rfl
        · skip
          refine W.skip ?_
          refine qs ?_
          refine W.seq ?_
          refine W.seq ?_
          apply regionB; (case hb => rfl)
          · skip
            refine pu (ev tab rfl) rfl ?_
            first | refine pu (ev tab rfl) rfl ?_ | refine pu (loadRow tab rfl rfl rfl rfl) rfl ?_ | refine pu (loadBox tab rfl rfl rfl rfl rfl) rfl ?_
            refine pu (ev tab rfl) rfl ?_
            apply splitJ; (case hj => rfl); (case hl => rfl)
            · skip
              refine goG rfl rfl ?_
              refine pu (ev tab rfl) rfl ?_
              refine goG rfl rfl ?_
              first | refine pu (ev tab rfl) rfl ?_ | refine pu (loadRow tab rfl rfl rfl rfl) rfl ?_ | refine pu (loadBox tab rfl rfl rfl rfl rfl) rfl ?_
              refine goG rfl rfl ?_
              refine pu (ev tab rfl) rfl ?_
              refine goG rfl rfl ?_
              iterate 2 refine pu (ev tab rfl) rfl ?_
              refine WO.nil ?_
              refine qv1 rfl rfl rfl
            · skip
              refine skipT rfl rfl rfl rfl ?_
              refine skipT rfl rfl rfl rfl ?_
              refine skipT rfl rfl rfl rfl ?_
              refine skipT rfl rfl rfl rfl ?_
              refine pu (ev tab rfl) rfl ?_
              refine WO.nil ?_
              refine qv1 rfl rfl rfl
          refine qs ?_
          refine condK rfl (fun h53 => ?_) (fun h53 => ?_)
          · skip
            refine W.region ?_
            refine pu (ev tab rfl) rfl ?_
            refine pu (buildV tab rfl rfl rfl rfl rfl rfl rfl rfl rfl) rfl ?_
            first | refine appendFl tab rfl rfl rfl rfl rfl rfl rfl rfl rfl rfl rfl rfl (lensB_mem rfl) (Nat.le_of_ble_eq_true rfl) ?_ | refine appendO tab rfl rfl rfl rfl rfl rfl rfl rfl rfl rfl rfl rfl rfl rfl ?_
            refine pu (ev tab rfl) rfl ?_
            refine WO.nil ?_
            refine qs ?_
            refine W.seq ?_
            refine W.region ?_
            refine pu (ev tab rfl) rfl ?_
            try refine unfl 65 rfl rfl ?_
            refine pu (puCall rfl rfl rfl (joinW_fn (wordsE e) wSpace (by unfold wordsE wordsF stackW showsB; simp_all [sc, wSemi, wStop]) (by omega) w3) rfl) rfl ?_
            refine pu (ev tab rfl) rfl ?_
            refine WO.nil ?_
            refine qs ?_
            refine W.ret ?_
            refine QF.ret0 trivial rfl ?_
            rw [hg]; rfl
          · skip
            refine W.seq ?_
            refine W.region ?_
            refine pu (ev tab rfl) rfl ?_
            first | refine pu (ev tab rfl) rfl ?_ | refine pu (loadRow tab rfl rfl rfl rfl) rfl ?_ | refine pu (loadBox tab rfl rfl rfl rfl rfl) rfl ?_
            refine WO.nil ?_
            refine qs ?_
            refine condK rfl (fun h58 => ?_) (fun h58 => ?_)
            · skip
              refine W.region ?_
              iterate 2 refine pu (ev tab rfl) rfl ?_
              first | refine pu (ev tab rfl) rfl ?_ | refine pu (loadRow tab rfl rfl rfl rfl) rfl ?_ | refine pu (loadBox tab rfl rfl rfl rfl rfl) rfl ?_
              refine pu (puCall rfl rfl rfl (join_fn e.stack wSemi (by have := (frames_ok g.frames).1; omega) (by have := g.stackSize; omega)) rfl) rfl ?_
              refine pu (buildV tab rfl rfl rfl rfl rfl rfl rfl rfl rfl) rfl ?_
              first | refine appendFl tab rfl rfl rfl rfl rfl rfl rfl rfl rfl rfl rfl rfl (lensB_mem rfl) (Nat.le_of_ble_eq_true rfl) ?_ | refine appendO tab rfl rfl rfl rfl rfl rfl rfl rfl rfl rfl rfl rfl rfl rfl ?_
              refine pu (ev tab rfl) rfl ?_
              refine WO.nil ?_
              refine qs ?_
              refine W.seq ?_
              refine W.region ?_
              refine pu (ev tab rfl) rfl ?_
              try refine unfl 65 rfl rfl ?_
              refine pu (puCall rfl rfl rfl (joinW_fn (wordsE e) wSpace (by unfold wordsE wordsF stackW showsB; simp_all [sc, wSemi, wStop]) (by omega) w3) rfl) rfl ?_
              refine pu (ev tab rfl) rfl ?_
              refine WO.nil ?_
              refine qs ?_
              refine W.ret ?_
              refine QF.ret0 trivial rfl ?_
              rw [hg]; rfl
            · skip
              refine W.skip ?_
              refine qs ?_
              refine W.seq ?_
              refine W.region ?_
              refine pu (ev tab rfl) rfl ?_
              try refine unfl 65 rfl rfl ?_
              refine pu (puCall rfl rfl rfl (joinW_fn (wordsE e) wSpace (by unfold wordsE wordsF stackW showsB; simp_all [sc, wSemi, wStop]) (by omega) w3) rfl) rfl ?_
              refine pu (ev tab rfl) rfl ?_
              refine WO.nil ?_
              refine qs ?_
              refine W.ret ?_
              refine QF.ret0 trivial rfl ?_
              rw [hg]; rfl
      · skip
        refine W.skip ?_
        refine qs ?_
        refine W.seq ?_
        refine W.seq ?_
        refine W.region ?_
        first | refine pu (ev tab rfl) rfl ?_ | refine pu (loadRow tab rfl rfl rfl rfl) rfl ?_ | refine pu (loadBox tab rfl rfl rfl rfl rfl) rfl ?_
        refine pu (ev tab rfl) rfl ?_
        first | refine pu (ev tab rfl) rfl ?_ | refine pu (loadRow tab rfl rfl rfl rfl) rfl ?_ | refine pu (loadBox tab rfl rfl rfl rfl rfl) rfl ?_
        refine pu (puCall rfl rfl rfl (shows_fn ..) rfl) rfl ?_
        refine WO.nil ?_
        refine qs ?_
        refine condK rfl (fun h39 => ?_) (fun h39 => ?_)
        · skip
          refine W.region ?_
          iterate 2 refine pu (ev tab rfl) rfl ?_
          first | refine pu (ev tab rfl) rfl ?_ | refine pu (loadRow tab rfl rfl rfl rfl) rfl ?_ | refine pu (loadBox tab rfl rfl rfl rfl rfl) rfl ?_
          refine pu (puCall rfl rfl rfl (text_fn e.m (int_of g.mIn).1 (int_of g.mIn).2) rfl) rfl ?_
          refine pu (buildV tab rfl rfl rfl rfl rfl rfl rfl rfl rfl) rfl ?_
          first | refine appendFl tab rfl rfl rfl rfl rfl rfl rfl rfl rfl rfl rfl rfl (lensB_mem rfl) (Nat.le_of_ble_eq_true rfl) ?_ | refine appendO tab rfl rfl rfl rfl rfl rfl rfl rfl rfl rfl rfl rfl rfl rfl ?_
          refine pu (ev tab rfl) rfl ?_
          refine WO.nil ?_
          refine qs ?_
          refine W.seq ?_
          refine W.seq ?_
          apply regionB; (case hb => rfl)
          · skip
            refine pu (ev tab rfl) rfl ?_
            first | refine pu (ev tab rfl) rfl ?_ | refine pu (loadRow tab rfl rfl rfl rfl) rfl ?_ | refine pu (loadBox tab rfl rfl rfl rfl rfl) rfl ?_
            refine pu (ev tab rfl) rfl ?_
            apply splitJ; (case hj => rfl); (case hl => rfl)
            · skip
              refine goG rfl rfl ?_
              refine pu (ev tab rfl) rfl ?_
              refine goG rfl rfl ?_
              first | refine pu (ev tab rfl) rfl ?_ | refine pu (loadRow tab rfl rfl rfl rfl) rfl ?_ | refine pu (loadBox tab rfl rfl rfl rfl rfl) rfl ?_
              refine goG rfl rfl ?_
              refine pu (ev tab rfl) rfl ?_
              refine goG rfl rfl ?_
              iterate 2 refine pu (ev tab rfl) rfl ?_
              refine WO.nil ?_
              refine qv1 rfl rfl rfl
            · skip
              refine skipT rfl rfl rfl rfl ?_
              refine skipT rfl rfl rfl rfl ?_
              refine skipT rfl rfl rfl rfl ?_
              refine skipT rfl rfl rfl rfl ?_
              refine pu (ev tab rfl) rfl ?_
              refine WO.nil ?_
              refine qv1 rfl rfl rfl
          refine qs ?_
          refine condK rfl (fun h53 => ?_) (fun h53 => ?_)
          · skip
            refine W.region ?_
            refine pu (ev tab rfl) rfl ?_
            refine pu (buildV tab rfl rfl rfl rfl rfl rfl rfl rfl rfl) rfl ?_
            first | refine appendFl tab rfl rfl rfl rfl rfl rfl rfl rfl rfl rfl rfl rfl (lensB_mem rfl) (Nat.le_of_ble_eq_true rfl) ?_ | refine appendO tab rfl rfl rfl rfl rfl rfl rfl rfl rfl rfl rfl rfl rfl rfl ?_
            refine pu (ev tab rfl) rfl ?_
            refine WO.nil ?_
            refine qs ?_
            refine W.seq ?_
            refine W.region ?_
            refine pu (ev tab rfl) rfl ?_
            try refine unfl 65 rfl rfl ?_
            refine pu (puCall rfl rfl rfl (joinW_fn (wordsE e) wSpace (by unfold wordsE wordsF stackW showsB; simp_all [sc, wSemi, wStop]) (by omega) w3) rfl) rfl ?_
            refine pu (ev tab rfl) rfl ?_
            refine WO.nil ?_
            refine qs ?_
            refine W.ret ?_
            refine QF.ret0 trivial rfl ?_
            rw [hg]; rfl
          · skip
            refine W.seq ?_
            refine W.region ?_
            refine pu (ev tab rfl) rfl ?_
            first | refine pu (ev tab rfl) rfl ?_ | refine pu (loadRow tab rfl rfl rfl rfl) rfl ?_ | refine pu (loadBox tab rfl rfl rfl rfl rfl) rfl ?_
            refine WO.nil ?_
            refine qs ?_
            refine condK rfl (fun h58 => ?_) (fun h58 => ?_)
            · skip
              refine W.region ?_
              iterate 2 refine pu (ev tab rfl) rfl ?_
              first | refine pu (ev tab rfl) rfl ?_ | refine pu (loadRow tab rfl rfl rfl rfl) rfl ?_ | refine pu (loadBox tab rfl rfl rfl rfl rfl) rfl ?_
              refine pu (puCall rfl rfl rfl (join_fn e.stack wSemi (by have := (frames_ok g.frames).1; omega) (by have := g.stackSize; omega)) rfl) rfl ?_
              refine pu (buildV tab rfl rfl rfl rfl rfl rfl rfl rfl rfl) rfl ?_
              first | refine appendFl tab rfl rfl rfl rfl rfl rfl rfl rfl rfl rfl rfl rfl (lensB_mem rfl) (Nat.le_of_ble_eq_true rfl) ?_ | refine appendO tab rfl rfl rfl rfl rfl rfl rfl rfl rfl rfl rfl rfl rfl rfl ?_
              refine pu (ev tab rfl) rfl ?_
              refine WO.nil ?_
              refine qs ?_
              refine W.seq ?_
              refine W.region ?_
              refine pu (ev tab rfl) rfl ?_
              try refine unfl 65 rfl rfl ?_
              refine pu (puCall rfl rfl rfl (joinW_fn (wordsE e) wSpace (by unfold wordsE wordsF stackW showsB; simp_all [sc, wSemi, wStop]) (by omega) w3) rfl) rfl ?_
              refine pu (ev tab rfl) rfl ?_
              refine WO.nil ?_
              refine qs ?_
              refine W.ret ?_
              refine QF.ret0 trivial rfl ?_
              rw [hg]; rfl
            · skip
              refine W.skip ?_
              refine qs ?_
              refine W.seq ?_
              refine W.region ?_
              refine pu (ev tab rfl) rfl ?_
              try refine unfl 65 rfl rfl ?_
              refine pu (puCall rfl rfl rfl (joinW_fn (wordsE e) wSpace (by unfold wordsE wordsF stackW showsB; simp_all [sc, wSemi, wStop]) (by omega) w3) rfl) rfl ?_
              refine pu (ev tab rfl) rfl ?_
              refine WO.nil ?_
              refine qs ?_
              refine W.ret ?_
              refine QF.ret0 trivial rfl ?_
              rw [hg]; rfl
        · skip
          refine W.skip ?_
          refine qs ?_
          refine W.seq ?_
          refine W.seq ?_
          apply regionB; (case hb => rfl)
          · skip
            refine pu (ev tab rfl) rfl ?_
            first | refine pu (ev tab rfl) rfl ?_ | refine pu (loadRow tab rfl rfl rfl rfl) rfl ?_ | refine pu (loadBox tab rfl rfl rfl rfl rfl) rfl ?_
            refine pu (ev tab rfl) rfl ?_
            apply splitJ; (case hj => rfl); (case hl => rfl)
            · skip
              refine goG rfl rfl ?_
              refine pu (ev tab rfl) rfl ?_
              refine goG rfl rfl ?_
              first | refine pu (ev tab rfl) rfl ?_ | refine pu (loadRow tab rfl rfl rfl rfl) rfl ?_ | refine pu (loadBox tab rfl rfl rfl rfl rfl) rfl ?_
              refine goG rfl rfl ?_
              refine pu (ev tab rfl) rfl ?_
              refine goG rfl rfl ?_
              iterate 2 refine pu (ev tab rfl) rfl ?_
              refine WO.nil ?_
              refine qv1 rfl rfl rfl
            · skip
              refine skipT rfl rfl rfl rfl ?_
              refine skipT rfl rfl rfl rfl ?_
              refine skipT rfl rfl rfl rfl ?_
              refine skipT rfl rfl rfl rfl ?_
              refine pu (ev tab rfl) rfl ?_
              refine WO.nil ?_
              refine qv1 rfl rfl rfl
          refine qs ?_
          refine condK rfl (fun h53 => ?_) (fun h53 => ?_)
          · skip
            refine W.region ?_
            refine pu (ev tab rfl) rfl ?_
            refine pu (buildV tab rfl rfl rfl rfl rfl rfl rfl rfl rfl) rfl ?_
            first | refine appendFl tab rfl rfl rfl rfl rfl rfl rfl rfl rfl rfl rfl rfl (lensB_mem rfl) (Nat.le_of_ble_eq_true rfl) ?_ | refine appendO tab rfl rfl rfl rfl rfl rfl rfl rfl rfl rfl rfl rfl rfl rfl ?_
            refine pu (ev tab rfl) rfl ?_
            refine WO.nil ?_
            refine qs ?_
            refine W.seq ?_
            refine W.region ?_
            refine pu (ev tab rfl) rfl ?_
            try refine unfl 65 rfl rfl ?_
            refine pu (puCall rfl rfl rfl (joinW_fn (wordsE e) wSpace (by unfold wordsE wordsF stackW showsB; simp_all [sc, wSemi, wStop]) (by omega) w3) rfl) rfl ?_
            refine pu (ev tab rfl) rfl ?_
            refine WO.nil ?_
            refine qs ?_
            refine W.ret ?_
            refine QF.ret0 trivial rfl ?_
            rw [hg]; rfl
          · skip
            refine W.seq ?_
            refine W.region ?_
            refine pu (ev tab rfl) rfl ?_
            first | refine pu (ev tab rfl) rfl ?_ | refine pu (loadRow tab rfl rfl rfl rfl) rfl ?_ | refine pu (loadBox tab rfl rfl rfl rfl rfl) rfl ?_
            refine WO.nil ?_
            refine qs ?_
            refine condK rfl (fun h58 => ?_) (fun h58 => ?_)
            · skip
              refine W.region ?_
              iterate 2 refine pu (ev tab rfl) rfl ?_
              first | refine pu (ev tab rfl) rfl ?_ | refine pu (loadRow tab rfl rfl rfl rfl) rfl ?_ | refine pu (loadBox tab rfl rfl rfl rfl rfl) rfl ?_
              refine pu (puCall rfl rfl rfl (join_fn e.stack wSemi (by have := (frames_ok g.frames).1; omega) (by have := g.stackSize; omega)) rfl) rfl ?_
              refine pu (buildV tab rfl rfl rfl rfl rfl rfl rfl rfl rfl) rfl ?_
              first | refine appendFl tab rfl rfl rfl rfl rfl rfl rfl rfl rfl rfl rfl rfl (lensB_mem rfl) (Nat.le_of_ble_eq_true rfl) ?_ | refine appendO tab rfl rfl rfl rfl rfl rfl rfl rfl rfl rfl rfl rfl rfl rfl ?_
              refine pu (ev tab rfl) rfl ?_
              refine WO.nil ?_
              refine qs ?_
              refine W.seq ?_
              refine W.region ?_
              refine pu (ev tab rfl) rfl ?_
              try refine unfl 65 rfl rfl ?_
              refine pu (puCall rfl rfl rfl (joinW_fn (wordsE e) wSpace (by unfold wordsE wordsF stackW showsB; simp_all [sc, wSemi, wStop]) (by omega) w3) rfl) rfl ?_
              refine pu (ev tab rfl) rfl ?_
              refine WO.nil ?_
              refine qs ?_
              refine W.ret ?_
              refine QF.ret0 trivial rfl ?_
              rw [hg]; rfl
            · skip
              refine W.skip ?_
              refine qs ?_
              refine W.seq ?_
              refine W.region ?_
              refine pu (ev tab rfl) rfl ?_
              try refine unfl 65 rfl rfl ?_
              refine pu (puCall rfl rfl rfl (joinW_fn (wordsE e) wSpace (by unfold wordsE wordsF stackW showsB; simp_all [sc, wSemi, wStop]) (by omega) w3) rfl) rfl ?_
              refine pu (ev tab rfl) rfl ?_
              refine WO.nil ?_
              refine qs ?_
              refine W.ret ?_
              refine QF.ret0 trivial rfl ?_
              rw [hg]; rfl
    · skip
      refine W.skip ?_
      refine qs ?_
      refine W.seq ?_
      refine W.seq ?_
      refine W.region ?_
      refine pu (ev tab rfl) rfl ?_
      first | refine pu (ev tab rfl) rfl ?_ | refine pu (loadRow tab rfl rfl rfl rfl) rfl ?_ | refine pu (loadBox tab rfl rfl rfl rfl rfl) rfl ?_
      refine WO.nil ?_
      refine qs ?_
      refine condK rfl (fun h29 => ?_) (fun h29 => ?_)
      · skip
        refine W.region ?_
        iterate 2 refine pu (ev tab rfl) rfl ?_
        first | refine pu (ev tab rfl) rfl ?_ | refine pu (loadRow tab rfl rfl rfl rfl) rfl ?_ | refine pu (loadBox tab rfl rfl rfl rfl rfl) rfl ?_
        refine pu (puCall rfl rfl rfl (text_fn e.n (int_of g.nIn).1 (int_of g.nIn).2) rfl) rfl ?_
        refine pu (buildV tab rfl rfl rfl rfl rfl rfl rfl rfl rfl) rfl ?_
        first | refine appendFl tab rfl rfl rfl rfl rfl rfl rfl rfl rfl rfl rfl rfl (lensB_mem rfl) (Nat.le_of_ble_eq_true rfl) ?_ | refine appendO tab rfl rfl rfl rfl rfl rfl rfl rfl rfl rfl rfl rfl rfl rfl ?_
        refine pu (ev tab rfl) rfl ?_
        refine WO.nil ?_
        refine qs ?_
        refine W.seq ?_
        refine W.seq ?_
        refine W.region ?_
        first | refine pu (ev tab rfl) rfl ?_ | refine pu (loadRow tab rfl rfl rfl rfl) rfl ?_ | refine pu (loadBox tab rfl rfl rfl rfl rfl) rfl ?_
        refine pu (ev tab rfl) rfl ?_
        first | refine pu (ev tab rfl) rfl ?_ | refine pu (loadRow tab rfl rfl rfl rfl) rfl ?_ | refine pu (loadBox tab rfl rfl rfl rfl rfl) rfl ?_
        refine pu (puCall rfl rfl rfl (shows_fn ..) rfl) rfl ?_
        refine WO.nil ?_
        refine qs ?_
        refine condK rfl (fun h39 => ?_) (fun h39 => ?_)
        · skip
          refine W.region ?_
          iterate 2 refine pu (ev tab rfl) rfl ?_
          first | refine pu (ev tab rfl) rfl ?_ | refine pu (loadRow tab rfl rfl rfl rfl) rfl ?_ | refine pu (loadBox tab rfl rfl rfl rfl rfl) rfl ?_
          refine pu (puCall rfl rfl rfl (text_fn e.m (int_of g.mIn).1 (int_of g.mIn).2) rfl) rfl ?_
          refine pu (buildV tab rfl rfl rfl rfl rfl rfl rfl rfl rfl) rfl ?_
          first | refine appendFl tab rfl rfl rfl rfl rfl rfl rfl rfl rfl rfl rfl rfl (lensB_mem rfl) (Nat.le_of_ble_eq_true rfl) ?_ | refine appendO tab rfl rfl rfl rfl rfl rfl rfl rfl rfl rfl rfl rfl rfl rfl ?_
          refine pu (ev tab rfl) rfl ?_
          refine WO.nil ?_
          refine qs ?_
          refine W.seq ?_
          refine W.seq ?_
          apply regionB; (case hb => rfl)
          · skip
            refine pu (ev tab rfl) rfl ?_
            first | refine pu (ev tab rfl) rfl ?_ | refine pu (loadRow tab rfl rfl rfl rfl) rfl ?_ | refine pu (loadBox tab rfl rfl rfl rfl rfl) rfl ?_
            refine pu (ev tab rfl) rfl ?_
            apply splitJ; (case hj => rfl); (case hl => rfl)
            · skip
              refine goG rfl rfl ?_
              refine pu (ev tab rfl) rfl ?_
              refine goG rfl rfl ?_
              first | refine pu (ev tab rfl) rfl ?_ | refine pu (loadRow tab rfl rfl rfl rfl) rfl ?_ | refine pu (loadBox tab rfl rfl rfl rfl rfl) rfl ?_
              refine goG rfl rfl ?_
              refine pu (ev tab rfl) rfl ?_
              refine goG rfl rfl ?_
              iterate 2 refine pu (ev tab rfl) rfl ?_
              refine WO.nil ?_
              refine qv1 rfl rfl rfl
            · skip
              refine skipT rfl rfl rfl rfl ?_
              refine skipT rfl rfl rfl rfl ?_
              refine skipT rfl rfl rfl rfl ?_
              refine skipT rfl rfl rfl rfl ?_
              refine pu (ev tab rfl) rfl ?_
              refine WO.nil ?_
              refine qv1 rfl rfl rfl
          refine qs ?_
          refine condK rfl (fun h53 => ?_) (fun h53 => ?_)
          · skip
            refine W.region ?_
            refine pu (ev tab rfl) rfl ?_
            refine pu (buildV tab rfl rfl rfl rfl rfl rfl rfl rfl rfl) rfl ?_
            first | refine appendFl tab rfl rfl rfl rfl rfl rfl rfl rfl rfl rfl rfl rfl (lensB_mem rfl) (Nat.le_of_ble_eq_true rfl) ?_ | refine appendO tab rfl rfl rfl rfl rfl rfl rfl rfl rfl rfl rfl rfl rfl rfl ?_
            refine pu (ev tab rfl) rfl ?_
            refine WO.nil ?_
            refine qs ?_
            refine W.seq ?_
            refine W.region ?_
            refine pu (ev tab rfl) rfl ?_
            try refine unfl 65 rfl rfl ?_
            refine pu (puCall rfl rfl rfl (joinW_fn (wordsE e) wSpace (by unfold wordsE wordsF stackW showsB; simp_all [sc, wSemi, wStop]) (by omega) w3) rfl) rfl ?_
            refine pu (ev tab rfl) rfl ?_
            refine WO.nil ?_
            refine qs ?_
            refine W.ret ?_
            refine QF.ret0 trivial rfl ?_
            rw [hg]; rfl
          · skip
            refine W.seq ?_
            refine W.region ?_
            refine pu (ev tab rfl) rfl ?_
            first | refine pu (ev tab rfl) rfl ?_ | refine pu (loadRow tab rfl rfl rfl rfl) rfl ?_ | refine pu (loadBox tab rfl rfl rfl rfl rfl) rfl ?_
            refine WO.nil ?_
            refine qs ?_
            refine condK rfl (fun h58 => ?_) (fun h58 => ?_)
            · skip
              refine W.region ?_
              iterate 2 refine pu (ev tab rfl) rfl ?_
              first | refine pu (ev tab rfl) rfl ?_ | refine pu (loadRow tab rfl rfl rfl rfl) rfl ?_ | refine pu (loadBox tab rfl rfl rfl rfl rfl) rfl ?_
              refine pu (puCall rfl rfl rfl (join_fn e.stack wSemi (by have := (frames_ok g.frames).1; omega) (by have := g.stackSize; omega)) rfl) rfl ?_
              refine pu (buildV tab rfl rfl rfl rfl rfl rfl rfl rfl rfl) rfl ?_
              first | refine appendFl tab rfl rfl rfl rfl rfl rfl rfl rfl rfl rfl rfl rfl (lensB_mem rfl) (Nat.le_of_ble_eq_true rfl) ?_ | refine appendO tab rfl rfl rfl rfl rfl rfl rfl rfl rfl rfl rfl rfl rfl rfl ?_
              refine pu (ev tab rfl) rfl ?_
              refine WO.nil ?_
              refine qs ?_
              refine W.seq ?_
              refine W.region ?_
              refine pu (ev tab rfl) rfl ?_
              try refine unfl 65 rfl rfl ?_
              refine pu (puCall rfl rfl rfl (joinW_fn (wordsE e) wSpace (by unfold wordsE wordsF stackW showsB; simp_all [sc, wSemi, wStop]) (by omega) w3) rfl) rfl ?_
              refine pu (ev tab rfl) rfl ?_
              refine WO.nil ?_
              refine qs ?_
              refine W.ret ?_
              refine QF.ret0 trivial rfl ?_
              rw [hg]; rfl
            · skip
              refine W.skip ?_
              refine qs ?_
              refine W.seq ?_
              refine W.region ?_
              refine pu (ev tab rfl) rfl ?_
              try refine unfl 65 rfl rfl ?_
              refine pu (puCall rfl rfl rfl (joinW_fn (wordsE e) wSpace (by unfold wordsE wordsF stackW showsB; simp_all [sc, wSemi, wStop]) (by omega) w3) rfl) rfl ?_
              refine pu (ev tab rfl) rfl ?_
              refine WO.nil ?_
              refine qs ?_
              refine W.ret ?_
              refine QF.ret0 trivial rfl ?_
              rw [hg]; rfl
        · skip
          refine W.skip ?_
          refine qs ?_
          refine W.seq ?_
          refine W.seq ?_
          apply regionB; (case hb => rfl)
          · skip
            refine pu (ev tab rfl) rfl ?_
            first | refine pu (ev tab rfl) rfl ?_ | refine pu (loadRow tab rfl rfl rfl rfl) rfl ?_ | refine pu (loadBox tab rfl rfl rfl rfl rfl) rfl ?_
            refine pu (ev tab rfl) rfl ?_
            apply splitJ; (case hj => rfl); (case hl => rfl)
            · skip
              refine goG rfl rfl ?_
              refine pu (ev tab rfl) rfl ?_
              refine goG rfl rfl ?_
              first | refine pu (ev tab rfl) rfl ?_ | refine pu (loadRow tab rfl rfl rfl rfl) rfl ?_ | refine pu (loadBox tab rfl rfl rfl rfl rfl) rfl ?_
              refine goG rfl rfl ?_
              refine pu (ev tab rfl) rfl ?_
              refine goG rfl rfl ?_
              iterate 2 refine pu (ev tab rfl) rfl ?_
              refine WO.nil ?_
              refine qv1 rfl rfl rfl
            · skip
              refine skipT rfl rfl rfl rfl ?_
              refine skipT rfl rfl rfl rfl ?_
              refine skipT rfl rfl rfl rfl ?_
              refine skipT rfl rfl rfl rfl ?_
              refine pu (ev tab rfl) rfl ?_
              refine WO.nil ?_
              refine qv1 rfl rfl rfl
          refine qs ?_
          refine condK rfl (fun h53 => ?_) (fun h53 => ?_)
          · skip
            refine W.region ?_
            refine pu (ev tab rfl) rfl ?_
            refine pu (buildV tab rfl rfl rfl rfl rfl rfl rfl rfl rfl) rfl ?_
            first | refine appendFl tab rfl rfl rfl rfl rfl rfl rfl rfl rfl rfl rfl rfl (lensB_mem rfl) (Nat.le_of_ble_eq_true rfl) ?_ | refine appendO tab rfl rfl rfl rfl rfl rfl rfl rfl rfl rfl rfl rfl rfl rfl ?_
            refine pu (ev tab rfl) rfl ?_
            refine WO.nil ?_
            refine qs ?_
            refine W.seq ?_
            refine W.region ?_
            refine pu (ev tab rfl) rfl ?_
            try refine unfl 65 rfl rfl ?_
            refine pu (puCall rfl rfl rfl (joinW_fn (wordsE e) wSpace (by unfold wordsE wordsF stackW showsB; simp_all [sc, wSemi, wStop]) (by omega) w3) rfl) rfl ?_
            refine pu (ev tab rfl) rfl ?_
            refine WO.nil ?_
            refine qs ?_
            refine W.ret ?_
            refine QF.ret0 trivial rfl ?_
            rw [hg]; rfl
          · skip
            refine W.seq ?_
            refine W.region ?_
            refine pu (ev tab rfl) rfl ?_
            first | refine pu (ev tab rfl) rfl ?_ | refine pu (loadRow tab rfl rfl rfl rfl) rfl ?_ | refine pu (loadBox tab rfl rfl rfl rfl rfl) rfl ?_
            refine WO.nil ?_
            refine qs ?_
            refine condK rfl (fun h58 => ?_) (fun h58 => ?_)
            · skip
              refine W.region ?_
              iterate 2 refine pu (ev tab rfl) rfl ?_
              first | refine pu (ev tab rfl) rfl ?_ | refine pu (loadRow tab rfl rfl rfl rfl) rfl ?_ | refine pu (loadBox tab rfl rfl rfl rfl rfl) rfl ?_
              refine pu (puCall rfl rfl rfl (join_fn e.stack wSemi (by have := (frames_ok g.frames).1; omega) (by have := g.stackSize; omega)) rfl) rfl ?_
              refine pu (buildV tab rfl rfl rfl rfl rfl rfl rfl rfl rfl) rfl ?_
              first | refine appendFl tab rfl rfl rfl rfl rfl rfl rfl rfl rfl rfl rfl rfl (lensB_mem rfl) (Nat.le_of_ble_eq_true rfl) ?_ | refine appendO tab rfl rfl rfl rfl rfl rfl rfl rfl rfl rfl rfl rfl rfl rfl ?_
              refine pu (ev tab rfl) rfl ?_
              refine WO.nil ?_
              refine qs ?_
              refine W.seq ?_
              refine W.region ?_
              refine pu (ev tab rfl) rfl ?_
              try refine unfl 65 rfl rfl ?_
              refine pu (puCall rfl rfl rfl (joinW_fn (wordsE e) wSpace (by unfold wordsE wordsF stackW showsB; simp_all [sc, wSemi, wStop]) (by omega) w3) rfl) rfl ?_
              refine pu (ev tab rfl) rfl ?_
              refine WO.nil ?_
              refine qs ?_
              refine W.ret ?_
              refine QF.ret0 trivial rfl ?_
              rw [hg]; rfl
            · skip
              refine W.skip ?_
              refine qs ?_
              refine W.seq ?_
              refine W.region ?_
              refine pu (ev tab rfl) rfl ?_
              try refine unfl 65 rfl rfl ?_
              refine pu (puCall rfl rfl rfl (joinW_fn (wordsE e) wSpace (by unfold wordsE wordsF stackW showsB; simp_all [sc, wSemi, wStop]) (by omega) w3) rfl) rfl ?_
              refine pu (ev tab rfl) rfl ?_
              refine WO.nil ?_
              refine qs ?_
              refine W.ret ?_
              refine QF.ret0 trivial rfl ?_
              rw [hg]; rfl
      · skip
        refine W.skip ?_
        refine qs ?_
        refine W.seq ?_
        refine W.seq ?_
        refine W.region ?_
        first | refine pu (ev tab rfl) rfl ?_ | refine pu (loadRow tab rfl rfl rfl rfl) rfl ?_ | refine pu (loadBox tab rfl rfl rfl rfl rfl) rfl ?_
        refine pu (ev tab rfl) rfl ?_
        first | refine pu (ev tab rfl) rfl ?_ | refine pu (loadRow tab rfl rfl rfl rfl) rfl ?_ | refine pu (loadBox tab rfl rfl rfl rfl rfl) rfl ?_
        refine pu (puCall rfl rfl rfl (shows_fn ..) rfl) rfl ?_
        refine WO.nil ?_
        refine qs ?_
        refine condK rfl (fun h39 => ?_) (fun h39 => ?_)
        · skip
          refine W.region ?_
          iterate 2 refine pu (ev tab rfl) rfl ?_
          first | refine pu (ev tab rfl) rfl ?_ | refine pu (loadRow tab rfl rfl rfl rfl) rfl ?_ | refine pu (loadBox tab rfl rfl rfl rfl rfl) rfl ?_
          refine pu (puCall rfl rfl rfl (text_fn e.m (int_of g.mIn).1 (int_of g.mIn).2) rfl) rfl ?_
          refine pu (buildV tab rfl rfl rfl rfl rfl rfl rfl rfl rfl) rfl ?_
          first | refine appendFl tab rfl rfl rfl rfl rfl rfl rfl rfl rfl rfl rfl rfl (lensB_mem rfl) (Nat.le_of_ble_eq_true rfl) ?_ | refine appendO tab rfl rfl rfl rfl rfl rfl rfl rfl rfl rfl rfl rfl rfl rfl ?_
          refine pu (ev tab rfl) rfl ?_
          refine WO.nil ?_
          refine qs ?_
          refine W.seq ?_
          refine W.seq ?_
          apply regionB; (case hb => rfl)
          · skip
            refine pu (ev tab rfl) rfl ?_
            first | refine pu (ev tab rfl) rfl ?_ | refine pu (loadRow tab rfl rfl rfl rfl) rfl ?_ | refine pu (loadBox tab rfl rfl rfl rfl rfl) rfl ?_
            refine pu (ev tab rfl) rfl ?_
            apply splitJ; (case hj => rfl); (case hl => rfl)
            · skip
              refine goG rfl rfl ?_
              refine pu (ev tab rfl) rfl ?_
              refine goG rfl rfl ?_
              first | refine pu (ev tab rfl) rfl ?_ | refine pu (loadRow tab rfl rfl rfl rfl) rfl ?_ | refine pu (loadBox tab rfl rfl rfl rfl rfl) rfl ?_
              refine goG rfl rfl ?_
              refine pu (ev tab rfl) rfl ?_
              refine goG rfl rfl ?_
              iterate 2 refine pu (ev tab rfl) rfl ?_
              refine WO.nil ?_
              refine qv1 rfl rfl rfl
            · skip
              refine skipT rfl rfl rfl rfl ?_
              refine skipT rfl rfl rfl rfl ?_
              refine skipT rfl rfl rfl rfl ?_
              refine skipT rfl rfl rfl rfl ?_
              refine pu (ev tab rfl) rfl ?_
              refine WO.nil ?_
              refine qv1 rfl rfl rfl
          refine qs ?_
          refine condK rfl (fun h53 => ?_) (fun h53 => ?_)
          · skip
            refine W.region ?_
            refine pu (ev tab rfl) rfl ?_
            refine pu (buildV tab rfl rfl rfl rfl rfl rfl rfl rfl rfl) rfl ?_
            first | refine appendFl tab rfl rfl rfl rfl rfl rfl rfl rfl rfl rfl rfl rfl (lensB_mem rfl) (Nat.le_of_ble_eq_true rfl) ?_ | refine appendO tab rfl rfl rfl rfl rfl rfl rfl rfl rfl rfl rfl rfl rfl rfl ?_
            refine pu (ev tab rfl) rfl ?_
            refine WO.nil ?_
            refine qs ?_
            refine W.seq ?_
            refine W.region ?_
            refine pu (ev tab rfl) rfl ?_
            try refine unfl 65 rfl rfl ?_
            refine pu (puCall rfl rfl rfl (joinW_fn (wordsE e) wSpace (by unfold wordsE wordsF stackW showsB; simp_all [sc, wSemi, wStop]) (by omega) w3) rfl) rfl ?_
            refine pu (ev tab rfl) rfl ?_
            refine WO.nil ?_
            refine qs ?_
            refine W.ret ?_
            refine QF.ret0 trivial rfl ?_
            rw [hg]; rfl
          · skip
            refine W.seq ?_
            refine W.region ?_
            refine pu (ev tab rfl) rfl ?_
            first | refine pu (ev tab rfl) rfl ?_ | refine pu (loadRow tab rfl rfl rfl rfl) rfl ?_ | refine pu (loadBox tab rfl rfl rfl rfl rfl) rfl ?_
            refine WO.nil ?_
            refine qs ?_
            refine condK rfl (fun h58 => ?_) (fun h58 => ?_)
            · skip
              refine W.region ?_
              iterate 2 refine pu (ev tab rfl) rfl ?_
              first | refine pu (ev tab rfl) rfl ?_ | refine pu (loadRow tab rfl rfl rfl rfl) rfl ?_ | refine pu (loadBox tab rfl rfl rfl rfl rfl) rfl ?_
              refine pu (puCall rfl rfl rfl (join_fn e.stack wSemi (by have := (frames_ok g.frames).1; omega) (by have := g.stackSize; omega)) rfl) rfl ?_
              refine pu (buildV tab rfl rfl rfl rfl rfl rfl rfl rfl rfl) rfl ?_
              first | refine appendFl tab rfl rfl rfl rfl rfl rfl rfl rfl rfl rfl rfl rfl (lensB_mem rfl) (Nat.le_of_ble_eq_true rfl) ?_ | refine appendO tab rfl rfl rfl rfl rfl rfl rfl rfl rfl rfl rfl rfl rfl rfl ?_
              refine pu (ev tab rfl) rfl ?_
              refine WO.nil ?_
              refine qs ?_
              refine W.seq ?_
              refine W.region ?_
              refine pu (ev tab rfl) rfl ?_
              try refine unfl 65 rfl rfl ?_
              refine pu (puCall rfl rfl rfl (joinW_fn (wordsE e) wSpace (by unfold wordsE wordsF stackW showsB; simp_all [sc, wSemi, wStop]) (by omega) w3) rfl) rfl ?_
              refine pu (ev tab rfl) rfl ?_
              refine WO.nil ?_
              refine qs ?_
              refine W.ret ?_
              refine QF.ret0 trivial rfl ?_
              rw [hg]; rfl
            · skip
              refine W.skip ?_
              refine qs ?_
              refine W.seq ?_
              refine W.region ?_
              refine pu (ev tab rfl) rfl ?_
              try refine unfl 65 rfl rfl ?_
              refine pu (puCall rfl rfl rfl (joinW_fn (wordsE e) wSpace (by unfold wordsE wordsF stackW showsB; simp_all [sc, wSemi, wStop]) (by omega) w3) rfl) rfl ?_
              refine pu (ev tab rfl) rfl ?_
              refine WO.nil ?_
              refine qs ?_
              refine W.ret ?_
              refine QF.ret0 trivial rfl ?_
              rw [hg]; rfl
        · skip
          refine W.skip ?_
          refine qs ?_
          refine W.seq ?_
          refine W.seq ?_
          apply regionB; (case hb => rfl)
          · skip
            refine pu (ev tab rfl) rfl ?_
            first | refine pu (ev tab rfl) rfl ?_ | refine pu (loadRow tab rfl rfl rfl rfl) rfl ?_ | refine pu (loadBox tab rfl rfl rfl rfl rfl) rfl ?_
            refine pu (ev tab rfl) rfl ?_
            apply splitJ; (case hj => rfl); (case hl => rfl)
            · skip
              refine goG rfl rfl ?_
              refine pu (ev tab rfl) rfl ?_
              refine goG rfl rfl ?_
              first | refine pu (ev tab rfl) rfl ?_ | refine pu (loadRow tab rfl rfl rfl rfl) rfl ?_ | refine pu (loadBox tab rfl rfl rfl rfl rfl) rfl ?_
              refine goG rfl rfl ?_
              refine pu (ev tab rfl) rfl ?_
              refine goG rfl rfl ?_
              iterate 2 refine pu (ev tab rfl) rfl ?_
              refine WO.nil ?_
              refine qv1 rfl rfl rfl
            · skip
              refine skipT rfl rfl rfl rfl ?_
              refine skipT rfl rfl rfl rfl ?_
              refine skipT rfl rfl rfl rfl ?_
              refine skipT rfl rfl rfl rfl ?_
              refine pu (ev tab rfl) rfl ?_
              refine WO.nil ?_
              refine qv1 rfl rfl rfl
          refine qs ?_
          refine condK rfl (fun h53 => ?_) (fun h53 => ?_)
          · skip
            refine W.region ?_
            refine pu (ev tab rfl) rfl ?_
            refine pu (buildV tab rfl rfl rfl rfl rfl rfl rfl rfl rfl) rfl ?_
            first | refine appendFl tab rfl rfl rfl rfl rfl rfl rfl rfl rfl rfl rfl rfl (lensB_mem rfl) (Nat.le_of_ble_eq_true rfl) ?_ | refine appendO tab rfl rfl rfl rfl rfl rfl rfl rfl rfl rfl rfl rfl rfl rfl ?_
            refine pu (ev tab rfl) rfl ?_
            refine WO.nil ?_
            refine qs ?_
            refine W.seq ?_
            refine W.region ?_
            refine pu (ev tab rfl) rfl ?_
            try refine unfl 65 rfl rfl ?_
            refine pu (puCall rfl rfl rfl (joinW_fn (wordsE e) wSpace (by unfold wordsE wordsF stackW showsB; simp_all [sc, wSemi, wStop]) (by omega) w3) rfl) rfl ?_
            refine pu (ev tab rfl) rfl ?_
            refine WO.nil ?_
            refine qs ?_
            refine W.ret ?_
            refine QF.ret0 trivial rfl ?_
            rw [hg]; rfl
          · skip
            refine W.seq ?_
            refine W.region ?_
            refine pu (ev tab rfl) rfl ?_
            first | refine pu (ev tab rfl) rfl ?_ | refine pu (loadRow tab rfl rfl rfl rfl) rfl ?_ | refine pu (loadBox tab rfl rfl rfl rfl rfl) rfl ?_
            refine WO.nil ?_
            refine qs ?_
            refine condK rfl (fun h58 => ?_) (fun h58 => ?_)
            · skip
              refine W.region ?_
              iterate 2 refine pu (ev tab rfl) rfl ?_
              first | refine pu (ev tab rfl) rfl ?_ | refine pu (loadRow tab rfl rfl rfl rfl) rfl ?_ | refine pu (loadBox tab rfl rfl rfl rfl rfl) rfl ?_
              refine pu (puCall rfl rfl rfl (join_fn e.stack wSemi (by have := (frames_ok g.frames).1; omega) (by have := g.stackSize; omega)) rfl) rfl ?_
              refine pu (buildV tab rfl rfl rfl rfl rfl rfl rfl rfl rfl) rfl ?_
              first | refine appendFl tab rfl rfl rfl rfl rfl rfl rfl rfl rfl rfl rfl rfl (lensB_mem rfl) (Nat.le_of_ble_eq_true rfl) ?_ | refine appendO tab rfl rfl rfl rfl rfl rfl rfl rfl rfl rfl rfl rfl rfl rfl ?_
              refine pu (ev tab rfl) rfl ?_
              refine WO.nil ?_
              refine qs ?_
              refine W.seq ?_
              refine W.region ?_
              refine pu (ev tab rfl) rfl ?_
              try refine unfl 65 rfl rfl ?_
              refine pu (puCall rfl rfl rfl (joinW_fn (wordsE e) wSpace (by unfold wordsE wordsF stackW showsB; simp_all [sc, wSemi, wStop]) (by omega) w3) rfl) rfl ?_
              refine pu (ev tab rfl) rfl ?_
              refine WO.nil ?_
              refine qs ?_
              refine W.ret ?_
              refine QF.ret0 trivial rfl ?_
              rw [hg]; rfl
            · skip
              refine W.skip ?_
              refine qs ?_
              refine W.seq ?_
              refine W.region ?_
              refine pu (ev tab rfl) rfl ?_
              try refine unfl 65 rfl rfl ?_
              refine pu (puCall rfl rfl rfl (joinW_fn (wordsE e) wSpace (by unfold wordsE wordsF stackW showsB; simp_all [sc, wSemi, wStop]) (by omega) w3) rfl) rfl ?_
              refine pu (ev tab rfl) rfl ?_
              refine WO.nil ?_
              refine qs ?_
              refine W.ret ?_
              refine QF.ret0 trivial rfl ?_
              rw [hg]; rfl
end Go.Proofs.YtlmgnlhagpoggaaDoor
namespace Go.Proofs.YtlmgnlhagpoggaaDoor
open Go.Ab Go.Tb
set_option maxRecDepth 10000
attribute [local irreducible] W WO Pu QS QB QL QF QV QV1 CH QE
theorem uses_eq {k : Int} (h : 1 ≤ k ∧ k < 13) : usesName k = (frmOf k).name ∧ usesN k = (frmOf k).n ∧ usesM k = (frmOf k).m ∧ usesStack k = (frmOf k).stack ∧ ((frmOf k).word = wStop ↔ k = 9) := by
  rcases kinds h.1 h.2 with h | h | h | h | h | h | h | h | h | h | h | h <;> subst h <;> decide
theorem rtextE_fn (e : Ev) : Does Tryd.prog 13 [.ag e.c] (.d (.v (.string (textE e)))) 0 := by
  refine Does.of_W (n := 75) (ts := [2]) Tryd.func13 (by kernel_rfl) rfl Tryd.ntmps13 Tryd.results13 rfl rfl fun C hC hG => ?_
  refine W.seq ?_
  refine W.region ?_
  refine boxR rfl rfl rfl ?_
  refine pu (ev tab rfl) rfl ?_
  refine WO.nil ?_
  refine qs ?_
  refine W.seq ?_
  refine W.seq ?_
  refine W.region ?_
  first | refine pu (ev tab rfl) rfl ?_ | refine pu (loadRow tab rfl rfl rfl rfl) rfl ?_ | refine pu (loadBox tab rfl rfl rfl rfl rfl) rfl ?_
  refine pu (puCall rfl rfl rfl (rcheck_fn ..) rfl) rfl ?_
  refine pu (ev tab rfl) rfl ?_
  refine WO.nil ?_
  refine qs ?_
  refine condK rfl (fun h10 => ?_) (fun h10 => ?_)
  · skip
    have hg : textE e = B #[] := by unfold textE; rw [if_neg (by simpa using h10)]
    refine W.seq ?_
    refine W.region ?_
    refine pu (ev tab rfl) rfl ?_
    refine WO.nil ?_
    refine qs ?_
    refine W.ret ?_
    refine qsRet ?_
    refine QF.ret0 trivial rfl ?_
    rw [hg]; rfl
  · skip
    have hc : checkE e = 0 := by simpa using h10
    have g := good_of hc
    obtain ⟨w1, w2, w3⟩ := g.wordsSize
    have hg : textE e = joinB (wordsE e) wSpace := by unfold textE; rw [if_pos hc]
    obtain ⟨u1, u2, u3, u4, u5⟩ := uses_eq g.kind
    have hk1 : 0 ≤ e.kind := by have := g.kind.1; omega
    have hk2 : e.kind < 13 := g.kind.2
    refine W.skip ?_
    refine qs ?_
    refine W.seq ?_
    refine W.region ?_
    refine pu (ev tab rfl) rfl ?_
    first | refine pu (ev tab rfl) rfl ?_ | refine pu (loadRow tab rfl rfl rfl rfl) rfl ?_ | refine pu (loadBox tab rfl rfl rfl rfl rfl) rfl ?_
    refine pu (puCall rfl rfl rfl (uses_fn2 ..) rfl) rfl ?_
    iterate 9 refine pu (ev tab rfl) rfl ?_
    refine WO.nil ?_
    refine qs ?_
    refine W.seq ?_
    refine W.regionD tab (by kernel_rfl) ?_
    refine chPu (ev tab rfl) rfl ?_
    first | refine chPu (ev tab rfl) rfl ?_ | refine chPu (loadRow tab rfl rfl rfl rfl) rfl ?_ | refine chPu (loadBox tab rfl rfl rfl rfl rfl) rfl ?_
    refine chPu (puCall rfl rfl rfl (rtext_fn _ e.time (Nat.lt_succ_self _) (int_of g.timeIn).1 (int_of g.timeIn).2) rfl) rfl ?_
    refine chPu (ev tab rfl) rfl ?_
    first | refine chPu (ev tab rfl) rfl ?_ | refine chPu (loadRow tab rfl rfl rfl rfl) rfl ?_ | refine chPu (loadBox tab rfl rfl rfl rfl rfl) rfl ?_
    refine chPu (puCall rfl rfl rfl (rword_fn e.kind hk1 hk2) rfl) rfl ?_
    refine chPu (buildFl tab rfl rfl rfl rfl rfl rfl rfl rfl rfl) rfl ?_
    refine chPu (ev tab rfl) rfl ?_
    refine CH.nil ?_
    refine qs ?_
    refine W.seq ?_
    refine W.seq ?_
    refine W.region ?_
    refine pu (ev tab rfl) rfl ?_
    refine WO.nil ?_
    refine qs ?_
    refine condK rfl (fun h26 => ?_) (fun h26 => ?_)
    · skip
      refine W.region ?_
      iterate 2 refine pu (ev tab rfl) rfl ?_
      first | refine pu (ev tab rfl) rfl ?_ | refine pu (loadRow tab rfl rfl rfl rfl) rfl ?_ | refine pu (loadBox tab rfl rfl rfl rfl rfl) rfl ?_
      refine pu (buildV tab rfl rfl rfl rfl rfl rfl rfl rfl rfl) rfl ?_
      first | refine appendFl tab rfl rfl rfl rfl rfl rfl rfl rfl rfl rfl rfl rfl (lensB_mem rfl) (Nat.le_of_ble_eq_true rfl) ?_ | refine appendO tab rfl rfl rfl rfl rfl rfl rfl rfl rfl rfl rfl rfl rfl rfl ?_
      refine pu (ev tab rfl) rfl ?_
      refine WO.nil ?_
      refine qs ?_
      refine W.seq ?_
      refine W.seq ?_
      refine W.region ?_
      refine pu (ev tab rfl) rfl ?_
      refine WO.nil ?_
      refine qs ?_
      refine condK rfl (fun h32 => ?_) (fun h32 => ?_)
      · skip
        refine W.region ?_
        iterate 2 refine pu (ev tab rfl) rfl ?_
        first | refine pu (ev tab rfl) rfl ?_ | refine pu (loadRow tab rfl rfl rfl rfl) rfl ?_ | refine pu (loadBox tab rfl rfl rfl rfl rfl) rfl ?_
        refine pu (puCall rfl rfl rfl (rtext_fn _ e.n (Nat.lt_succ_self _) (int_of g.nIn).1 (int_of g.nIn).2) rfl) rfl ?_
        refine pu (buildV tab rfl rfl rfl rfl rfl rfl rfl rfl rfl) rfl ?_
        first | refine appendFl tab rfl rfl rfl rfl rfl rfl rfl rfl rfl rfl rfl rfl (lensB_mem rfl) (Nat.le_of_ble_eq_true rfl) ?_ | refine appendO tab rfl rfl rfl rfl rfl rfl rfl rfl rfl rfl rfl rfl rfl rfl ?_
        refine pu (ev tab rfl) rfl ?_
        refine WO.nil ?_
        refine qs ?_
        refine W.seq ?_
        refine W.seq ?_
        apply regionB; (case hb => rfl)
        · skip
          iterate 2 refine pu (ev tab rfl) rfl ?_
          apply splitJ; (case hj => rfl); (case hl => rfl)
          · skip
            refine goG rfl rfl ?_
            refine pu (ev tab rfl) rfl ?_
            refine goG rfl rfl ?_
            first | refine pu (ev tab rfl) rfl ?_ | refine pu (loadRow tab rfl rfl rfl rfl) rfl ?_ | refine pu (loadBox tab rfl rfl rfl rfl rfl) rfl ?_
            refine goG rfl rfl ?_
            refine pu (ev tab rfl) rfl ?_
            refine goG rfl rfl ?_
            refine pu (ev tab rfl) rfl ?_
            apply splitJ; (case hj => rfl); (case hl => rfl)
            · skip
              refine skipT rfl rfl rfl rfl ?_
              refine skipT rfl rfl rfl rfl ?_
              refine skipT rfl rfl rfl rfl ?_
              refine goG rfl rfl ?_
              iterate 2 refine pu (ev tab rfl) rfl ?_
              refine WO.nil ?_
              refine qv1 rfl rfl rfl
            · skip
              refine goG rfl rfl ?_
              refine pu (ev tab rfl) rfl ?_
              refine goG rfl rfl ?_
              first | refine pu (ev tab rfl) rfl ?_ | refine pu (loadRow tab rfl rfl rfl rfl) rfl ?_ | refine pu (loadBox tab rfl rfl rfl rfl rfl) rfl ?_
              refine goG rfl rfl ?_
              refine pu (ev tab rfl) rfl ?_
              refine goG rfl rfl ?_
              iterate 2 refine pu (ev tab rfl) rfl ?_
              refine WO.nil ?_
              refine qv1 rfl rfl rfl
          · skip
            refine skipT rfl rfl rfl rfl ?_
            refine skipT rfl rfl rfl rfl ?_
            refine skipT rfl rfl rfl rfl ?_
            refine skipT rfl rfl rfl rfl ?_
            refine skipU rfl rfl rfl ?_
            refine skipU rfl rfl rfl ?_
            refine skipU rfl rfl rfl ?_
            refine skipT rfl rfl rfl rfl ?_
            refine pu (ev tab rfl) rfl ?_
            refine WO.nil ?_
            refine qv1 rfl rfl rfl
        refine qs ?_
        refine condK rfl (fun h49 => ?_) (fun h49 => ?_)
        · skip
          refine W.region ?_
          iterate 2 refine pu (ev tab rfl) rfl ?_
          first | refine pu (ev tab rfl) rfl ?_ | refine pu (loadRow tab rfl rfl rfl rfl) rfl ?_ | refine pu (loadBox tab rfl rfl rfl rfl rfl) rfl ?_
          refine pu (puCall rfl rfl rfl (rtext_fn _ e.m (Nat.lt_succ_self _) (int_of g.mIn).1 (int_of g.mIn).2) rfl) rfl ?_
          refine pu (buildV tab rfl rfl rfl rfl rfl rfl rfl rfl rfl) rfl ?_
          first | refine appendFl tab rfl rfl rfl rfl rfl rfl rfl rfl rfl rfl rfl rfl (lensB_mem rfl) (Nat.le_of_ble_eq_true rfl) ?_ | refine appendO tab rfl rfl rfl rfl rfl rfl rfl rfl rfl rfl rfl rfl rfl rfl ?_
          refine pu (ev tab rfl) rfl ?_
          refine WO.nil ?_
          refine qs ?_
          refine W.seq ?_
          refine W.seq ?_
          apply regionB; (case hb => rfl)
          · skip
            iterate 2 refine pu (ev tab rfl) rfl ?_
            apply splitJ; (case hj => rfl); (case hl => rfl)
            · skip
              refine goG rfl rfl ?_
              refine pu (ev tab rfl) rfl ?_
              refine goG rfl rfl ?_
              first | refine pu (ev tab rfl) rfl ?_ | refine pu (loadRow tab rfl rfl rfl rfl) rfl ?_ | refine pu (loadBox tab rfl rfl rfl rfl rfl) rfl ?_
              refine goG rfl rfl ?_
              refine pu (ev tab rfl) rfl ?_
              refine goG rfl rfl ?_
              iterate 2 refine pu (ev tab rfl) rfl ?_
              refine WO.nil ?_
              refine qv1 rfl rfl rfl
            · skip
              refine skipT rfl rfl rfl rfl ?_
              refine skipT rfl rfl rfl rfl ?_
              refine skipT rfl rfl rfl rfl ?_
              refine skipT rfl rfl rfl rfl ?_
              refine pu (ev tab rfl) rfl ?_
              refine WO.nil ?_
              refine qv1 rfl rfl rfl
          refine qs ?_
          refine condK rfl (fun h62 => ?_) (fun h62 => ?_)
          · skip
            refine W.region ?_
            refine pu (ev tab rfl) rfl ?_
            refine pu (buildV tab rfl rfl rfl rfl rfl rfl rfl rfl rfl) rfl ?_
            first | refine appendFl tab rfl rfl rfl rfl rfl rfl rfl rfl rfl rfl rfl rfl (lensB_mem rfl) (Nat.le_of_ble_eq_true rfl) ?_ | refine appendO tab rfl rfl rfl rfl rfl rfl rfl rfl rfl rfl rfl rfl rfl rfl ?_
            refine pu (ev tab rfl) rfl ?_
            refine WO.nil ?_
            refine qs ?_
            refine W.seq ?_
            refine W.region ?_
            refine pu (ev tab rfl) rfl ?_
            try refine unfl 73 rfl rfl ?_
            refine pu (puCall rfl rfl rfl (rjoinW_fn (wordsE e) wSpace (by unfold wordsE wordsF stackW showsB; rw [← u1, ← u2, ← u3, ← u4]; simp_all [sc, wSemi, wStop] <;> (intro q; exact (h49 q).1)) (by omega) w3) rfl) rfl ?_
            refine pu (ev tab rfl) rfl ?_
            refine WO.nil ?_
            refine qs ?_
            refine W.ret ?_
            refine QF.ret0 trivial rfl ?_
            rw [hg]; rfl
          · skip
            refine W.seq ?_
            refine W.region ?_
            refine pu (ev tab rfl) rfl ?_
            refine WO.nil ?_
            refine qs ?_
            refine condK rfl (fun h66 => ?_) (fun h66 => ?_)
            · skip
              refine W.region ?_
              iterate 2 refine pu (ev tab rfl) rfl ?_
              first | refine pu (ev tab rfl) rfl ?_ | refine pu (loadRow tab rfl rfl rfl rfl) rfl ?_ | refine pu (loadBox tab rfl rfl rfl rfl rfl) rfl ?_
              refine pu (puCall rfl rfl rfl (rjoin_fn e.stack wSemi (by have := (frames_ok g.frames).1; omega) (by have := g.stackSize; omega)) rfl) rfl ?_
              refine pu (buildV tab rfl rfl rfl rfl rfl rfl rfl rfl rfl) rfl ?_
              first | refine appendFl tab rfl rfl rfl rfl rfl rfl rfl rfl rfl rfl rfl rfl (lensB_mem rfl) (Nat.le_of_ble_eq_true rfl) ?_ | refine appendO tab rfl rfl rfl rfl rfl rfl rfl rfl rfl rfl rfl rfl rfl rfl ?_
              refine pu (ev tab rfl) rfl ?_
              refine WO.nil ?_
              refine qs ?_
              refine W.seq ?_
              refine W.region ?_
              refine pu (ev tab rfl) rfl ?_
              try refine unfl 73 rfl rfl ?_
              refine pu (puCall rfl rfl rfl (rjoinW_fn (wordsE e) wSpace (by unfold wordsE wordsF stackW showsB; rw [← u1, ← u2, ← u3, ← u4]; simp_all [sc, wSemi, wStop] <;> (intro q; exact (h49 q).1)) (by omega) w3) rfl) rfl ?_
              refine pu (ev tab rfl) rfl ?_
              refine WO.nil ?_
              refine qs ?_
              refine W.ret ?_
              refine QF.ret0 trivial rfl ?_
              rw [hg]; rfl
            · skip
              refine W.skip ?_
              refine qs ?_
              refine W.seq ?_
              refine W.region ?_
              refine pu (ev tab rfl) rfl ?_
              try refine unfl 73 rfl rfl ?_
              refine pu (puCall rfl rfl rfl (rjoinW_fn (wordsE e) wSpace (by unfold wordsE wordsF stackW showsB; rw [← u1, ← u2, ← u3, ← u4]; simp_all [sc, wSemi, wStop] <;> (intro q; exact (h49 q).1)) (by omega) w3) rfl) rfl ?_
              refine pu (ev tab rfl) rfl ?_
              refine WO.nil ?_
              refine qs ?_
              refine W.ret ?_
              refine QF.ret0 trivial rfl ?_
              rw [hg]; rfl
        · skip
          refine W.skip ?_
          refine qs ?_
          refine W.seq ?_
          refine W.seq ?_
          apply regionB; (case hb => rfl)
          · skip
            iterate 2 refine pu (ev tab rfl) rfl ?_
            apply splitJ; (case hj => rfl); (case hl => rfl)
            · skip
              refine goG rfl rfl ?_
              refine pu (ev tab rfl) rfl ?_
              refine goG rfl rfl ?_
              first | refine pu (ev tab rfl) rfl ?_ | refine pu (loadRow tab rfl rfl rfl rfl) rfl ?_ | refine pu (loadBox tab rfl rfl rfl rfl rfl) rfl ?_
              refine goG rfl rfl ?_
              refine pu (ev tab rfl) rfl ?_
              refine goG rfl rfl ?_
              iterate 2 refine pu (ev tab rfl) rfl ?_
              refine WO.nil ?_
              refine qv1 rfl rfl rfl
            · skip
              refine skipT rfl rfl rfl rfl ?_
              refine skipT rfl rfl rfl rfl ?_
              refine skipT rfl rfl rfl rfl ?_
              refine skipT rfl rfl rfl rfl ?_
              refine pu (ev tab rfl) rfl ?_
              refine WO.nil ?_
              refine qv1 rfl rfl rfl
          refine qs ?_
          refine condK rfl (fun h62 => ?_) (fun h62 => ?_)
          · skip
            refine W.region ?_
            refine pu (ev tab rfl) rfl ?_
            refine pu (buildV tab rfl rfl rfl rfl rfl rfl rfl rfl rfl) rfl ?_
            first | refine appendFl tab rfl rfl rfl rfl rfl rfl rfl rfl rfl rfl rfl rfl (lensB_mem rfl) (Nat.le_of_ble_eq_true rfl) ?_ | refine appendO tab rfl rfl rfl rfl rfl rfl rfl rfl rfl rfl rfl rfl rfl rfl ?_
            refine pu (ev tab rfl) rfl ?_
            refine WO.nil ?_
            refine qs ?_
            refine W.seq ?_
            refine W.region ?_
            refine pu (ev tab rfl) rfl ?_
            try refine unfl 73 rfl rfl ?_
            refine pu (puCall rfl rfl rfl (rjoinW_fn (wordsE e) wSpace (by unfold wordsE wordsF stackW showsB; rw [← u1, ← u2, ← u3, ← u4]; simp_all [sc, wSemi, wStop] <;> (intro q; exact (h49 q).1)) (by omega) w3) rfl) rfl ?_
            refine pu (ev tab rfl) rfl ?_
            refine WO.nil ?_
            refine qs ?_
            refine W.ret ?_
            refine QF.ret0 trivial rfl ?_
            rw [hg]; rfl
          · skip
            refine W.seq ?_
            refine W.region ?_
            refine pu (ev tab rfl) rfl ?_
            refine WO.nil ?_
            refine qs ?_
            refine condK rfl (fun h66 => ?_) (fun h66 => ?_)
            · skip
              refine W.region ?_
              iterate 2 refine pu (ev tab rfl) rfl ?_
              first | refine pu (ev tab rfl) rfl ?_ | refine pu (loadRow tab rfl rfl rfl rfl) rfl ?_ | refine pu (loadBox tab rfl rfl rfl rfl rfl) rfl ?_
              refine pu (puCall rfl rfl rfl (rjoin_fn e.stack wSemi (by have := (frames_ok g.frames).1; omega) (by have := g.stackSize; omega)) rfl) rfl ?_
              refine pu (buildV tab rfl rfl rfl rfl rfl rfl rfl rfl rfl) rfl ?_
              first | refine appendFl tab rfl rfl rfl rfl rfl rfl rfl rfl rfl rfl rfl rfl (lensB_mem rfl) (Nat.le_of_ble_eq_true rfl) ?_ | refine appendO tab rfl rfl rfl rfl rfl rfl rfl rfl rfl rfl rfl rfl rfl rfl ?_
              refine pu (ev tab rfl) rfl ?_
              refine WO.nil ?_
              refine qs ?_
              refine W.seq ?_
              refine W.region ?_
              refine pu (ev tab rfl) rfl ?_
              try refine unfl 73 rfl rfl ?_
              refine pu (puCall rfl rfl rfl (rjoinW_fn (wordsE e) wSpace (by unfold wordsE wordsF stackW showsB; rw [← u1, ← u2, ← u3, ← u4]; simp_all [sc, wSemi, wStop] <;> (intro q; exact (h49 q).1)) (by omega) w3) rfl) rfl ?_
              refine pu (ev tab rfl) rfl ?_
              refine WO.nil ?_
              refine qs ?_
              refine W.ret ?_
              refine QF.ret0 trivial rfl ?_
              rw [hg]; rfl
            · skip
              refine W.skip ?_
              refine qs ?_
              refine W.seq ?_
              refine W.region ?_
              refine pu (ev tab rfl) rfl ?_
              try refine unfl 73 rfl rfl ?_
              refine pu (puCall rfl rfl rfl (rjoinW_fn (wordsE e) wSpace (by unfold wordsE wordsF stackW showsB; rw [← u1, ← u2, ← u3, ← u4]; simp_all [sc, wSemi, wStop] <;> (intro q; exact (h49 q).1)) (by omega) w3) rfl) rfl ?_
              refine pu (ev tab rfl) rfl ?_
              refine WO.nil ?_
              refine qs ?_
              refine W.ret ?_
              refine QF.ret0 trivial rfl ?_
              rw [hg]; rfl
      · skip
        refine W.skip ?_
        refine qs ?_
        refine W.seq ?_
        refine W.seq ?_
        apply regionB; (case hb => rfl)
        · skip
          iterate 2 refine pu (ev tab rfl) rfl ?_
          apply splitJ; (case hj => rfl); (case hl => rfl)
          · skip
            refine goG rfl rfl ?_
            refine pu (ev tab rfl) rfl ?_
            refine goG rfl rfl ?_
            first | refine pu (ev tab rfl) rfl ?_ | refine pu (loadRow tab rfl rfl rfl rfl) rfl ?_ | refine pu (loadBox tab rfl rfl rfl rfl rfl) rfl ?_
            refine goG rfl rfl ?_
            refine pu (ev tab rfl) rfl ?_
            refine goG rfl rfl ?_
            refine pu (ev tab rfl) rfl ?_
            apply splitJ; (case hj => rfl); (case hl => rfl)
            · skip
              refine skipT rfl rfl rfl rfl ?_
              refine skipT rfl rfl rfl rfl ?_
              refine skipT rfl rfl rfl rfl ?_
              refine goG rfl rfl ?_
              iterate 2 refine pu (ev tab rfl) rfl ?_
              refine WO.nil ?_
              refine qv1 rfl rfl rfl
            · skip
              refine goG rfl rfl ?_
              refine pu (ev tab rfl) rfl ?_
              refine goG rfl rfl ?_
              first | refine pu (ev tab rfl) rfl ?_ | refine pu (loadRow tab rfl rfl rfl rfl) rfl ?_ | refine pu (loadBox tab rfl rfl rfl rfl rfl) rfl ?_
              refine goG rfl rfl ?_
              refine pu (ev tab rfl) rfl ?_
              refine goG rfl rfl ?_
              iterate 2 refine pu (ev tab rfl) rfl ?_
              refine WO.nil ?_
              refine qv1 rfl rfl rfl
          · skip
            refine skipT rfl rfl rfl rfl ?_
            refine skipT rfl rfl rfl rfl ?_
            refine skipT rfl rfl rfl rfl ?_
            refine skipT rfl rfl rfl rfl ?_
            refine skipU rfl rfl rfl ?_
            refine skipU rfl rfl rfl ?_
            refine skipU rfl rfl rfl ?_
            refine skipT rfl rfl rfl rfl ?_
            refine pu (ev tab rfl) rfl ?_
            refine WO.nil ?_
            refine qv1 rfl rfl rfl
        refine qs ?_
        refine condK rfl (fun h49 => ?_) (fun h49 => ?_)
        · skip
          refine W.region ?_
          iterate 2 refine pu (ev tab rfl) rfl ?_
          first | refine pu (ev tab rfl) rfl ?_ | refine pu (loadRow tab rfl rfl rfl rfl) rfl ?_ | refine pu (loadBox tab rfl rfl rfl rfl rfl) rfl ?_
          refine pu (puCall rfl rfl rfl (rtext_fn _ e.m (Nat.lt_succ_self _) (int_of g.mIn).1 (int_of g.mIn).2) rfl) rfl ?_
          refine pu (buildV tab rfl rfl rfl rfl rfl rfl rfl rfl rfl) rfl ?_
          first | refine appendFl tab rfl rfl rfl rfl rfl rfl rfl rfl rfl rfl rfl rfl (lensB_mem rfl) (Nat.le_of_ble_eq_true rfl) ?_ | refine appendO tab rfl rfl rfl rfl rfl rfl rfl rfl rfl rfl rfl rfl rfl rfl ?_
          refine pu (ev tab rfl) rfl ?_
          refine WO.nil ?_
          refine qs ?_
          refine W.seq ?_
          refine W.seq ?_
          apply regionB; (case hb => rfl)
          · skip
            iterate 2 refine pu (ev tab rfl) rfl ?_
            apply splitJ; (case hj => rfl); (case hl => rfl)
            · skip
              refine goG rfl rfl ?_
              refine pu (ev tab rfl) rfl ?_
              refine goG rfl rfl ?_
              first | refine pu (ev tab rfl) rfl ?_ | refine pu (loadRow tab rfl rfl rfl rfl) rfl ?_ | refine pu (loadBox tab rfl rfl rfl rfl rfl) rfl ?_
              refine goG rfl rfl ?_
              refine pu (ev tab rfl) rfl ?_
              refine goG rfl rfl ?_
              iterate 2 refine pu (ev tab rfl) rfl ?_
              refine WO.nil ?_
              refine qv1 rfl rfl rfl
            · skip
              refine skipT rfl rfl rfl rfl ?_
              refine skipT rfl rfl rfl rfl ?_
              refine skipT rfl rfl rfl rfl ?_
              refine skipT rfl rfl rfl rfl ?_
              refine pu (ev tab rfl) rfl ?_
              refine WO.nil ?_
              refine qv1 rfl rfl rfl
          refine qs ?_
          refine condK rfl (fun h62 => ?_) (fun h62 => ?_)
          · skip
            refine W.region ?_
            refine pu (ev tab rfl) rfl ?_
            refine pu (buildV tab rfl rfl rfl rfl rfl rfl rfl rfl rfl) rfl ?_
            first | refine appendFl tab rfl rfl rfl rfl rfl rfl rfl rfl rfl rfl rfl rfl (lensB_mem rfl) (Nat.le_of_ble_eq_true rfl) ?_ | refine appendO tab rfl rfl rfl rfl rfl rfl rfl rfl rfl rfl rfl rfl rfl rfl ?_
            refine pu (ev tab rfl) rfl ?_
            refine WO.nil ?_
            refine qs ?_
            refine W.seq ?_
            refine W.region ?_
            refine pu (ev tab rfl) rfl ?_
            try refine unfl 73 rfl rfl ?_
            refine pu (puCall rfl rfl rfl (rjoinW_fn (wordsE e) wSpace (by unfold wordsE wordsF stackW showsB; rw [← u1, ← u2, ← u3, ← u4]; simp_all [sc, wSemi, wStop] <;> (intro q; exact (h49 q).1)) (by omega) w3) rfl) rfl ?_
            refine pu (ev tab rfl) rfl ?_
            refine WO.nil ?_
            refine qs ?_
            refine W.ret ?_
            refine QF.ret0 trivial rfl ?_
            rw [hg]; rfl
          · skip
            refine W.seq ?_
            refine W.region ?_
            refine pu (ev tab rfl) rfl ?_
            refine WO.nil ?_
            refine qs ?_
            refine condK rfl (fun h66 => ?_) (fun h66 => ?_)
            · skip
              refine W.region ?_
              iterate 2 refine pu (ev tab rfl) rfl ?_
              first | refine pu (ev tab rfl) rfl ?_ | refine pu (loadRow tab rfl rfl rfl rfl) rfl ?_ | refine pu (loadBox tab rfl rfl rfl rfl rfl) rfl ?_
              refine pu (puCall rfl rfl rfl (rjoin_fn e.stack wSemi (by have := (frames_ok g.frames).1; omega) (by have := g.stackSize; omega)) rfl) rfl ?_
              refine pu (buildV tab rfl rfl rfl rfl rfl rfl rfl rfl rfl) rfl ?_
              first | refine appendFl tab rfl rfl rfl rfl rfl rfl rfl rfl rfl rfl rfl rfl (lensB_mem rfl) (Nat.le_of_ble_eq_true rfl) ?_ | refine appendO tab rfl rfl rfl rfl rfl rfl rfl rfl rfl rfl rfl rfl rfl rfl ?_
              refine pu (ev tab rfl) rfl ?_
              refine WO.nil ?_
              refine qs ?_
              refine W.seq ?_
              refine W.region ?_
              refine pu (ev tab rfl) rfl ?_
              try refine unfl 73 rfl rfl ?_
              refine pu (puCall rfl rfl rfl (rjoinW_fn (wordsE e) wSpace (by unfold wordsE wordsF stackW showsB; rw [← u1, ← u2, ← u3, ← u4]; simp_all [sc, wSemi, wStop] <;> (intro q; exact (h49 q).1)) (by omega) w3) rfl) rfl ?_
              refine pu (ev tab rfl) rfl ?_
              refine WO.nil ?_
              refine qs ?_
              refine W.ret ?_
              refine QF.ret0 trivial rfl ?_
              rw [hg]; rfl
            · skip
              refine W.skip ?_
              refine qs ?_
              refine W.seq ?_
              refine W.region ?_
              refine pu (ev tab rfl) rfl ?_
              try refine unfl 73 rfl rfl ?_
              refine pu (puCall rfl rfl rfl (rjoinW_fn (wordsE e) wSpace (by unfold wordsE wordsF stackW showsB; rw [← u1, ← u2, ← u3, ← u4]; simp_all [sc, wSemi, wStop] <;> (intro q; exact (h49 q).1)) (by omega) w3) rfl) rfl ?_
              refine pu (ev tab rfl) rfl ?_
              refine WO.nil ?_
              refine qs ?_
              refine W.ret ?_
              refine QF.ret0 trivial rfl ?_
              rw [hg]; rfl
        · skip
          refine W.skip ?_
          refine qs ?_
          refine W.seq ?_
          refine W.seq ?_
          apply regionB; (case hb => rfl)
          · skip
            iterate 2 refine pu (ev tab rfl) rfl ?_
            apply splitJ; (case hj => rfl); (case hl => rfl)
            · skip
              refine goG rfl rfl ?_
              refine pu (ev tab rfl) rfl ?_
              refine goG rfl rfl ?_
              first | refine pu (ev tab rfl) rfl ?_ | refine pu (loadRow tab rfl rfl rfl rfl) rfl ?_ | refine pu (loadBox tab rfl rfl rfl rfl rfl) rfl ?_
              refine goG rfl rfl ?_
              refine pu (ev tab rfl) rfl ?_
              refine goG rfl rfl ?_
              iterate 2 refine pu (ev tab rfl) rfl ?_
              refine WO.nil ?_
              refine qv1 rfl rfl rfl
            · skip
              refine skipT rfl rfl rfl rfl ?_
              refine skipT rfl rfl rfl rfl ?_
              refine skipT rfl rfl rfl rfl ?_
              refine skipT rfl rfl rfl rfl ?_
              refine pu (ev tab rfl) rfl ?_
              refine WO.nil ?_
              refine qv1 rfl rfl rfl
          refine qs ?_
          refine condK rfl (fun h62 => ?_) (fun h62 => ?_)
          · skip
            refine W.region ?_
            refine pu (ev tab rfl) rfl ?_
            refine pu (buildV tab rfl rfl rfl rfl rfl rfl rfl rfl rfl) rfl ?_
            first | refine appendFl tab rfl rfl rfl rfl rfl rfl rfl rfl rfl rfl rfl rfl (lensB_mem rfl) (Nat.le_of_ble_eq_true rfl) ?_ | refine appendO tab rfl rfl rfl rfl rfl rfl rfl rfl rfl rfl rfl rfl rfl rfl ?_
            refine pu (ev tab rfl) rfl ?_
            refine WO.nil ?_
            refine qs ?_
            refine W.seq ?_
            refine W.region ?_
            refine pu (ev tab rfl) rfl ?_
            try refine unfl 73 rfl rfl ?_
            refine pu (puCall rfl rfl rfl (rjoinW_fn (wordsE e) wSpace (by unfold wordsE wordsF stackW showsB; rw [← u1, ← u2, ← u3, ← u4]; simp_all [sc, wSemi, wStop] <;> (intro q; exact (h49 q).1)) (by omega) w3) rfl) rfl ?_
            refine pu (ev tab rfl) rfl ?_
            refine WO.nil ?_
            refine qs ?_
            refine W.ret ?_
            refine QF.ret0 trivial rfl ?_
            rw [hg]; rfl
          · skip
            refine W.seq ?_
            refine W.region ?_
            refine pu (ev tab rfl) rfl ?_
            refine WO.nil ?_
            refine qs ?_
            refine condK rfl (fun h66 => ?_) (fun h66 => ?_)
            · skip
              refine W.region ?_
              iterate 2 refine pu (ev tab rfl) rfl ?_
              first | refine pu (ev tab rfl) rfl ?_ | refine pu (loadRow tab rfl rfl rfl rfl) rfl ?_ | refine pu (loadBox tab rfl rfl rfl rfl rfl) rfl ?_
              refine pu (puCall rfl rfl rfl (rjoin_fn e.stack wSemi (by have := (frames_ok g.frames).1; omega) (by have := g.stackSize; omega)) rfl) rfl ?_
              refine pu (buildV tab rfl rfl rfl rfl rfl rfl rfl rfl rfl) rfl ?_
              first | refine appendFl tab rfl rfl rfl rfl rfl rfl rfl rfl rfl rfl rfl rfl (lensB_mem rfl) (Nat.le_of_ble_eq_true rfl) ?_ | refine appendO tab rfl rfl rfl rfl rfl rfl rfl rfl rfl rfl rfl rfl rfl rfl ?_
              refine pu (ev tab rfl) rfl ?_
              refine WO.nil ?_
              refine qs ?_
              refine W.seq ?_
              refine W.region ?_
              refine pu (ev tab rfl) rfl ?_
              try refine unfl 73 rfl rfl ?_
              refine pu (puCall rfl rfl rfl (rjoinW_fn (wordsE e) wSpace (by unfold wordsE wordsF stackW showsB; rw [← u1, ← u2, ← u3, ← u4]; simp_all [sc, wSemi, wStop] <;> (intro q; exact (h49 q).1)) (by omega) w3) rfl) rfl ?_
              refine pu (ev tab rfl) rfl ?_
              refine WO.nil ?_
              refine qs ?_
              refine W.ret ?_
              refine QF.ret0 trivial rfl ?_
              rw [hg]; rfl
            · skip
              refine W.skip ?_
              refine qs ?_
              refine W.seq ?_
              refine W.region ?_
              refine pu (ev tab rfl) rfl ?_
              try refine unfl 73 rfl rfl ?_
              refine pu (puCall rfl rfl rfl (rjoinW_fn (wordsE e) wSpace (by unfold wordsE wordsF stackW showsB; rw [← u1, ← u2, ← u3, ← u4]; simp_all [sc, wSemi, wStop] <;> (intro q; exact (h49 q).1)) (by omega) w3) rfl) rfl ?_
              refine pu (ev tab rfl) rfl ?_
              refine WO.nil ?_
              refine qs ?_
              refine W.ret ?_
              refine QF.ret0 trivial rfl ?_
              rw [hg]; rfl
    · skip
      refine W.skip ?_
      refine qs ?_
      refine W.seq ?_
      refine W.seq ?_
      refine W.region ?_
      refine pu (ev tab rfl) rfl ?_
      refine WO.nil ?_
      refine qs ?_
      refine condK rfl (fun h32 => ?_) (fun h32 => ?_)
      · skip
        refine W.region ?_
        iterate 2 refine pu (ev tab rfl) rfl ?_
        first | refine pu (ev tab rfl) rfl ?_ | refine pu (loadRow tab rfl rfl rfl rfl) rfl ?_ | refine pu (loadBox tab rfl rfl rfl rfl rfl) rfl ?_
        refine pu (puCall rfl rfl rfl (rtext_fn _ e.n (Nat.lt_succ_self _) (int_of g.nIn).1 (int_of g.nIn).2) rfl) rfl ?_
        refine pu (buildV tab rfl rfl rfl rfl rfl rfl rfl rfl rfl) rfl ?_
        first | refine appendFl tab rfl rfl rfl rfl rfl rfl rfl rfl rfl rfl rfl rfl (lensB_mem rfl) (Nat.le_of_ble_eq_true rfl) ?_ | refine appendO tab rfl rfl rfl rfl rfl rfl rfl rfl rfl rfl rfl rfl rfl rfl ?_
        refine pu (ev tab rfl) rfl ?_
        refine WO.nil ?_
        refine qs ?_
        refine W.seq ?_
        refine W.seq ?_
        apply regionB; (case hb => rfl)
        · skip
          iterate 2 refine pu (ev tab rfl) rfl ?_
          apply splitJ; (case hj => rfl); (case hl => rfl)
          · skip
            refine goG rfl rfl ?_
            refine pu (ev tab rfl) rfl ?_
            refine goG rfl rfl ?_
            first | refine pu (ev tab rfl) rfl ?_ | refine pu (loadRow tab rfl rfl rfl rfl) rfl ?_ | refine pu (loadBox tab rfl rfl rfl rfl rfl) rfl ?_
            refine goG rfl rfl ?_
            refine pu (ev tab rfl) rfl ?_
            refine goG rfl rfl ?_
            refine pu (ev tab rfl) rfl ?_
            apply splitJ; (case hj => rfl); (case hl => rfl)
            · skip
              refine skipT rfl rfl rfl rfl ?_
              refine skipT rfl rfl rfl rfl ?_
              refine skipT rfl rfl rfl rfl ?_
              refine goG rfl rfl ?_
              iterate 2 refine pu (ev tab rfl) rfl ?_
              refine WO.nil ?_
              refine qv1 rfl rfl rfl
            · skip
              refine goG rfl rfl ?_
              refine pu (ev tab rfl) rfl ?_
              refine goG rfl rfl ?_
              first | refine pu (ev tab rfl) rfl ?_ | refine pu (loadRow tab rfl rfl rfl rfl) rfl ?_ | refine pu (loadBox tab rfl rfl rfl rfl rfl) rfl ?_
              refine goG rfl rfl ?_
              refine pu (ev tab rfl) rfl ?_
              refine goG rfl rfl ?_
              iterate 2 refine pu (ev tab rfl) rfl ?_
              refine WO.nil ?_
              refine qv1 rfl rfl rfl
          · skip
            refine skipT rfl rfl rfl rfl ?_
            refine skipT rfl rfl rfl rfl ?_
            refine skipT rfl rfl rfl rfl ?_
            refine skipT rfl rfl rfl rfl ?_
            refine skipU rfl rfl rfl ?_
            refine skipU rfl rfl rfl ?_
            refine skipU rfl rfl rfl ?_
            refine skipT rfl rfl rfl rfl ?_
            refine pu (ev tab rfl) rfl ?_
            refine WO.nil ?_
            refine qv1 rfl rfl rfl
        refine qs ?_
        refine condK rfl (fun h49 => ?_) (fun h49 => ?_)
        · skip
          refine W.region ?_
          iterate 2 refine pu (ev tab rfl) rfl ?_
          first | refine pu (ev tab rfl) rfl ?_ | refine pu (loadRow tab rfl rfl rfl rfl) rfl ?_ | refine pu (loadBox tab rfl rfl rfl rfl rfl) rfl ?_
          refine pu (puCall rfl rfl rfl (rtext_fn _ e.m (Nat.lt_succ_self _) (int_of g.mIn).1 (int_of g.mIn).2) rfl) rfl ?_
          refine pu (buildV tab rfl rfl rfl rfl rfl rfl rfl rfl rfl) rfl ?_
          first | refine appendFl tab rfl rfl rfl rfl rfl rfl rfl rfl rfl rfl rfl rfl (lensB_mem rfl) (Nat.le_of_ble_eq_true rfl) ?_ | refine appendO tab rfl rfl rfl rfl rfl rfl rfl rfl rfl rfl rfl rfl rfl rfl ?_
          refine pu (ev tab rfl) rfl ?_
          refine WO.nil ?_
          refine qs ?_
          refine W.seq ?_
          refine W.seq ?_
          apply regionB; (case hb => rfl)
          · skip
            iterate 2 refine pu (ev tab rfl) rfl ?_
            apply splitJ; (case hj => rfl); (case hl => rfl)
            · skip
              refine goG rfl rfl ?_
              refine pu (ev tab rfl) rfl ?_
              refine goG rfl rfl ?_
              first | refine pu (ev tab rfl) rfl ?_ | refine pu (loadRow tab rfl rfl rfl rfl) rfl ?_ | refine pu (loadBox tab rfl rfl rfl rfl rfl) rfl ?_
              refine goG rfl rfl ?_
              refine pu (ev tab rfl) rfl ?_
              refine goG rfl rfl ?_
              iterate 2 refine pu (ev tab rfl) rfl ?_
              refine WO.nil ?_
              refine qv1 rfl rfl rfl
            · skip
              refine skipT rfl rfl rfl rfl ?_
              refine skipT rfl rfl rfl rfl ?_
              refine skipT rfl rfl rfl rfl ?_
              refine skipT rfl rfl rfl rfl ?_
              refine pu (ev tab rfl) rfl ?_
              refine WO.nil ?_
              refine qv1 rfl rfl rfl
          refine qs ?_
          refine condK rfl (fun h62 => ?_) (fun h62 => ?_)
          · skip
            refine W.region ?_
            refine pu (ev tab rfl) rfl ?_
            refine pu (buildV tab rfl rfl rfl rfl rfl rfl rfl rfl rfl) rfl ?_
            first | refine appendFl tab rfl rfl rfl rfl rfl rfl rfl rfl rfl rfl rfl rfl (lensB_mem rfl) (Nat.le_of_ble_eq_true rfl) ?_ | refine appendO tab rfl rfl rfl rfl rfl rfl rfl rfl rfl rfl rfl rfl rfl rfl ?_
            refine pu (ev tab rfl) rfl ?_
            refine WO.nil ?_
            refine qs ?_
            refine W.seq ?_
            refine W.region ?_
            refine pu (ev tab rfl) rfl ?_
            try refine unfl 73 rfl rfl ?_
            refine pu (puCall rfl rfl rfl (rjoinW_fn (wordsE e) wSpace (by unfold wordsE wordsF stackW showsB; rw [← u1, ← u2, ← u3, ← u4]; simp_all [sc, wSemi, wStop] <;> (intro q; exact (h49 q).1)) (by omega) w3) rfl) rfl ?_
            refine pu (ev tab rfl) rfl ?_
            refine WO.nil ?_
            refine qs ?_
            refine W.ret ?_
            refine QF.ret0 trivial rfl ?_
            rw [hg]; rfl
          · skip
            refine W.seq ?_
            refine W.region ?_
            refine pu (ev tab rfl) rfl ?_
            refine WO.nil ?_
            refine qs ?_
            refine condK rfl (fun h66 => ?_) (fun h66 => ?_)
            · skip
              refine W.region ?_
              iterate 2 refine pu (ev tab rfl) rfl ?_
              first | refine pu (ev tab rfl) rfl ?_ | refine pu (loadRow tab rfl rfl rfl rfl) rfl ?_ | refine pu (loadBox tab rfl rfl rfl rfl rfl) rfl ?_
              refine pu (puCall rfl rfl rfl (rjoin_fn e.stack wSemi (by have := (frames_ok g.frames).1; omega) (by have := g.stackSize; omega)) rfl) rfl ?_
              refine pu (buildV tab rfl rfl rfl rfl rfl rfl rfl rfl rfl) rfl ?_
              first | refine appendFl tab rfl rfl rfl rfl rfl rfl rfl rfl rfl rfl rfl rfl (lensB_mem rfl) (Nat.le_of_ble_eq_true rfl) ?_ | refine appendO tab rfl rfl rfl rfl rfl rfl rfl rfl rfl rfl rfl rfl rfl rfl ?_
              refine pu (ev tab rfl) rfl ?_
              refine WO.nil ?_
              refine qs ?_
              refine W.seq ?_
              refine W.region ?_
              refine pu (ev tab rfl) rfl ?_
              try refine unfl 73 rfl rfl ?_
              refine pu (puCall rfl rfl rfl (rjoinW_fn (wordsE e) wSpace (by unfold wordsE wordsF stackW showsB; rw [← u1, ← u2, ← u3, ← u4]; simp_all [sc, wSemi, wStop] <;> (intro q; exact (h49 q).1)) (by omega) w3) rfl) rfl ?_
              refine pu (ev tab rfl) rfl ?_
              refine WO.nil ?_
              refine qs ?_
              refine W.ret ?_
              refine QF.ret0 trivial rfl ?_
              rw [hg]; rfl
            · skip
              refine W.skip ?_
              refine qs ?_
              refine W.seq ?_
              refine W.region ?_
              refine pu (ev tab rfl) rfl ?_
              try refine unfl 73 rfl rfl ?_
              refine pu (puCall rfl rfl rfl (rjoinW_fn (wordsE e) wSpace (by unfold wordsE wordsF stackW showsB; rw [← u1, ← u2, ← u3, ← u4]; simp_all [sc, wSemi, wStop] <;> (intro q; exact (h49 q).1)) (by omega) w3) rfl) rfl ?_
              refine pu (ev tab rfl) rfl ?_
              refine WO.nil ?_
              refine qs ?_
              refine W.ret ?_
              refine QF.ret0 trivial rfl ?_
              rw [hg]; rfl
        · skip
          refine W.skip ?_
          refine qs ?_
          refine W.seq ?_
          refine W.seq ?_
          apply regionB; (case hb => rfl)
          · skip
            iterate 2 refine pu (ev tab rfl) rfl ?_
            apply splitJ; (case hj => rfl); (case hl => rfl)
            · skip
              refine goG rfl rfl ?_
              refine pu (ev tab rfl) rfl ?_
              refine goG rfl rfl ?_
              first | refine pu (ev tab rfl) rfl ?_ | refine pu (loadRow tab rfl rfl rfl rfl) rfl ?_ | refine pu (loadBox tab rfl rfl rfl rfl rfl) rfl ?_
              refine goG rfl rfl ?_
              refine pu (ev tab rfl) rfl ?_
              refine goG rfl rfl ?_
              iterate 2 refine pu (ev tab rfl) rfl ?_
              refine WO.nil ?_
              refine qv1 rfl rfl rfl
            · skip
              refine skipT rfl rfl rfl rfl ?_
              refine skipT rfl rfl rfl rfl ?_
              refine skipT rfl rfl rfl rfl ?_
              refine skipT rfl rfl rfl rfl ?_
              refine pu (ev tab rfl) rfl ?_
              refine WO.nil ?_
              refine qv1 rfl rfl rfl
          refine qs ?_
          refine condK rfl (fun h62 => ?_) (fun h62 => ?_)
          · skip
            refine W.region ?_
            refine pu (ev tab rfl) rfl ?_
            refine pu (buildV tab rfl rfl rfl rfl rfl rfl rfl rfl rfl) rfl ?_
            first | refine appendFl tab rfl rfl rfl rfl rfl rfl rfl rfl rfl rfl rfl rfl (lensB_mem rfl) (Nat.le_of_ble_eq_true rfl) ?_ | refine appendO tab rfl rfl rfl rfl rfl rfl rfl rfl rfl rfl rfl rfl rfl rfl ?_
            refine pu (ev tab rfl) rfl ?_
            refine WO.nil ?_
            refine qs ?_
            refine W.seq ?_
            refine W.region ?_
            refine pu (ev tab rfl) rfl ?_
            try refine unfl 73 rfl rfl ?_
            refine pu (puCall rfl rfl rfl (rjoinW_fn (wordsE e) wSpace (by unfold wordsE wordsF stackW showsB; rw [← u1, ← u2, ← u3, ← u4]; simp_all [sc, wSemi, wStop] <;> (intro q; exact (h49 q).1)) (by omega) w3) rfl) rfl ?_
            refine pu (ev tab rfl) rfl ?_
            refine WO.nil ?_
            refine qs ?_
            refine W.ret ?_
            refine QF.ret0 trivial rfl ?_
            rw [hg]; rfl
          · skip
            refine W.seq ?_
            refine W.region ?_
            refine pu (ev tab rfl) rfl ?_
            refine WO.nil ?_
            refine qs ?_
            refine condK rfl (fun h66 => ?_) (fun h66 => ?_)
            · skip
              refine W.region ?_
              iterate 2 refine pu (ev tab rfl) rfl ?_
              first | refine pu (ev tab rfl) rfl ?_ | refine pu (loadRow tab rfl rfl rfl rfl) rfl ?_ | refine pu (loadBox tab rfl rfl rfl rfl rfl) rfl ?_
              refine pu (puCall rfl rfl rfl (rjoin_fn e.stack wSemi (by have := (frames_ok g.frames).1; omega) (by have := g.stackSize; omega)) rfl) rfl ?_
              refine pu (buildV tab rfl rfl rfl rfl rfl rfl rfl rfl rfl) rfl ?_
              first | refine appendFl tab rfl rfl rfl rfl rfl rfl rfl rfl rfl rfl rfl rfl (lensB_mem rfl) (Nat.le_of_ble_eq_true rfl) ?_ | refine appendO tab rfl rfl rfl rfl rfl rfl rfl rfl rfl rfl rfl rfl rfl rfl ?_
              refine pu (ev tab rfl) rfl ?_
              refine WO.nil ?_
              refine qs ?_
              refine W.seq ?_
              refine W.region ?_
              refine pu (ev tab rfl) rfl ?_
              try refine unfl 73 rfl rfl ?_
              refine pu (puCall rfl rfl rfl (rjoinW_fn (wordsE e) wSpace (by unfold wordsE wordsF stackW showsB; rw [← u1, ← u2, ← u3, ← u4]; simp_all [sc, wSemi, wStop] <;> (intro q; exact (h49 q).1)) (by omega) w3) rfl) rfl ?_
              refine pu (ev tab rfl) rfl ?_
              refine WO.nil ?_
              refine qs ?_
              refine W.ret ?_
              refine QF.ret0 trivial rfl ?_
              rw [hg]; rfl
            · skip
              refine W.skip ?_
              refine qs ?_
              refine W.seq ?_
              refine W.region ?_
              refine pu (ev tab rfl) rfl ?_
              try refine unfl 73 rfl rfl ?_
              refine pu (puCall rfl rfl rfl (rjoinW_fn (wordsE e) wSpace (by unfold wordsE wordsF stackW showsB; rw [← u1, ← u2, ← u3, ← u4]; simp_all [sc, wSemi, wStop] <;> (intro q; exact (h49 q).1)) (by omega) w3) rfl) rfl ?_
              refine pu (ev tab rfl) rfl ?_
              refine WO.nil ?_
              refine qs ?_
              refine W.ret ?_
              refine QF.ret0 trivial rfl ?_
              rw [hg]; rfl
      · skip
        refine W.skip ?_
        refine qs ?_
        refine W.seq ?_
        refine W.seq ?_
        apply regionB; (case hb => rfl)
        · skip
          iterate 2 refine pu (ev tab rfl) rfl ?_
          apply splitJ; (case hj => rfl); (case hl => rfl)
          · skip
            refine goG rfl rfl ?_
            refine pu (ev tab rfl) rfl ?_
            refine goG rfl rfl ?_
            first | refine pu (ev tab rfl) rfl ?_ | refine pu (loadRow tab rfl rfl rfl rfl) rfl ?_ | refine pu (loadBox tab rfl rfl rfl rfl rfl) rfl ?_
            refine goG rfl rfl ?_
            refine pu (ev tab rfl) rfl ?_
            refine goG rfl rfl ?_
            refine pu (ev tab rfl) rfl ?_
            apply splitJ; (case hj => rfl); (case hl => rfl)
            · skip
              refine skipT rfl rfl rfl rfl ?_
              refine skipT rfl rfl rfl rfl ?_
              refine skipT rfl rfl rfl rfl ?_
              refine goG rfl rfl ?_
              iterate 2 refine pu (ev tab rfl) rfl ?_
              refine WO.nil ?_
              refine qv1 rfl rfl rfl
            · skip
              refine goG rfl rfl ?_
              refine pu (ev tab rfl) rfl ?_
              refine goG rfl rfl ?_
              first | refine pu (ev tab rfl) rfl ?_ | refine pu (loadRow tab rfl rfl rfl rfl) rfl ?_ | refine pu (loadBox tab rfl rfl rfl rfl rfl) rfl ?_
              refine goG rfl rfl ?_
              refine pu (ev tab rfl) rfl ?_
              refine goG rfl rfl ?_
              iterate 2 refine pu (ev tab rfl) rfl ?_
              refine WO.nil ?_
              refine qv1 rfl rfl rfl
          · skip
            refine skipT rfl rfl rfl rfl ?_
            refine skipT rfl rfl rfl rfl ?_
            refine skipT rfl rfl rfl rfl ?_
            refine skipT rfl rfl rfl rfl ?_
            refine skipU rfl rfl rfl ?_
            refine skipU rfl rfl rfl ?_
            refine skipU rfl rfl rfl ?_
            refine skipT rfl rfl rfl rfl ?_
            refine pu (ev tab rfl) rfl ?_
            refine WO.nil ?_
            refine qv1 rfl rfl rfl
        refine qs ?_
        refine condK rfl (fun h49 => ?_) (fun h49 => ?_)
        · skip
          refine W.region ?_
          iterate 2 refine pu (ev tab rfl) rfl ?_
          first | refine pu (ev tab rfl) rfl ?_ | refine pu (loadRow tab rfl rfl rfl rfl) rfl ?_ | refine pu (loadBox tab rfl rfl rfl rfl rfl) rfl ?_
          refine pu (puCall rfl rfl rfl (rtext_fn _ e.m (Nat.lt_succ_self _) (int_of g.mIn).1 (int_of g.mIn).2) rfl) rfl ?_
          refine pu (buildV tab rfl rfl rfl rfl rfl rfl rfl rfl rfl) rfl ?_
          first | refine appendFl tab rfl rfl rfl rfl rfl rfl rfl rfl rfl rfl rfl rfl (lensB_mem rfl) (Nat.le_of_ble_eq_true rfl) ?_ | refine appendO tab rfl rfl rfl rfl rfl rfl rfl rfl rfl rfl rfl rfl rfl rfl ?_
          refine pu (ev tab rfl) rfl ?_
          refine WO.nil ?_
          refine qs ?_
          refine W.seq ?_
          refine W.seq ?_
          apply regionB; (case hb => rfl)
          · skip
            iterate 2 refine pu (ev tab rfl) rfl ?_
            apply splitJ; (case hj => rfl); (case hl => rfl)
            · skip
              refine goG rfl rfl ?_
              refine pu (ev tab rfl) rfl ?_
              refine goG rfl rfl ?_
              first | refine pu (ev tab rfl) rfl ?_ | refine pu (loadRow tab rfl rfl rfl rfl) rfl ?_ | refine pu (loadBox tab rfl rfl rfl rfl rfl) rfl ?_
              refine goG rfl rfl ?_
              refine pu (ev tab rfl) rfl ?_
              refine goG rfl rfl ?_
              iterate 2 refine pu (ev tab rfl) rfl ?_
              refine WO.nil ?_
              refine qv1 rfl rfl rfl
            · skip
              refine skipT rfl rfl rfl rfl ?_
              refine skipT rfl rfl rfl rfl ?_
              refine skipT rfl rfl rfl rfl ?_
              refine skipT rfl rfl rfl rfl ?_
              refine pu (ev tab rfl) rfl ?_
              refine WO.nil ?_
              refine qv1 rfl rfl rfl
          refine qs ?_
          refine condK rfl (fun h62 => ?_) (fun h62 => ?_)
          · skip
            refine W.region ?_
            refine pu (ev tab rfl) rfl ?_
            refine pu (buildV tab rfl rfl rfl rfl rfl rfl rfl rfl rfl) rfl ?_
            first | refine appendFl tab rfl rfl rfl rfl rfl rfl rfl rfl rfl rfl rfl rfl (lensB_mem rfl) (Nat.le_of_ble_eq_true rfl) ?_ | refine appendO tab rfl rfl rfl rfl rfl rfl rfl rfl rfl rfl rfl rfl rfl rfl ?_
            refine pu (ev tab rfl) rfl ?_
            refine WO.nil ?_
            refine qs ?_
            refine W.seq ?_
            refine W.region ?_
            refine pu (ev tab rfl) rfl ?_
            try refine unfl 73 rfl rfl ?_
            refine pu (puCall rfl rfl rfl (rjoinW_fn (wordsE e) wSpace (by unfold wordsE wordsF stackW showsB; rw [← u1, ← u2, ← u3, ← u4]; simp_all [sc, wSemi, wStop] <;> (intro q; exact (h49 q).1)) (by omega) w3) rfl) rfl ?_
            refine pu (ev tab rfl) rfl ?_
            refine WO.nil ?_
            refine qs ?_
            refine W.ret ?_
            refine QF.ret0 trivial rfl ?_
            rw [hg]; rfl
          · skip
            refine W.seq ?_
            refine W.region ?_
            refine pu (ev tab rfl) rfl ?_
            refine WO.nil ?_
            refine qs ?_
            refine condK rfl (fun h66 => ?_) (fun h66 => ?_)
            · skip
              refine W.region ?_
              iterate 2 refine pu (ev tab rfl) rfl ?_
              first | refine pu (ev tab rfl) rfl ?_ | refine pu (loadRow tab rfl rfl rfl rfl) rfl ?_ | refine pu (loadBox tab rfl rfl rfl rfl rfl) rfl ?_
              refine pu (puCall rfl rfl rfl (rjoin_fn e.stack wSemi (by have := (frames_ok g.frames).1; omega) (by have := g.stackSize; omega)) rfl) rfl ?_
              refine pu (buildV tab rfl rfl rfl rfl rfl rfl rfl rfl rfl) rfl ?_
              first | refine appendFl tab rfl rfl rfl rfl rfl rfl rfl rfl rfl rfl rfl rfl (lensB_mem rfl) (Nat.le_of_ble_eq_true rfl) ?_ | refine appendO tab rfl rfl rfl rfl rfl rfl rfl rfl rfl rfl rfl rfl rfl rfl ?_
              refine pu (ev tab rfl) rfl ?_
              refine WO.nil ?_
              refine qs ?_
              refine W.seq ?_
              refine W.region ?_
              refine pu (ev tab rfl) rfl ?_
              try refine unfl 73 rfl rfl ?_
              refine pu (puCall rfl rfl rfl (rjoinW_fn (wordsE e) wSpace (by unfold wordsE wordsF stackW showsB; rw [← u1, ← u2, ← u3, ← u4]; simp_all [sc, wSemi, wStop] <;> (intro q; exact (h49 q).1)) (by omega) w3) rfl) rfl ?_
              refine pu (ev tab rfl) rfl ?_
              refine WO.nil ?_
              refine qs ?_
              refine W.ret ?_
              refine QF.ret0 trivial rfl ?_
              rw [hg]; rfl
            · skip
              refine W.skip ?_
              refine qs ?_
              refine W.seq ?_
              refine W.region ?_
              refine pu (ev tab rfl) rfl ?_
              try refine unfl 73 rfl rfl ?_
              refine pu (puCall rfl rfl rfl (rjoinW_fn (wordsE e) wSpace (by unfold wordsE wordsF stackW showsB; rw [← u1, ← u2, ← u3, ← u4]; simp_all [sc, wSemi, wStop] <;> (intro q; exact (h49 q).1)) (by omega) w3) rfl) rfl ?_
              refine pu (ev tab rfl) rfl ?_
              refine WO.nil ?_
              refine qs ?_
              refine W.ret ?_
              refine QF.ret0 trivial rfl ?_
              rw [hg]; rfl
        · skip
          refine W.skip ?_
          refine qs ?_
          refine W.seq ?_
          refine W.seq ?_
          apply regionB; (case hb => rfl)
          · skip
            iterate 2 refine pu (ev tab rfl) rfl ?_
            apply splitJ; (case hj => rfl); (case hl => rfl)
            · skip
              refine goG rfl rfl ?_
              refine pu (ev tab rfl) rfl ?_
              refine goG rfl rfl ?_
              first | refine pu (ev tab rfl) rfl ?_ | refine pu (loadRow tab rfl rfl rfl rfl) rfl ?_ | refine pu (loadBox tab rfl rfl rfl rfl rfl) rfl ?_
              refine goG rfl rfl ?_
              refine pu (ev tab rfl) rfl ?_
              refine goG rfl rfl ?_
              iterate 2 refine pu (ev tab rfl) rfl ?_
              refine WO.nil ?_
              refine qv1 rfl rfl rfl
            · skip
              refine skipT rfl rfl rfl rfl ?_
              refine skipT rfl rfl rfl rfl ?_
              refine skipT rfl rfl rfl rfl ?_
              refine skipT rfl rfl rfl rfl ?_
              refine pu (ev tab rfl) rfl ?_
              refine WO.nil ?_
              refine qv1 rfl rfl rfl
          refine qs ?_
          refine condK rfl (fun h62 => ?_) (fun h62 => ?_)
          · skip
            refine W.region ?_
            refine pu (ev tab rfl) rfl ?_
            refine pu (buildV tab rfl rfl rfl rfl rfl rfl rfl rfl rfl) rfl ?_
            first | refine appendFl tab rfl rfl rfl rfl rfl rfl rfl rfl rfl rfl rfl rfl (lensB_mem rfl) (Nat.le_of_ble_eq_true rfl) ?_ | refine appendO tab rfl rfl rfl rfl rfl rfl rfl rfl rfl rfl rfl rfl rfl rfl ?_
            refine pu (ev tab rfl) rfl ?_
            refine WO.nil ?_
            refine qs ?_
            refine W.seq ?_
            refine W.region ?_
            refine pu (ev tab rfl) rfl ?_
            try refine unfl 73 rfl rfl ?_
            refine pu (puCall rfl rfl rfl (rjoinW_fn (wordsE e) wSpace (by unfold wordsE wordsF stackW showsB; rw [← u1, ← u2, ← u3, ← u4]; simp_all [sc, wSemi, wStop] <;> (intro q; exact (h49 q).1)) (by omega) w3) rfl) rfl ?_
            refine pu (ev tab rfl) rfl ?_
            refine WO.nil ?_
            refine qs ?_
            refine W.ret ?_
            refine QF.ret0 trivial rfl ?_
            rw [hg]; rfl
          · skip
            refine W.seq ?_
            refine W.region ?_
            refine pu (ev tab rfl) rfl ?_
            refine WO.nil ?_
            refine qs ?_
            refine condK rfl (fun h66 => ?_) (fun h66 => ?_)
            · skip
              refine W.region ?_
              iterate 2 refine pu (ev tab rfl) rfl ?_
              first | refine pu (ev tab rfl) rfl ?_ | refine pu (loadRow tab rfl rfl rfl rfl) rfl ?_ | refine pu (loadBox tab rfl rfl rfl rfl rfl) rfl ?_
              refine pu (puCall rfl rfl rfl (rjoin_fn e.stack wSemi (by have := (frames_ok g.frames).1; omega) (by have := g.stackSize; omega)) rfl) rfl ?_
              refine pu (buildV tab rfl rfl rfl rfl rfl rfl rfl rfl rfl) rfl ?_
              first | refine appendFl tab rfl rfl rfl rfl rfl rfl rfl rfl rfl rfl rfl rfl (lensB_mem rfl) (Nat.le_of_ble_eq_true rfl) ?_ | refine appendO tab rfl rfl rfl rfl rfl rfl rfl rfl rfl rfl rfl rfl rfl rfl ?_
              refine pu (ev tab rfl) rfl ?_
              refine WO.nil ?_
              refine qs ?_
              refine W.seq ?_
              refine W.region ?_
              refine pu (ev tab rfl) rfl ?_
              try refine unfl 73 rfl rfl ?_
              refine pu (puCall rfl rfl rfl (rjoinW_fn (wordsE e) wSpace (by unfold wordsE wordsF stackW showsB; rw [← u1, ← u2, ← u3, ← u4]; simp_all [sc, wSemi, wStop] <;> (intro q; exact (h49 q).1)) (by omega) w3) rfl) rfl ?_
              refine pu (ev tab rfl) rfl ?_
              refine WO.nil ?_
              refine qs ?_
              refine W.ret ?_
              refine QF.ret0 trivial rfl ?_
              rw [hg]; rfl
            · skip
              refine W.skip ?_
              refine qs ?_
              refine W.seq ?_
              refine W.region ?_
              refine pu (ev tab rfl) rfl ?_
              try refine unfl 73 rfl rfl ?_
              refine pu (puCall rfl rfl rfl (rjoinW_fn (wordsE e) wSpace (by unfold wordsE wordsF stackW showsB; rw [← u1, ← u2, ← u3, ← u4]; simp_all [sc, wSemi, wStop] <;> (intro q; exact (h49 q).1)) (by omega) w3) rfl) rfl ?_
              refine pu (ev tab rfl) rfl ?_
              refine WO.nil ?_
              refine qs ?_
              refine W.ret ?_
              refine QF.ret0 trivial rfl ?_
              rw [hg]; rfl
end Go.Proofs.YtlmgnlhagpoggaaDoor
namespace Go.Proofs.YtlmgnlhagpoggaaDoor
open Go.Ab Go.Tb
set_option maxRecDepth 10000
attribute [local irreducible] W WO Pu QS QB QL QF QV QV1 CH QE
theorem kindW_range (w : ByteArray) (h : ¬ kindW w < 0) : 1 ≤ kindW w ∧ kindW w < 13 := by
  have h0 : ∀ i, frms.findIdx? (fun f => decide (f.word = w) && !decide (w = B #[])) = some i → 1 ≤ i ∧ i < 13 := by
    intro i hi
    rw [List.findIdx?_eq_some_iff_getElem] at hi
    obtain ⟨hlt, hp, _⟩ := hi
    have hlt' : i < 13 := hlt
    refine ⟨?_, hlt'⟩
    rcases Nat.eq_zero_or_pos i with rfl | hpos
    · simp only [Bool.and_eq_true, decide_eq_true_eq, Bool.not_eq_true', decide_eq_false_iff_not] at hp
      exact absurd hp.1.symm hp.2
    · exact hpos
  unfold kindW at h ⊢
  cases hf : frms.findIdx? (fun f => decide (f.word = w) && !decide (w = B #[])) with
  | none => rw [hf] at h; exact absurd (by decide) h
  | some i => have := h0 i hf; show 1 ≤ (i : Int) ∧ (i : Int) < 13; omega
@[reducible] def ev0n : List A := [.d (ci 0), .d (ci 0), .d (cs (B #[])), .d (ci 0), .d (ci 0), .d (.v (.slice none 0 0))]
@[reducible] def evB (t k : Int) (name : ByteArray) (n m : Int) : List A := [.d (ci t), .d (ci k), .d (cs name), .d (ci n), .d (ci m), .d (.v (.slice none 0 0))]
theorem kindF_fn (w : ByteArray) : Does Tryd.prog 34 [.d (.sl (frms.map Frm.c)), .clo 36 [.row [.d (.v (.string w))]]] (.d (.v (.int .i64 (kindW w)))) 0 :=
  idxFrm_fn _ _ ⟨fun _ _ => rfl, rfl⟩ _ (isWord_fn w) frms
theorem eparse_fn (s : ByteArray) (hs : s.size ≤ 1000000) : Does Tryd.prog 14 [.d (.v (.string s))] (.tup [.ag (parseE s).1.c, .d (.v (.int .i64 (parseE s).2))]) 0 := by
  refine Does.of_V tab (n := 84) (rs := [.cell 2 25, .tmp 3]) Tryd.func14 (by kernel_rfl) rfl Tryd.ntmps14 Tryd.results14 rfl fun C hC hG => ?_
  refine W.seq ?_
  refine W.region ?_
  refine allocR tab rfl rfl rfl ?_
  refine pu (ev tab rfl) rfl ?_
  refine WO.nil ?_
  refine qs ?_
  refine W.seq ?_
  refine W.seq ?_
  refine W.region ?_
  iterate 3 refine pu (ev tab rfl) rfl ?_
  refine WO.nil ?_
  refine qs ?_
  refine condK rfl (fun h13 => ?_) (fun h13 => ?_)
  · skip
    have hg : parseE s = (ev0, 7) := by unfold parseE; rw [if_pos (by simp at h13; omega)]
    refine W.seq ?_
    refine W.region ?_
    refine pu (build tab rfl rfl rfl rfl) rfl ?_
    refine storeR tab rfl rfl rfl rfl rfl rfl rfl rfl ?_
    refine pu (ev tab rfl) rfl ?_
    refine WO.nil ?_
    refine qs ?_
    try refine nilBox 0 5 rfl rfl rfl ?_
    refine W.ret ?_
    refine qsRet ?_
    refine QV.ret0 tab trivial rfl ?_
    rw [hg]; rfl
  · skip
    have h2000 : ¬ 2000 < s.size := by simp at h13; omega
    have hsz := cutB_le (s := s) (c := 32) (m := 2000) (by omega)
    have hg0 : parseE s = if kindW (takeW (takeN (cutB s 32, false)).2).1 < 0 then (ev0, 10) else if (readP (cutB s 32)).2.2 = true ∨ 0 < (readP (cutB s 32)).2.1.length ∨ textE (readP (cutB s 32)).1 ≠ s then (ev0, 10) else ((readP (cutB s 32)).1, 0) := by unfold parseE; rw [if_neg h2000]
    generalize hws : cutB s 32 = ws at hg0 hsz
    refine W.skip ?_
    refine qs ?_
    refine W.seq ?_
    refine W.region ?_
    refine pu (ev tab rfl) rfl ?_
    refine pu (puCall rfl rfl rfl (hws ▸ split_fn s 32 hs) rfl) rfl ?_
    refine pu (build tab rfl rfl rfl rfl) rfl ?_
    refine boxR rfl rfl rfl ?_
    refine pu (ev tab rfl) rfl ?_
    refine WO.nil ?_
    refine qs ?_
    refine W.seq ?_
    refine W.region ?_
    refine pu (ev tab rfl) rfl ?_
    refine callB [1] [] rfl rfl rfl rfl rfl ((takeNum_fn ws false (Nat.le_trans (hd_le hsz) (by decide)))) rfl rfl (by rfl) (by rfl) rfl rfl rfl rfl ?_
    refine pu (build tab rfl rfl rfl rfl) rfl ?_
    refine allocR tab rfl rfl rfl ?_
    refine storeR tab rfl rfl rfl rfl rfl rfl rfl rfl ?_
    refine WO.nil ?_
    refine qs ?_
    refine W.seq ?_
    refine W.region ?_
    refine pu (ev tab rfl) rfl ?_
    refine callB [1] [] rfl rfl rfl rfl rfl ((take_fn _ _)) rfl rfl (by rfl) (by rfl) rfl rfl rfl rfl ?_
    refine allocR tab rfl rfl rfl ?_
    refine storeR tab rfl rfl rfl rfl rfl rfl rfl rfl ?_
    refine WO.nil ?_
    refine qs ?_
    refine W.seq ?_
    refine W.region ?_
    refine pu (puCall rfl rfl rfl forms_fn rfl) rfl ?_
    refine pu (ev tab rfl) rfl ?_
    refine pu (puCall rfl rfl rfl (kindF_fn _) rfl) rfl ?_
    refine pu (ev tab rfl) rfl ?_
    refine WO.nil ?_
    refine qs ?_
    refine W.seq ?_
    refine W.seq ?_
    refine W.region ?_
    iterate 2 refine pu (ev tab rfl) rfl ?_
    refine WO.nil ?_
    refine qs ?_
    refine condK rfl (fun h28 => ?_) (fun h28 => ?_)
    · skip
      have hg : parseE s = (ev0, 10) := by rw [hg0, if_pos (by simpa [takeW, takeN] using h28)]
      refine W.seq ?_
      refine W.region ?_
      refine pu (build tab rfl rfl rfl rfl) rfl ?_
      refine storeR tab rfl rfl rfl rfl rfl rfl rfl rfl ?_
      refine pu (ev tab rfl) rfl ?_
      refine WO.nil ?_
      refine qs ?_
      try refine nilBox 0 5 rfl rfl rfl ?_
      refine W.ret ?_
      refine qsRet ?_
      refine QV.ret0 tab trivial rfl ?_
      rw [hg]; rfl
    · skip
      have hkn : ¬ kindW (takeW (takeN (ws, false)).2).1 < 0 := by simpa [takeW, takeN] using h28
      rw [if_neg hkn] at hg0
      obtain ⟨K, hK⟩ : ∃ K, K = kindW (takeW (takeN (ws, false)).2).1 := ⟨_, rfl⟩
      obtain ⟨S2, hS⟩ : ∃ S2, S2 = (takeW (takeN (ws, false)).2).2 := ⟨_, rfl⟩
      obtain ⟨T0, hT⟩ : ∃ T0, T0 = (takeN (ws, false)).1 := ⟨_, rfl⟩
      obtain ⟨c, hC⟩ : ∃ c, c = if (frmOf K).name then takeW S2 else (B #[], S2) := ⟨_, rfl⟩
      obtain ⟨d, hD⟩ : ∃ d, d = if (frmOf K).n then takeN c.2 else (0, c.2) := ⟨_, rfl⟩
      obtain ⟨m, hM⟩ : ∃ m, m = if showsB (frmOf K) d.1 then takeN d.2 else (0, d.2) := ⟨_, rfl⟩
      obtain ⟨t, hTt⟩ : ∃ t, t = if (frmOf K).stack then takeW m.2 else (wSemi, m.2) := ⟨_, rfl⟩
      obtain ⟨st, hst⟩ : ∃ st, st = if t.1 = wSemi then [] else cutB t.1 59 := ⟨_, rfl⟩
      have hR : readP ws = (⟨T0, K, c.1, d.1, m.1, st⟩, t.2) := by subst hst; subst hTt; subst hM; subst hD; subst hC; subst hT; subst hS; subst hK; rfl
      rw [hR] at hg0
      have z2 : ∀ w ∈ S2.1, w.size ≤ 2000 := by rw [hS]; exact tl_le (tl_le hsz)
      have zc : ∀ w ∈ c.2.1, w.size ≤ 2000 := by rw [hC]; split; exact tl_le z2; exact z2
      have zd : ∀ w ∈ d.2.1, w.size ≤ 2000 := by rw [hD]; split; exact tl_le zc; exact zc
      have zm : ∀ w ∈ m.2.1, w.size ≤ 2000 := by rw [hM]; split; exact tl_le zd; exact zd
      refine W.skip ?_
      refine qs ?_
      refine W.seq ?_
      refine W.region ?_
      iterate 2 refine pu (ev tab rfl) rfl ?_
      refine storeR tab rfl rfl rfl rfl rfl rfl rfl rfl ?_
      refine WO.nil ?_
      refine qs ?_
      refine W.seq ?_
      refine W.region ?_
      refine pu (ev tab rfl) rfl ?_
      first | refine pu (ev tab rfl) rfl ?_ | refine pu (loadRow tab rfl rfl rfl rfl) rfl ?_ | refine pu (loadBox tab rfl rfl rfl rfl rfl) rfl ?_
      refine pu (puCall rfl rfl rfl (formOf_fn (kindW _)) rfl) rfl ?_
      iterate 3 refine pu (ev tab rfl) rfl ?_
      refine allocR tab rfl rfl rfl ?_
      refine storeR tab rfl rfl rfl rfl rfl rfl rfl rfl ?_
      refine pu (ev tab rfl) rfl ?_
      refine WO.nil ?_
      refine qs ?_
      refine W.seq ?_
      refine W.seq ?_
      refine W.region ?_
      refine pu (ev tab rfl) rfl ?_
      first | refine pu (ev tab rfl) rfl ?_ | refine pu (loadRow tab rfl rfl rfl rfl) rfl ?_ | refine pu (loadBox tab rfl rfl rfl rfl rfl) rfl ?_
      refine WO.nil ?_
      refine qs ?_
      refine W.cutS [(0, .d (.v (.string (s)))), (2, .ptr 0 0), (4, .ptr 1 0), (5, .ptr 2 0), (8, .ptr 3 0)] [] [(0, ev0n), (1, rb c.2.1 c.2.2), (2, evB T0 K c.1 0 0), (3, (frmOf K).c.map A.d)] [] [] 4 ?_ ?_
      · skip
        refine condK rfl (fun h39 => ?_) (fun h39 => ?_)
        · skip
          have hc' : c = takeW S2 := by rw [hC, hK]; exact if_pos h39
          refine W.region ?_
          refine pu (ev tab rfl) rfl ?_
          refine callB [1] [] rfl rfl rfl rfl rfl ((take_fn _ _)) rfl rfl (by rfl) (by rfl) rfl rfl rfl rfl ?_
          refine pu (ev tab rfl) rfl ?_
          refine storeR tab rfl rfl rfl rfl rfl rfl rfl rfl ?_
          refine WO.nil ?_
          refine cutEnd [0, 1, 3, 6] rfl ?_ trivial ?_ trivial rfl
          · repeat' first | exact trivial | refine ⟨rfl, ?_⟩ | refine ⟨step_nat (by assumption) (by assumption), ?_⟩
          · rw [hc', hS, hK, hT]
            repeat' first | exact trivial | refine ⟨rfl, ?_⟩
        · skip
          have hc' : c = (B #[], S2) := by rw [hC, hK]; exact if_neg (fun q => Bool.noConfusion (q.symm.trans h39))
          refine W.skip ?_
          refine cutEnd [0, 1, 3, 6] rfl ?_ trivial ?_ trivial rfl
          · repeat' first | exact trivial | refine ⟨rfl, ?_⟩ | refine ⟨step_nat (by assumption) (by assumption), ?_⟩
          · rw [hc', hS, hK, hT]
            repeat' first | exact trivial | refine ⟨rfl, ?_⟩
      refine qs ?_
      refine W.seq ?_
      refine W.seq ?_
      refine W.region ?_
      refine pu (ev tab rfl) rfl ?_
      first | refine pu (ev tab rfl) rfl ?_ | refine pu (loadRow tab rfl rfl rfl rfl) rfl ?_ | refine pu (loadBox tab rfl rfl rfl rfl rfl) rfl ?_
      refine WO.nil ?_
      refine qs ?_
      refine W.cutS [(0, .d (.v (.string (s)))), (2, .ptr 0 0), (4, .ptr 1 0), (5, .ptr 2 0), (8, .ptr 3 0)] [] [(0, ev0n), (1, rb d.2.1 d.2.2), (2, evB T0 K c.1 d.1 0), (3, (frmOf K).c.map A.d)] [] [] 4 ?_ ?_
      · skip
        refine condK rfl (fun h44 => ?_) (fun h44 => ?_)
        · skip
          have hd' : d = takeN c.2 := by rw [hD]; exact if_pos h44
          refine W.region ?_
          refine pu (ev tab rfl) rfl ?_
          refine callB [1] [] rfl rfl rfl rfl rfl ((takeNum_fn c.2.1 c.2.2 (Nat.le_trans (hd_le zc) (by decide)))) rfl rfl (by rfl) (by rfl) rfl rfl rfl rfl ?_
          refine pu (ev tab rfl) rfl ?_
          refine storeR tab rfl rfl rfl rfl rfl rfl rfl rfl ?_
          refine WO.nil ?_
          refine cutEnd [0, 1, 2, 3] rfl ?_ trivial ?_ trivial rfl
          · repeat' first | exact trivial | refine ⟨rfl, ?_⟩ | refine ⟨step_nat (by assumption) (by assumption), ?_⟩
          · rw [hd']
            repeat' first | exact trivial | refine ⟨rfl, ?_⟩
        · skip
          have hd' : d = (0, c.2) := by rw [hD]; exact if_neg (fun q => Bool.noConfusion (q.symm.trans h44))
          refine W.skip ?_
          refine cutEnd [0, 1, 2, 3] rfl ?_ trivial ?_ trivial rfl
          · repeat' first | exact trivial | refine ⟨rfl, ?_⟩ | refine ⟨step_nat (by assumption) (by assumption), ?_⟩
          · rw [hd']
            repeat' first | exact trivial | refine ⟨rfl, ?_⟩
      refine qs ?_
      refine W.seq ?_
      refine W.seq ?_
      refine W.region ?_
      first | refine pu (ev tab rfl) rfl ?_ | refine pu (loadRow tab rfl rfl rfl rfl) rfl ?_ | refine pu (loadBox tab rfl rfl rfl rfl rfl) rfl ?_
      refine pu (ev tab rfl) rfl ?_
      first | refine pu (ev tab rfl) rfl ?_ | refine pu (loadRow tab rfl rfl rfl rfl) rfl ?_ | refine pu (loadBox tab rfl rfl rfl rfl rfl) rfl ?_
      refine pu (puCall rfl rfl rfl (shows_fn (frmOf K) d.1) rfl) rfl ?_
      refine WO.nil ?_
      refine qs ?_
      refine W.cutS [(0, .d (.v (.string (s)))), (2, .ptr 0 0), (4, .ptr 1 0), (5, .ptr 2 0), (8, .ptr 3 0)] [] [(0, ev0n), (1, rb m.2.1 m.2.2), (2, evB T0 K c.1 d.1 m.1), (3, (frmOf K).c.map A.d)] [] [] 4 ?_ ?_
      · skip
        refine condK rfl (fun h51 => ?_) (fun h51 => ?_)
        · skip
          have hm' : m = takeN d.2 := by rw [hM]; exact if_pos h51
          refine W.region ?_
          refine pu (ev tab rfl) rfl ?_
          refine callB [1] [] rfl rfl rfl rfl rfl ((takeNum_fn d.2.1 d.2.2 (Nat.le_trans (hd_le zd) (by decide)))) rfl rfl (by rfl) (by rfl) rfl rfl rfl rfl ?_
          refine pu (ev tab rfl) rfl ?_
          refine storeR tab rfl rfl rfl rfl rfl rfl rfl rfl ?_
          refine WO.nil ?_
          refine cutEnd [0, 1, 2, 3] rfl ?_ trivial ?_ trivial rfl
          · repeat' first | exact trivial | refine ⟨rfl, ?_⟩ | refine ⟨step_nat (by assumption) (by assumption), ?_⟩
          · rw [hm']
            repeat' first | exact trivial | refine ⟨rfl, ?_⟩
        · skip
          have hm' : m = (0, d.2) := by rw [hM]; exact if_neg (fun q => Bool.noConfusion (q.symm.trans h51))
          refine W.skip ?_
          refine cutEnd [0, 1, 2, 3] rfl ?_ trivial ?_ trivial rfl
          · repeat' first | exact trivial | refine ⟨rfl, ?_⟩ | refine ⟨step_nat (by assumption) (by assumption), ?_⟩
          · rw [hm']
            repeat' first | exact trivial | refine ⟨rfl, ?_⟩
      refine qs ?_
      refine W.seq ?_
      refine W.seq ?_
      refine W.region ?_
      refine pu (ev tab rfl) rfl ?_
      first | refine pu (ev tab rfl) rfl ?_ | refine pu (loadRow tab rfl rfl rfl rfl) rfl ?_ | refine pu (loadBox tab rfl rfl rfl rfl rfl) rfl ?_
      refine WO.nil ?_
      refine qs ?_
      refine W.cutS [(0, .d (.v (.string (s)))), (2, .ptr 0 0), (4, .ptr 1 0), (5, .ptr 2 0), (8, .ptr 3 0)] [] [(0, ev0n), (1, rb t.2.1 t.2.2), (2, (Ev.mk T0 K c.1 d.1 m.1 st).c.map A.d), (3, (frmOf K).c.map A.d)] [] [] 4 ?_ ?_
      · skip
        refine condK rfl (fun h56 => ?_) (fun h56 => ?_)
        · skip
          have ht' : t = takeW m.2 := by rw [hTt]; exact if_pos h56
          refine W.seq ?_
          refine W.region ?_
          refine pu (ev tab rfl) rfl ?_
          refine callB [1] [] rfl rfl rfl rfl rfl ((take_fn m.2.1 m.2.2)) rfl rfl (by rfl) (by rfl) rfl rfl rfl rfl ?_
          refine pu (ev tab rfl) rfl ?_
          refine WO.nil ?_
          refine qs ?_
          refine W.seq ?_
          refine W.region ?_
          iterate 2 refine pu (ev tab rfl) rfl ?_
          refine WO.nil ?_
          refine qs ?_
          refine condK rfl (fun h60 => ?_) (fun h60 => ?_)
          · skip
            have hst' : st = cutB (m.2.1.headD (B #[])) 59 := by rw [hst, ht']; exact if_neg (show ¬ m.2.1.headD (B #[]) = wSemi from of_decide_eq_false (by rw [Bool.not_eq_true'] at h60; exact h60))
            refine W.region ?_
            refine pu (ev tab rfl) rfl ?_
            refine pu (puCall rfl rfl rfl (split_fn (m.2.1.headD (B #[])) 59 (Nat.le_trans (hd_le zm) (by decide))) rfl) rfl ?_
            refine pu (ev tab rfl) rfl ?_
            refine storeR tab rfl rfl rfl rfl rfl rfl rfl rfl ?_
            refine WO.nil ?_
            refine cutEnd [0, 1, 2, 3] rfl ?_ trivial ?_ trivial rfl
            · repeat' first | exact trivial | refine ⟨rfl, ?_⟩ | refine ⟨step_nat (by assumption) (by assumption), ?_⟩
            · rw [hst', ht']
              repeat' first | exact trivial | refine ⟨rfl, ?_⟩
          · skip
            have hst' : st = [] := by rw [hst, ht']; exact if_pos (show m.2.1.headD (B #[]) = wSemi from of_decide_eq_true (by rw [Bool.not_eq_false'] at h60; exact h60))
            refine nilBox 2 5 rfl rfl rfl ?_
            refine W.skip ?_
            refine cutEnd [0, 1, 2, 3] rfl ?_ trivial ?_ trivial rfl
            · repeat' first | exact trivial | refine ⟨rfl, ?_⟩ | refine ⟨step_nat (by assumption) (by assumption), ?_⟩
            · rw [hst', ht']
              repeat' first | exact trivial | refine ⟨rfl, ?_⟩
        · skip
          have ht' : t = (wSemi, m.2) := by rw [hTt]; exact if_neg (fun q => Bool.noConfusion (q.symm.trans h56))
          have hst' : st = [] := by rw [hst, ht']; exact if_pos rfl
          refine nilBox 2 5 rfl rfl rfl ?_
          refine W.skip ?_
          refine cutEnd [0, 1, 2, 3] rfl ?_ trivial ?_ trivial rfl
          · repeat' first | exact trivial | refine ⟨rfl, ?_⟩ | refine ⟨step_nat (by assumption) (by assumption), ?_⟩
          · rw [hst', ht']
            repeat' first | exact trivial | refine ⟨rfl, ?_⟩
      refine qs ?_
      refine W.seq ?_
      refine W.seq ?_
      apply regionB; (case hb => rfl)
      · skip
        iterate 3 refine pu (ev tab rfl) rfl ?_
        first | refine pu (ev tab rfl) rfl ?_ | refine pu (loadRow tab rfl rfl rfl rfl) rfl ?_ | refine pu (loadBox tab rfl rfl rfl rfl rfl) rfl ?_
        refine pu (ev tab rfl) rfl ?_
        apply splitJ; (case hj => rfl); (case hl => rfl)
        · skip
          refine skipT rfl rfl rfl rfl ?_
          refine skipT rfl rfl rfl rfl ?_
          refine skipT rfl rfl rfl rfl ?_
          refine skipT rfl rfl rfl rfl ?_
          refine skipT rfl rfl rfl rfl ?_
          refine skipT rfl rfl rfl rfl ?_
          iterate 2 refine pu (ev tab rfl) rfl ?_
          refine skipT rfl rfl rfl rfl ?_
          refine skipT rfl rfl rfl rfl ?_
          refine skipT rfl rfl rfl rfl ?_
          refine skipT rfl rfl rfl rfl ?_
          refine pu (ev tab rfl) rfl ?_
          refine WO.nil ?_
          refine qv1 rfl rfl rfl
        · skip
          refine goG rfl rfl ?_
          refine pu (ev tab rfl) rfl ?_
          refine goG rfl rfl ?_
          refine pu (ev tab rfl) rfl ?_
          refine goG rfl rfl ?_
          refine pu (ev tab rfl) rfl ?_
          refine goG rfl rfl ?_
          first | refine pu (ev tab rfl) rfl ?_ | refine pu (loadRow tab rfl rfl rfl rfl) rfl ?_ | refine pu (loadBox tab rfl rfl rfl rfl rfl) rfl ?_
          refine goG rfl rfl ?_
          refine pu (ev tab rfl) rfl ?_
          refine goG rfl rfl ?_
          iterate 3 refine pu (ev tab rfl) rfl ?_
          apply splitJ; (case hj => rfl); (case hl => rfl)
          · skip
            refine skipT rfl rfl rfl rfl ?_
            refine skipT rfl rfl rfl rfl ?_
            refine skipT rfl rfl rfl rfl ?_
            refine skipT rfl rfl rfl rfl ?_
            refine pu (ev tab rfl) rfl ?_
            refine WO.nil ?_
            refine qv1 rfl rfl rfl
          · skip
            refine goG rfl rfl ?_
            first | refine pu (ev tab rfl) rfl ?_ | refine pu (loadRow tab rfl rfl rfl rfl) rfl ?_ | refine pu (loadBox tab rfl rfl rfl rfl rfl) rfl ?_
            refine goG rfl rfl ?_
            refine pu (puCall rfl rfl rfl (etext_fn (Ev.mk T0 K c.1 d.1 m.1 st)) rfl) rfl ?_
            refine goG rfl rfl ?_
            refine pu (ev tab rfl) rfl ?_
            refine goG rfl rfl ?_
            iterate 2 refine pu (ev tab rfl) rfl ?_
            refine WO.nil ?_
            refine qv1 rfl rfl rfl
      refine qs ?_
      refine condK rfl (fun h81 => ?_) (fun h81 => ?_)
      · skip
        refine W.seq ?_
        refine W.region ?_
        refine pu (build tab rfl rfl rfl rfl) rfl ?_
        refine storeR tab rfl rfl rfl rfl rfl rfl rfl rfl ?_
        refine pu (ev tab rfl) rfl ?_
        refine WO.nil ?_
        refine qs ?_
        try refine nilBox 0 5 rfl rfl rfl ?_
        refine W.ret ?_
        refine qsRet ?_
        refine QV.ret0 tab trivial rfl ?_
        have hg : parseE s = (ev0, 10) := by
          rw [hg0, if_pos]
          revert h81
          cases t.2.2 <;> by_cases q : 0 < t.2.1.length <;> simp [q, txs]
        rw [hg]
        rfl
      · skip
        refine W.skip ?_
        refine qs ?_
        refine W.seq ?_
        refine W.region ?_
        first | refine pu (ev tab rfl) rfl ?_ | refine pu (loadRow tab rfl rfl rfl rfl) rfl ?_ | refine pu (loadBox tab rfl rfl rfl rfl rfl) rfl ?_
        refine storeR tab rfl rfl rfl rfl rfl rfl rfl rfl ?_
        refine pu (ev tab rfl) rfl ?_
        refine WO.nil ?_
        refine qs ?_
        try refine nilBox 0 5 rfl rfl rfl ?_
        refine W.ret ?_
        refine QV.ret0 tab trivial rfl ?_
        have hg : parseE s = (Ev.mk T0 K c.1 d.1 m.1 st, 0) := by
          rw [hg0, if_neg]
          revert h81
          cases t.2.2 <;> by_cases q : 0 < t.2.1.length <;> simp [q, txs]
        rw [hg]
        rfl
end Go.Proofs.YtlmgnlhagpoggaaDoor
namespace Go.Proofs.YtlmgnlhagpoggaaDoor
open Go.Ab Go.Tb
set_option maxRecDepth 10000
attribute [local irreducible] W WO Pu QS QB QL QF QV QV1 CH QE
def smallEv (e : Ev) : Bool := decide (e.name.size ≤ 200) && decide (e.stack.length ≤ 60) && e.stack.all fun s => decide (s.size ≤ 200)
theorem small_fn (e : Ev) : Does Tryd.prog 8 [.ag e.c] (.d (.v (.bool (smallEv e)))) 0 := by
  refine Does.of_W (n := 28) (ts := [2]) Tryd.func8 (by kernel_rfl) rfl Tryd.ntmps8 Tryd.results8 rfl rfl fun C hC hG => ?_
  refine W.seq ?_
  refine W.region ?_
  refine boxR rfl rfl rfl ?_
  refine pu (ev tab rfl) rfl ?_
  refine WO.nil ?_
  refine qs ?_
  refine W.seq ?_
  refine W.seq ?_
  apply regionB; (case hb => rfl)
  · skip
    refine pu (ev tab rfl) rfl ?_
    first | refine pu (ev tab rfl) rfl ?_ | refine pu (loadRow tab rfl rfl rfl rfl) rfl ?_ | refine pu (loadBox tab rfl rfl rfl rfl rfl) rfl ?_
    iterate 3 refine pu (ev tab rfl) rfl ?_
    apply splitJ; (case hj => rfl); (case hl => rfl)
    · skip
      refine skipT rfl rfl rfl rfl ?_
      refine skipT rfl rfl rfl rfl ?_
      refine skipT rfl rfl rfl rfl ?_
      refine skipT rfl rfl rfl rfl ?_
      refine pu (ev tab rfl) rfl ?_
      refine WO.nil ?_
      refine qv1 rfl rfl rfl
    · skip
      refine goG rfl rfl ?_
      refine pu (ev tab rfl) rfl ?_
      refine goG rfl rfl ?_
      first | refine pu (ev tab rfl) rfl ?_ | refine pu (loadRow tab rfl rfl rfl rfl) rfl ?_ | refine pu (loadBox tab rfl rfl rfl rfl rfl) rfl ?_
      refine goG rfl rfl ?_
      refine pu (ev tab rfl) rfl ?_
      refine goG rfl rfl ?_
      iterate 2 refine pu (ev tab rfl) rfl ?_
      refine WO.nil ?_
      refine qv1 rfl rfl rfl
  refine qs ?_
  refine condK rfl (fun h13 => ?_) (fun h13 => ?_)
  · skip
    have hg : smallEv e = false := by simp at h13; simp [smallEv]; grind
    refine W.seq ?_
    refine W.region ?_
    refine pu (ev tab rfl) rfl ?_
    refine WO.nil ?_
    refine qs ?_
    refine W.ret ?_
    refine qsRet ?_
    refine QF.ret0 trivial rfl ?_
    rw [hg]; rfl
  · skip
    have hg : smallEv e = e.stack.all fun s => decide (s.size ≤ 200) := by simp at h13; simp [smallEv]; grind
    have hlen : e.stack.length ≤ maxLen := by simp at h13; simp only [maxLen]; grind
    refine W.skip ?_
    refine qs ?_
    refine W.seq ?_
    refine W.seq ?_
    refine W.region ?_
    refine pu (ev tab rfl) rfl ?_
    refine WO.nil ?_
    refine qs ?_
    refine W.block ?_
    refine W.loopR (ι := {x : Nat // match x with | k => k ≤ e.stack.length ∧ (e.stack.drop k).all (fun s => decide (s.size ≤ 200)) = e.stack.all (fun s => decide (s.size ≤ 200))})
      (fun x => match x.1 with | k => [(1, .ptr 0 0), (3, .d (.v (.int .i64 ((k : Nat) : Int))))]) []
      (fun x => match x.1 with | k => [(0, e.c.map A.d)]) [] [] 1 (fun x => match x.1 with | k => e.stack.length - k)
      [0] ⟨0, ?_⟩ rfl ?_ trivial ?_ trivial rfl ?_
    · exact ⟨Nat.zero_le _, rfl⟩
    · repeat' first | exact trivial | refine ⟨rfl, ?_⟩ | refine ⟨step_nat (by assumption) (by assumption), ?_⟩
    · repeat' first | exact trivial | refine ⟨rfl, ?_⟩ | refine ⟨step_nat (by assumption) (by assumption), ?_⟩
    rintro ⟨k, hk, hI⟩
    show W _ _ _ _ _ ⟨[(1, .ptr 0 0), (3, .d (.v (.int .i64 ((k : Nat) : Int))))], [(0, e.c.map A.d)], [], 1⟩
    refine W.seq ?_
    refine W.seq ?_
    refine W.region ?_
    iterate 2 refine pu (ev tab rfl) rfl ?_
    first | refine pu (ev tab rfl) rfl ?_ | refine pu (loadRow tab rfl rfl rfl rfl) rfl ?_ | refine pu (loadBox tab rfl rfl rfl rfl rfl) rfl ?_
    iterate 2 refine pu (ev tab rfl) rfl ?_
    refine WO.nil ?_
    refine qs ?_
    refine eachR (l := e.stack) (k := k) rfl (by simp [Ex.kc_len, bytes_len]) hk (fun x hx hd hlt => ?_) (fun he hd => ?_)
    · skip
      rw [hd, List.all_cons] at hI
      refine W.skip ?_
      refine qs ?_
      refine W.seq ?_
      refine W.block ?_
      refine W.seq ?_
      refine W.region ?_
      refine pu (ev tab rfl) rfl ?_
      first | refine pu (ev tab rfl) rfl ?_ | refine pu (loadRow tab rfl rfl rfl rfl) rfl ?_ | refine pu (loadBox tab rfl rfl rfl rfl rfl) rfl ?_
      refine pu (ev tab rfl) rfl ?_
      refine pu (indexAddr tab rfl rfl rfl rfl rfl rfl (Int.natCast_nonneg _) (idx_map hx) rfl) rfl ?_
      first | refine pu (ev tab rfl) rfl ?_ | refine pu (loadRow tab rfl rfl rfl rfl) rfl ?_ | refine pu (loadBox tab rfl rfl rfl rfl rfl) rfl ?_
      iterate 2 refine pu (ev tab rfl) rfl ?_
      refine WO.nil ?_
      refine qs ?_
      refine condK rfl (fun h27 => ?_) (fun h27 => ?_)
      · skip
        have hn : decide (x.size ≤ 200) = false := by simp at h27 ⊢; omega
        rw [hn, Bool.false_and] at hI
        refine W.seq ?_
        refine W.region ?_
        refine pu (ev tab rfl) rfl ?_
        refine WO.nil ?_
        refine qs ?_
        refine W.ret ?_
        refine qbRet ?_
        refine qsRet ?_
        refine qlRet ?_
        refine qbRet ?_
        refine qsRet ?_
        refine QF.ret0 trivial rfl ?_
        rw [hg, ← hI]; rfl
      · skip
        have hn : decide (x.size ≤ 200) = true := by simp at h27 ⊢; omega
        rw [hn, Bool.true_and] at hI
        refine W.skip ?_
        refine qbN ?_
        refine qs ?_
        refine W.region ?_
        iterate 3 refine pu (ev tab rfl) rfl ?_
        refine WO.nil ?_
        refine W.endR [0] ⟨k + 1, ?_⟩ ?_ rfl ?_ trivial ?_ trivial rfl
        · exact ⟨hlt, hI⟩
        · dsimp only; omega
        · repeat' first | exact trivial | refine ⟨rfl, ?_⟩ | refine ⟨step_nat (by assumption) (by assumption), ?_⟩
        · repeat' first | exact trivial | refine ⟨rfl, ?_⟩ | refine ⟨step_nat (by assumption) (by assumption), ?_⟩
    · skip
      rw [hd, List.all_nil] at hI
      refine W.exit ?_
      refine qsExit ?_
      refine qlExit ?_
      refine qbExit ?_
      refine qs ?_
      refine W.seq ?_
      refine W.region ?_
      refine pu (ev tab rfl) rfl ?_
      refine WO.nil ?_
      refine qs ?_
      refine W.ret ?_
      refine QF.ret0 trivial rfl ?_
      rw [hg, ← hI]; rfl
/-- the error of consecutive events -/
def allE : List Ev → Option Int → Int
  | [], _ => 0
  | e :: r, last => if checkE e ≠ 0 then checkE e else if (match last with | some t => decide (e.time < t) | none => false) = true then 11 else allE r (some e.time)
def lastT (l : List Ev) (k : Nat) : Option Int := if k = 0 then none else (l[k - 1]?).map Ev.time
theorem sub_one {k : Nat} (h : 0 < k) (hm : (k : Int) ≤ 9223372036854775807) : IntKind.i64.wrap ((k : Int) - 1) = ((k - 1 : Nat) : Int) := by
  rw [wrap64 (by omega)]
  omega
theorem checkAll_fn (l : List Ev) : Does Tryd.prog 18 [.d (.sl (l.map Ev.c))] (.d (.v (.int .i64 (allE l none)))) 0 := by
  refine Does.of_W (n := 32) (ts := [2]) Tryd.func18 (by kernel_rfl) rfl Tryd.ntmps18 Tryd.results18 rfl rfl fun C hC hG => ?_
  refine W.seq ?_
  refine W.region ?_
  refine pu (ev tab rfl) rfl ?_
  refine WO.nil ?_
  refine qs ?_
  refine W.seq ?_
  refine W.seq ?_
  refine W.region ?_
  iterate 3 refine pu (ev tab rfl) rfl ?_
  refine WO.nil ?_
  refine qs ?_
  refine W.block ?_
  refine W.len (t := 0) rfl rfl (fun hlen => ?_)
  try simp only [List.length_map, Ex.kc_len] at hlen
  refine W.loopR (ι := {x : Nat // match x with | k => k ≤ l.length ∧ allE (l.drop k) (lastT l k) = allE l none})
    (fun x => match x.1 with | k => [(8, .d (.v (.int .i64 ((k : Nat) : Int))))]) [(0, _), (6, _), (7, _)]
    (fun x => match x.1 with | k => []) [] [] 0 (fun x => match x.1 with | k => l.length - k)
    [] ⟨0, ?_⟩ rfl ?_ ⟨rfl, rfl, rfl, rfl, rfl, rfl, trivial⟩ ?_ trivial rfl ?_
  · exact ⟨Nat.zero_le _, rfl⟩
  · repeat' first | exact trivial | refine ⟨rfl, ?_⟩ | refine ⟨step_nat (by assumption) (by assumption), ?_⟩
  · repeat' first | exact trivial | refine ⟨rfl, ?_⟩ | refine ⟨step_nat (by assumption) (by assumption), ?_⟩
  rintro ⟨k, hk, hI⟩
  show W _ _ _ _ _ ⟨[(8, .d (.v (.int .i64 ((k : Nat) : Int)))), (0, _), (6, _), (7, _)], [], [], 0⟩
  refine W.seq ?_
  refine W.region ?_
  refine pu (ev tab rfl) rfl ?_
  refine WO.nil ?_
  refine qs ?_
  refine W.seq ?_
  refine eachR (l := l) (k := k) rfl (by simp [Ex.kc_len, bytes_len]) hk (fun e hx hd hlt => ?_) (fun he hd => ?_)
  · skip
    rw [hd] at hI
    simp only [allE] at hI
    obtain ⟨p, hp⟩ : ∃ p : Ev, 0 < k → l[k - 1]? = some p := ⟨l[k - 1]'(by omega), fun _ => by simp⟩
    have hlast : (match lastT l k with | some t => decide (e.time < t) | none => false) = (decide (0 < k) && decide (e.time < p.time)) := by
      unfold lastT
      by_cases q : k = 0
      · simp [q]
      · rw [if_neg q, hp (by omega)]; simp; omega
    rw [hlast] at hI
    have hnext : lastT l (k + 1) = some e.time := by unfold lastT; rw [if_neg (by omega), Nat.add_sub_cancel, hx]; rfl
    refine W.skip ?_
    refine qs ?_
    refine W.seq ?_
    refine W.block ?_
    refine W.seq ?_
    refine W.region ?_
    refine pu (ev tab rfl) rfl ?_
    refine pu (indexAddr tab rfl rfl rfl rfl rfl rfl (Int.natCast_nonneg _) (idx_map hx) rfl) rfl ?_
    first | refine pu (ev tab rfl) rfl ?_ | refine pu (loadRow tab rfl rfl rfl rfl) rfl ?_ | refine pu (loadBox tab rfl rfl rfl rfl rfl) rfl ?_
    refine allocR tab rfl rfl rfl ?_
    refine pu (ev tab rfl) rfl ?_
    refine storeR tab rfl rfl rfl rfl rfl rfl rfl rfl ?_
    refine WO.nil ?_
    refine qs ?_
    refine W.seq ?_
    refine W.seq ?_
    refine W.region ?_
    first | refine pu (ev tab rfl) rfl ?_ | refine pu (loadRow tab rfl rfl rfl rfl) rfl ?_ | refine pu (loadBox tab rfl rfl rfl rfl rfl) rfl ?_
    refine pu (puCall rfl rfl rfl (echeck_fn e) rfl) rfl ?_
    refine pu (ev tab rfl) rfl ?_
    refine WO.nil ?_
    refine qs ?_
    refine W.seq ?_
    refine W.region ?_
    iterate 2 refine pu (ev tab rfl) rfl ?_
    refine WO.nil ?_
    refine qs ?_
    refine condK rfl (fun h16 => ?_) (fun h16 => ?_)
    · skip
      have hc : checkE e ≠ 0 := by simpa using h16
      rw [if_pos hc] at hI
      refine W.seq ?_
      refine W.region ?_
      iterate 2 refine pu (ev tab rfl) rfl ?_
      refine WO.nil ?_
      refine qs ?_
      refine W.ret ?_
      refine qsRet ?_
      refine qbRet ?_
      refine qsRet ?_
      refine qlRet ?_
      refine qbRet ?_
      refine qsRet ?_
      refine QF.ret0 trivial rfl ?_
      simp only [norm, oneA, ← hI]
    · skip
      have hc : checkE e = 0 := by simpa using h16
      rw [if_neg (by simp [hc])] at hI
      refine W.skip ?_
      refine qs ?_
      refine W.seq ?_
      apply regionDB tab; (case hb => rfl); (case hB => kernel_rfl)
      · skip
        refine chPu (ev tab rfl) rfl ?_
        refine chPu (ev tab rfl) rfl ?_
        refine chPu (ev tab rfl) rfl ?_
        apply chSplitH; (case hj => rfl); (case hl => rfl)
        · intro g20
          refine chGo rfl rfl (ev tab rfl) rfl ?_
          first | refine chGo rfl rfl (ev tab rfl) rfl ?_ | refine chGo rfl rfl (loadRow tab rfl rfl rfl rfl) rfl ?_ | refine chGo rfl rfl (loadBox tab rfl rfl rfl rfl rfl) rfl ?_
          refine chGo rfl rfl (ev tab rfl) rfl ?_
          refine chGo rfl rfl (ev tab rfl) rfl ?_
          refine chGo rfl rfl (puI (ev tab rfl) (y := ((k - 1 : Nat) : Int)) (sub_one (by simpa using g20) (by simp only [maxLen] at hlen; omega))) rfl ?_
          refine chGo rfl rfl (indexAddr (l := p.c) tab rfl rfl rfl rfl rfl rfl (Int.natCast_nonneg _) (idx_map (hp (by simpa using g20))) rfl) rfl ?_
          refine chGo rfl rfl (ev tab rfl) rfl ?_
          first | refine chGo rfl rfl (ev tab rfl) rfl ?_ | refine chGo rfl rfl (loadRow tab rfl rfl rfl rfl) rfl ?_ | refine chGo rfl rfl (loadBox tab rfl rfl rfl rfl rfl) rfl ?_
          refine chGo rfl rfl (ev tab rfl) rfl ?_
          refine chPu (ev tab rfl) rfl ?_
          refine CH.nil ?_
          refine qv1 rfl rfl rfl
        · intro g20
          refine chSkip rfl rfl rfl rfl ?_
          refine chSkip rfl rfl rfl rfl ?_
          refine chSkip rfl rfl rfl rfl ?_
          refine chSkip rfl rfl rfl rfl ?_
          refine chSkip rfl rfl rfl rfl ?_
          refine chSkip rfl rfl rfl rfl ?_
          refine chSkip rfl rfl rfl rfl ?_
          refine chSkip rfl rfl rfl rfl ?_
          refine chSkip rfl rfl rfl rfl ?_
          refine chPu (ev tab rfl) rfl ?_
          refine CH.nil ?_
          refine qv1 rfl rfl rfl
      refine qs ?_
      refine condK rfl (fun h30 => ?_) (fun h30 => ?_)
      · skip
        have hc2 : (decide (0 < k) && decide (e.time < p.time)) = true := by simp at h30 ⊢; omega
        rw [if_pos hc2] at hI
        refine W.seq ?_
        refine W.region ?_
        refine pu (ev tab rfl) rfl ?_
        refine WO.nil ?_
        refine qs ?_
        refine W.ret ?_
        refine qbRet ?_
        refine qsRet ?_
        refine qlRet ?_
        refine qbRet ?_
        refine qsRet ?_
        refine QF.ret0 trivial rfl ?_
        simp only [norm, oneA, ← hI]
      · skip
        have hc2 : (decide (0 < k) && decide (e.time < p.time)) = false := by simp at h30 ⊢; omega
        rw [if_neg (by rw [hc2]; decide)] at hI
        refine W.skip ?_
        refine qbN ?_
        refine qs ?_
        refine W.region ?_
        iterate 2 refine pu (ev tab rfl) rfl ?_
        refine WO.nil ?_
        refine W.endR [] ⟨k + 1, ?_⟩ ?_ rfl ?_ ⟨rfl, rfl, rfl, rfl, rfl, rfl, trivial⟩ ?_ trivial rfl
        · exact ⟨hlt, by rw [hnext]; exact hI⟩
        · dsimp only; omega
        · repeat' first | exact trivial | refine ⟨rfl, ?_⟩ | refine ⟨step_nat (by assumption) (by assumption), ?_⟩
        · repeat' first | exact trivial | refine ⟨rfl, ?_⟩ | refine ⟨step_nat (by assumption) (by assumption), ?_⟩
  · skip
    rw [hd] at hI
    simp only [allE] at hI
    refine W.exit ?_
    refine qsExit ?_
    refine qlExit ?_
    refine qbExit ?_
    refine qs ?_
    refine W.seq ?_
    refine W.region ?_
    refine pu (ev tab rfl) rfl ?_
    refine WO.nil ?_
    refine qs ?_
    refine W.ret ?_
    refine QF.ret0 trivial rfl ?_
    simp only [norm, oneA, ← hI]
end Go.Proofs.YtlmgnlhagpoggaaDoor
