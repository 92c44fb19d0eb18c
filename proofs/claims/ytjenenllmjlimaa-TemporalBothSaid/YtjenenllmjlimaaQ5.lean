import Derived.Test.YtjenenllmjlimaaQ4
namespace Go.Proofs.Ytjenenllmjlimaa
open Go.Ab Go.Tb
set_option maxRecDepth 10000
attribute [local irreducible] W WO Pu QS QB QL QF QV bK CH QE
theorem lZ (p : Nat → Bool) (f i j : Nat) : dU p (f + 1) i j = if i < j then (if p ((i + j) / 2) = true then dU p f ((i + j) / 2 + 1) j else dU p f i ((i + j) / 2)) else i := rfl
theorem sx {x : Nat} (h : x ≤ 1000000) : IntKind.u64.wrap ((x : Int)) = (x : Int) := by
 simp only [IntKind.wrap, IntKind.signed, IntKind.bits]
 simp
 omega
theorem rS {x : Nat} : ((x : Int)).fdiv (2 ^ (min (IntKind.u64.wrap 1).toNat IntKind.u64.bits)) = ((x / 2 : Nat) : Int) := by
 have e : min (IntKind.u64.wrap 1).toNat IntKind.u64.bits = 1 := by decide
 rw [e]
 have : ((x : Int)).fdiv 2 = (x : Int) / 2 := Int.fdiv_eq_ediv_of_nonneg _ (by omega)
 rw [show ((2 : Int) ^ 1) = 2 from rfl, this]
 omega
theorem mo {x : Nat} (h : x ≤ 1000000) : cS (.int .u64 (x : Int)) = true := by
 simp [cS, IntKind.min, IntKind.max, IntKind.signed, IntKind.bits]; omega
theorem si {x : Nat} (h : x ≤ 1000000) : IntKind.i64.wrap ((x : Int)) = (x : Int) := wrap64 (by omega)
theorem mn : ∀ (f : Nat) (l : List Pc) (a m b k cap : Nat), l.length ≤ 100000 → a < m → m < b → b ≤ l.length → b - a ≤ f →
  cU Try.prog 65 [.sb 0 l.length cap, .d (.v (.int .i64 (a : Int))), .d (.v (.int .i64 (m : Int))), .d (.v (.int .i64 (b : Int))), .clo 34 []] [aU (l.map Pc.c) k] 0 (.tup []) [aU ((dH bj f l a m b).map Pc.c) k] 0
 | 0, l, a, m, b, k, cap, hcap, h1, h2, h3, hf => by omega
 | f + 1, l, a, m, b, k, cap, hcap, h1, h2, h3, hf => by
  refine cU.eW aa (n := 220) (rs := []) Try.func65 (by kernel_rfl) rfl Try.ntmps65 Try.results65 rfl rfl fun C hC hG => ?_
  iterate 2 refine W.seq ?_
  refine W.region ?_
  iterate 2 refine pE rfl ?_
  refine pu (bF (ev aa rfl) (fF (x := m) (y := a) (by omega) (by omega))) rfl ?_
  refine pE rfl (WO.nil (qs (ao rfl (fun h28 => ?_) (fun h28 => ?_))))
  ·
   have e1 : m - a = 1 := by simp at h28; omega
   refine W.seq (W.region ?_)
   iterate 2 refine pE rfl ?_
   refine WO.nil (qs (W.seq (W.region ?_)))
   iterate 2 refine pE rfl ?_
   refine WO.nil (qs (W.seq (W.block ?_)))
   refine W.aV (ι := {x : Nat × Nat × Nat // match x with | (g, i, j) => j - i < g ∧ m ≤ i ∧ i ≤ j ∧ j ≤ b ∧ dU (fun h => bj (el l h) (el l a)) g i j = dU (fun h => bj (el l h) (el l a)) (b - m + 1) m b})
    (fun x => match x.1 with | (g, i, j) => [(0, .sb 0 l.length cap), (10, .d (.v (.int .i64 ((i : Nat) : Int)))), (11, .d (.v (.int .i64 ((j : Nat) : Int))))]) [(1, _), (4, _)]
    (fun x => match x.1 with | (g, i, j) => [(0, aU (l.map Pc.c) k)]) [] [] 1 (fun x => match x.1 with | (g, i, j) => j - i)
    [0] ⟨(b - m + 1, m, b), ?_⟩ rfl ?_ ⟨rfl, rfl, rfl, rfl, trivial⟩ ?_ trivial rfl ?_
   · exact ⟨by omega, Nat.le_refl _, by omega, Nat.le_refl _, rfl⟩
   · repeat' first | exact trivial | refine ⟨rfl, ?_⟩
   · repeat' first | exact trivial | refine ⟨congrArg some (a0 _ _ _), ?_⟩
   rintro ⟨⟨g, i, j⟩, hg, hi, hij, hj, hI⟩
   show W _ _ _ _ _ ⟨[(0, .sb 0 l.length cap), (10, .d (.v (.int .i64 ((i : Nat) : Int)))), (11, .d (.v (.int .i64 ((j : Nat) : Int)))), (1, _), (4, _)], [(0, aU (l.map Pc.c) k)], [], 1⟩
   obtain ⟨g, rfl⟩ : ∃ q, g = q + 1 := ⟨g - 1, by omega⟩
   rw [lZ] at hI
   iterate 2 refine W.seq ?_
   refine W.region ?_
   iterate 3 refine pE rfl ?_
   refine WO.nil (qs (ao rfl (fun h33 => ?_) (fun h33 => ?_)))
   ·
    have hlt : i < j := by simp at h33; omega
    rw [if_pos hlt] at hI
    refine W.skip (qs (W.block (W.seq (W.region ?_))))
    iterate 2 refine pE rfl ?_
    refine pu (bF (ev aa rfl) (dv (x := i) (y := j) (by omega))) rfl ?_
    refine pu (bF (ev aa rfl) (sx (x := i + j) (by omega))) rfl ?_
    refine pu (r8 (r := (((i + j) / 2 : Nat) : Int)) rfl rfl (by decide) rS (mo (by omega))) rfl ?_
    refine pu (bF (ev aa rfl) (si (x := (i + j) / 2) (by omega))) rfl ?_
    refine pE rfl (WO.nil (qs (W.seq (W.bw aa (by kernel_rfl) ?_))))
    iterate 3 refine ak (ev aa rfl) rfl ?_
    refine ak (bp aa rfl rfl rfl rfl rfl (Int.natCast_nonneg _) (show (i + j) / 2 < l.length by omega) rfl) rfl ?_
    refine ak (dp (i := (i + j) / 2) aa rfl rfl rfl rfl (bQ l) (cQ (by omega))) rfl ?_
    iterate 2 refine ak (ev aa rfl) rfl ?_
    refine ak (bp aa rfl rfl rfl rfl rfl (Int.natCast_nonneg _) (show a < l.length by omega) rfl) rfl ?_
    refine ak (dp (i := a) aa rfl rfl rfl rfl (bQ l) (cQ (by omega))) rfl ?_
    refine ak (ab rfl rfl rfl (iQ (el l ((i + j) / 2)) (el l a)) rfl) rfl ?_
    refine ak (ev aa rfl) rfl ?_
    refine CH.nil ?_
    refine qs (ao rfl (fun h50 => ?_) (fun h50 => ?_))
    ·
     have hbr : bj (el l ((i + j) / 2)) (el l a) = true := h50
     rw [if_pos hbr] at hI
     refine W.region (pE rfl (pu (bF (ev aa rfl) (dv (x := (i + j) / 2) (y := 1) (by omega))) rfl ?_))
     refine pE rfl (WO.nil (a7 ?_))
     (have _hb : bj (el l ((i + j) / 2)) (el l a) = true := hbr; refine W.aX [0] ⟨(g, (i + j) / 2 + 1, j), ?_⟩ ?_ rfl ?_ ⟨rfl, rfl, rfl, rfl, trivial⟩ ?_ trivial rfl)
     · exact ⟨by omega, by omega, by omega, by omega, hI⟩
     · dsimp only; omega
     · repeat' first | exact trivial | refine ⟨rfl, ?_⟩
     repeat' first | exact trivial | refine ⟨congrArg some (a0 _ _ _), ?_⟩
    have hbr : bj (el l ((i + j) / 2)) (el l a) = false := h50
    rw [if_neg (by rw [hbr]; decide)] at hI
    refine W.region ?_
    iterate 2 refine pE rfl ?_
    refine WO.nil (a7 ?_)
    (have _hb : bj (el l ((i + j) / 2)) (el l a) = false := hbr; refine W.aX [0] ⟨(g, i, (i + j) / 2), ?_⟩ ?_ rfl ?_ ⟨rfl, rfl, rfl, rfl, trivial⟩ ?_ trivial rfl)
    · exact ⟨by omega, by omega, by omega, by omega, hI⟩
    · dsimp only; omega
    · repeat' first | exact trivial | refine ⟨rfl, ?_⟩
    repeat' first | exact trivial | refine ⟨congrArg some (a0 _ _ _), ?_⟩
   have hlt : ¬ i < j := by simp at h33; omega
   rw [if_neg hlt] at hI
   refine W.exit (aN (aR (aP (qs ?_))))
   iterate 2 refine W.seq ?_
   refine W.region ?_
   iterate 2 refine pE rfl ?_
   refine WO.nil (qs (W.block ?_))
   have hr1 : i ≤ b := by omega
   refine W.aV (ι := {x : Nat × List Pc // match x with | (x, L) => a ≤ x ∧ x ≤ i - 1 ∧ L.length = l.length ∧ pt L (i - 1 - x) x = pt l (i - 1 - a) a})
    (fun x => match x.1 with | (x, L) => [(0, .sb 0 l.length cap), (13, .d (.v (.int .i64 ((x : Nat) : Int))))]) [(10, _)]
    (fun x => match x.1 with | (x, L) => [(0, aU (L.map Pc.c) k)]) [] [] 1 (fun x => match x.1 with | (x, L) => i - 1 - x)
    [0] ⟨(a, l), ?_⟩ rfl ?_ ⟨rfl, rfl, trivial⟩ ?_ trivial rfl ?_
   · exact ⟨Nat.le_refl _, by omega, rfl, rfl⟩
   · repeat' first | exact trivial | refine ⟨rfl, ?_⟩
   · repeat' first | exact trivial | refine ⟨congrArg some (a0 _ _ _), ?_⟩
   rintro ⟨⟨x, L⟩, hx1, hx2, hL, hU⟩
   show W _ _ _ _ _ ⟨[(0, .sb 0 l.length cap), (13, .d (.v (.int .i64 ((x : Nat) : Int)))), (10, _)], [(0, aU (L.map Pc.c) k)], [], 1⟩
   iterate 2 refine W.seq ?_
   refine W.region ?_
   iterate 2 refine pE rfl ?_
   refine pu (bF (ev aa rfl) (fF (x := i) (y := 1) (by omega) (by omega))) rfl ?_
   refine pE rfl (WO.nil (qs (ao rfl (fun h58 => ?_) (fun h58 => ?_))))
   ·
    have hxi : x < i - 1 := by simp at h58; omega
    obtain ⟨r, hr⟩ : ∃ r, i - 1 - x = r + 1 := ⟨i - 1 - x - 1, by omega⟩
    have hr2 : i - 1 - (x + 1) = r := by omega
    rw [hr] at hU
    simp only [pt] at hU
    have ea : (L.map Pc.c)[x]? = some (el L x).c := cQ (by omega)
    have eb : (L.map Pc.c)[x + 1]? = some (el L (x + 1)).c := cQ (by omega)
    have eb2 : ((L.set x (el L (x + 1))).map Pc.c)[x + 1]? = some (el L (x + 1)).c := by rw [cQ (by rw [List.length_set]; omega), j8 (by omega), if_neg (by omega)]
    refine W.skip (qs (W.seq (W.block ?_)))
    apply W.gZ aa 16 15; (case hB => kernel_rfl); (case h1 => rfl); (case h2 => rfl)
    refine' bb (ev aa rfl) rfl rfl rfl rfl rfl ?h_1
    case' h_1 => skip
    refine' bb (ev aa rfl) rfl rfl rfl rfl rfl ?h_2
    case' h_2 => skip
    refine' bN ?p1_3 (ev aa rfl) rfl rfl rfl rfl rfl ?h_3
    case' h_3 => skip
    refine' bN ?p1_4 (ev aa rfl) rfl rfl rfl rfl rfl ?h_4
    case' h_4 => skip
    refine' bN ?p1_5 (bF (ev aa rfl) (dv (x := x) (y := 1) (by omega))) rfl rfl rfl rfl rfl ?h_5
    case' h_5 => skip
    refine' bb (ev aa rfl) rfl rfl rfl rfl rfl ?h_6
    case' h_6 => skip
    refine' bb (ev aa rfl) rfl rfl rfl rfl rfl ?h_7
    case' h_7 => skip
    refine' bb (bF (ev aa rfl) (dv (x := x) (y := 1) (by omega))) rfl rfl rfl rfl rfl ?h_8
    case' h_8 => skip
    refine' bb (bp aa rfl rfl rfl rfl rfl (Int.natCast_nonneg _) (show x + 1 < l.length by omega) rfl) rfl rfl rfl rfl rfl ?h_9
    case' h_9 => skip
    refine' bb (dp (i := x + 1) aa rfl rfl rfl rfl (bQ L) eb) rfl rfl rfl rfl rfl ?h_10
    case' h_10 => skip
    refine' bN ?p1_11 (ev aa rfl) rfl rfl rfl rfl rfl ?h_11
    case' h_11 => skip
    refine' bN ?p1_12 (ev aa rfl) rfl rfl rfl rfl rfl ?h_12
    case' h_12 => skip
    refine' bN ?p1_13 (bp aa rfl rfl rfl rfl rfl (Int.natCast_nonneg _) (show x < l.length by omega) rfl) rfl rfl rfl rfl rfl ?h_13
    case' h_13 => skip
    refine' bb (dp (i := x) aa rfl rfl rfl rfl (bQ L) ea) rfl rfl rfl rfl rfl ?h_14
    case' h_14 => skip
    refine' bb (bp aa rfl rfl rfl rfl rfl (Int.natCast_nonneg _) (show x < l.length by omega) rfl) rfl rfl rfl rfl rfl ?h_15
    case' h_15 => skip
    refine' kr (fun g => ?e_16) rfl rfl ?h_16
    case e_16 =>
     refine gp (i := x) aa rfl rfl rfl rfl (bQ L) ea rfl rfl (fN (x := el L (x + 1))) ?_
     refine WO.nil ?_
     exact ⟨rfl, rfl⟩
    case' h_16 => skip
    case p1_3 => exact (ev aa rfl)
    case p1_4 => exact (ev aa rfl)
    case p1_5 => exact (bF (ev aa rfl) (dv (x := x) (y := 1) (by omega)))
    case p1_11 => exact (ev aa rfl)
    case p1_12 => exact (ev aa rfl)
    case p1_13 => exact (bp aa rfl rfl rfl rfl rfl (Int.natCast_nonneg _) (show x < l.length by omega) rfl)
    refine CC.nil ?_
    refine pu (bp aa rfl rfl rfl rfl rfl (Int.natCast_nonneg _) (show x + 1 < l.length by omega) rfl) rfl ?_
    refine gp (i := x + 1) aa rfl rfl rfl rfl (bQ _) eb2 rfl rfl (fN (x := el L x)) ?_
    refine WO.nil (a7 (qs (W.region (pE rfl (pu (bF (ev aa rfl) (dv (x := x) (y := 1) (by omega))) rfl ?_)))))
    refine pE rfl (WO.nil (W.aX [0] ⟨(x + 1, dT L x (x + 1)), ?_⟩ ?_ rfl ?_ ⟨rfl, rfl, trivial⟩ ?_ trivial rfl))
    · exact ⟨by omega, by omega, by rw [dy]; exact hL, by rw [hr2]; exact hU⟩
    · dsimp only; omega
    · repeat' first | exact trivial | refine ⟨rfl, ?_⟩
    repeat' first | exact trivial | refine ⟨congrArg some (a0 _ _ _), ?_⟩
   have hxi : i - 1 - x = 0 := by simp at h58; omega
   rw [hxi] at hU
   simp only [pt] at hU
   have hg : dH bj (f + 1) l a m b = L := by
    unfold dH
    rw [if_pos e1, ← hI, hU]
   refine W.exit (aN (aR (aP (qs (W.ret (ah (fC.end aa [] trivial rfl rfl rfl rfl ?_ ?_)))))))
   · rw [hg]; exact gK rfl
   rfl
  have e1 : ¬ m - a = 1 := by simp at h28; omega
  refine W.skip (qs ?_)
  iterate 2 refine W.seq ?_
  refine W.region ?_
  iterate 2 refine pE rfl ?_
  refine pu (bF (ev aa rfl) (fF (x := b) (y := m) (by omega) (by omega))) rfl ?_
  refine pE rfl (WO.nil (qs (ao rfl (fun h80 => ?_) (fun h80 => ?_))))
  ·
   have e2 : b - m = 1 := by simp at h80; omega
   refine W.seq (W.region ?_)
   iterate 2 refine pE rfl ?_
   refine WO.nil (qs (W.seq (W.region ?_)))
   iterate 2 refine pE rfl ?_
   refine WO.nil (qs (W.seq (W.block ?_)))
   refine W.aV (ι := {x : Nat × Nat × Nat // match x with | (g, i, j) => j - i < g ∧ a ≤ i ∧ i ≤ j ∧ j ≤ m ∧ dU (fun h => !bj (el l m) (el l h)) g i j = dU (fun h => !bj (el l m) (el l h)) (m - a + 1) a m})
    (fun x => match x.1 with | (g, i, j) => [(0, .sb 0 l.length cap), (14, .d (.v (.int .i64 ((i : Nat) : Int)))), (15, .d (.v (.int .i64 ((j : Nat) : Int))))]) [(2, _), (4, _)]
    (fun x => match x.1 with | (g, i, j) => [(0, aU (l.map Pc.c) k)]) [] [] 1 (fun x => match x.1 with | (g, i, j) => j - i)
    [0] ⟨(m - a + 1, a, m), ?_⟩ rfl ?_ ⟨rfl, rfl, rfl, rfl, trivial⟩ ?_ trivial rfl ?_
   · exact ⟨by omega, Nat.le_refl _, by omega, Nat.le_refl _, rfl⟩
   · repeat' first | exact trivial | refine ⟨rfl, ?_⟩
   · repeat' first | exact trivial | refine ⟨congrArg some (a0 _ _ _), ?_⟩
   rintro ⟨⟨g, i, j⟩, hg, hi, hij, hj, hI⟩
   show W _ _ _ _ _ ⟨[(0, .sb 0 l.length cap), (14, .d (.v (.int .i64 ((i : Nat) : Int)))), (15, .d (.v (.int .i64 ((j : Nat) : Int)))), (2, _), (4, _)], [(0, aU (l.map Pc.c) k)], [], 1⟩
   obtain ⟨g, rfl⟩ : ∃ q, g = q + 1 := ⟨g - 1, by omega⟩
   rw [lZ] at hI
   iterate 2 refine W.seq ?_
   refine W.region ?_
   iterate 3 refine pE rfl ?_
   refine WO.nil (qs (ao rfl (fun h85 => ?_) (fun h85 => ?_)))
   ·
    have hlt : i < j := by simp at h85; omega
    rw [if_pos hlt] at hI
    refine W.skip (qs (W.block (W.seq (W.region ?_))))
    iterate 2 refine pE rfl ?_
    refine pu (bF (ev aa rfl) (dv (x := i) (y := j) (by omega))) rfl ?_
    refine pu (bF (ev aa rfl) (sx (x := i + j) (by omega))) rfl ?_
    refine pu (r8 (r := (((i + j) / 2 : Nat) : Int)) rfl rfl (by decide) rS (mo (by omega))) rfl ?_
    refine pu (bF (ev aa rfl) (si (x := (i + j) / 2) (by omega))) rfl ?_
    refine pE rfl (WO.nil (qs (W.seq (W.bw aa (by kernel_rfl) ?_))))
    iterate 3 refine ak (ev aa rfl) rfl ?_
    refine ak (bp aa rfl rfl rfl rfl rfl (Int.natCast_nonneg _) (show m < l.length by omega) rfl) rfl ?_
    refine ak (dp (i := m) aa rfl rfl rfl rfl (bQ l) (cQ (by omega))) rfl ?_
    iterate 2 refine ak (ev aa rfl) rfl ?_
    refine ak (bp aa rfl rfl rfl rfl rfl (Int.natCast_nonneg _) (show (i + j) / 2 < l.length by omega) rfl) rfl ?_
    refine ak (dp (i := (i + j) / 2) aa rfl rfl rfl rfl (bQ l) (cQ (by omega))) rfl ?_
    refine ak (ab rfl rfl rfl (iQ (el l m) (el l ((i + j) / 2))) rfl) rfl ?_
    iterate 2 refine ak (ev aa rfl) rfl ?_
    refine CH.nil ?_
    refine qs (ao rfl (fun h103 => ?_) (fun h103 => ?_))
    ·
     have hbr : (!bj (el l m) (el l ((i + j) / 2))) = true := h103
     rw [if_pos hbr] at hI
     refine W.region (pE rfl (pu (bF (ev aa rfl) (dv (x := (i + j) / 2) (y := 1) (by omega))) rfl ?_))
     refine pE rfl (WO.nil (a7 ?_))
     (have _hb : (!bj (el l m) (el l ((i + j) / 2))) = true := hbr; refine W.aX [0] ⟨(g, (i + j) / 2 + 1, j), ?_⟩ ?_ rfl ?_ ⟨rfl, rfl, rfl, rfl, trivial⟩ ?_ trivial rfl)
     · exact ⟨by omega, by omega, by omega, by omega, hI⟩
     · dsimp only; omega
     · repeat' first | exact trivial | refine ⟨rfl, ?_⟩
     repeat' first | exact trivial | refine ⟨congrArg some (a0 _ _ _), ?_⟩
    have hbr : (!bj (el l m) (el l ((i + j) / 2))) = false := h103
    rw [if_neg (by rw [hbr]; decide)] at hI
    refine W.region ?_
    iterate 2 refine pE rfl ?_
    refine WO.nil (a7 ?_)
    (have _hb : (!bj (el l m) (el l ((i + j) / 2))) = false := hbr; refine W.aX [0] ⟨(g, i, (i + j) / 2), ?_⟩ ?_ rfl ?_ ⟨rfl, rfl, rfl, rfl, trivial⟩ ?_ trivial rfl)
    · exact ⟨by omega, by omega, by omega, by omega, hI⟩
    · dsimp only; omega
    · repeat' first | exact trivial | refine ⟨rfl, ?_⟩
    repeat' first | exact trivial | refine ⟨congrArg some (a0 _ _ _), ?_⟩
   have hlt : ¬ i < j := by simp at h85; omega
   rw [if_neg hlt] at hI
   refine W.exit (aN (aR (aP (qs ?_))))
   iterate 2 refine W.seq ?_
   refine W.region ?_
   iterate 2 refine pE rfl ?_
   refine WO.nil (qs (W.block ?_))
   refine W.aV (ι := {x : Nat × List Pc // match x with | (x, L) => i ≤ x ∧ x ≤ m ∧ L.length = l.length ∧ oO L (x - i) x = oO l (m - i) m})
    (fun x => match x.1 with | (x, L) => [(0, .sb 0 l.length cap), (17, .d (.v (.int .i64 ((x : Nat) : Int))))]) [(14, _)]
    (fun x => match x.1 with | (x, L) => [(0, aU (L.map Pc.c) k)]) [] [] 1 (fun x => match x.1 with | (x, L) => x - i)
    [0] ⟨(m, l), ?_⟩ rfl ?_ ⟨rfl, rfl, trivial⟩ ?_ trivial rfl ?_
   · exact ⟨by omega, Nat.le_refl _, rfl, rfl⟩
   · repeat' first | exact trivial | refine ⟨rfl, ?_⟩
   · repeat' first | exact trivial | refine ⟨congrArg some (a0 _ _ _), ?_⟩
   rintro ⟨⟨x, L⟩, hx1, hx2, hL, hU⟩
   show W _ _ _ _ _ ⟨[(0, .sb 0 l.length cap), (17, .d (.v (.int .i64 ((x : Nat) : Int)))), (14, _)], [(0, aU (L.map Pc.c) k)], [], 1⟩
   iterate 2 refine W.seq ?_
   refine W.region ?_
   iterate 3 refine pE rfl ?_
   refine WO.nil (qs (ao rfl (fun h110 => ?_) (fun h110 => ?_)))
   ·
    have hxi : i < x := by simp at h110; omega
    obtain ⟨y, rfl⟩ : ∃ y, x = y + 1 := ⟨x - 1, by omega⟩
    have hr : y + 1 - i = y - i + 1 := by omega
    rw [hr] at hU
    simp only [oO] at hU
    rw [show y + 1 - 1 = y from rfl] at hU
    have ea : (L.map Pc.c)[y + 1]? = some (el L (y + 1)).c := cQ (by omega)
    have eb : (L.map Pc.c)[y]? = some (el L y).c := cQ (by omega)
    have eb2 : ((L.set (y + 1) (el L y)).map Pc.c)[y]? = some (el L y).c := by rw [cQ (by rw [List.length_set]; omega), j8 (by omega), if_neg (by omega)]
    have hsub : IntKind.i64.wrap (((y + 1 : Nat) : Int) - 1) = ((y : Nat) : Int) := by rw [wrap64 (by omega)]; omega
    refine W.skip (qs (W.seq (W.block ?_)))
    apply W.gZ aa 16 15; (case hB => kernel_rfl); (case h1 => rfl); (case h2 => rfl)
    refine' bb (ev aa rfl) rfl rfl rfl rfl rfl ?h_17
    case' h_17 => skip
    refine' bb (ev aa rfl) rfl rfl rfl rfl rfl ?h_18
    case' h_18 => skip
    refine' bN ?p1_19 (ev aa rfl) rfl rfl rfl rfl rfl ?h_19
    case' h_19 => skip
    refine' bN ?p1_20 (ev aa rfl) rfl rfl rfl rfl rfl ?h_20
    case' h_20 => skip
    refine' bN ?p1_21 (bF (ev aa rfl) hsub) rfl rfl rfl rfl rfl ?h_21
    case' h_21 => skip
    refine' bb (ev aa rfl) rfl rfl rfl rfl rfl ?h_22
    case' h_22 => skip
    refine' bb (ev aa rfl) rfl rfl rfl rfl rfl ?h_23
    case' h_23 => skip
    refine' bb (bF (ev aa rfl) hsub) rfl rfl rfl rfl rfl ?h_24
    case' h_24 => skip
    refine' bb (bp aa rfl rfl rfl rfl rfl (Int.natCast_nonneg _) (show y < l.length by omega) rfl) rfl rfl rfl rfl rfl ?h_25
    case' h_25 => skip
    refine' bb (dp (i := y) aa rfl rfl rfl rfl (bQ L) eb) rfl rfl rfl rfl rfl ?h_26
    case' h_26 => skip
    refine' bN ?p1_27 (ev aa rfl) rfl rfl rfl rfl rfl ?h_27
    case' h_27 => skip
    refine' bN ?p1_28 (ev aa rfl) rfl rfl rfl rfl rfl ?h_28
    case' h_28 => skip
    refine' bN ?p1_29 (bp aa rfl rfl rfl rfl rfl (Int.natCast_nonneg _) (show y + 1 < l.length by omega) rfl) rfl rfl rfl rfl rfl ?h_29
    case' h_29 => skip
    refine' bb (dp (i := y + 1) aa rfl rfl rfl rfl (bQ L) ea) rfl rfl rfl rfl rfl ?h_30
    case' h_30 => skip
    refine' bb (bp aa rfl rfl rfl rfl rfl (Int.natCast_nonneg _) (show y + 1 < l.length by omega) rfl) rfl rfl rfl rfl rfl ?h_31
    case' h_31 => skip
    refine' kr (fun g => ?e_32) rfl rfl ?h_32
    case e_32 =>
     refine gp (i := y + 1) aa rfl rfl rfl rfl (bQ L) ea rfl rfl (fN (x := el L y)) ?_
     refine WO.nil ?_
     exact ⟨rfl, rfl⟩
    case' h_32 => skip
    case p1_19 => exact (ev aa rfl)
    case p1_20 => exact (ev aa rfl)
    case p1_21 => exact (bF (ev aa rfl) hsub)
    case p1_27 => exact (ev aa rfl)
    case p1_28 => exact (ev aa rfl)
    case p1_29 => exact (bp aa rfl rfl rfl rfl rfl (Int.natCast_nonneg _) (show y + 1 < l.length by omega) rfl)
    refine CC.nil ?_
    refine pu (bp aa rfl rfl rfl rfl rfl (Int.natCast_nonneg _) (show y < l.length by omega) rfl) rfl ?_
    refine gp (i := y) aa rfl rfl rfl rfl (bQ _) eb2 rfl rfl (fN (x := el L (y + 1))) ?_
    refine WO.nil (a7 (qs (W.region (pE rfl (pu (bF (ev aa rfl) hsub) rfl ?_)))))
    refine pE rfl (WO.nil (W.aX [0] ⟨(y, dT L (y + 1) y), ?_⟩ ?_ rfl ?_ ⟨rfl, rfl, trivial⟩ ?_ trivial rfl))
    · exact ⟨by omega, by omega, by rw [dy]; exact hL, hU⟩
    · dsimp only; omega
    · repeat' first | exact trivial | refine ⟨rfl, ?_⟩
    repeat' first | exact trivial | refine ⟨congrArg some (a0 _ _ _), ?_⟩
   have hxi : x - i = 0 := by simp at h110; omega
   rw [hxi] at hU
   simp only [oO] at hU
   have hg : dH bj (f + 1) l a m b = L := by
    unfold dH
    rw [if_neg e1, if_pos e2, ← hI, hU]
   refine W.exit (aN (aR (aP (qs (W.ret (ah (fC.end aa [] trivial rfl rfl rfl rfl ?_ ?_)))))))
   · rw [hg]; exact gK rfl
   rfl
  have e2 : ¬ b - m = 1 := by simp at h80; omega
  refine W.skip (qs (W.seq ?_))
  have hG : dH bj (f + 1) l a m b = dH bj (f + 1) l a m b := rfl
  conv at hG => rhs; unfold dH
  rw [if_neg e1, if_neg e2] at hG
  dsimp only at hG
  generalize hmid : (a + b) / 2 = mid at hG
  generalize hs0 : (if mid < m then mid + m - b else a) = s0 at hG
  generalize hr0 : (if mid < m then mid else m) = r0 at hG
  have hle : s0 ≤ r0 := by subst hs0 hr0; split <;> omega
  have hs1 : a ≤ s0 := by subst hs0; split <;> omega
  have hr1 : r0 ≤ m ∧ r0 ≤ mid := by subst hr0; split <;> omega
  have hs2 : mid + m ≤ b + s0 := by subst hs0; split <;> omega
  have hlow : ∀ c, s0 ≤ c → c < r0 → m ≤ mid + m - 1 - c ∧ mid + m - 1 - c < b := fun c p1 p2 => by subst hs0 hr0; split at p1 <;> split at p2 <;> omega
  have hhalf := rS (x := a + b)
  rw [hmid] at hhalf
  refine W.region ?_
  iterate 2 refine pE rfl ?_
  refine pu (bF (ev aa rfl) (dv (x := a) (y := b) (by omega))) rfl ?_
  refine pu (bF (ev aa rfl) (sx (x := a + b) (by omega))) rfl ?_
  refine pu (r8 (r := (mid : Int)) rfl rfl (by decide) hhalf (mo (by omega))) rfl ?_
  refine pu (bF (ev aa rfl) (si (x := mid) (by omega))) rfl ?_
  refine pE rfl (WO.nil (qs (W.seq (W.region ?_))))
  iterate 2 refine pE rfl ?_
  refine pu (bF (ev aa rfl) (dv (x := mid) (y := m) (by omega))) rfl ?_
  refine pE rfl (WO.nil (qs (W.seq (W.region ?_))))
  iterate 2 refine pE rfl ?_
  refine WO.nil (qs ?_)
  iterate 2 refine W.seq ?_
  refine W.region ?_
  iterate 3 refine pE rfl ?_
  refine WO.nil (qs (W.sM [(0, .sb 0 l.length cap), (1, .d (.v (.int .i64 ((a : Nat) : Int)))), (2, .d (.v (.int .i64 ((m : Nat) : Int)))), (3, .d (.v (.int .i64 ((b : Nat) : Int)))), (4, .clo 34 []), (18, .d (.v (.int .i64 ((mid : Nat) : Int)))), (19, .d (.v (.int .i64 (((mid + m) : Nat) : Int)))), (20, .d (.v (.int .i64 ((s0 : Nat) : Int)))), (21, .d (.v (.int .i64 ((r0 : Nat) : Int))))] [] [(0, aU (l.map Pc.c) k)] [] [] 1 ?_ ?_))
  ·
   refine ao rfl (fun h140 => ?_) (fun h140 => ?_)
   ·
    have hq : mid < m := by simp at h140; omega
    rw [if_pos hq] at hs0 hr0
    subst hs0 hr0
    refine W.seq (W.region ?_)
    iterate 2 refine pE rfl ?_
    refine pu (bF (ev aa rfl) (fF (x := mid + m) (y := b) (by omega) (by omega))) rfl ?_
    refine pE rfl (WO.nil (qs (W.region ?_)))
    iterate 2 refine pE rfl ?_
    refine WO.nil (gO [0] rfl ?_ trivial ?_ trivial rfl)
    · repeat' first | exact trivial | refine ⟨rfl, ?_⟩
    repeat' first | exact trivial | refine ⟨congrArg some (a0 _ _ _), ?_⟩
   have hq : ¬ mid < m := by simp at h140; omega
   rw [if_neg hq] at hs0 hr0
   subst hs0 hr0
   refine W.seq (W.region ?_)
   iterate 2 refine pE rfl ?_
   refine WO.nil (qs (W.region ?_))
   iterate 2 refine pE rfl ?_
   refine WO.nil (gO [0] rfl ?_ trivial ?_ trivial rfl)
   · repeat' first | exact trivial | refine ⟨rfl, ?_⟩
   repeat' first | exact trivial | refine ⟨congrArg some (a0 _ _ _), ?_⟩
  refine qs (W.seq (W.region (pE rfl (pu (bF (ev aa rfl) (fF (x := mid + m) (y := 1) (by omega) (by omega))) rfl ?_))))
  refine pE rfl (WO.nil (qs (W.seq (W.block ?_))))
  refine W.aV (ι := {x : Nat × Nat × Nat // match x with | (g, i, j) => j - i < g ∧ s0 ≤ i ∧ i ≤ j ∧ j ≤ r0 ∧ dU (fun c => !bj (el l (mid + m - 1 - c)) (el l c)) g i j = dU (fun c => !bj (el l (mid + m - 1 - c)) (el l c)) (r0 - s0 + 1) s0 r0})
   (fun x => match x.1 with | (g, i, j) => [(0, .sb 0 l.length cap), (20, .d (.v (.int .i64 ((i : Nat) : Int)))), (21, .d (.v (.int .i64 ((j : Nat) : Int))))]) [(1, _), (2, _), (3, _), (4, _), (18, _), (19, _), (22, _)]
   (fun x => match x.1 with | (g, i, j) => [(0, aU (l.map Pc.c) k)]) [] [] 1 (fun x => match x.1 with | (g, i, j) => j - i)
   [0] ⟨(r0 - s0 + 1, s0, r0), ?_⟩ rfl ?_ ⟨rfl, rfl, rfl, rfl, rfl, rfl, rfl, rfl, rfl, rfl, rfl, rfl, rfl, rfl, trivial⟩ ?_ trivial rfl ?_
  · exact ⟨by omega, Nat.le_refl _, by omega, Nat.le_refl _, rfl⟩
  · repeat' first | exact trivial | refine ⟨rfl, ?_⟩
  · repeat' first | exact trivial | refine ⟨congrArg some (a0 _ _ _), ?_⟩
  rintro ⟨⟨g, i, j⟩, hg, hi, hij, hj, hI⟩
  show W _ _ _ _ _ ⟨[(0, .sb 0 l.length cap), (20, .d (.v (.int .i64 ((i : Nat) : Int)))), (21, .d (.v (.int .i64 ((j : Nat) : Int)))), (1, _), (2, _), (3, _), (4, _), (18, _), (19, _), (22, _)], [(0, aU (l.map Pc.c) k)], [], 1⟩
  obtain ⟨g, rfl⟩ : ∃ q, g = q + 1 := ⟨g - 1, by omega⟩
  rw [lZ] at hI
  iterate 2 refine W.seq ?_
  refine W.region ?_
  iterate 3 refine pE rfl ?_
  refine WO.nil (qs (ao rfl (fun h151 => ?_) (fun h151 => ?_)))
  ·
   have hlt : i < j := by simp at h151; omega
   rw [if_pos hlt] at hI
   have hlw := hlow ((i + j) / 2) (by omega) (by omega)
   refine W.skip (qs (W.block (W.seq (W.region ?_))))
   iterate 2 refine pE rfl ?_
   refine pu (bF (ev aa rfl) (dv (x := i) (y := j) (by omega))) rfl ?_
   refine pu (bF (ev aa rfl) (sx (x := i + j) (by omega))) rfl ?_
   refine pu (r8 (r := (((i + j) / 2 : Nat) : Int)) rfl rfl (by decide) rS (mo (by omega))) rfl ?_
   refine pu (bF (ev aa rfl) (si (x := (i + j) / 2) (by omega))) rfl ?_
   refine pE rfl (WO.nil (qs (W.seq (W.bw aa (by kernel_rfl) ?_))))
   iterate 4 refine ak (ev aa rfl) rfl ?_
   refine ak (bF (ev aa rfl) (fF (x := mid + m - 1) (y := (i + j) / 2) (by omega) (by omega))) rfl ?_
   refine ak (bp aa rfl rfl rfl rfl rfl (Int.natCast_nonneg _) (show mid + m - 1 - (i + j) / 2 < l.length by omega) rfl) rfl ?_
   refine ak (dp (i := mid + m - 1 - (i + j) / 2) aa rfl rfl rfl rfl (bQ l) (cQ (by omega))) rfl ?_
   iterate 2 refine ak (ev aa rfl) rfl ?_
   refine ak (bp aa rfl rfl rfl rfl rfl (Int.natCast_nonneg _) (show (i + j) / 2 < l.length by omega) rfl) rfl ?_
   refine ak (dp (i := (i + j) / 2) aa rfl rfl rfl rfl (bQ l) (cQ (by omega))) rfl ?_
   refine ak (ab rfl rfl rfl (iQ (el l (mid + m - 1 - (i + j) / 2)) (el l ((i + j) / 2))) rfl) rfl ?_
   iterate 2 refine ak (ev aa rfl) rfl ?_
   refine CH.nil ?_
   refine qs (ao rfl (fun h171 => ?_) (fun h171 => ?_))
   ·
    have hbr : (!bj (el l (mid + m - 1 - (i + j) / 2)) (el l ((i + j) / 2))) = true := h171
    rw [if_pos hbr] at hI
    refine W.region (pE rfl (pu (bF (ev aa rfl) (dv (x := (i + j) / 2) (y := 1) (by omega))) rfl ?_))
    refine pE rfl (WO.nil (a7 ?_))
    (have _hb : (!bj (el l (mid + m - 1 - (i + j) / 2)) (el l ((i + j) / 2))) = true := hbr; refine W.aX [0] ⟨(g, (i + j) / 2 + 1, j), ?_⟩ ?_ rfl ?_ ⟨rfl, rfl, rfl, rfl, rfl, rfl, rfl, rfl, rfl, rfl, rfl, rfl, rfl, rfl, trivial⟩ ?_ trivial rfl)
    · exact ⟨by omega, by omega, by omega, by omega, hI⟩
    · dsimp only; omega
    · repeat' first | exact trivial | refine ⟨rfl, ?_⟩
    repeat' first | exact trivial | refine ⟨congrArg some (a0 _ _ _), ?_⟩
   have hbr : (!bj (el l (mid + m - 1 - (i + j) / 2)) (el l ((i + j) / 2))) = false := h171
   rw [if_neg (by rw [hbr]; decide)] at hI
   refine W.region ?_
   iterate 2 refine pE rfl ?_
   refine WO.nil (a7 ?_)
   (have _hb : (!bj (el l (mid + m - 1 - (i + j) / 2)) (el l ((i + j) / 2))) = false := hbr; refine W.aX [0] ⟨(g, i, (i + j) / 2), ?_⟩ ?_ rfl ?_ ⟨rfl, rfl, rfl, rfl, rfl, rfl, rfl, rfl, rfl, rfl, rfl, rfl, rfl, rfl, trivial⟩ ?_ trivial rfl)
   · exact ⟨by omega, by omega, by omega, by omega, hI⟩
   · dsimp only; omega
   · repeat' first | exact trivial | refine ⟨rfl, ?_⟩
   repeat' first | exact trivial | refine ⟨congrArg some (a0 _ _ _), ?_⟩
  have hlt : ¬ i < j := by simp at h151; omega
  rw [if_neg hlt] at hI
  rw [← hI] at hG
  obtain ⟨e, he⟩ : ∃ e, mid + m - i = e := ⟨_, rfl⟩
  rw [he] at hG
  have hse : m ≤ e := by omega
  have hsb : e ≤ b := by omega
  obtain ⟨l1, hl1⟩ : ∃ x, (if i < m ∧ m < e then gI (m - i + (e - m)) l m (m - i) (e - m) else l) = x := ⟨_, rfl⟩
  rw [hl1] at hG
  have hlen1 : l1.length = l.length := by
   subst hl1
   split
   · exact (iU (lo := 0) (hi := l.length) _ _ _ _ _ (by omega) (by omega) (by omega) (by omega)).len
   rfl
  obtain ⟨l2, hl2⟩ : ∃ x, (if a < i ∧ i < mid then dH bj f l1 a i mid else l1) = x := ⟨_, rfl⟩
  rw [hl2] at hG
  have hlen2 : l2.length = l.length := by
   subst hl2
   split
   · exact (eD bj f l1 a i mid (by omega) (by omega) (by omega)).len.trans hlen1
   exact hlen1
  refine W.exit (aN (aR (aP (qs (W.seq (W.region ?_))))))
  iterate 2 refine pE rfl ?_
  refine pu (bF (ev aa rfl) (y := ((e : Nat) : Int)) (by rw [← he]; exact fF (x := mid + m) (y := i) (by omega) (by omega))) rfl ?_
  refine pE rfl (WO.nil (qs ?_))
  iterate 2 refine W.seq ?_
  apply aG; (case hb => rfl)
  ·
   iterate 4 refine pE rfl ?_
   apply aC; (case hj => rfl); (case hl => rfl)
   ·
    refine an rfl rfl (pE rfl (an rfl rfl (pE rfl (an rfl rfl ?_))))
    iterate 2 refine pE rfl ?_
    refine WO.nil (aB rfl rfl rfl)
   iterate 3 refine ax rfl rfl rfl rfl ?_
   refine pE rfl (WO.nil (aB rfl rfl rfl))
  refine qs (W.sM [(0, .sb 0 l.length cap), (1, .d (.v (.int .i64 ((a : Nat) : Int)))), (2, .d (.v (.int .i64 ((m : Nat) : Int)))), (3, .d (.v (.int .i64 ((b : Nat) : Int)))), (4, .clo 34 []), (18, .d (.v (.int .i64 ((mid : Nat) : Int)))), (20, .d (.v (.int .i64 ((i : Nat) : Int)))), (24, .d (.v (.int .i64 ((e : Nat) : Int))))] [] [(0, aU (l1.map Pc.c) k)] [] [] 1 ?_ ?_)
  ·
   refine ao rfl (fun h185 => ?_) (fun h185 => ?_)
   ·
    have hq : i < m ∧ m < e := by simp at h185; omega
    rw [if_pos hq] at hl1
    subst hl1
    refine W.region ?_
    iterate 5 refine pE rfl ?_
    refine fT 0 rfl rfl rfl rfl (wj l i m e k cap (m - i + (e - m)) hcap hq.1 hq.2 (by omega) (Nat.le_refl _)) rfl ?_
    refine WO.nil (gO [0] rfl ?_ trivial ?_ trivial rfl)
    · repeat' first | exact trivial | refine ⟨rfl, ?_⟩
    repeat' first | exact trivial | refine ⟨congrArg some (a0 _ _ _), ?_⟩
   have hq : ¬ (i < m ∧ m < e) := by simp at h185; omega
   rw [if_neg hq] at hl1
   subst hl1
   refine W.skip (gO [0] rfl ?_ trivial ?_ trivial rfl)
   · repeat' first | exact trivial | refine ⟨rfl, ?_⟩
   repeat' first | exact trivial | refine ⟨congrArg some (a0 _ _ _), ?_⟩
  refine qs ?_
  iterate 2 refine W.seq ?_
  apply aG; (case hb => rfl)
  ·
   iterate 4 refine pE rfl ?_
   apply aC; (case hj => rfl); (case hl => rfl)
   ·
    refine an rfl rfl (pE rfl (an rfl rfl (pE rfl (an rfl rfl ?_))))
    iterate 2 refine pE rfl ?_
    refine WO.nil (aB rfl rfl rfl)
   iterate 3 refine ax rfl rfl rfl rfl ?_
   refine pE rfl (WO.nil (aB rfl rfl rfl))
  refine qs (W.sM [(0, .sb 0 l.length cap), (1, .d (.v (.int .i64 ((a : Nat) : Int)))), (2, .d (.v (.int .i64 ((m : Nat) : Int)))), (3, .d (.v (.int .i64 ((b : Nat) : Int)))), (4, .clo 34 []), (18, .d (.v (.int .i64 ((mid : Nat) : Int)))), (20, .d (.v (.int .i64 ((i : Nat) : Int)))), (24, .d (.v (.int .i64 ((e : Nat) : Int))))] [] [(0, aU (l2.map Pc.c) k)] [] [] 1 ?_ ?_)
  ·
   refine ao rfl (fun h199 => ?_) (fun h199 => ?_)
   ·
    have hq : a < i ∧ i < mid := by simp at h199; omega
    rw [if_pos hq] at hl2
    subst hl2
    have hsl := mn f l1 a i mid k cap (by omega) hq.1 hq.2 (by omega) (by omega)
    rw [hlen1] at hsl
    refine W.region ?_
    iterate 5 refine pE rfl ?_
    refine fT 0 rfl rfl rfl rfl hsl rfl ?_
    refine WO.nil (gO [0] rfl ?_ trivial ?_ trivial rfl)
    · repeat' first | exact trivial | refine ⟨rfl, ?_⟩
    repeat' first | exact trivial | refine ⟨congrArg some (a0 _ _ _), ?_⟩
   have hq : ¬ (a < i ∧ i < mid) := by simp at h199; omega
   rw [if_neg hq] at hl2
   subst hl2
   refine W.skip (gO [0] rfl ?_ trivial ?_ trivial rfl)
   · repeat' first | exact trivial | refine ⟨rfl, ?_⟩
   repeat' first | exact trivial | refine ⟨congrArg some (a0 _ _ _), ?_⟩
  refine qs (W.seq ?_)
  apply aG; (case hb => rfl)
  ·
   iterate 4 refine pE rfl ?_
   apply aC; (case hj => rfl); (case hl => rfl)
   ·
    refine an rfl rfl (pE rfl (an rfl rfl (pE rfl (an rfl rfl ?_))))
    iterate 2 refine pE rfl ?_
    refine WO.nil (aB rfl rfl rfl)
   iterate 3 refine ax rfl rfl rfl rfl ?_
   refine pE rfl (WO.nil (aB rfl rfl rfl))
  refine qs (ao rfl (fun h213 => ?_) (fun h213 => ?_))
  ·
   have hq : mid < e ∧ e < b := by simp at h213; omega
   rw [if_pos hq] at hG
   have hsl := mn f l2 mid e b k cap (by omega) hq.1 hq.2 (by omega) (by omega)
   rw [hlen2] at hsl
   refine W.region ?_
   iterate 5 refine pE rfl ?_
   refine fT 0 rfl rfl rfl rfl hsl rfl ?_
   refine WO.nil (fC.end aa [] trivial rfl rfl rfl rfl ?_ ?_)
   · rw [hG]; exact gK rfl
   rfl
  have hq : ¬ (mid < e ∧ e < b) := by simp at h213; omega
  rw [if_neg hq] at hG
  refine W.skip (fC.end aa [] trivial rfl rfl rfl rfl ?_ ?_)
  · rw [hG]; exact gK rfl
  rfl
end Go.Proofs.Ytjenenllmjlimaa
namespace Go.Proofs.Ytjenenllmjlimaa
open Go.Ab Go.Tb
set_option maxRecDepth 10000
attribute [local irreducible] W WO Pu QS QB QL QF QV bK CH QE
theorem tg (n g : Nat) (L : List Pc) (a : Nat) : kU bj n (g + 1) L a = if a + 20 ≤ n then kU bj n g (eQ bj L a (a + 20)) (a + 20) else eQ bj L a n := rfl
theorem tH (n bs g : Nat) (L : List Pc) (a : Nat) : kA bj n bs (g + 1) L a = if a + 2 * bs ≤ n then kA bj n bs g (dH bj n L a (a + bs) (a + 2 * bs)) (a + 2 * bs) else if a + bs < n then dH bj n L a (a + bs) n else L := rfl
theorem pb (n g : Nat) (L : List Pc) (bs : Nat) : lp bj n (g + 1) L bs = if bs < n then lp bj n g (kA bj n bs (n + 1) L 0) (2 * bs) else L := rfl
theorem tw (l : List Pc) (k cap : Nat) (hcap : l.length ≤ 100000) :
  cU Try.prog 45 [.sb 0 l.length cap, .d (.v (.int .i64 (l.length : Int))), .clo 34 []] [aU (l.map Pc.c) k] 0 (.tup []) [aU ((dK bj l).map Pc.c) k] 0 := by
 obtain ⟨N, hN⟩ : ∃ N, l.length = N := ⟨_, rfl⟩
 have hS : dK bj l = lp bj N (N + 1) (kU bj N (N + 1) l 0) 20 := by unfold dK; rw [hN]
 rw [hN]
 rw [hN] at hcap
 refine cU.eW aa (n := 63) (rs := []) Try.func45 (by kernel_rfl) rfl Try.ntmps45 Try.results45 rfl rfl fun C hC hG => ?_
 refine W.seq (W.region (pE rfl (WO.nil (qs (W.seq (W.region ?_))))))
 iterate 3 refine pE rfl ?_
 refine WO.nil (qs (W.seq (W.block ?_)))
 refine W.aV (ι := {x : Nat × Nat × List Pc // match x with | (g, a, L) => a ≤ N ∧ N < a + g ∧ L.length = N ∧ kU bj N g L a = kU bj N (N + 1) l 0})
  (fun x => match x.1 with | (g, a, L) => [(0, .sb 0 N cap), (7, .d (.v (.int .i64 ((a : Nat) : Int)))), (8, .d (.v (.int .i64 (((a + 20) : Nat) : Int))))]) [(1, _), (2, _), (6, _)]
  (fun x => match x.1 with | (g, a, L) => [(0, aU (L.map Pc.c) k)]) [] [] 1 (fun x => match x.1 with | (g, a, L) => N - a)
  [0] ⟨(N + 1, 0, l), ?_⟩ rfl ?_ ⟨rfl, rfl, rfl, rfl, rfl, rfl, trivial⟩ ?_ trivial rfl ?_
 · exact ⟨Nat.zero_le _, by omega, hN, rfl⟩
 · repeat' first | exact trivial | refine ⟨rfl, ?_⟩
 · repeat' first | exact trivial | refine ⟨congrArg some (a0 _ _ _), ?_⟩
 rintro ⟨⟨g, a, L⟩, ha, hg, hL, hI⟩
 show W _ _ _ _ _ ⟨[(0, .sb 0 N cap), (7, .d (.v (.int .i64 ((a : Nat) : Int)))), (8, .d (.v (.int .i64 (((a + 20) : Nat) : Int)))), (1, _), (2, _), (6, _)], [(0, aU (L.map Pc.c) k)], [], 1⟩
 obtain ⟨g, rfl⟩ : ∃ q, g = q + 1 := ⟨g - 1, by omega⟩
 rw [tg] at hI
 iterate 2 refine W.seq ?_
 refine W.region ?_
 iterate 3 refine pE rfl ?_
 refine WO.nil (qs (ao rfl (fun h13 => ?_) (fun h13 => ?_)))
 ·
  have hq : a + 20 ≤ N := by simp at h13; omega
  rw [if_pos hq] at hI
  have hsl := sW L a (a + 20) k cap (by omega) (by omega) (by omega)
  rw [hL] at hsl
  have hlen := (fW bj (l := L) (a := a) (b := a + 20) (by omega)).len.trans hL
  refine W.skip (qs (W.block (W.seq (W.region ?_))))
  iterate 4 refine pE rfl ?_
  refine fT 0 rfl rfl rfl rfl hsl rfl ?_
  refine WO.nil (qs (W.seq (W.region ?_)))
  iterate 2 refine pE rfl ?_
  refine WO.nil (qs (W.region ?_))
  iterate 2 refine pE rfl ?_
  refine pu (bF (ev aa rfl) (dv (x := a + 20) (y := 20) (by omega))) rfl ?_
  refine pE rfl (WO.nil (a7 (W.aX [0] ⟨(g, a + 20, eQ bj L a (a + 20)), ?_⟩ ?_ rfl ?_ ⟨rfl, rfl, rfl, rfl, rfl, rfl, trivial⟩ ?_ trivial rfl)))
  · exact ⟨by omega, by omega, hlen, hI⟩
  · dsimp only; omega
  · repeat' first | exact trivial | refine ⟨rfl, ?_⟩
  repeat' first | exact trivial | refine ⟨congrArg some (a0 _ _ _), ?_⟩
 have hq : ¬ a + 20 ≤ N := by simp at h13; omega
 rw [if_neg hq] at hI
 have hsl := sW L a N k cap (by omega) (by omega) (by omega)
 rw [hL] at hsl
 have hlen := (fW bj (l := L) (a := a) (b := N) (by omega)).len.trans hL
 obtain ⟨M0, hM0⟩ : ∃ x, eQ bj L a N = x := ⟨_, rfl⟩
 rw [hM0] at hsl hlen hI
 rw [← hI] at hS
 refine W.exit (aN (aR (aP (qs (W.seq (W.region ?_))))))
 iterate 4 refine pE rfl ?_
 refine fT 0 rfl rfl rfl rfl hsl rfl ?_
 refine WO.nil (qs (W.block ?_))
 refine W.aV (ι := {x : Nat × Nat × List Pc // match x with | (g1, bs, M) => 0 < bs ∧ bs ≤ 2 * N + 20 ∧ N < bs + g1 ∧ M.length = N ∧ lp bj N g1 M bs = dK bj l})
  (fun x => match x.1 with | (g1, bs, M) => [(0, .sb 0 N cap), (6, .d (.v (.int .i64 ((bs : Nat) : Int))))]) [(1, _), (2, _)]
  (fun x => match x.1 with | (g1, bs, M) => [(0, aU (M.map Pc.c) k)]) [] [] 1 (fun x => match x.1 with | (g1, bs, M) => N - bs)
  [0] ⟨(N + 1, 20, M0), ?_⟩ rfl ?_ ⟨rfl, rfl, rfl, rfl, trivial⟩ ?_ trivial rfl ?_
 · exact ⟨by omega, by omega, by omega, hlen, hS.symm⟩
 · repeat' first | exact trivial | refine ⟨rfl, ?_⟩
 · repeat' first | exact trivial | refine ⟨congrArg some (a0 _ _ _), ?_⟩
 rintro ⟨⟨g1, bs, M⟩, hb0, hb1, hb2, hM, hD⟩
 show W _ _ _ _ _ ⟨[(0, .sb 0 N cap), (6, .d (.v (.int .i64 ((bs : Nat) : Int)))), (1, _), (2, _)], [(0, aU (M.map Pc.c) k)], [], 1⟩
 iterate 2 refine W.seq ?_
 refine W.region ?_
 iterate 3 refine pE rfl ?_
 refine WO.nil (qs (ao rfl (fun h30 => ?_) (fun h30 => ?_)))
 ·
  have hq1 : bs < N := by simp at h30; omega
  obtain ⟨g1, rfl⟩ : ∃ q, g1 = q + 1 := ⟨g1 - 1, by omega⟩
  rw [pb, if_pos hq1] at hD
  have h2b : IntKind.i64.wrap (2 * (bs : Int)) = ((2 * bs : Nat) : Int) := by rw [wrap64 (by omega)]; omega
  have h2c : IntKind.i64.wrap ((bs : Int) * 2) = ((2 * bs : Nat) : Int) := by rw [wrap64 (by omega)]; omega
  refine W.skip (qs (W.block (W.seq (W.region (pE rfl (pu (bF (ev aa rfl) (y := ((0 + 2 * bs : Nat) : Int)) (by rw [Nat.zero_add]; exact h2b)) rfl ?_))))))
  iterate 2 refine pE rfl ?_
  refine WO.nil (qs (W.seq (W.block ?_)))
  refine W.aV (ι := {x : Nat × Nat × List Pc // match x with | (h, c, T) => c ≤ N ∧ N < c + h ∧ T.length = N ∧ kA bj N bs h T c = kA bj N bs (N + 1) M 0})
   (fun x => match x.1 with | (h, c, T) => [(0, .sb 0 N cap), (7, .d (.v (.int .i64 ((c : Nat) : Int)))), (8, .d (.v (.int .i64 (((c + 2 * bs) : Nat) : Int))))]) [(1, _), (2, _), (6, _)]
   (fun x => match x.1 with | (h, c, T) => [(0, aU (T.map Pc.c) k)]) [] [] 1 (fun x => match x.1 with | (h, c, T) => N - c)
   [0] ⟨(N + 1, 0, M), ?_⟩ rfl ?_ ⟨rfl, rfl, rfl, rfl, rfl, rfl, trivial⟩ ?_ trivial rfl ?_
  · exact ⟨Nat.zero_le _, by omega, hM, rfl⟩
  · repeat' first | exact trivial | refine ⟨rfl, ?_⟩
  · repeat' first | exact trivial | refine ⟨congrArg some (a0 _ _ _), ?_⟩
  rintro ⟨⟨h, c, T⟩, hc, hh, hT, hR⟩
  show W _ _ _ _ _ ⟨[(0, .sb 0 N cap), (7, .d (.v (.int .i64 ((c : Nat) : Int)))), (8, .d (.v (.int .i64 (((c + 2 * bs) : Nat) : Int)))), (1, _), (2, _), (6, _)], [(0, aU (T.map Pc.c) k)], [], 1⟩
  obtain ⟨h, rfl⟩ : ∃ q, h = q + 1 := ⟨h - 1, by omega⟩
  rw [tH] at hR
  iterate 2 refine W.seq ?_
  refine W.region ?_
  iterate 3 refine pE rfl ?_
  refine WO.nil (qs (ao rfl (fun h35 => ?_) (fun h35 => ?_)))
  ·
   have hq2 : c + 2 * bs ≤ N := by simp at h35; omega
   rw [if_pos hq2] at hR
   have hsl2 := mn N T c (c + bs) (c + 2 * bs) k cap (by omega) (by omega) (by omega) (by omega) (by omega)
   rw [hT] at hsl2
   have hlen2 := (eD bj N T c (c + bs) (c + 2 * bs) (by omega) (by omega) (by omega)).len.trans hT
   refine W.skip (qs (W.block (W.seq (W.region ?_))))
   iterate 4 refine pE rfl ?_
   refine pu (bF (ev aa rfl) (dv (x := c) (y := bs) (by omega))) rfl ?_
   iterate 2 refine pE rfl ?_
   refine fT 0 rfl rfl rfl rfl hsl2 rfl ?_
   refine WO.nil (qs (W.seq (W.region ?_)))
   iterate 2 refine pE rfl ?_
   refine WO.nil (qs (W.region ?_))
   iterate 2 refine pE rfl ?_
   refine pu (bF (ev aa rfl) (y := ((2 * bs : Nat) : Int)) h2b) rfl ?_
   refine pu (bF (ev aa rfl) (dv (x := c + 2 * bs) (y := 2 * bs) (by omega))) rfl ?_
   refine pE rfl (WO.nil (a7 (W.aX [0] ⟨(h, c + 2 * bs, dH bj N T c (c + bs) (c + 2 * bs)), ?_⟩ ?_ rfl ?_ ⟨rfl, rfl, rfl, rfl, rfl, rfl, trivial⟩ ?_ trivial rfl)))
   · exact ⟨by omega, by omega, hlen2, hR⟩
   · dsimp only; omega
   · repeat' first | exact trivial | refine ⟨rfl, ?_⟩
   repeat' first | exact trivial | refine ⟨congrArg some (a0 _ _ _), ?_⟩
  have hq2 : ¬ c + 2 * bs ≤ N := by simp at h35; omega
  rw [if_neg hq2] at hR
  refine W.exit (aN (aR (aP (qs ?_))))
  iterate 2 refine W.seq ?_
  refine W.region ?_
  iterate 2 refine pE rfl ?_
  refine pu (bF (ev aa rfl) (dv (x := c) (y := bs) (by omega))) rfl ?_
  refine pE rfl (WO.nil (qs (W.seq (W.region ?_))))
  iterate 3 refine pE rfl ?_
  refine WO.nil (qs (ao rfl (fun h54 => ?_) (fun h54 => ?_)))
  ·
   have hbr : c + bs < N := by simp at h54; omega
   rw [if_pos hbr] at hR
   rw [← hR] at hD
   have hsl3 := mn N T c (c + bs) N k cap (by omega) (by omega) (by omega) (by omega) (by omega)
   rw [hT] at hsl3
   have hlen3 := (eD bj N T c (c + bs) N (by omega) (by omega) (by omega)).len.trans hT
   refine W.region ?_
   iterate 5 refine pE rfl ?_
   refine fT 0 rfl rfl rfl rfl hsl3 rfl ?_
   refine WO.nil (qs (W.region (pE rfl (pu (bF (ev aa rfl) (y := ((2 * bs : Nat) : Int)) h2c) rfl ?_))))
   refine pE rfl (WO.nil (a7 ?_))
   (have _hb : c + bs < N := hbr; refine W.aX [0] ⟨(g1, 2 * bs, dH bj N T c (c + bs) N), ?_⟩ ?_ rfl ?_ ⟨rfl, rfl, rfl, rfl, trivial⟩ ?_ trivial rfl)
   · exact ⟨by omega, by omega, by omega, hlen3, hD⟩
   · dsimp only; omega
   · repeat' first | exact trivial | refine ⟨rfl, ?_⟩
   repeat' first | exact trivial | refine ⟨congrArg some (a0 _ _ _), ?_⟩
  have hbr : ¬ c + bs < N := by simp at h54; omega
  rw [if_neg hbr] at hR
  rw [← hR] at hD
  have hlen3 := hT
  refine W.skip (qs (W.region (pE rfl (pu (bF (ev aa rfl) (y := ((2 * bs : Nat) : Int)) h2c) rfl ?_))))
  refine pE rfl (WO.nil (a7 ?_))
  (have _hb : ¬ c + bs < N := hbr; refine W.aX [0] ⟨(g1, 2 * bs, T), ?_⟩ ?_ rfl ?_ ⟨rfl, rfl, rfl, rfl, trivial⟩ ?_ trivial rfl)
  · exact ⟨by omega, by omega, by omega, hlen3, hD⟩
  · dsimp only; omega
  · repeat' first | exact trivial | refine ⟨rfl, ?_⟩
  repeat' first | exact trivial | refine ⟨congrArg some (a0 _ _ _), ?_⟩
 have hq1 : ¬ bs < N := by simp at h30; omega
 have hE : dK bj l = M := by
  rw [← hD]
  cases g1 with
  | zero => rfl
  | succ q => rw [pb, if_neg hq1]
 refine W.exit (aN (aR (aP (fC.end aa [] trivial rfl rfl rfl rfl ?_ ?_))))
 · rw [hE]; exact gK rfl
 rfl
theorem px (l : List Pc) (k cap : Nat) (hcap : l.length ≤ 100000) :
  cU Try.prog 33 [.sb 0 l.length cap, .clo 34 []] [aU (l.map Pc.c) k] 0 (.tup []) [aU ((dK bj l).map Pc.c) k] 0 := by
 refine cU.eW aa (n := 9) (rs := []) Try.func33 (by kernel_rfl) rfl Try.ntmps33 Try.results33 rfl rfl fun C hC hG => ?_
 refine W.region ?_
 iterate 2 refine pE rfl ?_
 refine pu (wR aa rfl rfl rfl) rfl ?_
 refine pE rfl (fT 0 rfl rfl rfl rfl (tw l k cap hcap) rfl ?_)
 refine WO.nil (fC.end aa [] trivial rfl rfl rfl rfl ?_ ?_)
 · exact gK rfl
 rfl
end Go.Proofs.Ytjenenllmjlimaa
namespace Go.Proofs.Ytjenenllmjlimaa
open Go.Ab Go.Tb
set_option maxRecDepth 10000
attribute [local irreducible] W WO Pu QS QB QL QF QV bK CH QE
theorem iR (a b : bh) (on : List ByteArray) (hon : on.length ≤ 400) : aw Try.prog 8 [.ag a.c, .ag b.c, .d (.sl (on.map sc))]
  (.tup [.ag (bC a b on).1.c, .d (.v (.int .i64 (bC a b on).2))]) 0 := by
 have hcol := ia 7 on [a, b] (by simp) hon
 rw [ny] at hcol
 obtain ⟨CT0, hCT⟩ : ∃ c, dc 7 on a b = c := ⟨_, rfl⟩
 rw [hCT] at hcol
 refine aw.eW aa (n := 148) (rs := [.cell 6 25, .tmp 7]) Try.func8 (by kernel_rfl) rfl Try.ntmps8 Try.results8 rfl fun C hC hG => ?_
 refine W.seq (W.region (bL rfl rfl rfl (bL rfl rfl rfl (aW aa rfl rfl rfl (pE rfl (WO.nil (qs (W.seq (W.region (pE rfl (pE rfl (pE rfl (pu (aE aa rfl rfl rfl rfl rfl rfl rfl rfl rfl) rfl ?_)))))))))))))
 refine pu (ab rfl rfl rfl hcol rfl) rfl ?_
 iterate 5 refine pE rfl ?_
 refine WO.nil (qs ?_)
 iterate 2 refine W.seq ?_
 refine W.region ?_
 iterate 2 refine pE rfl ?_
 refine WO.nil (qs (ao rfl (fun h36 => ?_) (fun h36 => ?_)))
 ·
  have he : CT0.2 ≠ 0 := by simpa using h36
  have hg : bC a b on = (fJ, CT0.2) := by unfold bC; rw [hCT, if_pos he]
  refine W.seq (W.region (pu (build aa rfl rfl rfl rfl) rfl ?_))
  refine pE rfl (aM aa rfl rfl rfl rfl rfl rfl rfl rfl (pE rfl (WO.nil (qs ?_))))
  try refine cn 2 0 rfl rfl rfl ?_
  try refine cn 2 1 rfl rfl rfl ?_
  try refine cn 1 0 rfl rfl rfl ?_
  try refine cn 1 1 rfl rfl rfl ?_
  refine W.ret (ah (QV.aq aa trivial rfl ?_))
  (rw [hg]; rfl)
 have he : CT0.2 = 0 := by simpa using h36
 have hok := s5 (.inl rfl) (by rw [hCT]; exact he)
 have hoo := xb hok
 have haz := dw hok.ga
 have hbz := dw hok.gb
 have hol := hok.len
 have hra := eC hok.ga
 have hrb := eC hok.gb
 obtain ⟨o, ho⟩ : ∃ o, bu a b on = o := ⟨_, rfl⟩
 have hgo : bC a b on = (match gG o b.rows a.rows [] with | none => (fJ, 7) | some rows => (⟨CT0.1, rows⟩, 0)) := by unfold bC; rw [hCT, if_neg (by simp [he]), ho]; rfl
 have e7 : aI 7 = [aJ, bA] := rfl
 rw [e7] at hok
 have hpl : aw Try.prog 23 [.ag a.c, .d (.sl (on.map sc))] (.d (.sl (o.left.map nc))) 0 := by
  have := dz a on (by omega)
  rw [eO (fun s hs => by obtain ⟨i, j, c, d, h1, _⟩ := hok.ons s hs; exact ⟨i, h1⟩)] at this
  rw [← ho]; exact this
 have hpr : aw Try.prog 23 [.ag b.c, .d (.sl (on.map sc))] (.d (.sl (o.right.map nc))) 0 := by
  have := dz b on (by omega)
  rw [eO (fun s hs => by obtain ⟨i, j, c, d, _, h1, _⟩ := hok.ons s hs; exact ⟨j, h1⟩)] at this
  rw [← ho]; exact this
 have hpm : aw Try.prog 23 [.ag a.c, .d (.sl ([aJ, bA].map sc))] (.d (.sl ([o.m0, o.m1].map nc))) 0 := by
  have := dz a [aJ, bA] (by simp)
  rw [eO (fun s hs => by obtain ⟨i, c, h1, _⟩ := hok.spa s hs; exact ⟨i, h1⟩)] at this
  rw [← ho]; exact this
 have hpt : aw Try.prog 23 [.ag b.c, .d (.sl ([aJ, bA].map sc))] (.d (.sl ([o.t0, o.t1].map nc))) 0 := by
  have := dz b [aJ, bA] (by simp)
  rw [eO (fun s hs => by obtain ⟨i, c, h1, _⟩ := hok.spb s hs; exact ⟨i, h1⟩)] at this
  rw [← ho]; exact this
 have hre : aw Try.prog 24 [.ag b.c, .d (.sl ((on ++ [aJ, bA]).map sc))] (.d (.sl (o.more.map nc))) 0 := by
  have := rq b (on ++ [aJ, bA]) (by omega)
  rw [← ho]; exact this
 rw [ho] at hoo
 have hll : o.left.length ≤ 16 := by rw [← ho]; show (on.map _).length ≤ _; rw [List.length_map]; exact hol
 have hrl : o.right.length ≤ 16 := by rw [← ho]; show (on.map _).length ≤ _; rw [List.length_map]; exact hol
 have hml : o.more.length ≤ 32 := by rw [← ho]; have := jH (on ++ [aJ, bA]) b.cols 0; show (cI _ _ _).length ≤ _; omega
 refine W.skip (qs (W.seq (W.bw aa (by kernel_rfl) ?_)))
 refine ak (ev aa rfl) rfl ?_
 refine ak (ev aa rfl) rfl ?_
 refine ak (ab rfl rfl rfl hpl rfl) rfl ?_
 refine ak (ev aa rfl) rfl ?_
 refine ak (ev aa rfl) rfl ?_
 refine ak (ab rfl rfl rfl hpr rfl) rfl ?_
 iterate 2 refine ak (ev aa rfl) rfl ?_
 refine CH.nil ?_
 refine qs (W.seq (W.bw aa (by kernel_rfl) ?_))
 refine ak (ev aa rfl) rfl ?_
 refine ak (aE aa rfl rfl rfl rfl rfl rfl rfl rfl rfl) rfl ?_
 refine ak (ab rfl rfl rfl hpm rfl) rfl ?_
 refine ak (ev aa rfl) rfl ?_
 refine ak (aE aa rfl rfl rfl rfl rfl rfl rfl rfl rfl) rfl ?_
 refine ak (ab rfl rfl rfl hpt rfl) rfl ?_
 iterate 2 refine ak (ev aa rfl) rfl ?_
 refine CH.nil ?_
 refine qs (W.seq ?_)
 refine' W.eP aa [_, _] [[3], [4]] [4, 5] [2, 4] 5 (by kernel_rfl) (by kernel_rfl) rfl rfl ?hL_1
 case' hL_1 => skip
 refine' aS (ev aa rfl) ?p_2 rfl rfl rfl (by kernel_rfl) rfl ?h_2
 case' h_2 => skip
 refine' aS (ev aa rfl) ?p_3 rfl rfl rfl (by kernel_rfl) rfl ?h_3
 case' h_3 => skip
 refine' kW ?x_4 rfl rfl rfl (by kernel_rfl) (fun h => (ae h (by kernel_rfl)).elim) rfl ?h_4
 case x_4 =>
  intro b hb g; cases b
  · exact (ae hb (by kernel_rfl)).elim
  refine e5 rfl rfl rfl (oN on (by omega)) (by rfl) rfl rfl ?_
  refine WO.nil ?_
  refine' iJ rfl ?_ ?_ ?_ ?_
  all_goals try exact rfl
 case' h_4 => skip
 refine' aS (aE aa rfl rfl rfl rfl rfl rfl rfl rfl rfl) ?p_5 rfl rfl rfl (by kernel_rfl) rfl ?h_5
 case' h_5 => skip
 refine' kW ?x_6 rfl rfl rfl (by kernel_rfl) (fun h => (ae h (by kernel_rfl)).elim) rfl ?h_6
 case x_6 =>
  intro b hb g; cases b
  · exact (ae hb (by kernel_rfl)).elim
  refine fh (fn := sc) (l := on) (l2 := [aJ, bA]) aa rfl rfl rfl rfl rfl rfl rfl rfl rfl rfl (fun _ => rfl) (by show (on.length + 2) * 16 ≤ _; omega) ?_
  refine WO.nil ?_
  refine' iJ rfl ?_ ?_ ?_ ?_
  all_goals try exact rfl
 case' h_6 => skip
 case p_2 => refine ⟨fun ha => (ae ha (by kernel_rfl)).elim, ?_, fun ha => (ae ha (by kernel_rfl)).elim, ?_, fun ha => (ae ha (by kernel_rfl)).elim, ?_⟩ <;> intro ha <;> first | exact ⟨ev aa rfl, fun h => nomatch h⟩ | exact ⟨cE aa rfl rfl rfl rfl, fun h => nomatch h⟩ | exact ⟨cC aa rfl rfl rfl rfl rfl, fun h => nomatch h⟩ | exact (ae ha (by kernel_rfl)).elim
 case p_3 => refine ⟨fun ha => (ae ha (by kernel_rfl)).elim, ?_, fun ha => (ae ha (by kernel_rfl)).elim, ?_, fun ha => (ae ha (by kernel_rfl)).elim, ?_⟩ <;> intro ha <;> first | exact ⟨ev aa rfl, fun h => nomatch h⟩ | exact (ae ha (by kernel_rfl)).elim
 case p_5 => refine ⟨fun ha => (ae ha (by kernel_rfl)).elim, ?_, fun ha => (ae ha (by kernel_rfl)).elim, ?_, fun ha => (ae ha (by kernel_rfl)).elim, ?_⟩ <;> intro ha <;> first | exact ⟨aE aa rfl rfl rfl rfl rfl rfl rfl rfl rfl, fun h => nomatch h⟩ | exact (ae ha (by kernel_rfl)).elim
 refine CD.nil ?_ rfl
 refine pu (ab rfl rfl rfl hre rfl) rfl ?_
 refine pE rfl (WO.nil (qs (W.seq (W.region (pE rfl (pu (build aa rfl rfl rfl rfl) rfl ?_))))))
 refine aW aa rfl rfl rfl (aM aa rfl rfl rfl rfl rfl rfl rfl rfl (WO.nil (qs ?_)))
 iterate 2 refine W.seq ?_
 refine W.region (pE rfl (pE rfl ?_))
 iterate 2 refine pE rfl ?_
 refine WO.nil (qs (W.block (ew 5 1 rfl rfl rfl ?_)))
 refine W.len (t := 60) rfl rfl (fun hlen => ?_)
 try simp only [List.length_map, Ex.aD] at hlen
 refine W.aV (ι := {x : Nat × List (List aA) // match x with | (i, out) => i ≤ a.rows.length ∧ out.length ≤ 20000 ∧ gG o b.rows (a.rows.drop i) out = gG o b.rows a.rows []})
  (fun x => match x.1 with | (i, out) => [(4, .ptr 0 0), (6, .ptr 1 0), (15, .ptr 2 0), (62, .d (.v (.int .i64 ((i : Nat) : Int))))]) [(10, _), (11, _), (12, _), (13, _), (14, _), (60, _), (61, _)]
  (fun x => match x.1 with | (i, out) => [(0, b.c.map A.d), (1, [.d (.v (.slice none 0 0)), .d (.v (.slice none 0 0))]), (2, [.d (.sl (CT0.1.map Col.c)), .own 3 (out.map rc)])]) [] [3] 4 (fun x => match x.1 with | (i, out) => a.rows.length - i)
  [1, 2, 5, 6] ⟨(0, []), ?_⟩ rfl ?_ ⟨rfl, rfl, rfl, rfl, rfl, rfl, rfl, rfl, rfl, rfl, rfl, rfl, rfl, rfl, trivial⟩ ?_ trivial rfl ?_
 · exact ⟨Nat.zero_le _, Nat.zero_le _, rfl⟩
 · repeat' first | exact trivial | refine ⟨rfl, ?_⟩
 · repeat' first | exact trivial | refine ⟨rfl, ?_⟩
 rintro ⟨⟨i, out⟩, hk, hn, hI⟩
 show W _ _ _ _ _ ⟨[(4, .ptr 0 0), (6, .ptr 1 0), (15, .ptr 2 0), (62, .d (.v (.int .i64 ((i : Nat) : Int)))), (10, _), (11, _), (12, _), (13, _), (14, _), (60, _), (61, _)], [(0, b.c.map A.d), (1, [.d (.v (.slice none 0 0)), .d (.v (.slice none 0 0))]), (2, [.d (.sl (CT0.1.map Col.c)), .own 3 (out.map rc)])], [3], 4⟩
 refine W.seq (W.region (pE rfl (WO.nil (qs (W.seq (bc (l := a.rows) (k := i) rfl (by simp [Ex.aD, aK]) hk (fun z hx hd hlt => ?_) (fun he hd => ?_)))))))
 ·
  rw [hd] at hI
  simp only [gG] at hI
  have hxm := List.mem_of_getElem? hx
  have hxl := (hra z hxm).1
  have hsx := l8 z o.m0 o.m1 (by rw [hxl]; exact hoo.m0) (by rw [hxl]; exact hoo.m1)
  have hpx := gr z o.left (by omega) (fun q hq => by rw [hxl]; exact hoo.left q hq)
  refine W.skip (qs (W.seq (W.block (W.seq (W.region (pu (indexAddr aa rfl rfl rfl rfl rfl rfl (Int.natCast_nonneg _) (aH hx) rfl) rfl ?_))))))
  refine pE rfl (pE rfl (WO.nil (qs (W.seq (W.region ?_)))))
  iterate 2 refine pE rfl ?_
  refine pu (ab rfl rfl rfl hsx rfl) rfl ?_
  iterate 3 refine pE rfl ?_
  refine aW aa rfl rfl rfl (aM aa rfl rfl rfl rfl rfl rfl rfl rfl (pE rfl (WO.nil (qs ?_))))
  iterate 2 refine W.seq ?_
  refine W.region ?_
  iterate 2 refine pE rfl ?_
  refine WO.nil (qs (ao rfl (fun h73 => ?_) (fun h73 => ?_)))
  ·
   have hbr : cr z o.m0 o.m1 = false := by simpa using h73
   rw [if_neg (by simp [hbr])] at hI
   refine W.exit (aN (aP (qs (W.region ?_))))
   iterate 2 refine pE rfl ?_
   refine WO.nil ?_
   (have _hb : cr z o.m0 o.m1 = false := hbr; refine W.aX [0, 1, 2, 3] ⟨(i + 1, out), ?_⟩ ?_ rfl ?_ ⟨rfl, rfl, rfl, rfl, rfl, rfl, rfl, rfl, rfl, rfl, rfl, rfl, rfl, rfl, trivial⟩ ?_ trivial rfl)
   · exact ⟨hlt, (by first | exact hn2 | exact hn), hI⟩
   · dsimp only; omega
   · repeat' first | exact trivial | refine ⟨rfl, ?_⟩ | refine ⟨aF (by assumption) (by assumption), ?_⟩
   repeat' first | exact trivial | refine ⟨rfl, ?_⟩
  have hbr : cr z o.m0 o.m1 = true := by simpa using h73
  rw [if_pos hbr] at hI
  refine W.skip (qs (W.seq (W.region (pE rfl (pE rfl ?_)))))
  iterate 2 refine pE rfl ?_
  refine WO.nil (qs (W.block (W.len (t := 75) rfl rfl (fun hlen => ?_))))
  try simp only [List.length_map, Ex.aD] at hlen
  refine W.aV (ι := {x : Nat × List (List aA) // match x with | (j, out2) => j ≤ b.rows.length ∧ out2.length ≤ 20000 ∧ jZ o z (b.rows.drop j) out2 = jZ o z b.rows out})
   (fun x => match x.1 with | (j, out2) => [(4, .ptr 0 0), (6, .ptr 1 0), (15, .ptr 2 0), (18, .ptr 4 0), (77, .d (.v (.int .i64 ((j : Nat) : Int))))]) [(10, _), (11, _), (12, _), (13, _), (14, _), (17, _), (60, _), (61, _), (62, _), (75, _), (76, _)]
   (fun x => match x.1 with | (j, out2) => [(0, b.c.map A.d), (1, [.d (.v (.slice none 0 0)), .d (.v (.slice none 0 0))]), (2, [.d (.sl (CT0.1.map Col.c)), .own 3 (out2.map rc)]), (4, [.d (ci (a9 z o.m0).n), .d (ci (a9 z o.m1).n)])]) [] [3] 5 (fun x => match x.1 with | (j, out2) => b.rows.length - j)
   [0, 1, 2, 3, 4] ⟨(0, out), ?_⟩ rfl ?_ ⟨rfl, rfl, rfl, rfl, rfl, rfl, rfl, rfl, rfl, rfl, rfl, rfl, rfl, rfl, rfl, rfl, rfl, rfl, rfl, rfl, rfl, rfl, trivial⟩ ?_ trivial rfl ?_
  · exact ⟨Nat.zero_le _, hn, rfl⟩
  · repeat' first | exact trivial | refine ⟨rfl, ?_⟩
  · repeat' first | exact trivial | refine ⟨rfl, ?_⟩
  rintro ⟨⟨j, out2⟩, hk, hn2, hJ⟩
  show W _ _ _ _ _ ⟨[(4, .ptr 0 0), (6, .ptr 1 0), (15, .ptr 2 0), (18, .ptr 4 0), (77, .d (.v (.int .i64 ((j : Nat) : Int)))), (10, _), (11, _), (12, _), (13, _), (14, _), (17, _), (60, _), (61, _), (62, _), (75, _), (76, _)], [(0, b.c.map A.d), (1, [.d (.v (.slice none 0 0)), .d (.v (.slice none 0 0))]), (2, [.d (.sl (CT0.1.map Col.c)), .own 3 (out2.map rc)]), (4, [.d (ci (a9 z o.m0).n), .d (ci (a9 z o.m1).n)])], [3], 5⟩
  refine W.seq (W.region (pE rfl (WO.nil (qs (W.seq (bc (l := b.rows) (k := j) rfl (by simp [Ex.aD, aK]) hk (fun y hx hd hlt => ?_) (fun he hd => ?_)))))))
  ·
   rw [hd] at hJ
   simp only [jZ] at hJ
   have hym := List.mem_of_getElem? hx
   have hyl := (hrb y hym).1
   have hsy := l8 y o.t0 o.t1 (by rw [hyl]; exact hoo.t0) (by rw [hyl]; exact hoo.t1)
   have hpy := gr y o.right (by omega) (fun q hq => by rw [hyl]; exact hoo.right q hq)
   have hpz := gr y o.more (by omega) (fun q hq => by rw [hyl]; exact hoo.more q hq)
   have hpzl : (be y o.more).length = o.more.length := List.length_map _
   refine W.skip (qs (W.seq (W.block (W.seq (W.region (pu (indexAddr aa rfl rfl rfl rfl rfl rfl (Int.natCast_nonneg _) (aH hx) rfl) rfl ?_))))))
   refine pE rfl (pE rfl (WO.nil (qs (W.seq (W.region ?_)))))
   iterate 2 refine pE rfl ?_
   refine pu (ab rfl rfl rfl hsy rfl) rfl ?_
   iterate 3 refine pE rfl ?_
   refine aW aa rfl rfl rfl (aM aa rfl rfl rfl rfl rfl rfl rfl rfl (pE rfl (WO.nil (qs (W.seq (W.bw aa (by kernel_rfl) ?_))))))
   refine ak (ev aa rfl) rfl ?_
   refine ak (ev aa rfl) rfl ?_
   refine ak (ev aa rfl) rfl ?_
   refine ak (ev aa rfl) rfl ?_
   iterate 2 refine ak (ev aa rfl) rfl ?_
   refine ak (ev aa rfl) rfl ?_
   refine ak (ev aa rfl) rfl ?_
   refine ak (ev aa rfl) rfl ?_
   iterate 3 refine ak (ev aa rfl) rfl ?_
   refine CH.nil ?_
   refine qs ?_
   iterate 2 refine W.seq ?_
   apply aG; (case hb => rfl)
   ·
    iterate 3 refine pE rfl ?_
    apply aC; (case hj => rfl); (case hl => rfl)
    ·
     iterate 3 refine ax rfl rfl rfl rfl ?_
     iterate 2 refine pE rfl ?_
     iterate 8 refine ax rfl rfl rfl rfl ?_
     refine pE rfl (WO.nil (aB rfl rfl rfl))
    refine an rfl rfl (pE rfl (an rfl rfl (pE rfl (an rfl rfl ?_))))
    iterate 3 refine pE rfl ?_
    apply aC; (case hj => rfl); (case hl => rfl)
    ·
     iterate 8 refine ax rfl rfl rfl rfl ?_
     refine pE rfl (WO.nil (aB rfl rfl rfl))
    refine an rfl rfl (pE rfl (an rfl rfl (pE rfl (an rfl rfl (pu (ab rfl rfl rfl hpx rfl) rfl ?_)))))
    refine an rfl rfl (pE rfl (an rfl rfl (pE rfl (an rfl rfl (pu (ab rfl rfl rfl hpy rfl) rfl ?_)))))
    refine an rfl rfl (pu (ab rfl rfl rfl (qp (be z o.left) (be y o.right)) rfl) rfl ?_)
    refine an rfl rfl ?_
    iterate 2 refine pE rfl ?_
    refine WO.nil (aB rfl rfl rfl)
   refine qs (ao rfl (fun h113 => ?_) (fun h113 => ?_))
   ·
    have hbr2 : dS o z y = false := by
     unfold dS eZ gv
     revert h113
     cases cr y o.t0 o.t1 <;> cases fe (be z o.left) (be y o.right) <;> simp
    rw [if_neg (by simp [hbr2])] at hJ
    refine W.exit (aN (aP (qs (W.region ?_))))
    iterate 2 refine pE rfl ?_
    refine WO.nil ?_
    have hbr := hbr2
    (have _hb : dS o z y = false := hbr; refine W.aX [0, 1, 2, 3, 4] ⟨(j + 1, out2), ?_⟩ ?_ rfl ?_ ⟨rfl, rfl, rfl, rfl, rfl, rfl, rfl, rfl, rfl, rfl, rfl, rfl, rfl, rfl, rfl, rfl, rfl, rfl, rfl, rfl, rfl, rfl, trivial⟩ ?_ trivial rfl)
    · exact ⟨hlt, (by first | exact hn2 | (rw [List.length_append]; simp; omega)), hJ⟩
    · dsimp only; omega
    · repeat' first | exact trivial | refine ⟨rfl, ?_⟩ | refine ⟨aF (by assumption) (by assumption), ?_⟩
    repeat' first | exact trivial | refine ⟨rfl, ?_⟩
   have hbr2 : dS o z y = true := by
    unfold dS eZ gv
    revert h113
    cases cr y o.t0 o.t1 <;> cases fe (be z o.left) (be y o.right) <;> simp
   rw [if_pos hbr2] at hJ
   refine W.skip (qs ?_)
   iterate 2 refine W.seq ?_
   refine W.region (pE rfl (pE rfl ?_))
   iterate 2 refine pE rfl ?_
   refine WO.nil (qs (ao rfl (fun h117 => ?_) (fun h117 => ?_)))
   ·
    have hq : out2.length = 20000 := by simp at h117; omega
    rw [if_pos hq] at hJ
    have hg : bC a b on = (fJ, 7) := by
     rw [← hJ] at hI
     rw [hgo, ← hI]
    refine W.seq (W.region (pu (build aa rfl rfl rfl rfl) rfl ?_))
    refine aM aa rfl rfl rfl rfl rfl rfl rfl rfl (pE rfl (WO.nil (qs ?_)))
    try refine cn 2 0 rfl rfl rfl ?_
    try refine cn 2 1 rfl rfl rfl ?_
    try refine cn 1 0 rfl rfl rfl ?_
    try refine cn 1 1 rfl rfl rfl ?_
    refine W.ret (ah (ar (ah (bl (ar (ar (ah (bl (ar (ah (QV.aq aa trivial rfl ?_)))))))))))
    (rw [hg]; rfl)
   have hq : ¬ out2.length = 20000 := by simp at h117; omega
   rw [if_neg hq] at hJ
   have hzp : 0 < ((z ++ be y o.more).map aA.c).length := by rw [List.length_map, List.length_append, hxl]; have := hoo.m0; omega
   have hr0 : ((z ++ be y o.more).map aA.c)[o.m0]? = some (a9 (z ++ be y o.more) o.m0).c := by
    rw [List.getElem?_map, fz (by rw [List.length_append, hxl]; have := hoo.m0; omega)]; rfl
   have hr1 : ((fE (z ++ be y o.more) o.m0 (eZ o z y)).map aA.c)[o.m1]? = some (a9 (fE (z ++ be y o.more) o.m0 (eZ o z y)) o.m1).c := by
    rw [List.getElem?_map, fz (by rw [eF, List.length_append, hxl]; have := hoo.m1; omega)]; rfl
   have hl0 := (List.getElem?_eq_some_iff.1 hr0).1
   have hl1 : o.m1 < ((z ++ be y o.more).map aA.c).length := by have := (List.getElem?_eq_some_iff.1 hr1).1; rw [List.length_map, eF] at this; rw [List.length_map]; exact this
   refine W.skip (qs (W.seq (W.region (pE rfl (iN [] [] rfl rfl rfl rfl rfl ((s7 z (by omega))) rfl rfl (by rfl) (by rfl) rfl rfl rfl rfl ?_)))))
   iterate 2 refine pE rfl ?_
   refine pu (ab rfl rfl rfl hpz rfl) rfl ?_
   refine gU (es2 := (be y o.more).map aA.c) (r := (z ++ be y o.more).map aA.c) aa rfl rfl rfl rfl rfl rfl rfl rfl rfl rfl (List.map_append).symm (by rw [← List.map_append]; exact l5 _) (by show ((z.map aA.c).length + ((be y o.more).map aA.c).length) * 32 ≤ _; rw [List.length_map, List.length_map]; omega) rfl ?_
   refine pE rfl (WO.nil (qs (W.seq (vO 26 rfl rfl rfl hzp rfl (fun cap22 k22 => ?_)))))
   apply W.gZ aa 13 12; (case hB => kernel_rfl); (case h1 => rfl); (case h2 => rfl)
   refine' bb (ev aa rfl) rfl rfl rfl rfl rfl ?h_7
   case' h_7 => skip
   refine' bb (ev aa rfl) rfl rfl rfl rfl rfl ?h_8
   case' h_8 => skip
   refine' bb (indexAddr (l := nc o.m0) aa rfl rfl rfl rfl rfl rfl (by decide) rfl rfl) rfl rfl rfl rfl rfl ?h_9
   case' h_9 => skip
   refine' bb (ev aa rfl) rfl rfl rfl rfl rfl ?h_10
   case' h_10 => skip
   refine' bN ?p1_11 (ev aa rfl) rfl rfl rfl rfl rfl ?h_11
   case' h_11 => skip
   refine' bN ?p1_12 (ev aa rfl) rfl rfl rfl rfl rfl ?h_12
   case' h_12 => skip
   refine' bN ?p1_13 (indexAddr (l := nc o.m1) aa rfl rfl rfl rfl rfl rfl (by decide) rfl rfl) rfl rfl rfl rfl rfl ?h_13
   case' h_13 => skip
   refine' bb (ev aa rfl) rfl rfl rfl rfl rfl ?h_14
   case' h_14 => skip
   refine' bb (ev aa rfl) rfl rfl rfl rfl rfl ?h_15
   case' h_15 => skip
   refine' bN ?p1_16 (ev aa rfl) rfl rfl rfl rfl rfl ?h_16
   case' h_16 => skip
   refine' bN ?p1_17 (bp aa rfl rfl rfl rfl rfl (Int.natCast_nonneg _) hl0 rfl) rfl rfl rfl rfl rfl ?h_17
   case' h_17 => skip
   refine' bb (ev aa rfl) rfl rfl rfl rfl rfl ?h_18
   case' h_18 => skip
   refine' kr (fun g => ?e_19) rfl rfl ?h_19
   case e_19 =>
    refine qu (i := o.m0) (off := 1) (sz := 3) (cs := [ci (eZ o z y)]) aa rfl rfl rfl rfl rfl (l5 _) hr0 (by simp) rfl (by simp) (nF (n := eZ o z y)) ?_
    refine WO.nil ?_
    exact ⟨rfl, rfl⟩
   case' h_19 => skip
   case p1_11 => exact (ev aa rfl)
   case p1_12 => exact (ev aa rfl)
   case p1_13 => exact (indexAddr (l := nc o.m1) aa rfl rfl rfl rfl rfl rfl (by decide) rfl rfl)
   case p1_16 => exact (ev aa rfl)
   case p1_17 => exact (bp aa rfl rfl rfl rfl rfl (Int.natCast_nonneg _) hl0 rfl)
   refine CC.nil ?_
   refine pu (bp aa rfl rfl rfl rfl rfl (Int.natCast_nonneg _) hl1 rfl) rfl ?_
   refine pE rfl (qu (i := o.m1) (off := 1) (sz := 3) (cs := [ci (gv o z y)]) aa rfl rfl rfl rfl rfl (l5 _) hr1 (by simp) rfl (by simp) (nF (n := gv o z y)) ?_)
   refine WO.nil (qs (pS (sz := 3) 26 rfl rfl rfl (by rw [List.length_map, List.length_map, eF, eF]) (l5 _) rfl rfl ?_))
   refine W.region (pE rfl (pE rfl (pE rfl (pu (aE aa rfl rfl rfl rfl rfl rfl rfl rfl rfl) rfl ?_))))
   refine cf (fn := rc) (a := eS o z y) aa rfl rfl rfl rfl rfl rfl rfl rfl rfl rfl (fun _ => rfl) (by show (out2.length + 1) * 24 ≤ _; omega) ?_
   refine pE rfl (aM aa rfl rfl rfl rfl rfl rfl rfl rfl (WO.nil (a7 (qs (W.region ?_)))))
   iterate 2 refine pE rfl ?_
   refine WO.nil ?_
   have hbr := hbr2
   (have _hb : dS o z y = true := hbr; refine W.aX [0, 1, 2, 9, 4] ⟨(j + 1, out2 ++ [eS o z y]), ?_⟩ ?_ rfl ?_ ⟨rfl, rfl, rfl, rfl, rfl, rfl, rfl, rfl, rfl, rfl, rfl, rfl, rfl, rfl, rfl, rfl, rfl, rfl, rfl, rfl, rfl, rfl, trivial⟩ ?_ trivial rfl)
   · exact ⟨hlt, (by first | exact hn2 | (rw [List.length_append]; simp; omega)), hJ⟩
   · dsimp only; omega
   · repeat' first | exact trivial | refine ⟨rfl, ?_⟩ | refine ⟨aF (by assumption) (by assumption), ?_⟩
   repeat' first | exact trivial | refine ⟨rfl, ?_⟩
  rw [hd] at hJ
  simp only [jZ] at hJ
  rw [← hJ] at hI
  dsimp only at hI
  refine W.exit (aN (aR (aP (a7 (qs (W.region ?_))))))
  iterate 2 refine pE rfl ?_
  refine WO.nil ?_
  (have _hb : cr z o.m0 o.m1 = true := hbr; refine W.aX [0, 1, 2, 3] ⟨(i + 1, out2), ?_⟩ ?_ rfl ?_ ⟨rfl, rfl, rfl, rfl, rfl, rfl, rfl, rfl, rfl, rfl, rfl, rfl, rfl, rfl, trivial⟩ ?_ trivial rfl)
  · exact ⟨hlt, (by first | exact hn2 | exact hn), hI⟩
  · dsimp only; omega
  · repeat' first | exact trivial | refine ⟨rfl, ?_⟩ | refine ⟨aF (by assumption) (by assumption), ?_⟩
  repeat' first | exact trivial | refine ⟨rfl, ?_⟩
 rw [hd] at hI
 simp only [gG] at hI
 have hg : bC a b on = (⟨CT0.1, out⟩, 0) := by rw [hgo, ← hI]
 refine W.exit (aN (aR (aP (qs (W.seq (W.region (pE rfl (aM aa rfl rfl rfl rfl rfl rfl rfl rfl (pE rfl (WO.nil (qs ?_)))))))))))
 try refine cn 2 0 rfl rfl rfl ?_
 try refine cn 2 1 rfl rfl rfl ?_
 try refine cn 1 0 rfl rfl rfl ?_
 try refine cn 1 1 rfl rfl rfl ?_
 refine W.ret (QV.aq aa trivial rfl ?_)
 (rw [hg]; rfl)
end Go.Proofs.Ytjenenllmjlimaa
namespace Go.Proofs.Ytjenenllmjlimaa
open Go.Ab Go.Tb
set_option maxRecDepth 10000
attribute [local irreducible] W WO Pu QS QB QL QF QV bK CH QE
theorem vb (m : Nat) : List.replicate m (([.int .i64 0, .int .i64 0, .string (B #[])] : List Value).map D.v) = (List.replicate m eY).map aA.c := by
 rw [List.map_replicate]
 rfl
theorem sr (a b : bh) (on : List ByteArray) (hon : on.length ≤ 400) : aw Try.prog 11 [.ag a.c, .ag b.c, .d (.sl (on.map sc))]
  (.tup [.ag (e6 a b on).1.c, .d (.v (.int .i64 (e6 a b on).2))]) 0 := by
 have hcol := ia 8 on [a, b] (by simp) hon
 rw [ny] at hcol
 obtain ⟨CT0, hCT⟩ : ∃ c, dc 8 on a b = c := ⟨_, rfl⟩
 rw [hCT] at hcol
 refine aw.eW aa (n := 143) (rs := [.cell 6 25, .tmp 7]) Try.func11 (by kernel_rfl) rfl Try.ntmps11 Try.results11 rfl fun C hC hG => ?_
 refine W.seq (W.region (bL rfl rfl rfl (bL rfl rfl rfl (aW aa rfl rfl rfl (pE rfl (WO.nil (qs (W.seq (W.region (pE rfl (pE rfl (pE rfl (pu (aE aa rfl rfl rfl rfl rfl rfl rfl rfl rfl) rfl ?_)))))))))))))
 refine pu (ab rfl rfl rfl hcol rfl) rfl ?_
 iterate 5 refine pE rfl ?_
 refine WO.nil (qs ?_)
 iterate 2 refine W.seq ?_
 refine W.region ?_
 iterate 2 refine pE rfl ?_
 refine WO.nil (qs (ao rfl (fun h33 => ?_) (fun h33 => ?_)))
 ·
  have he : CT0.2 ≠ 0 := by simpa using h33
  have hg : e6 a b on = (fJ, CT0.2) := by unfold e6; rw [hCT, if_pos he]
  refine W.seq (W.region (pu (build aa rfl rfl rfl rfl) rfl ?_))
  refine pE rfl (aM aa rfl rfl rfl rfl rfl rfl rfl rfl (pE rfl (WO.nil (qs ?_))))
  try refine cn 2 0 rfl rfl rfl ?_
  try refine cn 2 1 rfl rfl rfl ?_
  refine W.ret (ah (QV.aq aa trivial rfl ?_))
  (rw [hg]; rfl)
 have he : CT0.2 = 0 := by simpa using h33
 have hok := s5 (.inr rfl) (by rw [hCT]; exact he)
 have hoo := w7 hok
 have haz := dw hok.ga
 have hbz := dw hok.gb
 have hol := hok.len
 have hra := eC hok.ga
 have hrb := eC hok.gb
 obtain ⟨o, ho⟩ : ∃ o, wx a b on = o := ⟨_, rfl⟩
 have hgo : e6 a b on = (⟨CT0.1, a.rows.map (iK o b.rows)⟩, 0) := by unfold e6; rw [hCT, if_neg (by simp [he]), ho]
 have e8 : aI 8 = [aJ] := rfl
 rw [e8] at hok
 have hpl : aw Try.prog 23 [.ag a.c, .d (.sl (on.map sc))] (.d (.sl (o.left.map nc))) 0 := by
  have := dz a on (by omega)
  rw [eO (fun s hs => by obtain ⟨i, j, c, d, h1, _⟩ := hok.ons s hs; exact ⟨i, h1⟩)] at this
  rw [← ho]; exact this
 have hpr : aw Try.prog 23 [.ag b.c, .d (.sl (on.map sc))] (.d (.sl (o.right.map nc))) 0 := by
  have := dz b on (by omega)
  rw [eO (fun s hs => by obtain ⟨i, j, c, d, _, h1, _⟩ := hok.ons s hs; exact ⟨j, h1⟩)] at this
  rw [← ho]; exact this
 have hcm : aw Try.prog 30 [.ag a.c, .d (.v (.string aJ))] (.d (.v (.int .i64 (o.m : Int)))) 0 := by
  have h0 := ke a aJ
  obtain ⟨i, c, h1, _⟩ := hok.spa aJ (by simp)
  have h2 : (a.cols.findIdx? fun x => decide (x.name = aJ)) = some i := h1
  rw [h2] at h0
  have h3 : o.m = i := by rw [← ho]; exact cv h1
  rw [h3]; exact h0
 have hct : aw Try.prog 30 [.ag b.c, .d (.v (.string aJ))] (.d (.v (.int .i64 (o.t : Int)))) 0 := by
  have h0 := ke b aJ
  obtain ⟨i, c, h1, _⟩ := hok.spb aJ (by simp)
  have h2 : (b.cols.findIdx? fun x => decide (x.name = aJ)) = some i := h1
  rw [h2] at h0
  have h3 : o.t = i := by rw [← ho]; exact cv h1
  rw [h3]; exact h0
 have hre : aw Try.prog 24 [.ag b.c, .d (.sl ((on ++ [aJ]).map sc))] (.d (.sl (o.more.map nc))) 0 := by
  have := rq b (on ++ [aJ]) (by omega)
  rw [← ho]; exact this
 rw [ho] at hoo
 have hll : o.left.length ≤ 16 := by rw [← ho]; show (on.map _).length ≤ _; rw [List.length_map]; exact hol
 have hrl : o.right.length ≤ 16 := by rw [← ho]; show (on.map _).length ≤ _; rw [List.length_map]; exact hol
 have hml : o.more.length ≤ 32 := by rw [← ho]; have := jH (on ++ [aJ]) b.cols 0; show (cI _ _ _).length ≤ _; omega
 have hmm : (o.more.map nc).length = o.more.length := List.length_map _
 refine W.skip (qs (W.seq (W.bw aa (by kernel_rfl) ?_)))
 refine ak (ev aa rfl) rfl ?_
 refine ak (ev aa rfl) rfl ?_
 refine ak (ab rfl rfl rfl hpl rfl) rfl ?_
 refine ak (ev aa rfl) rfl ?_
 refine ak (ev aa rfl) rfl ?_
 refine ak (ab rfl rfl rfl hpr rfl) rfl ?_
 iterate 2 refine ak (ev aa rfl) rfl ?_
 refine CH.nil ?_
 refine qs (W.seq (W.bw aa (by kernel_rfl) ?_))
 refine ak (ev aa rfl) rfl ?_
 refine ak (ab rfl rfl rfl hcm rfl) rfl ?_
 refine ak (ev aa rfl) rfl ?_
 refine ak (ab rfl rfl rfl hct rfl) rfl ?_
 iterate 2 refine ak (ev aa rfl) rfl ?_
 refine CH.nil ?_
 refine qs (W.seq ?_)
 refine' W.eP aa [_, _] [[3], [4]] [4, 5] [2, 4] 5 (by kernel_rfl) (by kernel_rfl) rfl rfl ?hL_1
 case' hL_1 => skip
 refine' aS (ev aa rfl) ?p_2 rfl rfl rfl (by kernel_rfl) rfl ?h_2
 case' h_2 => skip
 refine' aS (ev aa rfl) ?p_3 rfl rfl rfl (by kernel_rfl) rfl ?h_3
 case' h_3 => skip
 refine' kW ?x_4 rfl rfl rfl (by kernel_rfl) (fun h => (ae h (by kernel_rfl)).elim) rfl ?h_4
 case x_4 =>
  intro b hb g; cases b
  · exact (ae hb (by kernel_rfl)).elim
  refine e5 rfl rfl rfl (oN on (by omega)) (by rfl) rfl rfl ?_
  refine WO.nil ?_
  refine' iJ rfl ?_ ?_ ?_ ?_
  all_goals try exact rfl
 case' h_4 => skip
 refine' aS (aE aa rfl rfl rfl rfl rfl rfl rfl rfl rfl) ?p_5 rfl rfl rfl (by kernel_rfl) rfl ?h_5
 case' h_5 => skip
 refine' kW ?x_6 rfl rfl rfl (by kernel_rfl) (fun h => (ae h (by kernel_rfl)).elim) rfl ?h_6
 case x_6 =>
  intro b hb g; cases b
  · exact (ae hb (by kernel_rfl)).elim
  refine cf (fn := sc) (l := on) (a := aJ) aa rfl rfl rfl rfl rfl rfl rfl rfl rfl rfl (fun _ => rfl) (by show (on.length + 1) * 16 ≤ _; omega) ?_
  refine WO.nil ?_
  refine' iJ rfl ?_ ?_ ?_ ?_
  all_goals try exact rfl
 case' h_6 => skip
 case p_2 => refine ⟨fun ha => (ae ha (by kernel_rfl)).elim, ?_, fun ha => (ae ha (by kernel_rfl)).elim, ?_, fun ha => (ae ha (by kernel_rfl)).elim, ?_⟩ <;> intro ha <;> first | exact ⟨ev aa rfl, fun h => nomatch h⟩ | exact ⟨cE aa rfl rfl rfl rfl, fun h => nomatch h⟩ | exact ⟨cC aa rfl rfl rfl rfl rfl, fun h => nomatch h⟩ | exact (ae ha (by kernel_rfl)).elim
 case p_3 => refine ⟨fun ha => (ae ha (by kernel_rfl)).elim, ?_, fun ha => (ae ha (by kernel_rfl)).elim, ?_, fun ha => (ae ha (by kernel_rfl)).elim, ?_⟩ <;> intro ha <;> first | exact ⟨ev aa rfl, fun h => nomatch h⟩ | exact (ae ha (by kernel_rfl)).elim
 case p_5 => refine ⟨fun ha => (ae ha (by kernel_rfl)).elim, ?_, fun ha => (ae ha (by kernel_rfl)).elim, ?_, fun ha => (ae ha (by kernel_rfl)).elim, ?_⟩ <;> intro ha <;> first | exact ⟨aE aa rfl rfl rfl rfl rfl rfl rfl rfl rfl, fun h => nomatch h⟩ | exact (ae ha (by kernel_rfl)).elim
 refine CD.nil ?_ rfl
 refine pu (ab rfl rfl rfl hre rfl) rfl ?_
 refine pE rfl (WO.nil (qs (W.seq (W.region (pE rfl (pu (build aa rfl rfl rfl rfl) rfl ?_))))))
 refine aW aa rfl rfl rfl (aM aa rfl rfl rfl rfl rfl rfl rfl rfl (WO.nil (qs ?_)))
 iterate 2 refine W.seq ?_
 refine W.region (pE rfl (pE rfl ?_))
 iterate 2 refine pE rfl ?_
 refine WO.nil (qs (W.block (ew 5 1 rfl rfl rfl ?_)))
 refine W.len (t := 55) rfl rfl (fun hlen => ?_)
 try simp only [List.length_map, Ex.aD] at hlen
 refine W.aV (ι := {x : Nat × List (List aA) // match x with | (i, out) => i ≤ a.rows.length ∧ out = (a.rows.take i).map (iK o b.rows)})
  (fun x => match x.1 with | (i, out) => [(4, .ptr 0 0), (6, .ptr 1 0), (15, .ptr 2 0), (57, .d (.v (.int .i64 ((i : Nat) : Int))))]) [(10, _), (11, _), (12, _), (13, _), (14, _), (55, _), (56, _)]
  (fun x => match x.1 with | (i, out) => [(0, b.c.map A.d), (1, [.d (.v (.slice none 0 0)), .d (.v (.slice none 0 0))]), (2, [.d (.sl (CT0.1.map Col.c)), .own 3 (out.map rc)])]) [] [3] 4 (fun x => match x.1 with | (i, out) => a.rows.length - i)
  [1, 2, 5, 6] ⟨(0, []), ?_⟩ rfl ?_ ⟨rfl, rfl, rfl, rfl, rfl, rfl, rfl, rfl, rfl, rfl, rfl, rfl, rfl, rfl, trivial⟩ ?_ trivial rfl ?_
 · exact ⟨Nat.zero_le _, rfl⟩
 · repeat' first | exact trivial | refine ⟨rfl, ?_⟩
 · repeat' first | exact trivial | refine ⟨rfl, ?_⟩
 rintro ⟨⟨i, out⟩, hk, hI⟩
 show W _ _ _ _ _ ⟨[(4, .ptr 0 0), (6, .ptr 1 0), (15, .ptr 2 0), (57, .d (.v (.int .i64 ((i : Nat) : Int)))), (10, _), (11, _), (12, _), (13, _), (14, _), (55, _), (56, _)], [(0, b.c.map A.d), (1, [.d (.v (.slice none 0 0)), .d (.v (.slice none 0 0))]), (2, [.d (.sl (CT0.1.map Col.c)), .own 3 (out.map rc)])], [3], 4⟩
 refine W.seq (W.region (pE rfl (WO.nil (qs (W.seq (bc (l := a.rows) (k := i) rfl (by simp [Ex.aD, aK]) hk (fun z hx hd hlt => ?_) (fun he hd => ?_)))))))
 ·
  have hzx := hx
  have hzlt := hlt
  have hxm := List.mem_of_getElem? hx
  have hxl := (hra z hxm).1
  have hpx := gr z o.left (by omega) (fun q hq => by rw [hxl]; exact hoo.left q hq)
  have hoi : out.length ≤ 20000 := by rw [hI, List.length_map, List.length_take]; omega
  have hzm : (z.map aA.c)[((o.m : Nat) : Int).toNat]? = some (a9 z o.m).c := aH (fz (by rw [hxl]; exact hoo.mm))
  refine W.skip (qs (W.seq (W.block (W.seq (W.region (pu (indexAddr aa rfl rfl rfl rfl rfl rfl (Int.natCast_nonneg _) (aH hx) rfl) rfl ?_))))))
  refine pE rfl (pE rfl (WO.nil (qs (W.seq (W.region (pE rfl (WO.nil (qs ?_))))))))
  iterate 2 refine W.seq ?_
  refine W.region (pE rfl (pE rfl ?_))
  iterate 2 refine pE rfl ?_
  refine WO.nil (qs (W.block (W.len (t := 62) rfl rfl (fun hlen => ?_))))
  try simp only [List.length_map, Ex.aD] at hlen
  refine W.aV (ι := {x : Nat × Option Nat // match x with | (j, best) => j ≤ b.rows.length ∧ (∀ i, best = some i → i < b.rows.length) ∧ jz o b.rows z (b.rows.drop j) j best = jz o b.rows z b.rows 0 none})
   (fun x => match x.1 with | (j, best) => [(4, .ptr 0 0), (6, .ptr 1 0), (15, .ptr 2 0), (18, .d (.v (.int .i64 (idx best)))), (64, .d (.v (.int .i64 ((j : Nat) : Int))))]) [(10, _), (11, _), (12, _), (13, _), (14, _), (17, _), (55, _), (56, _), (57, _), (62, _), (63, _)]
   (fun x => match x.1 with | (j, best) => [(0, b.c.map A.d), (1, [.d (.v (.slice none 0 0)), .d (.v (.slice none 0 0))]), (2, [.d (.sl (CT0.1.map Col.c)), .own 3 (out.map rc)])]) [] [3] 4 (fun x => match x.1 with | (j, best) => b.rows.length - j)
   [0, 1, 2, 3] ⟨(0, none), ?_⟩ rfl ?_ ⟨rfl, rfl, rfl, rfl, rfl, rfl, rfl, rfl, rfl, rfl, rfl, rfl, rfl, rfl, rfl, rfl, rfl, rfl, rfl, rfl, rfl, rfl, trivial⟩ ?_ trivial rfl ?_
  · exact ⟨Nat.zero_le _, (fun i h => by cases h), rfl⟩
  · repeat' first | exact trivial | refine ⟨rfl, ?_⟩
  · repeat' first | exact trivial | refine ⟨rfl, ?_⟩
  rintro ⟨⟨j, best⟩, hk, hbl, hJ⟩
  show W _ _ _ _ _ ⟨[(4, .ptr 0 0), (6, .ptr 1 0), (15, .ptr 2 0), (18, .d (.v (.int .i64 (idx best)))), (64, .d (.v (.int .i64 ((j : Nat) : Int)))), (10, _), (11, _), (12, _), (13, _), (14, _), (17, _), (55, _), (56, _), (57, _), (62, _), (63, _)], [(0, b.c.map A.d), (1, [.d (.v (.slice none 0 0)), .d (.v (.slice none 0 0))]), (2, [.d (.sl (CT0.1.map Col.c)), .own 3 (out.map rc)])], [3], 4⟩
  refine W.seq (W.region (pE rfl (WO.nil (qs (W.seq (bc (l := b.rows) (k := j) rfl (by simp [Ex.aD, aK]) hk (fun y hx hd hlt => ?_) (fun he hd => ?_)))))))
  ·
   rw [hd] at hJ
   simp only [jz] at hJ
   have hym := List.mem_of_getElem? hx
   have hyl := (hrb y hym).1
   have hpy := gr y o.right (by omega) (fun q hq => by rw [hyl]; exact hoo.right q hq)
   have hyt : (y.map aA.c)[((o.t : Nat) : Int).toNat]? = some (a9 y o.t).c := aH (fz (by rw [hyl]; exact hoo.tt))
   have hbn : ∀ h : decide (idx best < 0) = false, 0 ≤ idx best ∧ (b.rows.map rc)[(idx best).toNat]? = some (rc (fb b.rows (idx best).toNat)) ∧ ((fb b.rows (idx best).toNat).map aA.c)[((o.t : Nat) : Int).toNat]? = some (a9 (fb b.rows (idx best).toNat) o.t).c := by
    intro h
    have h0 := of_decide_eq_false h
    cases best with
    | none => exact absurd (by decide) h0
    | some i =>
     have hi := hbl i rfl
     have hr := qf hi
     refine ⟨Int.natCast_nonneg _, aH hr, aH (fz ?_)⟩
     show (o.t : Int).toNat < (fb b.rows i).length
     rw [(hrb _ (List.mem_of_getElem? hr)).1]
     exact hoo.tt
   refine W.skip (qs (W.seq (W.block (W.seq (W.region (pE rfl (pu (indexAddr aa rfl rfl rfl rfl rfl rfl (Int.natCast_nonneg _) (aH hx) rfl) rfl ?_)))))))
   refine pE rfl ?_
   iterate 2 refine pE rfl ?_
   refine WO.nil (qs (W.seq (W.kf aa 11 2 (by kernel_rfl) rfl rfl ?_)))
   refine bM rfl (ev aa rfl) rfl ?_
   refine bM rfl (ev aa rfl) rfl ?_
   refine bM rfl (indexAddr aa rfl rfl rfl rfl rfl rfl (Int.natCast_nonneg _) hzm rfl) rfl ?_
   refine bM rfl (ev aa rfl) rfl ?_
   refine bM rfl (ev aa rfl) rfl ?_
   refine bM rfl (ev aa rfl) rfl ?_
   refine bM rfl (indexAddr aa rfl rfl rfl rfl rfl rfl (Int.natCast_nonneg _) hyt rfl) rfl ?_
   refine bM rfl (ev aa rfl) rfl ?_
   refine hH 0 rfl rfl rfl rfl rfl rfl ?_
   refine hH 1 rfl rfl rfl rfl rfl rfl ?_
   refine rl 8 0 rfl rfl rfl rfl rfl rfl rfl rfl rfl rfl rfl rfl ?_
   refine CE.nil ?_
   refine aM aa rfl rfl rfl rfl rfl rfl rfl rfl (WO.nil (qs ?_))
   iterate 2 refine W.seq ?_
   apply aG; (case hb => rfl)
   ·
    refine pE rfl (pE rfl ?_)
    iterate 2 refine pE rfl ?_
    apply dO; (case hj => rfl); (case hl => rfl)
    ·
     intro g80
     iterate 3 refine ax rfl rfl rfl rfl ?_
     iterate 2 refine pE rfl ?_
     iterate 5 refine ax rfl rfl rfl rfl ?_
     iterate 2 refine pE rfl ?_
     iterate 8 refine ax rfl rfl rfl rfl ?_
     refine pE rfl (WO.nil (aB rfl rfl rfl))
    intro g80
    refine an rfl rfl (pE rfl (an rfl rfl (pE rfl (an rfl rfl ?_))))
    iterate 3 refine pE rfl ?_
    apply dO; (case hj => rfl); (case hl => rfl)
    ·
     intro g85
     iterate 5 refine ax rfl rfl rfl rfl ?_
     iterate 2 refine pE rfl ?_
     iterate 8 refine ax rfl rfl rfl rfl ?_
     refine pE rfl (WO.nil (aB rfl rfl rfl))
    intro g85
    refine an rfl rfl (pE rfl (an rfl rfl (pE rfl (an rfl rfl (pE rfl (an rfl rfl (pE rfl (an rfl rfl ?_))))))))
    iterate 3 refine pE rfl ?_
    apply dO; (case hj => rfl); (case hl => rfl)
    ·
     intro g92
     iterate 8 refine ax rfl rfl rfl rfl ?_
     refine pE rfl (WO.nil (aB rfl rfl rfl))
    intro g92
    refine an rfl rfl (pE rfl (an rfl rfl (pE rfl (an rfl rfl (pu (ab rfl rfl rfl hpx rfl) rfl ?_)))))
    refine an rfl rfl (pE rfl (an rfl rfl (pE rfl (an rfl rfl (pu (ab rfl rfl rfl hpy rfl) rfl ?_)))))
    refine an rfl rfl (pu (ab rfl rfl rfl (qp (be z o.left) (be y o.right)) rfl) rfl ?_)
    refine an rfl rfl ?_
    iterate 2 refine pE rfl ?_
    refine WO.nil (aB rfl rfl rfl)
   refine qs (ao rfl (fun h101 => ?_) (fun h101 => ?_))
   ·
    have hsk : kV o z y = true := by
     revert h101
     unfold kV
     cases decide ((a9 z o.m).kind = 0) <;> cases decide ((a9 y o.t).kind = 0) <;> cases decide ((a9 z o.m).n < (a9 y o.t).n) <;> cases fe (be z o.left) (be y o.right) <;> simp
    rw [if_pos hsk] at hJ
    have hbr : kV o z y = true ∨ False := .inl hsk
    refine W.exit (aN (aP (qs (W.region ?_))))
    iterate 2 refine pE rfl ?_
    refine WO.nil ?_
    try have hbr := hup
    refine W.aX [0, 1, 2, 3] ⟨(j + 1, best), ?_⟩ ?_ rfl ?_ ⟨rfl, rfl, rfl, rfl, rfl, rfl, rfl, rfl, rfl, rfl, rfl, rfl, rfl, rfl, rfl, rfl, rfl, rfl, rfl, rfl, rfl, rfl, trivial⟩ ?_ trivial rfl
    · exact ⟨hlt, (by first | exact hbl | (intro i h; cases h; exact hlt)), hJ⟩
    · dsimp only; omega
    · repeat' first | exact trivial | refine ⟨rfl, ?_⟩ | refine ⟨aF (by assumption) (by assumption), ?_⟩
    repeat' first | exact trivial | refine ⟨rfl, ?_⟩
   have hsk : kV o z y = false := by
    revert h101
    unfold kV
    cases decide ((a9 z o.m).kind = 0) <;> cases decide ((a9 y o.t).kind = 0) <;> cases decide ((a9 z o.m).n < (a9 y o.t).n) <;> cases fe (be z o.left) (be y o.right) <;> simp
   rw [if_neg (by simp [hsk])] at hJ
   refine W.skip (qs (W.seq ?_))
   apply jb aa; (case hb => rfl); (case hB => kernel_rfl)
   ·
    iterate 3 refine ak (ev aa rfl) rfl ?_
    apply gg; (case hj => rfl); (case hl => rfl)
    ·
     intro g104
     iterate 12 refine bD rfl rfl rfl rfl ?_
     refine ak (ev aa rfl) rfl ?_
     refine CH.nil ?_
     refine aB rfl rfl rfl
    intro g104
    refine aO rfl rfl (ev aa rfl) rfl ?_
    refine aO rfl rfl (ev aa rfl) rfl ?_
    refine aO rfl rfl (ev aa rfl) rfl ?_
    refine aO rfl rfl (ev aa rfl) rfl ?_
    refine aO rfl rfl (ev aa rfl) rfl ?_
    refine aO rfl rfl (indexAddr aa rfl rfl rfl rfl rfl rfl (hbn g104).1 (hbn g104).2.1 rfl) rfl ?_
    refine aO rfl rfl (ev aa rfl) rfl ?_
    refine aO rfl rfl (ev aa rfl) rfl ?_
    refine aO rfl rfl (indexAddr aa rfl rfl rfl rfl rfl rfl (Int.natCast_nonneg _) (hbn g104).2.2 rfl) rfl ?_
    refine aO rfl rfl (ev aa rfl) rfl ?_
    refine aO rfl rfl (ev aa rfl) rfl ?_
    refine aO rfl rfl (ev aa rfl) rfl ?_
    refine ak (ev aa rfl) rfl ?_
    refine CH.nil ?_
    refine aB rfl rfl rfl
   refine qs (ao rfl (fun h117 => ?_) (fun h117 => ?_))
   ·
    have hup : idx best < 0 ∨ (a9 (fb b.rows (idx best).toNat) o.t).n ≤ (a9 y o.t).n := by
     revert h117
     by_cases q : idx best < 0 <;> simp [q]
    rw [if_pos hup] at hJ
    refine W.region ?_
    iterate 2 refine pE rfl ?_
    refine WO.nil (a7 (qs (W.region ?_)))
    iterate 2 refine pE rfl ?_
    refine WO.nil ?_
    try have hbr := hup
    (have _hb : idx best < 0 ∨ (a9 (fb b.rows (idx best).toNat) o.t).n ≤ (a9 y o.t).n := hbr; refine W.aX [0, 1, 2, 3] ⟨(j + 1, some j), ?_⟩ ?_ rfl ?_ ⟨rfl, rfl, rfl, rfl, rfl, rfl, rfl, rfl, rfl, rfl, rfl, rfl, rfl, rfl, rfl, rfl, rfl, rfl, rfl, rfl, rfl, rfl, trivial⟩ ?_ trivial rfl)
    · exact ⟨hlt, (by first | exact hbl | (intro i h; cases h; exact hlt)), hJ⟩
    · dsimp only; omega
    · repeat' first | exact trivial | refine ⟨rfl, ?_⟩ | refine ⟨aF (by assumption) (by assumption), ?_⟩
    repeat' first | exact trivial | refine ⟨rfl, ?_⟩
   have hup : ¬ (idx best < 0 ∨ (a9 (fb b.rows (idx best).toNat) o.t).n ≤ (a9 y o.t).n) := by
    revert h117
    by_cases q : idx best < 0 <;> simp [q]
   rw [if_neg hup] at hJ
   have hbr : kV o z y = true ∨ False ∨ True := .inr (.inr trivial)
   refine W.skip (a7 (qs (W.region ?_)))
   iterate 2 refine pE rfl ?_
   refine WO.nil ?_
   try have hbr := hup
   refine W.aX [0, 1, 2, 3] ⟨(j + 1, best), ?_⟩ ?_ rfl ?_ ⟨rfl, rfl, rfl, rfl, rfl, rfl, rfl, rfl, rfl, rfl, rfl, rfl, rfl, rfl, rfl, rfl, rfl, rfl, rfl, rfl, rfl, rfl, trivial⟩ ?_ trivial rfl
   · exact ⟨hlt, (by first | exact hbl | (intro i h; cases h; exact hlt)), hJ⟩
   · dsimp only; omega
   · repeat' first | exact trivial | refine ⟨rfl, ?_⟩ | refine ⟨aF (by assumption) (by assumption), ?_⟩
   repeat' first | exact trivial | refine ⟨rfl, ?_⟩
  rw [hd] at hJ
  simp only [jz] at hJ
  refine W.exit (aN (aR (aP (qs (W.seq (W.region ?_))))))
  iterate 2 refine pE rfl ?_
  refine pu (wM (m := (o.more.map nc).length) aa rfl rfl rfl rfl rfl rfl (by rw [hmm]; show (32 : Int) * _ ≤ _; omega) (by rw [hmm]; simp only [maxLen]; omega)) rfl ?_
  refine pE rfl (WO.nil (qs ?_))
  iterate 2 refine W.seq ?_
  refine W.region ?_
  iterate 2 refine pE rfl ?_
  refine WO.nil (qs (ao rfl (fun h124 => ?_) (fun h124 => ?_)))
  ·
   have hbb : 0 ≤ idx best := by simpa using h124
   obtain ⟨q, rfl⟩ : ∃ q, best = some q := by
    cases best with
    | none => exact absurd hbb (by decide)
    | some q => exact ⟨q, rfl⟩
   have hqr := qf (hbl q rfl)
   have hql := (hrb _ (List.mem_of_getElem? hqr)).1
   have hpz := gr (fb b.rows q) o.more (by omega) (fun r hr => by rw [hql]; exact hoo.more r hr)
   have hfd : sP o b.rows (some q) = be (fb b.rows q) o.more := rfl
   have hfl : (be (fb b.rows q) o.more).length = o.more.length := List.length_map _
   have hrow : iK o b.rows z = z ++ be (fb b.rows q) o.more := by unfold iK; rw [← hJ]; rfl
   refine W.region (pE rfl (pE rfl (pE rfl (pu (indexAddr (l := rc (fb b.rows q)) aa rfl rfl rfl rfl rfl rfl (Int.natCast_nonneg _) (aH hqr) rfl) rfl ?_))))
   refine pE rfl (pE rfl (pu (ab rfl rfl rfl hpz rfl) rfl ?_))
   refine pE rfl (WO.nil (qs ?_))
   refine' W.eP aa [_, _] [[4, 3], [5, 3], [6, 5]] [5, 6, 7] [3, 5] 7 (by kernel_rfl) (by kernel_rfl) rfl rfl ?hL_7
   case' hL_7 => skip
   refine' aS (ev aa rfl) ?p_8 rfl rfl rfl (by kernel_rfl) rfl ?h_8
   case' h_8 => skip
   refine' aS (ev aa rfl) ?p_9 rfl rfl rfl (by kernel_rfl) rfl ?h_9
   case' h_9 => skip
   refine' aS (ev aa rfl) ?p_10 rfl rfl rfl (by kernel_rfl) rfl ?h_10
   case' h_10 => skip
   refine' kW ?x_11 rfl rfl rfl (by kernel_rfl) (fun h => (ae h (by kernel_rfl)).elim) rfl ?h_11
   case x_11 =>
    intro b hb g; cases b
    · exact (ae hb (by kernel_rfl)).elim
    refine e5 rfl rfl rfl (jK z (by omega)) (by rfl) rfl rfl ?_
    refine WO.nil ?_
    refine' iJ rfl ?_ ?_ ?_ ?_
    all_goals try exact rfl
   case' h_11 => skip
   refine' aS (ev aa rfl) ?p_12 rfl rfl rfl (by kernel_rfl) rfl ?h_12
   case' h_12 => skip
   refine' kW ?x_13 rfl rfl rfl (by kernel_rfl) (fun h => (ae h (by kernel_rfl)).elim) rfl ?h_13
   case x_13 =>
    intro b hb g; cases b
    · exact (ae hb (by kernel_rfl)).elim
    refine fh (fn := aA.c) (l := z) (l2 := be (fb b.rows q) o.more) aa rfl rfl rfl rfl rfl rfl rfl rfl rfl rfl (fun _ => rfl) (by rw [hfl]; show _ * 32 ≤ _; omega) ?_
    refine WO.nil ?_
    refine' iJ rfl ?_ ?_ ?_ ?_
    all_goals try exact rfl
   case' h_13 => skip
   case p_8 => refine ⟨fun ha => (ae ha (by kernel_rfl)).elim, ?_, fun ha => (ae ha (by kernel_rfl)).elim, ?_, fun ha => (ae ha (by kernel_rfl)).elim, ?_⟩ <;> intro ha <;> first | exact ⟨ev aa rfl, fun h => nomatch h⟩ | exact (ae ha (by kernel_rfl)).elim
   case p_9 => refine ⟨fun ha => (ae ha (by kernel_rfl)).elim, ?_, fun ha => (ae ha (by kernel_rfl)).elim, ?_, fun ha => (ae ha (by kernel_rfl)).elim, ?_⟩ <;> intro ha <;> first | exact ⟨ev aa rfl, fun h => nomatch h⟩ | exact ⟨cE aa rfl rfl rfl rfl, fun h => nomatch h⟩ | exact ⟨cC aa rfl rfl rfl rfl rfl, fun h => nomatch h⟩ | exact (ae ha (by kernel_rfl)).elim
   case p_10 => refine ⟨fun ha => (ae ha (by kernel_rfl)).elim, ?_, fun ha => (ae ha (by kernel_rfl)).elim, ?_, fun ha => (ae ha (by kernel_rfl)).elim, ?_⟩ <;> intro ha <;> first | exact ⟨ev aa rfl, fun h => nomatch h⟩ | exact (ae ha (by kernel_rfl)).elim
   case p_12 => refine ⟨fun ha => (ae ha (by kernel_rfl)).elim, ?_, fun ha => (ae ha (by kernel_rfl)).elim, ?_, fun ha => (ae ha (by kernel_rfl)).elim, ?_⟩ <;> intro ha <;> first | exact ⟨ev aa rfl, fun h => nomatch h⟩ | exact (ae ha (by kernel_rfl)).elim
   refine' aS (aE aa rfl rfl rfl rfl rfl rfl rfl rfl rfl) ?p_14 rfl rfl rfl (by kernel_rfl) rfl ?h_14
   case' h_14 => skip
   case p_14 => refine ⟨fun ha => (ae ha (by kernel_rfl)).elim, ?_, fun ha => (ae ha (by kernel_rfl)).elim, ?_, fun ha => (ae ha (by kernel_rfl)).elim, ?_⟩ <;> intro ha <;> first | exact ⟨aE aa rfl rfl rfl rfl rfl rfl rfl rfl rfl, fun h => nomatch h⟩ | exact (ae ha (by kernel_rfl)).elim
   refine CD.nil ?_ rfl
   refine cf (fn := rc) (a := iK o b.rows z) aa rfl rfl (by rw [hrow]; rfl) rfl rfl rfl rfl rfl rfl rfl (fun _ => rfl) (by show (out.length + 1) * 24 ≤ _; omega) ?_
   refine pE rfl (aM aa rfl rfl rfl rfl rfl rfl rfl rfl (WO.nil (a7 (qs (W.region ?_)))))
   iterate 2 refine pE rfl ?_
   refine WO.nil (W.aX [0, 1, 2, 6] ⟨(i + 1, out ++ [iK o b.rows z]), ?_⟩ ?_ rfl ?_ ⟨rfl, rfl, rfl, rfl, rfl, rfl, rfl, rfl, rfl, rfl, rfl, rfl, rfl, rfl, trivial⟩ ?_ trivial rfl)
   · exact ⟨hzlt, by rw [hI, List.take_add_one, hzx]; simp⟩
   · dsimp only; omega
   · repeat' first | exact trivial | refine ⟨rfl, ?_⟩ | refine ⟨aF (by assumption) (by assumption), ?_⟩
   repeat' first | exact trivial | refine ⟨rfl, ?_⟩
  have hbb : best = none := by
   cases best with
   | none => rfl
   | some q => simp [idx] at h124
  subst hbb
  have hfl : (List.replicate o.more.length eY).length = o.more.length := List.length_replicate
  have hrow : iK o b.rows z = z ++ List.replicate o.more.length eY := by unfold iK; rw [← hJ]; rfl
  have hzz : List.replicate (o.more.map nc).length (([.int .i64 0, .int .i64 0, .string (B #[])] : List Value).map D.v) = (List.replicate o.more.length eY).map aA.c := by rw [hmm]; exact vb _
  refine W.skip (qs ?_)
  refine' W.eP aa [_, _] [[4, 3], [5, 3], [6, 5]] [5, 6, 7] [3, 5] 7 (by kernel_rfl) (by kernel_rfl) rfl rfl ?hL_15
  case' hL_15 => skip
  refine' aS (ev aa rfl) ?p_16 rfl rfl rfl (by kernel_rfl) rfl ?h_16
  case' h_16 => skip
  refine' aS (ev aa rfl) ?p_17 rfl rfl rfl (by kernel_rfl) rfl ?h_17
  case' h_17 => skip
  refine' aS (ev aa rfl) ?p_18 rfl rfl rfl (by kernel_rfl) rfl ?h_18
  case' h_18 => skip
  refine' kW ?x_19 rfl rfl rfl (by kernel_rfl) (fun h => (ae h (by kernel_rfl)).elim) rfl ?h_19
  case x_19 =>
   intro b hb g; cases b
   · exact (ae hb (by kernel_rfl)).elim
   refine e5 rfl rfl rfl (jK z (by omega)) (by rfl) rfl rfl ?_
   refine WO.nil ?_
   refine' iJ rfl ?_ ?_ ?_ ?_
   all_goals try exact rfl
  case' h_19 => skip
  refine' aS (ev aa rfl) ?p_20 rfl rfl rfl (by kernel_rfl) rfl ?h_20
  case' h_20 => skip
  refine' kW ?x_21 rfl rfl rfl (by kernel_rfl) (fun h => (ae h (by kernel_rfl)).elim) rfl ?h_21
  case x_21 =>
   intro b hb g; cases b
   · exact (ae hb (by kernel_rfl)).elim
   refine fh (fn := aA.c) (l := z) (l2 := List.replicate o.more.length eY) aa rfl rfl (by rw [← hzz]; rfl) rfl rfl rfl rfl rfl rfl rfl (fun _ => rfl) (by rw [hfl]; show _ * 32 ≤ _; omega) ?_
   refine WO.nil ?_
   refine' iJ rfl ?_ ?_ ?_ ?_
   all_goals try exact rfl
  case' h_21 => skip
  case p_16 => refine ⟨fun ha => (ae ha (by kernel_rfl)).elim, ?_, fun ha => (ae ha (by kernel_rfl)).elim, ?_, fun ha => (ae ha (by kernel_rfl)).elim, ?_⟩ <;> intro ha <;> first | exact ⟨ev aa rfl, fun h => nomatch h⟩ | exact (ae ha (by kernel_rfl)).elim
  case p_17 => refine ⟨fun ha => (ae ha (by kernel_rfl)).elim, ?_, fun ha => (ae ha (by kernel_rfl)).elim, ?_, fun ha => (ae ha (by kernel_rfl)).elim, ?_⟩ <;> intro ha <;> first | exact ⟨ev aa rfl, fun h => nomatch h⟩ | exact ⟨cE aa rfl rfl rfl rfl, fun h => nomatch h⟩ | exact ⟨cC aa rfl rfl rfl rfl rfl, fun h => nomatch h⟩ | exact (ae ha (by kernel_rfl)).elim
  case p_18 => refine ⟨fun ha => (ae ha (by kernel_rfl)).elim, ?_, fun ha => (ae ha (by kernel_rfl)).elim, ?_, fun ha => (ae ha (by kernel_rfl)).elim, ?_⟩ <;> intro ha <;> first | exact ⟨ev aa rfl, fun h => nomatch h⟩ | exact (ae ha (by kernel_rfl)).elim
  case p_20 => refine ⟨fun ha => (ae ha (by kernel_rfl)).elim, ?_, fun ha => (ae ha (by kernel_rfl)).elim, ?_, fun ha => (ae ha (by kernel_rfl)).elim, ?_⟩ <;> intro ha <;> first | exact ⟨ev aa rfl, fun h => nomatch h⟩ | exact (ae ha (by kernel_rfl)).elim
  refine' aS (aE aa rfl rfl rfl rfl rfl rfl rfl rfl rfl) ?p_22 rfl rfl rfl (by kernel_rfl) rfl ?h_22
  case' h_22 => skip
  case p_22 => refine ⟨fun ha => (ae ha (by kernel_rfl)).elim, ?_, fun ha => (ae ha (by kernel_rfl)).elim, ?_, fun ha => (ae ha (by kernel_rfl)).elim, ?_⟩ <;> intro ha <;> first | exact ⟨aE aa rfl rfl rfl rfl rfl rfl rfl rfl rfl, fun h => nomatch h⟩ | exact (ae ha (by kernel_rfl)).elim
  refine CD.nil ?_ rfl
  refine cf (fn := rc) (a := iK o b.rows z) aa rfl rfl (by rw [hrow]; rfl) rfl rfl rfl rfl rfl rfl rfl (fun _ => rfl) (by show (out.length + 1) * 24 ≤ _; omega) ?_
  refine pE rfl (aM aa rfl rfl rfl rfl rfl rfl rfl rfl (WO.nil (a7 (qs (W.region ?_)))))
  iterate 2 refine pE rfl ?_
  refine WO.nil (W.aX [0, 1, 2, 6] ⟨(i + 1, out ++ [iK o b.rows z]), ?_⟩ ?_ rfl ?_ ⟨rfl, rfl, rfl, rfl, rfl, rfl, rfl, rfl, rfl, rfl, rfl, rfl, rfl, rfl, trivial⟩ ?_ trivial rfl)
  · exact ⟨hzlt, by rw [hI, List.take_add_one, hzx]; simp⟩
  · dsimp only; omega
  · repeat' first | exact trivial | refine ⟨rfl, ?_⟩ | refine ⟨aF (by assumption) (by assumption), ?_⟩
  repeat' first | exact trivial | refine ⟨rfl, ?_⟩
 have hfin : out = a.rows.map (iK o b.rows) := by rw [hI, List.take_of_length_le (by have := congrArg List.length hd; simp at this; omega)]
 have hg : e6 a b on = (⟨CT0.1, out⟩, 0) := by rw [hgo, hfin]
 refine W.exit (aN (aR (aP (qs (W.seq (W.region (pE rfl (aM aa rfl rfl rfl rfl rfl rfl rfl rfl (pE rfl (WO.nil (qs ?_)))))))))))
 try refine cn 2 0 rfl rfl rfl ?_
 try refine cn 2 1 rfl rfl rfl ?_
 refine W.ret (QV.aq aa trivial rfl ?_)
 (rw [hg]; rfl)
end Go.Proofs.Ytjenenllmjlimaa
namespace Go.Proofs.Ytjenenllmjlimaa
open Go.Ab Go.Tb
set_option maxRecDepth 10000
attribute [local irreducible] W WO Pu QS QB QL QF QV bK CH QE
theorem vA : aw Try.prog 64 [.d (.sl []), .d (.v (.int .i64 0)), .d (.v (.int .i64 0)), .clo 34 []] (.tup []) 0 := by
 refine aw.aY (n := 53) (ts := []) Try.func64 (by kernel_rfl) rfl Try.ntmps64 Try.results64 rfl rfl fun C hC hG => ?_
 refine W.seq (W.region ?_)
 iterate 3 refine pE rfl ?_
 refine WO.nil (qs (W.block ?_))
 refine W.aV (ι := {x : Unit // match x with | u => True})
  (fun x => match x.1 with | u => [(8, .d (.v (.int .i64 1)))]) [(0, _), (1, _), (2, _), (3, _)]
  (fun x => match x.1 with | u => []) [] [] 0 (fun x => match x.1 with | u => 0)
  [] ⟨(), ?_⟩ rfl ?_ ⟨rfl, rfl, rfl, rfl, rfl, rfl, rfl, rfl, trivial⟩ ?_ trivial rfl ?_
 · exact trivial
 · repeat' first | exact trivial | refine ⟨rfl, ?_⟩
 · repeat' exact trivial
 rintro ⟨u, hk, hI⟩
 show W _ _ _ _ _ ⟨[(8, .d (.v (.int .i64 1))), (0, _), (1, _), (2, _), (3, _)], [], [], 0⟩
 iterate 2 refine W.seq ?_
 refine W.region ?_
 iterate 3 refine pE rfl ?_
 refine WO.nil (qs (ao rfl (fun h14 => ?_) (fun h14 => ?_)))
 ·
  exfalso
  simp at h14
 refine W.exit (aN (aR (aP (QF.aq trivial rfl ?_))))
 rfl
theorem r6 : aw Try.prog 45 [.d (.sl []), .d (.v (.int .i64 0)), .clo 34 []] (.tup []) 0 := by
 refine aw.aY (n := 63) (ts := []) Try.func45 (by kernel_rfl) rfl Try.ntmps45 Try.results45 rfl rfl fun C hC hG => ?_
 refine W.seq (W.region (pE rfl (WO.nil (qs (W.seq (W.region ?_))))))
 iterate 3 refine pE rfl ?_
 refine WO.nil (qs (W.seq (W.block ?_)))
 refine W.aV (ι := {x : Unit // match x with | u => True})
  (fun x => match x.1 with | u => [(7, .d (.v (.int .i64 0))), (8, .d (.v (.int .i64 20)))]) [(0, _), (1, _), (2, _), (6, _)]
  (fun x => match x.1 with | u => []) [] [] 0 (fun x => match x.1 with | u => 0)
  [] ⟨(), ?_⟩ rfl ?_ ⟨rfl, rfl, rfl, rfl, rfl, rfl, rfl, rfl, trivial⟩ ?_ trivial rfl ?_
 · exact trivial
 · repeat' first | exact trivial | refine ⟨rfl, ?_⟩
 · repeat' exact trivial
 rintro ⟨u, hk, hI⟩
 show W _ _ _ _ _ ⟨[(7, .d (.v (.int .i64 0))), (8, .d (.v (.int .i64 20))), (0, _), (1, _), (2, _), (6, _)], [], [], 0⟩
 iterate 2 refine W.seq ?_
 refine W.region ?_
 iterate 3 refine pE rfl ?_
 refine WO.nil (qs (ao rfl (fun h13 => ?_) (fun h13 => ?_)))
 ·
  exfalso
  simp at h13
 refine W.exit (aN (aR (aP (qs (W.seq (W.region ?_))))))
 iterate 4 refine pE rfl ?_
 refine pu (ab rfl rfl rfl vA rfl) rfl ?_
 refine WO.nil (qs (W.block ?_))
 refine W.aV (ι := {x : Unit // match x with | u => True})
  (fun x => match x.1 with | u => [(6, .d (.v (.int .i64 20)))]) [(0, _), (1, _), (2, _)]
  (fun x => match x.1 with | u => []) [] [] 0 (fun x => match x.1 with | u => 0)
  [] ⟨(), ?_⟩ rfl ?_ ⟨rfl, rfl, rfl, rfl, rfl, rfl, trivial⟩ ?_ trivial rfl ?_
 · exact trivial
 · repeat' first | exact trivial | refine ⟨rfl, ?_⟩
 · repeat' exact trivial
 rintro ⟨u, hk, hI⟩
 show W _ _ _ _ _ ⟨[(6, .d (.v (.int .i64 20))), (0, _), (1, _), (2, _)], [], [], 0⟩
 iterate 2 refine W.seq ?_
 refine W.region ?_
 iterate 3 refine pE rfl ?_
 refine WO.nil (qs (ao rfl (fun h30 => ?_) (fun h30 => ?_)))
 ·
  exfalso
  simp at h30
 refine W.exit (aN (aR (aP (QF.aq trivial rfl ?_))))
 rfl
theorem oo : aw Try.prog 33 [.d (.sl []), .clo 34 []] (.tup []) 0 := by
 refine aw.aY (n := 9) (ts := []) Try.func33 (by kernel_rfl) rfl Try.ntmps33 Try.results33 rfl rfl fun C hC hG => ?_
 refine W.region ?_
 iterate 4 refine pE rfl ?_
 refine pu (ab rfl rfl rfl r6 rfl) rfl ?_
 refine WO.nil (QF.aq trivial rfl ?_)
 rfl
def ka (z : List aA) (m0 m1 : Nat) : Bool := cr z m0 m1 && decide (0 ≤ (a9 z m0).n)
def mZ (left : List Nat) (m0 m1 : Nat) (z : List aA) : Pc := ⟨be z left, (a9 z m0).n, (a9 z m1).n⟩
def pieces (left : List Nat) (m0 m1 : Nat) : List (List aA) → List Pc
 | [] => []
 | z :: r => if ka z m0 m1 = true then mZ left m0 m1 z :: pieces left m0 m1 r else pieces left m0 m1 r
def cA (out : List Pc) : Pc := el out (out.length - 1)
def dn (out : List Pc) (p : Pc) : Bool := decide (0 < out.length) && (decide ((cA out).key = p.key) && decide (p.fr ≤ (cA out).to))
def jM (q p : Pc) : Pc := ⟨q.key, q.fr, if q.to < p.to then p.to else q.to⟩
def eA (out : List Pc) : List Pc → List Pc
 | [] => out
 | p :: r => if dn out p = true then eA (out.set (out.length - 1) (jM (cA out) p)) r else eA (out ++ [p]) r
def jn (p : Pc) : List aA := p.key ++ [⟨2, p.fr, B #[]⟩, ⟨2, p.to, B #[]⟩]
def kg (a : bh) (on : List ByteArray) : List Nat := on.map (bY a.cols)
def p9 (a : bh) (on : List ByteArray) : List Pc := eA [] (dK bj (pieces (kg a on) (bY a.cols aJ) (bY a.cols bA) a.rows))
def b9 (a : bh) (on : List ByteArray) : bh × Int :=
 if (gx 9 on a).2 ≠ 0 then (fJ, (gx 9 on a).2) else (⟨(gx 9 on a).1, (p9 a on).map jn⟩, 0)
theorem iO (left : List Nat) (m0 m1 : Nat) : ∀ (l : List (List aA)), ∀ p ∈ pieces left m0 m1 l, p.key.length = left.length
 | [], p, h => by cases h
 | z :: r, p, h => by
  simp only [pieces] at h
  split at h
  ·
   rcases List.mem_cons.1 h with rfl | h
   · exact List.length_map _
   exact iO left m0 m1 r p h
  exact iO left m0 m1 r p h
theorem sS {out : List Pc} (h : 0 < out.length) : cA out ∈ out := List.mem_of_getElem? (nQ (by omega : out.length - 1 < out.length))
theorem jI {m : Nat} : ∀ (l out : List Pc), (∀ p ∈ l, p.key.length = m) → (∀ p ∈ out, p.key.length = m) → ∀ p ∈ eA out l, p.key.length = m
 | [], out, _, h, p, hp => h p hp
 | q :: r, out, hl, h, p, hp => by
  simp only [eA] at hp
  split at hp
  ·
   rename_i ht
   have h0 : 0 < out.length := by unfold dn at ht; simp at ht; exact ht.1
   refine jI r _ (fun x hx => hl x (List.mem_cons_of_mem _ hx)) (fun x hx => ?_) p hp
   rcases List.mem_or_eq_of_mem_set hx with hx | rfl
   · exact h x hx
   show (cA out).key.length = m
   exact h _ (sS h0)
  refine jI r _ (fun x hx => hl x (List.mem_cons_of_mem _ hx)) (fun x hx => ?_) p hp
  rcases List.mem_append.1 hx with hx | hx
  · exact h x hx
  rw [List.mem_singleton.1 hx]; exact hl q List.mem_cons_self
theorem jC : ∀ (l out : List Pc), (eA out l).length ≤ out.length + l.length
 | [], out => Nat.le_refl _
 | q :: r, out => by
  simp only [eA]
  split
  · have := jC r (out.set (out.length - 1) (jM (cA out) q)); rw [List.length_set] at this; simp; omega
  have := jC r (out ++ [q]); rw [List.length_append] at this; simp at this ⊢; omega
theorem gq (L : List Pc) (p : Pc) : L.map Pc.c ++ [p.c] = (L ++ [p]).map Pc.c := by simp
end Go.Proofs.Ytjenenllmjlimaa
namespace Go.Proofs.Ytjenenllmjlimaa
open Go.Ab Go.Tb
set_option maxRecDepth 10000
attribute [local irreducible] W WO Pu QS QB QL QF QV bK CH QE
theorem qG (a : bh) (on : List ByteArray) (hon : on.length ≤ 400) (hpos : 0 < (pieces (kg a on) (bY a.cols aJ) (bY a.cols bA) a.rows).length) : aw Try.prog 12 [.ag a.c, .d (.sl (on.map sc))]
  (.tup [.ag (b9 a on).1.c, .d (.v (.int .i64 (b9 a on).2))]) 0 := by
 have hcol := ia 9 on [a] (by simp) hon
 rw [nV] at hcol
 obtain ⟨CT0, hCT⟩ : ∃ c, gx 9 on a = c := ⟨_, rfl⟩
 rw [hCT] at hcol
 obtain ⟨m0, hm0⟩ : ∃ i, bY a.cols aJ = i := ⟨_, rfl⟩
 obtain ⟨m1, hm1⟩ : ∃ i, bY a.cols bA = i := ⟨_, rfl⟩
 obtain ⟨left, hleft⟩ : ∃ l, kg a on = l := ⟨_, rfl⟩
 rw [hm0, hm1, hleft] at hpos
 refine aw.eW aa (n := 150) (rs := [.cell 4 25, .tmp 5]) Try.func12 (by kernel_rfl) rfl Try.ntmps12 Try.results12 rfl fun C hC hG => ?_
 refine W.seq (W.region (bL rfl rfl rfl (aW aa rfl rfl rfl (pE rfl (WO.nil (qs (W.seq (W.region (pE rfl (pE rfl (pu (aE aa rfl rfl rfl rfl rfl rfl rfl rfl rfl) rfl ?_)))))))))))
 refine pu (ab rfl rfl rfl hcol rfl) rfl ?_
 iterate 5 refine pE rfl ?_
 refine WO.nil (qs ?_)
 iterate 2 refine W.seq ?_
 refine W.region ?_
 iterate 2 refine pE rfl ?_
 refine WO.nil (qs (ao rfl (fun h30 => ?_) (fun h30 => ?_)))
 ·
  have he : CT0.2 ≠ 0 := by simpa using h30
  have hg : b9 a on = (fJ, CT0.2) := by unfold b9; rw [hCT, if_pos he]
  refine W.seq (W.region (pu (build aa rfl rfl rfl rfl) rfl ?_))
  refine pE rfl (aM aa rfl rfl rfl rfl rfl rfl rfl rfl (pE rfl (WO.nil (qs ?_))))
  try refine cn 1 0 rfl rfl rfl ?_
  try refine cn 1 1 rfl rfl rfl ?_
  refine W.ret (ah (QV.aq aa trivial rfl ?_))
  (rw [hg]; rfl)
 have he : CT0.2 = 0 := by simpa using h30
 have hok := uR (by rw [hCT]; exact he)
 have hoo := vV hok
 have haz := dw hok.ga
 have hol := hok.len
 have hra := eC hok.ga
 obtain ⟨srt, hsrt⟩ : ∃ s, dK bj (pieces left m0 m1 a.rows) = s := ⟨_, rfl⟩
 obtain ⟨J, hJJ⟩ : ∃ s, eA [] srt = s := ⟨_, rfl⟩
 have hgo : b9 a on = (⟨CT0.1, J.map jn⟩, 0) := by unfold b9 p9; rw [hCT, if_neg (by simp [he]), hleft, hm0, hm1, hsrt, hJJ]
 have hpl : aw Try.prog 23 [.ag a.c, .d (.sl (on.map sc))] (.d (.sl (left.map nc))) 0 := by
  have := dz a on (by omega)
  rw [eO (fun s hs => by obtain ⟨i, c, h1, _⟩ := hok.ons s hs; exact ⟨i, h1⟩)] at this
  rw [← hleft]; exact this
 have hpm : aw Try.prog 23 [.ag a.c, .d (.sl ([aJ, bA].map sc))] (.d (.sl ([m0, m1].map nc))) 0 := by
  have := dz a [aJ, bA] (by simp)
  rw [eO (fun s hs => by
   rcases List.mem_cons.1 hs with rfl | hs
   · obtain ⟨i, c, h1, _⟩ := hok.fr; exact ⟨i, h1⟩
   rcases List.mem_cons.1 hs with rfl | hs
   · obtain ⟨i, c, h1, _⟩ := hok.to; exact ⟨i, h1⟩
   cases hs)] at this
  rw [← hm0, ← hm1]; exact this
 have hll : left.length ≤ 16 := by rw [← hleft]; show (on.map _).length ≤ _; rw [List.length_map]; exact hol
 rw [show on.map (bY a.cols) = left from hleft, hm0, hm1] at hoo
 refine W.skip (qs (W.seq (W.bw aa (by kernel_rfl) ?_)))
 refine ak (ev aa rfl) rfl ?_
 refine ak (ev aa rfl) rfl ?_
 refine ak (ab rfl rfl rfl hpl rfl) rfl ?_
 refine ak (ev aa rfl) rfl ?_
 refine ak (aE aa rfl rfl rfl rfl rfl rfl rfl rfl rfl) rfl ?_
 refine ak (ab rfl rfl rfl hpm rfl) rfl ?_
 iterate 2 refine ak (ev aa rfl) rfl ?_
 refine CH.nil ?_
 refine qs (W.seq (W.region ?_))
 iterate 2 refine pE rfl ?_
 refine WO.nil (qs ?_)
 iterate 2 refine W.seq ?_
 refine W.region (pE rfl (pE rfl ?_))
 iterate 2 refine pE rfl ?_
 refine WO.nil (qs (W.block (W.mh (d := 10) rfl rfl ?_)))
 refine W.len (t := 40) rfl rfl (fun hlen => ?_)
 try simp only [List.length_map, Ex.aD] at hlen
 refine W.aV (ι := {x : Nat × List Pc // match x with | (i, L) => i ≤ a.rows.length ∧ L.length ≤ i ∧ L ++ pieces left m0 m1 (a.rows.drop i) = pieces left m0 m1 a.rows})
  (fun x => match x.1 with | (i, L) => [(4, .ptr 0 0), (10, .xs 1 (L.map Pc.c)), (42, .d (.v (.int .i64 ((i : Nat) : Int))))]) [(6, _), (8, _), (9, _), (11, _), (40, _), (41, _)]
  (fun x => match x.1 with | (i, L) => [(0, [.d (.v (.slice none 0 0)), .d (.v (.slice none 0 0))])]) [] [1] 2 (fun x => match x.1 with | (i, L) => a.rows.length - i)
  [1, 2] ⟨(0, []), ?_⟩ rfl ?_ ⟨rfl, rfl, rfl, rfl, rfl, rfl, rfl, rfl, rfl, rfl, rfl, rfl, trivial⟩ ?_ trivial rfl ?_
 · exact ⟨Nat.zero_le _, Nat.zero_le _, rfl⟩
 · repeat' first | exact trivial | refine ⟨rfl, ?_⟩
 · repeat' first | exact trivial | refine ⟨rfl, ?_⟩
 rintro ⟨⟨i, L⟩, hk, hn, hI⟩
 show W _ _ _ _ _ ⟨[(4, .ptr 0 0), (10, .xs 1 (L.map Pc.c)), (42, .d (.v (.int .i64 ((i : Nat) : Int)))), (6, _), (8, _), (9, _), (11, _), (40, _), (41, _)], [(0, [.d (.v (.slice none 0 0)), .d (.v (.slice none 0 0))])], [1], 2⟩
 refine W.seq (W.region (pE rfl (WO.nil (qs (W.seq (bc (l := a.rows) (k := i) rfl (by simp [Ex.aD, aK]) hk (fun z hx hd hlt => ?_) (fun he hd => ?_)))))))
 ·
  rw [hd] at hI
  simp only [pieces] at hI
  have hxm := List.mem_of_getElem? hx
  have hxl := (hra z hxm).1
  have hsx := l8 z m0 m1 (by rw [hxl]; exact hoo.m0) (by rw [hxl]; exact hoo.m1)
  have hpx := gr z left (by omega) (fun q hq => by rw [hxl]; exact hoo.left q hq)
  refine W.skip (qs (W.seq (W.block (W.seq (W.region (pu (indexAddr aa rfl rfl rfl rfl rfl rfl (Int.natCast_nonneg _) (aH hx) rfl) rfl ?_))))))
  refine pE rfl (pE rfl (WO.nil (qs (W.seq (W.region ?_)))))
  iterate 2 refine pE rfl ?_
  refine pu (ab rfl rfl rfl hsx rfl) rfl ?_
  iterate 3 refine pE rfl ?_
  refine aW aa rfl rfl rfl (aM aa rfl rfl rfl rfl rfl rfl rfl rfl (pE rfl (WO.nil (qs (W.seq ?_)))))
  apply aG; (case hb => rfl)
  ·
   iterate 2 refine pE rfl ?_
   apply dO; (case hj => rfl); (case hl => rfl)
   ·
    intro g53
    refine an rfl rfl (pE rfl (an rfl rfl (pE rfl (an rfl rfl ?_))))
    iterate 2 refine pE rfl ?_
    refine WO.nil (aB rfl rfl rfl)
   intro g53
   iterate 3 refine ax rfl rfl rfl rfl ?_
   refine pE rfl (WO.nil (aB rfl rfl rfl))
  refine qs (ao rfl (fun h57 => ?_) (fun h57 => ?_))
  ·
   have hin : ka z m0 m1 = true := by
    revert h57
    unfold ka
    cases cr z m0 m1 <;> simp
   rw [if_pos hin] at hI
   refine W.eP aa [] [] [] [] 7 (by kernel_rfl) (by kernel_rfl) rfl rfl ?_
   refine' aS (ev aa rfl) ?p_1 rfl rfl rfl (by kernel_rfl) rfl ?h_1
   case' h_1 => skip
   case p_1 => refine ⟨fun ha => (ae ha (by kernel_rfl)).elim, ?_⟩ <;> intro ha <;> first | exact ⟨ev aa rfl, fun h => nomatch h⟩ | exact (ae ha (by kernel_rfl)).elim
   refine' aS (ev aa rfl) ?p_2 rfl rfl rfl (by kernel_rfl) rfl ?h_2
   case' h_2 => skip
   case p_2 => refine ⟨fun ha => (ae ha (by kernel_rfl)).elim, ?_⟩ <;> intro ha <;> first | exact ⟨ev aa rfl, fun h => nomatch h⟩ | exact (ae ha (by kernel_rfl)).elim
   refine' aS (ev aa rfl) ?p_3 rfl rfl rfl (by kernel_rfl) rfl ?h_3
   case' h_3 => skip
   case p_3 => refine ⟨fun ha => (ae ha (by kernel_rfl)).elim, ?_⟩ <;> intro ha <;> first | exact ⟨ev aa rfl, fun h => nomatch h⟩ | exact (ae ha (by kernel_rfl)).elim
   refine' aS (ab rfl rfl rfl hpx rfl) ?p_4 rfl rfl rfl (by kernel_rfl) rfl ?h_4
   case' h_4 => skip
   case p_4 => refine ⟨fun ha => (ae ha (by kernel_rfl)).elim, ?_⟩ <;> intro ha <;> first | exact ⟨ab rfl rfl rfl hpx rfl, fun h => nomatch h⟩ | exact (ae ha (by kernel_rfl)).elim
   refine' aS (ev aa rfl) ?p_5 rfl rfl rfl (by kernel_rfl) rfl ?h_5
   case' h_5 => skip
   case p_5 => refine ⟨fun ha => (ae ha (by kernel_rfl)).elim, ?_⟩ <;> intro ha <;> first | exact ⟨ev aa rfl, fun h => nomatch h⟩ | exact ⟨cE aa rfl rfl rfl rfl, fun h => nomatch h⟩ | exact ⟨cC aa rfl rfl rfl rfl rfl, fun h => nomatch h⟩ | exact (ae ha (by kernel_rfl)).elim
   refine' aS (build aa rfl rfl rfl rfl) ?p_6 rfl rfl rfl (by kernel_rfl) rfl ?h_6
   case' h_6 => skip
   case p_6 => refine ⟨fun ha => (ae ha (by kernel_rfl)).elim, ?_⟩ <;> intro ha <;> first | exact ⟨build aa rfl rfl rfl rfl, fun h => nomatch h⟩ | exact (ae ha (by kernel_rfl)).elim
   refine' aS (aE aa rfl rfl rfl rfl rfl rfl rfl rfl rfl) ?p_7 rfl rfl rfl (by kernel_rfl) rfl ?h_7
   case' h_7 => skip
   case p_7 => refine ⟨fun ha => (ae ha (by kernel_rfl)).elim, ?_⟩ <;> intro ha <;> first | exact ⟨aE aa rfl rfl rfl rfl rfl rfl rfl rfl rfl, fun h => nomatch h⟩ | exact (ae ha (by kernel_rfl)).elim
   refine CD.nil ?_ rfl
   refine gU (es2 := [(mZ left m0 m1 z).c]) (r := (L ++ [mZ left m0 m1 z]).map Pc.c) aa rfl rfl rfl rfl rfl rfl rfl rfl rfl rfl (gq _ _) (by rw [gq]; exact bQ _) (by show ((L.map Pc.c).length + 1) * 40 ≤ _; rw [List.length_map]; omega) rfl ?_
   refine pE rfl (WO.nil (a7 (qs (W.region ?_))))
   iterate 2 refine pE rfl ?_
   refine WO.nil ?_
   have hbr := hin
   (have _hb : ka z m0 m1 = true := hbr; refine W.aX [0, 3] ⟨(i + 1, L ++ [mZ left m0 m1 z]), ?_⟩ ?_ rfl ?_ ⟨rfl, rfl, rfl, rfl, rfl, rfl, rfl, rfl, rfl, rfl, rfl, rfl, trivial⟩ ?_ trivial rfl)
   · exact ⟨hlt, (by first | (rw [List.length_append]; simp; omega) | omega), (by first | exact hI | (rw [List.append_assoc]; exact hI))⟩
   · dsimp only; omega
   · repeat' first | exact trivial | refine ⟨rfl, ?_⟩ | refine ⟨aF (by assumption) (by assumption), ?_⟩
   repeat' first | exact trivial | refine ⟨rfl, ?_⟩
  have hin : ka z m0 m1 = false := by
   revert h57
   unfold ka
   cases cr z m0 m1 <;> simp
  rw [if_neg (by simp [hin])] at hI
  refine W.skip (a7 (qs (W.region ?_)))
  iterate 2 refine pE rfl ?_
  refine WO.nil ?_
  have hbr := hin
  (have _hb : ka z m0 m1 = false := hbr; refine W.aX [0, 1] ⟨(i + 1, L), ?_⟩ ?_ rfl ?_ ⟨rfl, rfl, rfl, rfl, rfl, rfl, rfl, rfl, rfl, rfl, rfl, rfl, trivial⟩ ?_ trivial rfl)
  · exact ⟨hlt, (by first | (rw [List.length_append]; simp; omega) | omega), (by first | exact hI | (rw [List.append_assoc]; exact hI))⟩
  · dsimp only; omega
  · repeat' first | exact trivial | refine ⟨rfl, ?_⟩ | refine ⟨aF (by assumption) (by assumption), ?_⟩
  repeat' first | exact trivial | refine ⟨rfl, ?_⟩
 rw [hd] at hI
 simp only [pieces, List.append_nil] at hI
 rw [← hI] at hpos hsrt
 have hL2 : L.length ≤ 20000 := by omega
 have hst : dK bj L = srt := hsrt
 have hsl0 : srt.length = L.length := by rw [← hst]; exact (fX bj L).len
 have hkey : ∀ p ∈ J, p.key.length ≤ 16 := by
  have h1 : ∀ p ∈ srt, p.key.length = left.length := fun p hp => by
   have h2 : p ∈ L := by rw [← hst] at hp; exact (fX bj L).perm.mem_iff.1 hp
   rw [hI] at h2
   exact iO left m0 m1 a.rows p h2
  intro p hp
  rw [← hJJ] at hp
  have := jI srt [] h1 (fun p hp => nomatch hp) p hp
  omega
 have hJn : J.length ≤ 20000 := by rw [← hJJ]; have := jC srt []; simp at this; omega
 refine W.exit (aN (aR (aP (qs (W.seq ?_)))))
 have hlp : 0 < (L.map Pc.c).length := by rw [List.length_map]; exact hpos
 refine vO 10 rfl rfl rfl hlp rfl (fun cap13 k13 => ?_)
 have hsl := px L k13 cap13 (by omega)
 have hll2 : (L.map Pc.c).length = L.length := List.length_map _
 rw [← hll2, hst] at hsl
 refine W.region (pE rfl (fT 2 rfl rfl rfl rfl hsl rfl ?_))
 refine WO.nil (qs ?_)
 iterate 2 refine W.seq ?_
 refine pS (sz := 3) 10 rfl rfl rfl (by rw [List.length_map, List.length_map, hsl0]) (bQ _) rfl rfl ?_
 refine W.region ?_
 iterate 3 refine pE rfl ?_
 refine WO.nil (qs (W.block (W.mh (d := 11) rfl rfl ?_)))
 have hsm : srt.length ≤ maxLen := by simp only [maxLen]; omega
 refine W.aV (ι := {x : Nat × List Pc // match x with | (j, out) => j ≤ srt.length ∧ out.length ≤ j ∧ eA out (srt.drop j) = J})
  (fun x => match x.1 with | (j, out) => [(4, .ptr 0 0), (11, .xs 1 (out.map Pc.c)), (71, .d (.v (.int .i64 ((j : Nat) : Int))))]) [(6, _), (69, _), (70, _)]
  (fun x => match x.1 with | (j, out) => [(0, [.d (.v (.slice none 0 0)), .d (.v (.slice none 0 0))])]) [] [1] 2 (fun x => match x.1 with | (j, out) => srt.length - j)
  [0, 4] ⟨(0, []), ?_⟩ rfl ?_ ⟨rfl, rfl, rfl, rfl, rfl, rfl, trivial⟩ ?_ trivial rfl ?_
 · exact ⟨Nat.zero_le _, Nat.zero_le _, hJJ⟩
 · repeat' first | exact trivial | refine ⟨rfl, ?_⟩
 · repeat' first | exact trivial | refine ⟨rfl, ?_⟩
 rintro ⟨⟨j, out⟩, hk, hn2, hR⟩
 show W _ _ _ _ _ ⟨[(4, .ptr 0 0), (11, .xs 1 (out.map Pc.c)), (71, .d (.v (.int .i64 ((j : Nat) : Int)))), (6, _), (69, _), (70, _)], [(0, [.d (.v (.slice none 0 0)), .d (.v (.slice none 0 0))])], [1], 2⟩
 refine W.seq (W.region (pE rfl (WO.nil (qs (W.seq (bc (l := srt) (k := j) rfl (by simp [Ex.aD, aK]) hk (fun p hx hd hlt => ?_) (fun he hd => ?_)))))))
 ·
  rw [hd] at hR
  simp only [eA] at hR
  have hsub : IntKind.i64.wrap (((out.map Pc.c).length : Int) - 1) = ((out.length : Int) - 1) := by rw [List.length_map, wrap64 (by omega)]
  have hla : ∀ h : decide (0 ≤ (out.length : Int) - 1) = true, 0 < out.length ∧ 0 ≤ (out.length : Int) - 1 ∧ (out.map Pc.c)[((out.length : Int) - 1).toNat]? = some (cA out).c := by
   intro h
   have h0 : 0 < out.length := by simp at h; omega
   refine ⟨h0, by omega, ?_⟩
   rw [show ((out.length : Int) - 1).toNat = out.length - 1 by omega]
   exact cQ (by omega)
  refine W.skip (qs (W.seq (W.block (W.seq (W.region (pu (indexAddr aa rfl rfl rfl rfl rfl rfl (Int.natCast_nonneg _) (aH hx) rfl) rfl ?_))))))
  refine pE rfl (aW aa rfl rfl rfl (aM aa rfl rfl rfl rfl rfl rfl rfl rfl (WO.nil (qs (W.seq (W.region (pE rfl (pu (sk aa rfl rfl rfl rfl) rfl ?_))))))))
  refine pu (bF (ev aa rfl) hsub) rfl ?_
  refine pE rfl (WO.nil (qs (W.seq ?_)))
  apply jb aa; (case hb => rfl); (case hB => kernel_rfl)
  ·
   iterate 3 refine ak (ev aa rfl) rfl ?_
   apply gg; (case hj => rfl); (case hl => rfl)
   ·
    intro g80
    refine aO rfl rfl (ev aa rfl) rfl ?_
    refine aO rfl rfl (ev aa rfl) rfl ?_
    refine aO rfl rfl (eH (l := (cA out).c) aa rfl rfl rfl rfl rfl rfl (hla g80).2.1 (hla g80).2.2 rfl) rfl ?_
    refine aO rfl rfl (cP aa rfl rfl rfl rfl rfl rfl) rfl ?_
    refine aO rfl rfl (iv aa rfl rfl rfl) rfl ?_
    refine aO rfl rfl (ev aa rfl) rfl ?_
    refine aO rfl rfl (ev aa rfl) rfl ?_
    refine aO rfl rfl (ab rfl rfl rfl (lQ (cA out).key p.key) rfl) rfl ?_
    iterate 2 refine ak (ev aa rfl) rfl ?_
    apply gg; (case hj => rfl); (case hl => rfl)
    ·
     intro g90
     refine aO rfl rfl (ev aa rfl) rfl ?_
     refine aO rfl rfl (ev aa rfl) rfl ?_
     refine aO rfl rfl (ev aa rfl) rfl ?_
     refine aO rfl rfl (ev aa rfl) rfl ?_
     refine aO rfl rfl (ev aa rfl) rfl ?_
     refine aO rfl rfl (eH (l := (cA out).c) aa rfl rfl rfl rfl rfl rfl (hla g80).2.1 (hla g80).2.2 rfl) rfl ?_
     refine aO rfl rfl (cP aa rfl rfl rfl rfl rfl rfl) rfl ?_
     refine aO rfl rfl (cP aa rfl rfl rfl rfl rfl rfl) rfl ?_
     refine aO rfl rfl (iv aa rfl rfl rfl) rfl ?_
     refine aO rfl rfl (ev aa rfl) rfl ?_
     refine ak (ev aa rfl) rfl ?_
     refine CH.nil ?_
     refine aB rfl rfl rfl
    intro g90
    iterate 10 refine bD rfl rfl rfl rfl ?_
    refine ak (ev aa rfl) rfl ?_
    refine CH.nil ?_
    refine aB rfl rfl rfl
   intro g80
   iterate 8 refine bD rfl rfl rfl rfl ?_
   iterate 2 refine ak (ev aa rfl) rfl ?_
   iterate 10 refine bD rfl rfl rfl rfl ?_
   refine ak (ev aa rfl) rfl ?_
   refine CH.nil ?_
   refine aB rfl rfl rfl
  refine qs (ao rfl (fun h101 => ?_) (fun h101 => ?_))
  ·
   have htp : dn out p = true := by
    revert h101
    unfold dn
    by_cases q : 0 < out.length
    ·
     have q1 : 0 ≤ (out.length : Int) - 1 := by omega
     have q2 : 1 ≤ (out.length : Int) := by omega
     simp [q, q1, q2]
    have q1 : ¬ (0 ≤ (out.length : Int) - 1) := by omega
    have q2 : ¬ (1 ≤ (out.length : Int)) := by omega
    simp [q, q1, q2]
   rw [if_pos htp] at hR
   have h0 : 0 < out.length := by unfold dn at htp; simp at htp; exact htp.1
   have hk0 : 0 ≤ (out.length : Int) - 1 := by omega
   have hat : (out.map Pc.c)[((out.length : Int) - 1).toNat]? = some (cA out).c := by
    rw [show ((out.length : Int) - 1).toNat = out.length - 1 by omega]
    exact cQ (by omega)
   have hset : (out.map Pc.c).set ((out.length : Int) - 1).toNat (jM (cA out) p).c = (out.set (out.length - 1) (jM (cA out) p)).map Pc.c := by
    rw [show ((out.length : Int) - 1).toNat = out.length - 1 by omega]
    exact fN
   refine W.eP aa [] [] [] [] 12 (by kernel_rfl) (by kernel_rfl) rfl rfl ?_
   refine' aS (ev aa rfl) ?p_8 rfl rfl rfl (by kernel_rfl) rfl ?h_8
   case' h_8 => skip
   case p_8 => refine ⟨fun ha => (ae ha (by kernel_rfl)).elim, ?_⟩ <;> intro ha <;> first | exact ⟨ev aa rfl, fun h => nomatch h⟩ | exact (ae ha (by kernel_rfl)).elim
   refine' aS (ev aa rfl) ?p_9 rfl rfl rfl (by kernel_rfl) rfl ?h_9
   case' h_9 => skip
   case p_9 => refine ⟨fun ha => (ae ha (by kernel_rfl)).elim, ?_⟩ <;> intro ha <;> first | exact ⟨ev aa rfl, fun h => nomatch h⟩ | exact (ae ha (by kernel_rfl)).elim
   refine' aS (ev aa rfl) ?p_10 rfl rfl rfl (by kernel_rfl) rfl ?h_10
   case' h_10 => skip
   case p_10 => refine ⟨fun ha => (ae ha (by kernel_rfl)).elim, ?_⟩ <;> intro ha <;> first | exact ⟨ev aa rfl, fun h => nomatch h⟩ | exact (ae ha (by kernel_rfl)).elim
   refine' aS (ev aa rfl) ?p_11 rfl rfl rfl (by kernel_rfl) rfl ?h_11
   case' h_11 => skip
   case p_11 => refine ⟨fun ha => (ae ha (by kernel_rfl)).elim, ?_⟩ <;> intro ha <;> first | exact ⟨ev aa rfl, fun h => nomatch h⟩ | exact (ae ha (by kernel_rfl)).elim
   refine' aS (eH (l := (cA out).c) aa rfl rfl rfl rfl rfl rfl hk0 hat rfl) ?p_12 rfl rfl rfl (by kernel_rfl) rfl ?h_12
   case' h_12 => skip
   case p_12 => refine ⟨fun ha => (ae ha (by kernel_rfl)).elim, ?_⟩ <;> intro ha <;> first | exact ⟨eH (l := (cA out).c) aa rfl rfl rfl rfl rfl rfl hk0 hat rfl, fun h => nomatch h⟩ | exact (ae ha (by kernel_rfl)).elim
   refine' aS (cP aa rfl rfl rfl rfl rfl rfl) ?p_13 rfl rfl rfl (by kernel_rfl) rfl ?h_13
   case' h_13 => skip
   case p_13 => refine ⟨fun ha => (ae ha (by kernel_rfl)).elim, ?_⟩ <;> intro ha <;> first | exact ⟨cP aa rfl rfl rfl rfl rfl rfl, fun h => nomatch h⟩ | exact (ae ha (by kernel_rfl)).elim
   refine' aS (cP aa rfl rfl rfl rfl rfl rfl) ?p_14 rfl rfl rfl (by kernel_rfl) rfl ?h_14
   case' h_14 => skip
   case p_14 => refine ⟨fun ha => (ae ha (by kernel_rfl)).elim, ?_⟩ <;> intro ha <;> first | exact ⟨cP aa rfl rfl rfl rfl rfl rfl, fun h => nomatch h⟩ | exact (ae ha (by kernel_rfl)).elim
   refine' aS (iv aa rfl rfl rfl) ?p_15 rfl rfl rfl (by kernel_rfl) rfl ?h_15
   case' h_15 => skip
   case p_15 => refine ⟨fun ha => (ae ha (by kernel_rfl)).elim, ?_⟩ <;> intro ha <;> first | exact ⟨iv aa rfl rfl rfl, fun h => nomatch h⟩ | exact (ae ha (by kernel_rfl)).elim
   refine' aS (ev aa rfl) ?p_16 rfl rfl rfl (by kernel_rfl) rfl ?h_16
   case' h_16 => skip
   case p_16 => refine ⟨fun ha => (ae ha (by kernel_rfl)).elim, ?_⟩ <;> intro ha <;> first | exact ⟨ev aa rfl, fun h => nomatch h⟩ | exact (ae ha (by kernel_rfl)).elim
   refine' aS (ev aa rfl) ?p_17 rfl rfl rfl (by kernel_rfl) rfl ?h_17
   case' h_17 => skip
   case p_17 => refine ⟨fun ha => (ae ha (by kernel_rfl)).elim, ?_⟩ <;> intro ha <;> first | exact ⟨ev aa rfl, fun h => nomatch h⟩ | exact (ae ha (by kernel_rfl)).elim
   refine' aS (ev aa rfl) ?p_18 rfl rfl rfl (by kernel_rfl) rfl ?h_18
   case' h_18 => skip
   case p_18 => refine ⟨fun ha => (ae ha (by kernel_rfl)).elim, ?_⟩ <;> intro ha <;> first | exact ⟨ev aa rfl, fun h => nomatch h⟩ | exact ⟨cE aa rfl rfl rfl rfl, fun h => nomatch h⟩ | exact ⟨cC aa rfl rfl rfl rfl rfl, fun h => nomatch h⟩ | exact (ae ha (by kernel_rfl)).elim
   refine' aS (ev aa rfl) ?p_19 rfl rfl rfl (by kernel_rfl) rfl ?h_19
   case' h_19 => skip
   case p_19 => refine ⟨fun ha => (ae ha (by kernel_rfl)).elim, ?_⟩ <;> intro ha <;> first | exact ⟨ev aa rfl, fun h => nomatch h⟩ | exact (ae ha (by kernel_rfl)).elim
   refine CD.nil ?_ rfl
   refine pu (eH (l := (cA out).c) aa rfl rfl rfl rfl rfl rfl hk0 hat rfl) rfl ?_
   refine pu (cP aa rfl rfl rfl rfl rfl rfl) rfl ?_
   refine pu (cP aa rfl rfl rfl rfl rfl rfl) rfl ?_
   refine nN aa 11 rfl rfl rfl rfl hat rfl rfl rfl rfl rfl rfl hset rfl ?_
   refine WO.nil (a7 (qs (W.region ?_)))
   iterate 2 refine pE rfl ?_
   refine WO.nil ?_
   have hbr := htp
   (have _hb : dn out p = true := hbr; refine W.aX [0, 3] ⟨(j + 1, out.set (out.length - 1) (jM (cA out) p)), ?_⟩ ?_ rfl ?_ ⟨rfl, rfl, rfl, rfl, rfl, rfl, trivial⟩ ?_ trivial rfl)
   · exact ⟨hlt, (by first | (rw [List.length_append]; simp; omega) | (rw [List.length_set]; omega)), hR⟩
   · dsimp only; omega
   · repeat' first | exact trivial | refine ⟨rfl, ?_⟩ | refine ⟨aF (by assumption) (by assumption), ?_⟩
   repeat' first | exact trivial | refine ⟨rfl, ?_⟩
  have htp : dn out p = false := by
   revert h101
   unfold dn
   by_cases q : 0 < out.length
   ·
    have q1 : 0 ≤ (out.length : Int) - 1 := by omega
    have q2 : 1 ≤ (out.length : Int) := by omega
    simp [q, q1, q2]
   have q1 : ¬ (0 ≤ (out.length : Int) - 1) := by omega
   have q2 : ¬ (1 ≤ (out.length : Int)) := by omega
   simp [q, q1, q2]
  rw [if_neg (by simp [htp])] at hR
  refine W.region (pE rfl (pE rfl (pu (aE aa rfl rfl rfl rfl rfl rfl rfl rfl rfl) rfl ?_)))
  refine gU (es2 := [p.c]) (r := (out ++ [p]).map Pc.c) aa rfl rfl rfl rfl rfl rfl rfl rfl rfl rfl (gq _ _) (by rw [gq]; exact bQ _) (by show ((out.map Pc.c).length + 1) * 40 ≤ _; rw [List.length_map]; omega) rfl ?_
  refine pE rfl (WO.nil (a7 (qs (W.region ?_))))
  iterate 2 refine pE rfl ?_
  refine WO.nil ?_
  have hbr := htp
  (have _hb : dn out p = false := hbr; refine W.aX [0, 3] ⟨(j + 1, out ++ [p]), ?_⟩ ?_ rfl ?_ ⟨rfl, rfl, rfl, rfl, rfl, rfl, trivial⟩ ?_ trivial rfl)
  · exact ⟨hlt, (by first | (rw [List.length_append]; simp; omega) | (rw [List.length_set]; omega)), hR⟩
  · dsimp only; omega
  · repeat' first | exact trivial | refine ⟨rfl, ?_⟩ | refine ⟨aF (by assumption) (by assumption), ?_⟩
  repeat' first | exact trivial | refine ⟨rfl, ?_⟩
 rw [hd] at hR
 simp only [eA] at hR
 refine W.exit (aN (aR (aP (qs (W.seq (oA 11 rfl rfl rfl rfl ?_))))))
 refine sg 11 rfl rfl ?_
 refine W.region (pE rfl (pu (build aa rfl rfl rfl rfl) rfl ?_))
 refine aW aa rfl rfl rfl (aM aa rfl rfl rfl rfl rfl rfl rfl rfl (WO.nil (qs ?_)))
 iterate 2 refine W.seq ?_
 refine W.region ?_
 iterate 3 refine pE rfl ?_
 refine WO.nil (qs (W.block (ew 3 1 rfl rfl rfl ?_)))
 refine W.len (t := 124) rfl rfl (fun hlen => ?_)
 try simp only [List.length_map, Ex.aD] at hlen
 refine W.aV (ι := {x : Nat × List (List aA) // match x with | (k, rows) => k ≤ out.length ∧ rows = (out.take k).map jn})
  (fun x => match x.1 with | (k, rows) => [(4, .ptr 0 0), (19, .ptr 1 0), (126, .d (.v (.int .i64 ((k : Nat) : Int))))]) [(124, _), (125, _)]
  (fun x => match x.1 with | (k, rows) => [(0, [.d (.v (.slice none 0 0)), .d (.v (.slice none 0 0))]), (1, [.d (.sl (CT0.1.map Col.c)), .own 2 (rows.map rc)])]) [] [2] 3 (fun x => match x.1 with | (k, rows) => out.length - k)
  [0, 3, 4] ⟨(0, []), ?_⟩ rfl ?_ ⟨rfl, rfl, rfl, rfl, trivial⟩ ?_ trivial rfl ?_
 · exact ⟨Nat.zero_le _, rfl⟩
 · repeat' first | exact trivial | refine ⟨rfl, ?_⟩
 · repeat' first | exact trivial | refine ⟨rfl, ?_⟩
 rintro ⟨⟨k, rows⟩, hk, hW⟩
 show W _ _ _ _ _ ⟨[(4, .ptr 0 0), (19, .ptr 1 0), (126, .d (.v (.int .i64 ((k : Nat) : Int)))), (124, _), (125, _)], [(0, [.d (.v (.slice none 0 0)), .d (.v (.slice none 0 0))]), (1, [.d (.sl (CT0.1.map Col.c)), .own 2 (rows.map rc)])], [2], 3⟩
 refine W.seq (W.region (pE rfl (WO.nil (qs (W.seq (bc (l := out) (k := k) rfl (by simp [Ex.aD, aK]) hk (fun q hx hd hlt => ?_) (fun he hd => ?_)))))))
 ·
  have hq16 : q.key.length ≤ 16 := hkey q (by rw [← hR]; exact List.mem_of_getElem? hx)
  have hrl : rows.length ≤ 20000 := by rw [hW, List.length_map, List.length_take]; rw [← hR] at hJn; omega
  have hrow : q.key ++ [⟨2, q.fr, B #[]⟩, ⟨2, q.to, B #[]⟩] = jn q := rfl
  refine W.skip (qs (W.seq (W.block (W.seq (W.region (pu (indexAddr aa rfl rfl rfl rfl rfl rfl (Int.natCast_nonneg _) (aH hx) rfl) rfl ?_))))))
  refine pE rfl (aW aa rfl rfl rfl (aM aa rfl rfl rfl rfl rfl rfl rfl rfl (WO.nil (qs ?_))))
  refine' W.eP aa [_, _] [[4, 2], [5, 2], [6, 5]] [5, 6, 7] [4, 14] 16 (by kernel_rfl) (by kernel_rfl) rfl rfl ?hL_20
  case' hL_20 => skip
  refine' aS (ev aa rfl) ?p_21 rfl rfl rfl (by kernel_rfl) rfl ?h_21
  case' h_21 => skip
  refine' aS (ev aa rfl) ?p_22 rfl rfl rfl (by kernel_rfl) rfl ?h_22
  case' h_22 => skip
  refine' aS (ev aa rfl) ?p_23 rfl rfl rfl (by kernel_rfl) rfl ?h_23
  case' h_23 => skip
  refine' aS (ev aa rfl) ?p_24 rfl rfl rfl (by kernel_rfl) rfl ?h_24
  case' h_24 => skip
  refine' kW ?x_25 rfl rfl rfl (by kernel_rfl) (fun h => (ae h (by kernel_rfl)).elim) rfl ?h_25
  case x_25 =>
   intro b hb g; cases b
   · exact (ae hb (by kernel_rfl)).elim
   refine e5 rfl rfl rfl (jK q.key (by omega)) (by rfl) rfl rfl ?_
   refine WO.nil ?_
   refine' iJ rfl ?_ ?_ ?_ ?_
   all_goals try exact rfl
  case' h_25 => skip
  refine' aS (ev aa rfl) ?p_26 rfl rfl rfl (by kernel_rfl) rfl ?h_26
  case' h_26 => skip
  refine' aS (ev aa rfl) ?p_27 rfl rfl rfl (by kernel_rfl) rfl ?h_27
  case' h_27 => skip
  refine' aS (ev aa rfl) ?p_28 rfl rfl rfl (by kernel_rfl) rfl ?h_28
  case' h_28 => skip
  refine' aS (build aa rfl rfl rfl rfl) ?p_29 rfl rfl rfl (by kernel_rfl) rfl ?h_29
  case' h_29 => skip
  refine' aS (ev aa rfl) ?p_30 rfl rfl rfl (by kernel_rfl) rfl ?h_30
  case' h_30 => skip
  refine' aS (ev aa rfl) ?p_31 rfl rfl rfl (by kernel_rfl) rfl ?h_31
  case' h_31 => skip
  refine' aS (ev aa rfl) ?p_32 rfl rfl rfl (by kernel_rfl) rfl ?h_32
  case' h_32 => skip
  refine' aS (build aa rfl rfl rfl rfl) ?p_33 rfl rfl rfl (by kernel_rfl) rfl ?h_33
  case' h_33 => skip
  refine' aS (aE aa rfl rfl rfl rfl rfl rfl rfl rfl rfl) ?p_34 rfl rfl rfl (by kernel_rfl) rfl ?h_34
  case' h_34 => skip
  refine' kW ?x_35 rfl rfl rfl (by kernel_rfl) (fun h => (ae h (by kernel_rfl)).elim) rfl ?h_35
  case x_35 =>
   intro b hb g; cases b
   · exact (ae hb (by kernel_rfl)).elim
   refine fh (fn := aA.c) (l := q.key) (l2 := [⟨2, q.fr, B #[]⟩, ⟨2, q.to, B #[]⟩]) aa rfl rfl rfl rfl rfl rfl rfl rfl rfl rfl (fun _ => rfl) (by show (q.key.length + 2) * 32 ≤ _; omega) ?_
   refine WO.nil ?_
   refine' iJ rfl ?_ ?_ ?_ ?_
   all_goals try exact rfl
  case' h_35 => skip
  case p_21 => refine ⟨fun ha => (ae ha (by kernel_rfl)).elim, ?_, fun ha => (ae ha (by kernel_rfl)).elim, ?_, fun ha => (ae ha (by kernel_rfl)).elim, ?_⟩ <;> intro ha <;> first | exact ⟨ev aa rfl, fun h => nomatch h⟩ | exact (ae ha (by kernel_rfl)).elim
  case p_22 => refine ⟨fun ha => (ae ha (by kernel_rfl)).elim, ?_, fun ha => (ae ha (by kernel_rfl)).elim, ?_, fun ha => (ae ha (by kernel_rfl)).elim, ?_⟩ <;> intro ha <;> first | exact ⟨ev aa rfl, fun h => nomatch h⟩ | exact ⟨cE aa rfl rfl rfl rfl, fun h => nomatch h⟩ | exact ⟨cC aa rfl rfl rfl rfl rfl, fun h => nomatch h⟩ | exact (ae ha (by kernel_rfl)).elim
  case p_23 => refine ⟨fun ha => (ae ha (by kernel_rfl)).elim, ?_, fun ha => (ae ha (by kernel_rfl)).elim, ?_, fun ha => (ae ha (by kernel_rfl)).elim, ?_⟩ <;> intro ha <;> first | exact ⟨ev aa rfl, fun h => nomatch h⟩ | exact (ae ha (by kernel_rfl)).elim
  case p_24 => refine ⟨fun ha => (ae ha (by kernel_rfl)).elim, ?_, fun ha => (ae ha (by kernel_rfl)).elim, ?_, fun ha => (ae ha (by kernel_rfl)).elim, ?_⟩ <;> intro ha <;> first | exact ⟨ev aa rfl, fun h => nomatch h⟩ | exact ⟨cE aa rfl rfl rfl rfl, fun h => nomatch h⟩ | exact ⟨cC aa rfl rfl rfl rfl rfl, fun h => nomatch h⟩ | exact (ae ha (by kernel_rfl)).elim
  case p_26 => refine ⟨fun ha => (ae ha (by kernel_rfl)).elim, ?_, fun ha => (ae ha (by kernel_rfl)).elim, ?_, fun ha => (ae ha (by kernel_rfl)).elim, ?_⟩ <;> intro ha <;> first | exact ⟨ev aa rfl, fun h => nomatch h⟩ | exact (ae ha (by kernel_rfl)).elim
  case p_27 => refine ⟨fun ha => (ae ha (by kernel_rfl)).elim, ?_, fun ha => (ae ha (by kernel_rfl)).elim, ?_, fun ha => (ae ha (by kernel_rfl)).elim, ?_⟩ <;> intro ha <;> first | exact ⟨ev aa rfl, fun h => nomatch h⟩ | exact (ae ha (by kernel_rfl)).elim
  case p_28 => refine ⟨fun ha => (ae ha (by kernel_rfl)).elim, ?_, fun ha => (ae ha (by kernel_rfl)).elim, ?_, fun ha => (ae ha (by kernel_rfl)).elim, ?_⟩ <;> intro ha <;> first | exact ⟨ev aa rfl, fun h => nomatch h⟩ | exact ⟨cE aa rfl rfl rfl rfl, fun h => nomatch h⟩ | exact ⟨cC aa rfl rfl rfl rfl rfl, fun h => nomatch h⟩ | exact (ae ha (by kernel_rfl)).elim
  case p_29 => refine ⟨fun ha => (ae ha (by kernel_rfl)).elim, ?_, fun ha => (ae ha (by kernel_rfl)).elim, ?_, fun ha => (ae ha (by kernel_rfl)).elim, ?_⟩ <;> intro ha <;> first | exact ⟨build aa rfl rfl rfl rfl, fun h => nomatch h⟩ | exact (ae ha (by kernel_rfl)).elim
  case p_30 => refine ⟨fun ha => (ae ha (by kernel_rfl)).elim, ?_, fun ha => (ae ha (by kernel_rfl)).elim, ?_, fun ha => (ae ha (by kernel_rfl)).elim, ?_⟩ <;> intro ha <;> first | exact ⟨ev aa rfl, fun h => nomatch h⟩ | exact (ae ha (by kernel_rfl)).elim
  case p_31 => refine ⟨fun ha => (ae ha (by kernel_rfl)).elim, ?_, fun ha => (ae ha (by kernel_rfl)).elim, ?_, fun ha => (ae ha (by kernel_rfl)).elim, ?_⟩ <;> intro ha <;> first | exact ⟨ev aa rfl, fun h => nomatch h⟩ | exact (ae ha (by kernel_rfl)).elim
  case p_32 => refine ⟨fun ha => (ae ha (by kernel_rfl)).elim, ?_, fun ha => (ae ha (by kernel_rfl)).elim, ?_, fun ha => (ae ha (by kernel_rfl)).elim, ?_⟩ <;> intro ha <;> first | exact ⟨ev aa rfl, fun h => nomatch h⟩ | exact ⟨cE aa rfl rfl rfl rfl, fun h => nomatch h⟩ | exact ⟨cC aa rfl rfl rfl rfl rfl, fun h => nomatch h⟩ | exact (ae ha (by kernel_rfl)).elim
  case p_33 => refine ⟨fun ha => (ae ha (by kernel_rfl)).elim, ?_, fun ha => (ae ha (by kernel_rfl)).elim, ?_, fun ha => (ae ha (by kernel_rfl)).elim, ?_⟩ <;> intro ha <;> first | exact ⟨build aa rfl rfl rfl rfl, fun h => nomatch h⟩ | exact (ae ha (by kernel_rfl)).elim
  case p_34 => refine ⟨fun ha => (ae ha (by kernel_rfl)).elim, ?_, fun ha => (ae ha (by kernel_rfl)).elim, ?_, fun ha => (ae ha (by kernel_rfl)).elim, ?_⟩ <;> intro ha <;> first | exact ⟨aE aa rfl rfl rfl rfl rfl rfl rfl rfl rfl, fun h => nomatch h⟩ | exact (ae ha (by kernel_rfl)).elim
  refine' aS (aE aa rfl rfl rfl rfl rfl rfl rfl rfl rfl) ?p_36 rfl rfl rfl (by kernel_rfl) rfl ?h_36
  case' h_36 => skip
  case p_36 => refine ⟨fun ha => (ae ha (by kernel_rfl)).elim, ?_, fun ha => (ae ha (by kernel_rfl)).elim, ?_, fun ha => (ae ha (by kernel_rfl)).elim, ?_⟩ <;> intro ha <;> first | exact ⟨aE aa rfl rfl rfl rfl rfl rfl rfl rfl rfl, fun h => nomatch h⟩ | exact (ae ha (by kernel_rfl)).elim
  refine CD.nil ?_ rfl
  refine cf (fn := rc) (a := jn q) aa rfl rfl rfl rfl rfl rfl rfl rfl rfl rfl (fun _ => rfl) (by show (rows.length + 1) * 24 ≤ _; omega) ?_
  refine pE rfl (aM aa rfl rfl rfl rfl rfl rfl rfl rfl (WO.nil (a7 (qs (W.region ?_)))))
  iterate 2 refine pE rfl ?_
  refine WO.nil (W.aX [0, 1, 6] ⟨(k + 1, rows ++ [jn q]), ?_⟩ ?_ rfl ?_ ⟨rfl, rfl, rfl, rfl, trivial⟩ ?_ trivial rfl)
  · exact ⟨hlt, by rw [hW, List.take_add_one, hx]; simp⟩
  · dsimp only; omega
  · repeat' first | exact trivial | refine ⟨rfl, ?_⟩ | refine ⟨aF (by assumption) (by assumption), ?_⟩
  repeat' first | exact trivial | refine ⟨rfl, ?_⟩
 have hg : b9 a on = (⟨CT0.1, rows⟩, 0) := by
  rw [hgo, hW, ← hR, List.take_of_length_le (by have := congrArg List.length hd; simp at this; omega)]
 refine W.exit (aN (aR (aP (qs (W.seq (W.region (pE rfl (aM aa rfl rfl rfl rfl rfl rfl rfl rfl (pE rfl (WO.nil (qs ?_)))))))))))
 try refine cn 1 0 rfl rfl rfl ?_
 try refine cn 1 1 rfl rfl rfl ?_
 refine W.ret (QV.aq aa trivial rfl ?_)
 (rw [hg]; rfl)
end Go.Proofs.Ytjenenllmjlimaa
namespace Go.Proofs.Ytjenenllmjlimaa
open Go.Ab Go.Tb
set_option maxRecDepth 10000
attribute [local irreducible] W WO Pu QS QB QL QF QV bK CH QE
theorem qq (a : bh) (on : List ByteArray) (hon : on.length ≤ 400) (hpos : pieces (kg a on) (bY a.cols aJ) (bY a.cols bA) a.rows = []) : aw Try.prog 12 [.ag a.c, .d (.sl (on.map sc))]
  (.tup [.ag (b9 a on).1.c, .d (.v (.int .i64 (b9 a on).2))]) 0 := by
 have hcol := ia 9 on [a] (by simp) hon
 rw [nV] at hcol
 obtain ⟨CT0, hCT⟩ : ∃ c, gx 9 on a = c := ⟨_, rfl⟩
 rw [hCT] at hcol
 obtain ⟨m0, hm0⟩ : ∃ i, bY a.cols aJ = i := ⟨_, rfl⟩
 obtain ⟨m1, hm1⟩ : ∃ i, bY a.cols bA = i := ⟨_, rfl⟩
 obtain ⟨left, hleft⟩ : ∃ l, kg a on = l := ⟨_, rfl⟩
 rw [hm0, hm1, hleft] at hpos
 refine aw.eW aa (n := 150) (rs := [.cell 4 25, .tmp 5]) Try.func12 (by kernel_rfl) rfl Try.ntmps12 Try.results12 rfl fun C hC hG => ?_
 refine W.seq (W.region (bL rfl rfl rfl (aW aa rfl rfl rfl (pE rfl (WO.nil (qs (W.seq (W.region (pE rfl (pE rfl (pu (aE aa rfl rfl rfl rfl rfl rfl rfl rfl rfl) rfl ?_)))))))))))
 refine pu (ab rfl rfl rfl hcol rfl) rfl ?_
 iterate 5 refine pE rfl ?_
 refine WO.nil (qs ?_)
 iterate 2 refine W.seq ?_
 refine W.region ?_
 iterate 2 refine pE rfl ?_
 refine WO.nil (qs (ao rfl (fun h30 => ?_) (fun h30 => ?_)))
 ·
  have he : CT0.2 ≠ 0 := by simpa using h30
  have hg : b9 a on = (fJ, CT0.2) := by unfold b9; rw [hCT, if_pos he]
  refine W.seq (W.region (pu (build aa rfl rfl rfl rfl) rfl ?_))
  refine pE rfl (aM aa rfl rfl rfl rfl rfl rfl rfl rfl (pE rfl (WO.nil (qs ?_))))
  try refine cn 1 0 rfl rfl rfl ?_
  try refine cn 1 1 rfl rfl rfl ?_
  refine W.ret (ah (QV.aq aa trivial rfl ?_))
  (rw [hg]; rfl)
 have he : CT0.2 = 0 := by simpa using h30
 have hok := uR (by rw [hCT]; exact he)
 have hoo := vV hok
 have haz := dw hok.ga
 have hol := hok.len
 have hra := eC hok.ga
 obtain ⟨srt, hsrt⟩ : ∃ s, dK bj (pieces left m0 m1 a.rows) = s := ⟨_, rfl⟩
 obtain ⟨J, hJJ⟩ : ∃ s, eA [] srt = s := ⟨_, rfl⟩
 have hgo : b9 a on = (⟨CT0.1, J.map jn⟩, 0) := by unfold b9 p9; rw [hCT, if_neg (by simp [he]), hleft, hm0, hm1, hsrt, hJJ]
 have hpl : aw Try.prog 23 [.ag a.c, .d (.sl (on.map sc))] (.d (.sl (left.map nc))) 0 := by
  have := dz a on (by omega)
  rw [eO (fun s hs => by obtain ⟨i, c, h1, _⟩ := hok.ons s hs; exact ⟨i, h1⟩)] at this
  rw [← hleft]; exact this
 have hpm : aw Try.prog 23 [.ag a.c, .d (.sl ([aJ, bA].map sc))] (.d (.sl ([m0, m1].map nc))) 0 := by
  have := dz a [aJ, bA] (by simp)
  rw [eO (fun s hs => by
   rcases List.mem_cons.1 hs with rfl | hs
   · obtain ⟨i, c, h1, _⟩ := hok.fr; exact ⟨i, h1⟩
   rcases List.mem_cons.1 hs with rfl | hs
   · obtain ⟨i, c, h1, _⟩ := hok.to; exact ⟨i, h1⟩
   cases hs)] at this
  rw [← hm0, ← hm1]; exact this
 have hll : left.length ≤ 16 := by rw [← hleft]; show (on.map _).length ≤ _; rw [List.length_map]; exact hol
 rw [show on.map (bY a.cols) = left from hleft, hm0, hm1] at hoo
 refine W.skip (qs (W.seq (W.bw aa (by kernel_rfl) ?_)))
 refine ak (ev aa rfl) rfl ?_
 refine ak (ev aa rfl) rfl ?_
 refine ak (ab rfl rfl rfl hpl rfl) rfl ?_
 refine ak (ev aa rfl) rfl ?_
 refine ak (aE aa rfl rfl rfl rfl rfl rfl rfl rfl rfl) rfl ?_
 refine ak (ab rfl rfl rfl hpm rfl) rfl ?_
 iterate 2 refine ak (ev aa rfl) rfl ?_
 refine CH.nil ?_
 refine qs (W.seq (W.region ?_))
 iterate 2 refine pE rfl ?_
 refine WO.nil (qs ?_)
 iterate 2 refine W.seq ?_
 refine W.region (pE rfl (pE rfl ?_))
 iterate 2 refine pE rfl ?_
 refine WO.nil (qs (W.block (W.mh (d := 10) rfl rfl ?_)))
 refine W.len (t := 40) rfl rfl (fun hlen => ?_)
 try simp only [List.length_map, Ex.aD] at hlen
 refine W.aV (ι := {x : Nat × List Pc // match x with | (i, L) => i ≤ a.rows.length ∧ L.length ≤ i ∧ L ++ pieces left m0 m1 (a.rows.drop i) = pieces left m0 m1 a.rows})
  (fun x => match x.1 with | (i, L) => [(4, .ptr 0 0), (10, .xs 1 (L.map Pc.c)), (42, .d (.v (.int .i64 ((i : Nat) : Int))))]) [(6, _), (8, _), (9, _), (11, _), (40, _), (41, _)]
  (fun x => match x.1 with | (i, L) => [(0, [.d (.v (.slice none 0 0)), .d (.v (.slice none 0 0))])]) [] [1] 2 (fun x => match x.1 with | (i, L) => a.rows.length - i)
  [1, 2] ⟨(0, []), ?_⟩ rfl ?_ ⟨rfl, rfl, rfl, rfl, rfl, rfl, rfl, rfl, rfl, rfl, rfl, rfl, trivial⟩ ?_ trivial rfl ?_
 · exact ⟨Nat.zero_le _, Nat.zero_le _, rfl⟩
 · repeat' first | exact trivial | refine ⟨rfl, ?_⟩
 · repeat' first | exact trivial | refine ⟨rfl, ?_⟩
 rintro ⟨⟨i, L⟩, hk, hn, hI⟩
 show W _ _ _ _ _ ⟨[(4, .ptr 0 0), (10, .xs 1 (L.map Pc.c)), (42, .d (.v (.int .i64 ((i : Nat) : Int)))), (6, _), (8, _), (9, _), (11, _), (40, _), (41, _)], [(0, [.d (.v (.slice none 0 0)), .d (.v (.slice none 0 0))])], [1], 2⟩
 refine W.seq (W.region (pE rfl (WO.nil (qs (W.seq (bc (l := a.rows) (k := i) rfl (by simp [Ex.aD, aK]) hk (fun z hx hd hlt => ?_) (fun he hd => ?_)))))))
 ·
  rw [hd] at hI
  simp only [pieces] at hI
  have hxm := List.mem_of_getElem? hx
  have hxl := (hra z hxm).1
  have hsx := l8 z m0 m1 (by rw [hxl]; exact hoo.m0) (by rw [hxl]; exact hoo.m1)
  have hpx := gr z left (by omega) (fun q hq => by rw [hxl]; exact hoo.left q hq)
  refine W.skip (qs (W.seq (W.block (W.seq (W.region (pu (indexAddr aa rfl rfl rfl rfl rfl rfl (Int.natCast_nonneg _) (aH hx) rfl) rfl ?_))))))
  refine pE rfl (pE rfl (WO.nil (qs (W.seq (W.region ?_)))))
  iterate 2 refine pE rfl ?_
  refine pu (ab rfl rfl rfl hsx rfl) rfl ?_
  iterate 3 refine pE rfl ?_
  refine aW aa rfl rfl rfl (aM aa rfl rfl rfl rfl rfl rfl rfl rfl (pE rfl (WO.nil (qs (W.seq ?_)))))
  apply aG; (case hb => rfl)
  ·
   iterate 2 refine pE rfl ?_
   apply dO; (case hj => rfl); (case hl => rfl)
   ·
    intro g53
    refine an rfl rfl (pE rfl (an rfl rfl (pE rfl (an rfl rfl ?_))))
    iterate 2 refine pE rfl ?_
    refine WO.nil (aB rfl rfl rfl)
   intro g53
   iterate 3 refine ax rfl rfl rfl rfl ?_
   refine pE rfl (WO.nil (aB rfl rfl rfl))
  refine qs (ao rfl (fun h57 => ?_) (fun h57 => ?_))
  ·
   have hin : ka z m0 m1 = true := by
    revert h57
    unfold ka
    cases cr z m0 m1 <;> simp
   rw [if_pos hin] at hI
   refine W.eP aa [] [] [] [] 7 (by kernel_rfl) (by kernel_rfl) rfl rfl ?_
   refine' aS (ev aa rfl) ?p_1 rfl rfl rfl (by kernel_rfl) rfl ?h_1
   case' h_1 => skip
   case p_1 => refine ⟨fun ha => (ae ha (by kernel_rfl)).elim, ?_⟩ <;> intro ha <;> first | exact ⟨ev aa rfl, fun h => nomatch h⟩ | exact (ae ha (by kernel_rfl)).elim
   refine' aS (ev aa rfl) ?p_2 rfl rfl rfl (by kernel_rfl) rfl ?h_2
   case' h_2 => skip
   case p_2 => refine ⟨fun ha => (ae ha (by kernel_rfl)).elim, ?_⟩ <;> intro ha <;> first | exact ⟨ev aa rfl, fun h => nomatch h⟩ | exact (ae ha (by kernel_rfl)).elim
   refine' aS (ev aa rfl) ?p_3 rfl rfl rfl (by kernel_rfl) rfl ?h_3
   case' h_3 => skip
   case p_3 => refine ⟨fun ha => (ae ha (by kernel_rfl)).elim, ?_⟩ <;> intro ha <;> first | exact ⟨ev aa rfl, fun h => nomatch h⟩ | exact (ae ha (by kernel_rfl)).elim
   refine' aS (ab rfl rfl rfl hpx rfl) ?p_4 rfl rfl rfl (by kernel_rfl) rfl ?h_4
   case' h_4 => skip
   case p_4 => refine ⟨fun ha => (ae ha (by kernel_rfl)).elim, ?_⟩ <;> intro ha <;> first | exact ⟨ab rfl rfl rfl hpx rfl, fun h => nomatch h⟩ | exact (ae ha (by kernel_rfl)).elim
   refine' aS (ev aa rfl) ?p_5 rfl rfl rfl (by kernel_rfl) rfl ?h_5
   case' h_5 => skip
   case p_5 => refine ⟨fun ha => (ae ha (by kernel_rfl)).elim, ?_⟩ <;> intro ha <;> first | exact ⟨ev aa rfl, fun h => nomatch h⟩ | exact ⟨cE aa rfl rfl rfl rfl, fun h => nomatch h⟩ | exact ⟨cC aa rfl rfl rfl rfl rfl, fun h => nomatch h⟩ | exact (ae ha (by kernel_rfl)).elim
   refine' aS (build aa rfl rfl rfl rfl) ?p_6 rfl rfl rfl (by kernel_rfl) rfl ?h_6
   case' h_6 => skip
   case p_6 => refine ⟨fun ha => (ae ha (by kernel_rfl)).elim, ?_⟩ <;> intro ha <;> first | exact ⟨build aa rfl rfl rfl rfl, fun h => nomatch h⟩ | exact (ae ha (by kernel_rfl)).elim
   refine' aS (aE aa rfl rfl rfl rfl rfl rfl rfl rfl rfl) ?p_7 rfl rfl rfl (by kernel_rfl) rfl ?h_7
   case' h_7 => skip
   case p_7 => refine ⟨fun ha => (ae ha (by kernel_rfl)).elim, ?_⟩ <;> intro ha <;> first | exact ⟨aE aa rfl rfl rfl rfl rfl rfl rfl rfl rfl, fun h => nomatch h⟩ | exact (ae ha (by kernel_rfl)).elim
   refine CD.nil ?_ rfl
   refine gU (es2 := [(mZ left m0 m1 z).c]) (r := (L ++ [mZ left m0 m1 z]).map Pc.c) aa rfl rfl rfl rfl rfl rfl rfl rfl rfl rfl (gq _ _) (by rw [gq]; exact bQ _) (by show ((L.map Pc.c).length + 1) * 40 ≤ _; rw [List.length_map]; omega) rfl ?_
   refine pE rfl (WO.nil (a7 (qs (W.region ?_))))
   iterate 2 refine pE rfl ?_
   refine WO.nil ?_
   have hbr := hin
   (have _hb : ka z m0 m1 = true := hbr; refine W.aX [0, 3] ⟨(i + 1, L ++ [mZ left m0 m1 z]), ?_⟩ ?_ rfl ?_ ⟨rfl, rfl, rfl, rfl, rfl, rfl, rfl, rfl, rfl, rfl, rfl, rfl, trivial⟩ ?_ trivial rfl)
   · exact ⟨hlt, (by first | (rw [List.length_append]; simp; omega) | omega), (by first | exact hI | (rw [List.append_assoc]; exact hI))⟩
   · dsimp only; omega
   · repeat' first | exact trivial | refine ⟨rfl, ?_⟩ | refine ⟨aF (by assumption) (by assumption), ?_⟩
   repeat' first | exact trivial | refine ⟨rfl, ?_⟩
  have hin : ka z m0 m1 = false := by
   revert h57
   unfold ka
   cases cr z m0 m1 <;> simp
  rw [if_neg (by simp [hin])] at hI
  refine W.skip (a7 (qs (W.region ?_)))
  iterate 2 refine pE rfl ?_
  refine WO.nil ?_
  have hbr := hin
  (have _hb : ka z m0 m1 = false := hbr; refine W.aX [0, 1] ⟨(i + 1, L), ?_⟩ ?_ rfl ?_ ⟨rfl, rfl, rfl, rfl, rfl, rfl, rfl, rfl, rfl, rfl, rfl, rfl, trivial⟩ ?_ trivial rfl)
  · exact ⟨hlt, (by first | (rw [List.length_append]; simp; omega) | omega), (by first | exact hI | (rw [List.append_assoc]; exact hI))⟩
  · dsimp only; omega
  · repeat' first | exact trivial | refine ⟨rfl, ?_⟩ | refine ⟨aF (by assumption) (by assumption), ?_⟩
  repeat' first | exact trivial | refine ⟨rfl, ?_⟩
 rw [hd] at hI
 simp only [pieces, List.append_nil] at hI
 rw [← hI] at hpos hsrt
 have hL2 : L.length ≤ 20000 := by omega
 have hst : dK bj L = srt := hsrt
 have hsl0 : srt.length = L.length := by rw [← hst]; exact (fX bj L).len
 have hkey : ∀ p ∈ J, p.key.length ≤ 16 := by
  have h1 : ∀ p ∈ srt, p.key.length = left.length := fun p hp => by
   have h2 : p ∈ L := by rw [← hst] at hp; exact (fX bj L).perm.mem_iff.1 hp
   rw [hI] at h2
   exact iO left m0 m1 a.rows p h2
  intro p hp
  rw [← hJJ] at hp
  have := jI srt [] h1 (fun p hp => nomatch hp) p hp
  omega
 have hJn : J.length ≤ 20000 := by rw [← hJJ]; have := jC srt []; simp at this; omega
 refine W.exit (aN (aR (aP (qs (W.seq ?_)))))
 have hL0 : L = [] := hpos
 subst hL0
 have hs0 : srt = [] := List.length_eq_zero_iff.1 hsl0
 subst hs0
 refine oA 10 rfl rfl rfl rfl ?_
 refine sg 10 rfl rfl ?_
 refine W.region (pE rfl (pu (ab rfl rfl rfl oo rfl) rfl ?_))
 refine WO.nil (qs ?_)
 iterate 2 refine W.seq ?_
 refine W.region ?_
 iterate 3 refine pE rfl ?_
 refine WO.nil (qs (W.block (W.mh (d := 11) rfl rfl ?_)))
 have hsm : ([] : List Pc).length ≤ maxLen := by simp only [maxLen]; omega
 refine W.aV (ι := {x : Nat × List Pc // match x with | (j, out) => j ≤ ([] : List Pc).length ∧ out.length ≤ j ∧ eA out (([] : List Pc).drop j) = J})
  (fun x => match x.1 with | (j, out) => [(4, .ptr 0 0), (11, .xs 1 (out.map Pc.c)), (71, .d (.v (.int .i64 ((j : Nat) : Int))))]) [(6, _), (69, _), (70, _)]
  (fun x => match x.1 with | (j, out) => [(0, [.d (.v (.slice none 0 0)), .d (.v (.slice none 0 0))])]) [] [1] 2 (fun x => match x.1 with | (j, out) => ([] : List Pc).length - j)
  [0, 3] ⟨(0, []), ?_⟩ rfl ?_ ⟨rfl, rfl, rfl, rfl, rfl, rfl, trivial⟩ ?_ trivial rfl ?_
 · exact ⟨Nat.zero_le _, Nat.zero_le _, hJJ⟩
 · repeat' first | exact trivial | refine ⟨rfl, ?_⟩
 · repeat' first | exact trivial | refine ⟨rfl, ?_⟩
 rintro ⟨⟨j, out⟩, hk, hn2, hR⟩
 show W _ _ _ _ _ ⟨[(4, .ptr 0 0), (11, .xs 1 (out.map Pc.c)), (71, .d (.v (.int .i64 ((j : Nat) : Int)))), (6, _), (69, _), (70, _)], [(0, [.d (.v (.slice none 0 0)), .d (.v (.slice none 0 0))])], [1], 2⟩
 refine W.seq (W.region (pE rfl (WO.nil (qs (W.seq (bc (l := ([] : List Pc)) (k := j) rfl (by simp [Ex.aD, aK]) hk (fun p hx hd hlt => ?_) (fun he hd => ?_)))))))
 ·
  rw [hd] at hR
  simp only [eA] at hR
  have hsub : IntKind.i64.wrap (((out.map Pc.c).length : Int) - 1) = ((out.length : Int) - 1) := by rw [List.length_map, wrap64 (by omega)]
  have hla : ∀ h : decide (0 ≤ (out.length : Int) - 1) = true, 0 < out.length ∧ 0 ≤ (out.length : Int) - 1 ∧ (out.map Pc.c)[((out.length : Int) - 1).toNat]? = some (cA out).c := by
   intro h
   have h0 : 0 < out.length := by simp at h; omega
   refine ⟨h0, by omega, ?_⟩
   rw [show ((out.length : Int) - 1).toNat = out.length - 1 by omega]
   exact cQ (by omega)
  refine W.skip (qs (W.seq (W.block (W.seq (W.region (pu (indexAddr aa rfl rfl rfl rfl rfl rfl (Int.natCast_nonneg _) (aH hx) rfl) rfl ?_))))))
  refine pE rfl (aW aa rfl rfl rfl (aM aa rfl rfl rfl rfl rfl rfl rfl rfl (WO.nil (qs (W.seq (W.region (pE rfl (pu (sk aa rfl rfl rfl rfl) rfl ?_))))))))
  refine pu (bF (ev aa rfl) hsub) rfl ?_
  refine pE rfl (WO.nil (qs (W.seq ?_)))
  apply jb aa; (case hb => rfl); (case hB => kernel_rfl)
  ·
   iterate 3 refine ak (ev aa rfl) rfl ?_
   apply gg; (case hj => rfl); (case hl => rfl)
   ·
    intro g80
    refine aO rfl rfl (ev aa rfl) rfl ?_
    refine aO rfl rfl (ev aa rfl) rfl ?_
    refine aO rfl rfl (eH (l := (cA out).c) aa rfl rfl rfl rfl rfl rfl (hla g80).2.1 (hla g80).2.2 rfl) rfl ?_
    refine aO rfl rfl (cP aa rfl rfl rfl rfl rfl rfl) rfl ?_
    refine aO rfl rfl (iv aa rfl rfl rfl) rfl ?_
    refine aO rfl rfl (ev aa rfl) rfl ?_
    refine aO rfl rfl (ev aa rfl) rfl ?_
    refine aO rfl rfl (ab rfl rfl rfl (lQ (cA out).key p.key) rfl) rfl ?_
    iterate 2 refine ak (ev aa rfl) rfl ?_
    apply gg; (case hj => rfl); (case hl => rfl)
    ·
     intro g90
     refine aO rfl rfl (ev aa rfl) rfl ?_
     refine aO rfl rfl (ev aa rfl) rfl ?_
     refine aO rfl rfl (ev aa rfl) rfl ?_
     refine aO rfl rfl (ev aa rfl) rfl ?_
     refine aO rfl rfl (ev aa rfl) rfl ?_
     refine aO rfl rfl (eH (l := (cA out).c) aa rfl rfl rfl rfl rfl rfl (hla g80).2.1 (hla g80).2.2 rfl) rfl ?_
     refine aO rfl rfl (cP aa rfl rfl rfl rfl rfl rfl) rfl ?_
     refine aO rfl rfl (cP aa rfl rfl rfl rfl rfl rfl) rfl ?_
     refine aO rfl rfl (iv aa rfl rfl rfl) rfl ?_
     refine aO rfl rfl (ev aa rfl) rfl ?_
     refine ak (ev aa rfl) rfl ?_
     refine CH.nil ?_
     refine aB rfl rfl rfl
    intro g90
    iterate 10 refine bD rfl rfl rfl rfl ?_
    refine ak (ev aa rfl) rfl ?_
    refine CH.nil ?_
    refine aB rfl rfl rfl
   intro g80
   iterate 8 refine bD rfl rfl rfl rfl ?_
   iterate 2 refine ak (ev aa rfl) rfl ?_
   iterate 10 refine bD rfl rfl rfl rfl ?_
   refine ak (ev aa rfl) rfl ?_
   refine CH.nil ?_
   refine aB rfl rfl rfl
  refine qs (ao rfl (fun h101 => ?_) (fun h101 => ?_))
  ·
   have htp : dn out p = true := by
    revert h101
    unfold dn
    by_cases q : 0 < out.length
    ·
     have q1 : 0 ≤ (out.length : Int) - 1 := by omega
     have q2 : 1 ≤ (out.length : Int) := by omega
     simp [q, q1, q2]
    have q1 : ¬ (0 ≤ (out.length : Int) - 1) := by omega
    have q2 : ¬ (1 ≤ (out.length : Int)) := by omega
    simp [q, q1, q2]
   rw [if_pos htp] at hR
   have h0 : 0 < out.length := by unfold dn at htp; simp at htp; exact htp.1
   have hk0 : 0 ≤ (out.length : Int) - 1 := by omega
   have hat : (out.map Pc.c)[((out.length : Int) - 1).toNat]? = some (cA out).c := by
    rw [show ((out.length : Int) - 1).toNat = out.length - 1 by omega]
    exact cQ (by omega)
   have hset : (out.map Pc.c).set ((out.length : Int) - 1).toNat (jM (cA out) p).c = (out.set (out.length - 1) (jM (cA out) p)).map Pc.c := by
    rw [show ((out.length : Int) - 1).toNat = out.length - 1 by omega]
    exact fN
   refine W.eP aa [] [] [] [] 12 (by kernel_rfl) (by kernel_rfl) rfl rfl ?_
   refine' aS (ev aa rfl) ?p_8 rfl rfl rfl (by kernel_rfl) rfl ?h_8
   case' h_8 => skip
   case p_8 => refine ⟨fun ha => (ae ha (by kernel_rfl)).elim, ?_⟩ <;> intro ha <;> first | exact ⟨ev aa rfl, fun h => nomatch h⟩ | exact (ae ha (by kernel_rfl)).elim
   refine' aS (ev aa rfl) ?p_9 rfl rfl rfl (by kernel_rfl) rfl ?h_9
   case' h_9 => skip
   case p_9 => refine ⟨fun ha => (ae ha (by kernel_rfl)).elim, ?_⟩ <;> intro ha <;> first | exact ⟨ev aa rfl, fun h => nomatch h⟩ | exact (ae ha (by kernel_rfl)).elim
   refine' aS (ev aa rfl) ?p_10 rfl rfl rfl (by kernel_rfl) rfl ?h_10
   case' h_10 => skip
   case p_10 => refine ⟨fun ha => (ae ha (by kernel_rfl)).elim, ?_⟩ <;> intro ha <;> first | exact ⟨ev aa rfl, fun h => nomatch h⟩ | exact (ae ha (by kernel_rfl)).elim
   refine' aS (ev aa rfl) ?p_11 rfl rfl rfl (by kernel_rfl) rfl ?h_11
   case' h_11 => skip
   case p_11 => refine ⟨fun ha => (ae ha (by kernel_rfl)).elim, ?_⟩ <;> intro ha <;> first | exact ⟨ev aa rfl, fun h => nomatch h⟩ | exact (ae ha (by kernel_rfl)).elim
   refine' aS (eH (l := (cA out).c) aa rfl rfl rfl rfl rfl rfl hk0 hat rfl) ?p_12 rfl rfl rfl (by kernel_rfl) rfl ?h_12
   case' h_12 => skip
   case p_12 => refine ⟨fun ha => (ae ha (by kernel_rfl)).elim, ?_⟩ <;> intro ha <;> first | exact ⟨eH (l := (cA out).c) aa rfl rfl rfl rfl rfl rfl hk0 hat rfl, fun h => nomatch h⟩ | exact (ae ha (by kernel_rfl)).elim
   refine' aS (cP aa rfl rfl rfl rfl rfl rfl) ?p_13 rfl rfl rfl (by kernel_rfl) rfl ?h_13
   case' h_13 => skip
   case p_13 => refine ⟨fun ha => (ae ha (by kernel_rfl)).elim, ?_⟩ <;> intro ha <;> first | exact ⟨cP aa rfl rfl rfl rfl rfl rfl, fun h => nomatch h⟩ | exact (ae ha (by kernel_rfl)).elim
   refine' aS (cP aa rfl rfl rfl rfl rfl rfl) ?p_14 rfl rfl rfl (by kernel_rfl) rfl ?h_14
   case' h_14 => skip
   case p_14 => refine ⟨fun ha => (ae ha (by kernel_rfl)).elim, ?_⟩ <;> intro ha <;> first | exact ⟨cP aa rfl rfl rfl rfl rfl rfl, fun h => nomatch h⟩ | exact (ae ha (by kernel_rfl)).elim
   refine' aS (iv aa rfl rfl rfl) ?p_15 rfl rfl rfl (by kernel_rfl) rfl ?h_15
   case' h_15 => skip
   case p_15 => refine ⟨fun ha => (ae ha (by kernel_rfl)).elim, ?_⟩ <;> intro ha <;> first | exact ⟨iv aa rfl rfl rfl, fun h => nomatch h⟩ | exact (ae ha (by kernel_rfl)).elim
   refine' aS (ev aa rfl) ?p_16 rfl rfl rfl (by kernel_rfl) rfl ?h_16
   case' h_16 => skip
   case p_16 => refine ⟨fun ha => (ae ha (by kernel_rfl)).elim, ?_⟩ <;> intro ha <;> first | exact ⟨ev aa rfl, fun h => nomatch h⟩ | exact (ae ha (by kernel_rfl)).elim
   refine' aS (ev aa rfl) ?p_17 rfl rfl rfl (by kernel_rfl) rfl ?h_17
   case' h_17 => skip
   case p_17 => refine ⟨fun ha => (ae ha (by kernel_rfl)).elim, ?_⟩ <;> intro ha <;> first | exact ⟨ev aa rfl, fun h => nomatch h⟩ | exact (ae ha (by kernel_rfl)).elim
   refine' aS (ev aa rfl) ?p_18 rfl rfl rfl (by kernel_rfl) rfl ?h_18
   case' h_18 => skip
   case p_18 => refine ⟨fun ha => (ae ha (by kernel_rfl)).elim, ?_⟩ <;> intro ha <;> first | exact ⟨ev aa rfl, fun h => nomatch h⟩ | exact ⟨cE aa rfl rfl rfl rfl, fun h => nomatch h⟩ | exact ⟨cC aa rfl rfl rfl rfl rfl, fun h => nomatch h⟩ | exact (ae ha (by kernel_rfl)).elim
   refine' aS (ev aa rfl) ?p_19 rfl rfl rfl (by kernel_rfl) rfl ?h_19
   case' h_19 => skip
   case p_19 => refine ⟨fun ha => (ae ha (by kernel_rfl)).elim, ?_⟩ <;> intro ha <;> first | exact ⟨ev aa rfl, fun h => nomatch h⟩ | exact (ae ha (by kernel_rfl)).elim
   refine CD.nil ?_ rfl
   refine pu (eH (l := (cA out).c) aa rfl rfl rfl rfl rfl rfl hk0 hat rfl) rfl ?_
   refine pu (cP aa rfl rfl rfl rfl rfl rfl) rfl ?_
   refine pu (cP aa rfl rfl rfl rfl rfl rfl) rfl ?_
   refine nN aa 11 rfl rfl rfl rfl hat rfl rfl rfl rfl rfl rfl hset rfl ?_
   refine WO.nil (a7 (qs (W.region ?_)))
   iterate 2 refine pE rfl ?_
   refine WO.nil ?_
   have hbr := htp
   (have _hb : dn out p = true := hbr; refine W.aX [0, 3] ⟨(j + 1, out.set (out.length - 1) (jM (cA out) p)), ?_⟩ ?_ rfl ?_ ⟨rfl, rfl, rfl, rfl, rfl, rfl, trivial⟩ ?_ trivial rfl)
   · exact ⟨hlt, (by first | (rw [List.length_append]; simp; omega) | (rw [List.length_set]; omega)), hR⟩
   · dsimp only; omega
   · repeat' first | exact trivial | refine ⟨rfl, ?_⟩ | refine ⟨aF (by assumption) (by assumption), ?_⟩
   repeat' first | exact trivial | refine ⟨rfl, ?_⟩
  have htp : dn out p = false := by
   revert h101
   unfold dn
   by_cases q : 0 < out.length
   ·
    have q1 : 0 ≤ (out.length : Int) - 1 := by omega
    have q2 : 1 ≤ (out.length : Int) := by omega
    simp [q, q1, q2]
   have q1 : ¬ (0 ≤ (out.length : Int) - 1) := by omega
   have q2 : ¬ (1 ≤ (out.length : Int)) := by omega
   simp [q, q1, q2]
  rw [if_neg (by simp [htp])] at hR
  refine W.region (pE rfl (pE rfl (pu (aE aa rfl rfl rfl rfl rfl rfl rfl rfl rfl) rfl ?_)))
  refine gU (es2 := [p.c]) (r := (out ++ [p]).map Pc.c) aa rfl rfl rfl rfl rfl rfl rfl rfl rfl rfl (gq _ _) (by rw [gq]; exact bQ _) (by show ((out.map Pc.c).length + 1) * 40 ≤ _; rw [List.length_map]; omega) rfl ?_
  refine pE rfl (WO.nil (a7 (qs (W.region ?_))))
  iterate 2 refine pE rfl ?_
  refine WO.nil ?_
  have hbr := htp
  (have _hb : dn out p = false := hbr; refine W.aX [0, 3] ⟨(j + 1, out ++ [p]), ?_⟩ ?_ rfl ?_ ⟨rfl, rfl, rfl, rfl, rfl, rfl, trivial⟩ ?_ trivial rfl)
  · exact ⟨hlt, (by first | (rw [List.length_append]; simp; omega) | (rw [List.length_set]; omega)), hR⟩
  · dsimp only; omega
  · repeat' first | exact trivial | refine ⟨rfl, ?_⟩ | refine ⟨aF (by assumption) (by assumption), ?_⟩
  repeat' first | exact trivial | refine ⟨rfl, ?_⟩
 rw [hd] at hR
 simp only [eA] at hR
 refine W.exit (aN (aR (aP (qs (W.seq (oA 11 rfl rfl rfl rfl ?_))))))
 refine sg 11 rfl rfl ?_
 refine W.region (pE rfl (pu (build aa rfl rfl rfl rfl) rfl ?_))
 refine aW aa rfl rfl rfl (aM aa rfl rfl rfl rfl rfl rfl rfl rfl (WO.nil (qs ?_)))
 iterate 2 refine W.seq ?_
 refine W.region ?_
 iterate 3 refine pE rfl ?_
 refine WO.nil (qs (W.block (ew 3 1 rfl rfl rfl ?_)))
 refine W.len (t := 124) rfl rfl (fun hlen => ?_)
 try simp only [List.length_map, Ex.aD] at hlen
 refine W.aV (ι := {x : Nat × List (List aA) // match x with | (k, rows) => k ≤ out.length ∧ rows = (out.take k).map jn})
  (fun x => match x.1 with | (k, rows) => [(4, .ptr 0 0), (19, .ptr 1 0), (126, .d (.v (.int .i64 ((k : Nat) : Int))))]) [(124, _), (125, _)]
  (fun x => match x.1 with | (k, rows) => [(0, [.d (.v (.slice none 0 0)), .d (.v (.slice none 0 0))]), (1, [.d (.sl (CT0.1.map Col.c)), .own 2 (rows.map rc)])]) [] [2] 3 (fun x => match x.1 with | (k, rows) => out.length - k)
  [0, 3, 4] ⟨(0, []), ?_⟩ rfl ?_ ⟨rfl, rfl, rfl, rfl, trivial⟩ ?_ trivial rfl ?_
 · exact ⟨Nat.zero_le _, rfl⟩
 · repeat' first | exact trivial | refine ⟨rfl, ?_⟩
 · repeat' first | exact trivial | refine ⟨rfl, ?_⟩
 rintro ⟨⟨k, rows⟩, hk, hW⟩
 show W _ _ _ _ _ ⟨[(4, .ptr 0 0), (19, .ptr 1 0), (126, .d (.v (.int .i64 ((k : Nat) : Int)))), (124, _), (125, _)], [(0, [.d (.v (.slice none 0 0)), .d (.v (.slice none 0 0))]), (1, [.d (.sl (CT0.1.map Col.c)), .own 2 (rows.map rc)])], [2], 3⟩
 refine W.seq (W.region (pE rfl (WO.nil (qs (W.seq (bc (l := out) (k := k) rfl (by simp [Ex.aD, aK]) hk (fun q hx hd hlt => ?_) (fun he hd => ?_)))))))
 ·
  have hq16 : q.key.length ≤ 16 := hkey q (by rw [← hR]; exact List.mem_of_getElem? hx)
  have hrl : rows.length ≤ 20000 := by rw [hW, List.length_map, List.length_take]; rw [← hR] at hJn; omega
  have hrow : q.key ++ [⟨2, q.fr, B #[]⟩, ⟨2, q.to, B #[]⟩] = jn q := rfl
  refine W.skip (qs (W.seq (W.block (W.seq (W.region (pu (indexAddr aa rfl rfl rfl rfl rfl rfl (Int.natCast_nonneg _) (aH hx) rfl) rfl ?_))))))
  refine pE rfl (aW aa rfl rfl rfl (aM aa rfl rfl rfl rfl rfl rfl rfl rfl (WO.nil (qs ?_))))
  refine' W.eP aa [_, _] [[4, 2], [5, 2], [6, 5]] [5, 6, 7] [4, 14] 16 (by kernel_rfl) (by kernel_rfl) rfl rfl ?hL_20
  case' hL_20 => skip
  refine' aS (ev aa rfl) ?p_21 rfl rfl rfl (by kernel_rfl) rfl ?h_21
  case' h_21 => skip
  refine' aS (ev aa rfl) ?p_22 rfl rfl rfl (by kernel_rfl) rfl ?h_22
  case' h_22 => skip
  refine' aS (ev aa rfl) ?p_23 rfl rfl rfl (by kernel_rfl) rfl ?h_23
  case' h_23 => skip
  refine' aS (ev aa rfl) ?p_24 rfl rfl rfl (by kernel_rfl) rfl ?h_24
  case' h_24 => skip
  refine' kW ?x_25 rfl rfl rfl (by kernel_rfl) (fun h => (ae h (by kernel_rfl)).elim) rfl ?h_25
  case x_25 =>
   intro b hb g; cases b
   · exact (ae hb (by kernel_rfl)).elim
   refine e5 rfl rfl rfl (jK q.key (by omega)) (by rfl) rfl rfl ?_
   refine WO.nil ?_
   refine' iJ rfl ?_ ?_ ?_ ?_
   all_goals try exact rfl
  case' h_25 => skip
  refine' aS (ev aa rfl) ?p_26 rfl rfl rfl (by kernel_rfl) rfl ?h_26
  case' h_26 => skip
  refine' aS (ev aa rfl) ?p_27 rfl rfl rfl (by kernel_rfl) rfl ?h_27
  case' h_27 => skip
  refine' aS (ev aa rfl) ?p_28 rfl rfl rfl (by kernel_rfl) rfl ?h_28
  case' h_28 => skip
  refine' aS (build aa rfl rfl rfl rfl) ?p_29 rfl rfl rfl (by kernel_rfl) rfl ?h_29
  case' h_29 => skip
  refine' aS (ev aa rfl) ?p_30 rfl rfl rfl (by kernel_rfl) rfl ?h_30
  case' h_30 => skip
  refine' aS (ev aa rfl) ?p_31 rfl rfl rfl (by kernel_rfl) rfl ?h_31
  case' h_31 => skip
  refine' aS (ev aa rfl) ?p_32 rfl rfl rfl (by kernel_rfl) rfl ?h_32
  case' h_32 => skip
  refine' aS (build aa rfl rfl rfl rfl) ?p_33 rfl rfl rfl (by kernel_rfl) rfl ?h_33
  case' h_33 => skip
  refine' aS (aE aa rfl rfl rfl rfl rfl rfl rfl rfl rfl) ?p_34 rfl rfl rfl (by kernel_rfl) rfl ?h_34
  case' h_34 => skip
  refine' kW ?x_35 rfl rfl rfl (by kernel_rfl) (fun h => (ae h (by kernel_rfl)).elim) rfl ?h_35
  case x_35 =>
   intro b hb g; cases b
   · exact (ae hb (by kernel_rfl)).elim
   refine fh (fn := aA.c) (l := q.key) (l2 := [⟨2, q.fr, B #[]⟩, ⟨2, q.to, B #[]⟩]) aa rfl rfl rfl rfl rfl rfl rfl rfl rfl rfl (fun _ => rfl) (by show (q.key.length + 2) * 32 ≤ _; omega) ?_
   refine WO.nil ?_
   refine' iJ rfl ?_ ?_ ?_ ?_
   all_goals try exact rfl
  case' h_35 => skip
  case p_21 => refine ⟨fun ha => (ae ha (by kernel_rfl)).elim, ?_, fun ha => (ae ha (by kernel_rfl)).elim, ?_, fun ha => (ae ha (by kernel_rfl)).elim, ?_⟩ <;> intro ha <;> first | exact ⟨ev aa rfl, fun h => nomatch h⟩ | exact (ae ha (by kernel_rfl)).elim
  case p_22 => refine ⟨fun ha => (ae ha (by kernel_rfl)).elim, ?_, fun ha => (ae ha (by kernel_rfl)).elim, ?_, fun ha => (ae ha (by kernel_rfl)).elim, ?_⟩ <;> intro ha <;> first | exact ⟨ev aa rfl, fun h => nomatch h⟩ | exact ⟨cE aa rfl rfl rfl rfl, fun h => nomatch h⟩ | exact ⟨cC aa rfl rfl rfl rfl rfl, fun h => nomatch h⟩ | exact (ae ha (by kernel_rfl)).elim
  case p_23 => refine ⟨fun ha => (ae ha (by kernel_rfl)).elim, ?_, fun ha => (ae ha (by kernel_rfl)).elim, ?_, fun ha => (ae ha (by kernel_rfl)).elim, ?_⟩ <;> intro ha <;> first | exact ⟨ev aa rfl, fun h => nomatch h⟩ | exact (ae ha (by kernel_rfl)).elim
  case p_24 => refine ⟨fun ha => (ae ha (by kernel_rfl)).elim, ?_, fun ha => (ae ha (by kernel_rfl)).elim, ?_, fun ha => (ae ha (by kernel_rfl)).elim, ?_⟩ <;> intro ha <;> first | exact ⟨ev aa rfl, fun h => nomatch h⟩ | exact ⟨cE aa rfl rfl rfl rfl, fun h => nomatch h⟩ | exact ⟨cC aa rfl rfl rfl rfl rfl, fun h => nomatch h⟩ | exact (ae ha (by kernel_rfl)).elim
  case p_26 => refine ⟨fun ha => (ae ha (by kernel_rfl)).elim, ?_, fun ha => (ae ha (by kernel_rfl)).elim, ?_, fun ha => (ae ha (by kernel_rfl)).elim, ?_⟩ <;> intro ha <;> first | exact ⟨ev aa rfl, fun h => nomatch h⟩ | exact (ae ha (by kernel_rfl)).elim
  case p_27 => refine ⟨fun ha => (ae ha (by kernel_rfl)).elim, ?_, fun ha => (ae ha (by kernel_rfl)).elim, ?_, fun ha => (ae ha (by kernel_rfl)).elim, ?_⟩ <;> intro ha <;> first | exact ⟨ev aa rfl, fun h => nomatch h⟩ | exact (ae ha (by kernel_rfl)).elim
  case p_28 => refine ⟨fun ha => (ae ha (by kernel_rfl)).elim, ?_, fun ha => (ae ha (by kernel_rfl)).elim, ?_, fun ha => (ae ha (by kernel_rfl)).elim, ?_⟩ <;> intro ha <;> first | exact ⟨ev aa rfl, fun h => nomatch h⟩ | exact ⟨cE aa rfl rfl rfl rfl, fun h => nomatch h⟩ | exact ⟨cC aa rfl rfl rfl rfl rfl, fun h => nomatch h⟩ | exact (ae ha (by kernel_rfl)).elim
  case p_29 => refine ⟨fun ha => (ae ha (by kernel_rfl)).elim, ?_, fun ha => (ae ha (by kernel_rfl)).elim, ?_, fun ha => (ae ha (by kernel_rfl)).elim, ?_⟩ <;> intro ha <;> first | exact ⟨build aa rfl rfl rfl rfl, fun h => nomatch h⟩ | exact (ae ha (by kernel_rfl)).elim
  case p_30 => refine ⟨fun ha => (ae ha (by kernel_rfl)).elim, ?_, fun ha => (ae ha (by kernel_rfl)).elim, ?_, fun ha => (ae ha (by kernel_rfl)).elim, ?_⟩ <;> intro ha <;> first | exact ⟨ev aa rfl, fun h => nomatch h⟩ | exact (ae ha (by kernel_rfl)).elim
  case p_31 => refine ⟨fun ha => (ae ha (by kernel_rfl)).elim, ?_, fun ha => (ae ha (by kernel_rfl)).elim, ?_, fun ha => (ae ha (by kernel_rfl)).elim, ?_⟩ <;> intro ha <;> first | exact ⟨ev aa rfl, fun h => nomatch h⟩ | exact (ae ha (by kernel_rfl)).elim
  case p_32 => refine ⟨fun ha => (ae ha (by kernel_rfl)).elim, ?_, fun ha => (ae ha (by kernel_rfl)).elim, ?_, fun ha => (ae ha (by kernel_rfl)).elim, ?_⟩ <;> intro ha <;> first | exact ⟨ev aa rfl, fun h => nomatch h⟩ | exact ⟨cE aa rfl rfl rfl rfl, fun h => nomatch h⟩ | exact ⟨cC aa rfl rfl rfl rfl rfl, fun h => nomatch h⟩ | exact (ae ha (by kernel_rfl)).elim
  case p_33 => refine ⟨fun ha => (ae ha (by kernel_rfl)).elim, ?_, fun ha => (ae ha (by kernel_rfl)).elim, ?_, fun ha => (ae ha (by kernel_rfl)).elim, ?_⟩ <;> intro ha <;> first | exact ⟨build aa rfl rfl rfl rfl, fun h => nomatch h⟩ | exact (ae ha (by kernel_rfl)).elim
  case p_34 => refine ⟨fun ha => (ae ha (by kernel_rfl)).elim, ?_, fun ha => (ae ha (by kernel_rfl)).elim, ?_, fun ha => (ae ha (by kernel_rfl)).elim, ?_⟩ <;> intro ha <;> first | exact ⟨aE aa rfl rfl rfl rfl rfl rfl rfl rfl rfl, fun h => nomatch h⟩ | exact (ae ha (by kernel_rfl)).elim
  refine' aS (aE aa rfl rfl rfl rfl rfl rfl rfl rfl rfl) ?p_36 rfl rfl rfl (by kernel_rfl) rfl ?h_36
  case' h_36 => skip
  case p_36 => refine ⟨fun ha => (ae ha (by kernel_rfl)).elim, ?_, fun ha => (ae ha (by kernel_rfl)).elim, ?_, fun ha => (ae ha (by kernel_rfl)).elim, ?_⟩ <;> intro ha <;> first | exact ⟨aE aa rfl rfl rfl rfl rfl rfl rfl rfl rfl, fun h => nomatch h⟩ | exact (ae ha (by kernel_rfl)).elim
  refine CD.nil ?_ rfl
  refine cf (fn := rc) (a := jn q) aa rfl rfl rfl rfl rfl rfl rfl rfl rfl rfl (fun _ => rfl) (by show (rows.length + 1) * 24 ≤ _; omega) ?_
  refine pE rfl (aM aa rfl rfl rfl rfl rfl rfl rfl rfl (WO.nil (a7 (qs (W.region ?_)))))
  iterate 2 refine pE rfl ?_
  refine WO.nil (W.aX [0, 1, 6] ⟨(k + 1, rows ++ [jn q]), ?_⟩ ?_ rfl ?_ ⟨rfl, rfl, rfl, rfl, trivial⟩ ?_ trivial rfl)
  · exact ⟨hlt, by rw [hW, List.take_add_one, hx]; simp⟩
  · dsimp only; omega
  · repeat' first | exact trivial | refine ⟨rfl, ?_⟩ | refine ⟨aF (by assumption) (by assumption), ?_⟩
  repeat' first | exact trivial | refine ⟨rfl, ?_⟩
 have hg : b9 a on = (⟨CT0.1, rows⟩, 0) := by
  rw [hgo, hW, ← hR, List.take_of_length_le (by have := congrArg List.length hd; simp at this; omega)]
 refine W.exit (aN (aR (aP (qs (W.seq (W.region (pE rfl (aM aa rfl rfl rfl rfl rfl rfl rfl rfl (pE rfl (WO.nil (qs ?_)))))))))))
 try refine cn 1 0 rfl rfl rfl ?_
 try refine cn 1 1 rfl rfl rfl ?_
 refine W.ret (QV.aq aa trivial rfl ?_)
 (rw [hg]; rfl)
theorem qW (a : bh) (on : List ByteArray) (hon : on.length ≤ 400) : aw Try.prog 12 [.ag a.c, .d (.sl (on.map sc))]
  (.tup [.ag (b9 a on).1.c, .d (.v (.int .i64 (b9 a on).2))]) 0 := by
 rcases Nat.eq_zero_or_pos (pieces (kg a on) (bY a.cols aJ) (bY a.cols bA) a.rows).length with h | h
 · exact qq a on hon (List.length_eq_zero_iff.1 h)
 exact qG a on hon h
end Go.Proofs.Ytjenenllmjlimaa
namespace Go.Proofs.Ytjenenllmjlimaa
open Go.Ab Go.Tb
set_option maxRecDepth 10000
attribute [local irreducible] W WO Pu QS QB QL QF QV bK CH QE
theorem ca (n : Int) : aw Try.prog 20 [.d (.v (.int .i64 n))] (.ag (cH n).c) 0 := by
 refine aw.eW aa (n := 5) (rs := [.cell 2 38]) Try.func20 (by kernel_rfl) rfl Try.ntmps20 Try.results20 rfl fun C hC hG => ?_
 refine W.seq (W.region (aW aa rfl rfl rfl (WO.nil (qs (W.seq (W.region (pE rfl (pu (build aa rfl rfl rfl rfl) rfl ?_))))))))
 refine aM aa rfl rfl rfl rfl rfl rfl rfl rfl (WO.nil (qs (W.ret (QV.aq aa trivial rfl ?_))))
 rfl
theorem ju (s : ByteArray) : aw Try.prog 19 [.d (.v (.string s))] (.ag (l7 s).c) 0 := by
 refine aw.eW aa (n := 5) (rs := [.cell 2 38]) Try.func19 (by kernel_rfl) rfl Try.ntmps19 Try.results19 rfl fun C hC hG => ?_
 refine W.seq (W.region (aW aa rfl rfl rfl (WO.nil (qs (W.seq (W.region (pE rfl (pu (build aa rfl rfl rfl rfl) rfl ?_))))))))
 refine aM aa rfl rfl rfl rfl rfl rfl rfl rfl (WO.nil (qs (W.ret (QV.aq aa trivial rfl ?_))))
 rfl
theorem dB (l : List Int) (h : l.length ≤ 100000) : aw Try.prog 21 [.d (.sl (l.map ic))] (.d (.sl ((l.map cH).map aA.c))) 0 := by
 have hlm : l.length ≤ maxLen := by simp only [maxLen]; omega
 refine aw.aY (n := 20) (ts := [2]) Try.func21 (by kernel_rfl) rfl Try.ntmps21 Try.results21 rfl rfl fun C hC hG => ?_
 refine W.seq (W.region (pE rfl (WO.nil (qs (W.seq (W.region (pE rfl (WO.nil (qs ?_)))))))))
 iterate 2 refine W.seq ?_
 refine W.region (pE rfl (WO.nil (qs (W.block (aT (d := 3) rfl rfl ?_)))))
 refine W.aV (ι := {x : Nat × List aA // match x with | (k, out) => k ≤ l.length ∧ out = (l.take k).map cH})
  (fun x => match x.1 with | (k, out) => [(3, .own 0 (out.map aA.c)), (4, .d (.v (.int .i64 ((k : Nat) : Int))))]) [(0, _)]
  (fun x => match x.1 with | (k, out) => []) [] [0] 1 (fun x => match x.1 with | (k, out) => l.length - k)
  [0] ⟨(0, []), ?_⟩ rfl ?_ ⟨rfl, rfl, trivial⟩ ?_ trivial rfl ?_
 · exact ⟨Nat.zero_le _, rfl⟩
 · repeat' first | exact trivial | refine ⟨rfl, ?_⟩
 · repeat' exact trivial
 rintro ⟨⟨k, out⟩, hk, hI⟩
 show W _ _ _ _ _ ⟨[(3, .own 0 (out.map aA.c)), (4, .d (.v (.int .i64 ((k : Nat) : Int)))), (0, _)], [], [0], 1⟩
 iterate 2 refine W.seq ?_
 refine W.region ?_
 iterate 4 refine pE rfl ?_
 refine WO.nil (qs (bc (l := l) (k := k) rfl (by simp [Ex.aD, aK]) hk (fun s hx hd hlt => ?_) (fun he hd => ?_)))
 ·
  have hol : out.length ≤ k := by rw [hI]; simp; omega
  refine W.skip (qs (W.seq (W.block (W.region ?_))))
  iterate 3 refine pE rfl ?_
  refine pu (indexAddr aa rfl rfl rfl rfl rfl rfl (Int.natCast_nonneg _) (aH (by assumption)) rfl) rfl ?_
  refine pE rfl (pu (ab rfl rfl rfl ((ca _)) rfl) rfl ?_)
  refine pu (aE aa rfl rfl rfl rfl rfl rfl rfl rfl rfl) rfl ?_
  refine cf (fn := aA.c) (a := cH s) aa rfl rfl rfl rfl rfl rfl rfl rfl rfl rfl (fun _ => rfl) (by show (out.length + 1) * 32 ≤ _; omega) ?_
  refine pE rfl (WO.nil (a7 (qs (W.region ?_))))
  iterate 3 refine pE rfl ?_
  refine WO.nil (W.aX [1] ⟨(k + 1, out ++ [cH s]), ?_⟩ ?_ rfl ?_ ⟨rfl, rfl, trivial⟩ ?_ trivial rfl)
  · exact ⟨hlt, by rw [hI, List.take_add_one, hx]; simp⟩
  · dsimp only; omega
  · repeat' first | exact trivial | refine ⟨rfl, ?_⟩ | refine ⟨aF (by assumption) (by assumption), ?_⟩
  repeat' exact trivial
 have hfin : out = l.map cH := by rw [hI, List.take_of_length_le (by have := congrArg List.length hd; simp at this; omega)]
 refine W.exit (aN (aR (aP (qs (W.seq (W.region ?_))))))
 iterate 2 refine pE rfl ?_
 refine WO.nil (qs (W.ret (QF.aq trivial rfl ?_)))
 simp only [norm, ay]; rw [hfin]; rfl
theorem jd (l : List ByteArray) (h : l.length ≤ 100000) : aw Try.prog 18 [.d (.sl (l.map sc))] (.d (.sl ((l.map eB).map Col.c))) 0 := by
 have hlm : l.length ≤ maxLen := by simp only [maxLen]; omega
 refine aw.aY (n := 28) (ts := [2]) Try.func18 (by kernel_rfl) rfl Try.ntmps18 Try.results18 rfl rfl fun C hC hG => ?_
 refine W.seq (W.region (pE rfl (WO.nil (qs (W.seq (W.region (pE rfl (WO.nil (qs ?_)))))))))
 iterate 2 refine W.seq ?_
 refine W.region (pE rfl (WO.nil (qs (W.block (aT (d := 3) rfl rfl ?_)))))
 refine W.aV (ι := {x : Nat × List Col // match x with | (k, out) => k ≤ l.length ∧ out = (l.take k).map eB})
  (fun x => match x.1 with | (k, out) => [(3, .own 0 (out.map Col.c)), (4, .d (.v (.int .i64 ((k : Nat) : Int))))]) [(0, _)]
  (fun x => match x.1 with | (k, out) => []) [] [0] 1 (fun x => match x.1 with | (k, out) => l.length - k)
  [0] ⟨(0, []), ?_⟩ rfl ?_ ⟨rfl, rfl, trivial⟩ ?_ trivial rfl ?_
 · exact ⟨Nat.zero_le _, rfl⟩
 · repeat' first | exact trivial | refine ⟨rfl, ?_⟩
 · repeat' exact trivial
 rintro ⟨⟨k, out⟩, hk, hI⟩
 show W _ _ _ _ _ ⟨[(3, .own 0 (out.map Col.c)), (4, .d (.v (.int .i64 ((k : Nat) : Int)))), (0, _)], [], [0], 1⟩
 iterate 2 refine W.seq ?_
 refine W.region ?_
 iterate 4 refine pE rfl ?_
 refine WO.nil (qs (bc (l := l) (k := k) rfl (by simp [Ex.aD, aK]) hk (fun s hx hd hlt => ?_) (fun he hd => ?_)))
 ·
  have hol : out.length ≤ k := by rw [hI]; simp; omega
  refine W.skip (qs (W.seq (W.block (W.seq (W.region ?_)))))
  iterate 2 refine pE rfl ?_
  refine pu (indexAddr aa rfl rfl rfl rfl rfl rfl (Int.natCast_nonneg _) (aH (by assumption)) rfl) rfl ?_
  refine pE rfl (pu (build aa rfl rfl rfl rfl) rfl ?_)
  refine aW aa rfl rfl rfl (aM aa rfl rfl rfl rfl rfl rfl rfl rfl (WO.nil (qs ?_)))
  iterate 2 refine W.seq ?_
  refine W.region ?_
  iterate 2 refine pE rfl ?_
  refine pu (indexAddr aa rfl rfl rfl rfl rfl rfl (Int.natCast_nonneg _) (aH (by assumption)) rfl) rfl ?_
  refine pE rfl (pE rfl (WO.nil (qs (ao rfl (fun h21 => ?_) (fun h21 => ?_)))))
  ·
   have hs : s = B #[107] := by simpa using h21
   have hlc : eB s = ⟨s, 3⟩ := by unfold eB; rw [if_pos hs]
   refine W.region (pE rfl (aM aa rfl rfl rfl rfl rfl rfl rfl rfl (WO.nil (qs (W.region (pE rfl (pE rfl (pu (aE aa rfl rfl rfl rfl rfl rfl rfl rfl rfl) rfl ?_))))))))
   refine cf (fn := Col.c) (a := eB s) aa rfl rfl (by rw [hlc]; rfl) rfl rfl rfl rfl rfl rfl rfl (fun _ => rfl) (by show (out.length + 1) * 24 ≤ _; omega) ?_
   refine pE rfl (WO.nil (a7 (qs (W.region ?_))))
   iterate 3 refine pE rfl ?_
   refine WO.nil (W.aX [2] ⟨(k + 1, out ++ [eB s]), ?_⟩ ?_ rfl ?_ ⟨rfl, rfl, trivial⟩ ?_ trivial rfl)
   · exact ⟨hlt, by rw [hI, List.take_add_one, hx]; simp⟩
   · dsimp only; omega
   · repeat' first | exact trivial | refine ⟨rfl, ?_⟩ | refine ⟨aF (by assumption) (by assumption), ?_⟩
   repeat' exact trivial
  have hs : ¬ s = B #[107] := by simpa using h21
  have hlc : eB s = ⟨s, 2⟩ := by unfold eB; rw [if_neg hs]
  refine W.skip (qs (W.region (pE rfl (pE rfl (pu (aE aa rfl rfl rfl rfl rfl rfl rfl rfl rfl) rfl ?_)))))
  refine cf (fn := Col.c) (a := eB s) aa rfl rfl (by rw [hlc]; rfl) rfl rfl rfl rfl rfl rfl rfl (fun _ => rfl) (by show (out.length + 1) * 24 ≤ _; omega) ?_
  refine pE rfl (WO.nil (a7 (qs (W.region ?_))))
  iterate 3 refine pE rfl ?_
  refine WO.nil (W.aX [2] ⟨(k + 1, out ++ [eB s]), ?_⟩ ?_ rfl ?_ ⟨rfl, rfl, trivial⟩ ?_ trivial rfl)
  · exact ⟨hlt, by rw [hI, List.take_add_one, hx]; simp⟩
  · dsimp only; omega
  · repeat' first | exact trivial | refine ⟨rfl, ?_⟩ | refine ⟨aF (by assumption) (by assumption), ?_⟩
  repeat' exact trivial
 have hfin : out = l.map eB := by rw [hI, List.take_of_length_le (by have := congrArg List.length hd; simp at this; omega)]
 refine W.exit (aN (aR (aP (qs (W.seq (W.region ?_))))))
 iterate 2 refine pE rfl ?_
 refine WO.nil (qs (W.ret (QF.aq trivial rfl ?_)))
 simp only [norm, ay]; rw [hfin]; rfl
theorem tj (a b : List aA) : aw Try.prog 50 [.d (.sl (a.map aA.c)), .d (.sl (b.map aA.c))] (.d (.v (.bool (decide (a = b))))) 0 := by
 refine aw.aY (n := 26) (ts := [4]) Try.func50 (by kernel_rfl) rfl Try.ntmps50 Try.results50 rfl rfl fun C hC hG => ?_
 refine W.seq (W.region (pE rfl (WO.nil (qs ?_))))
 iterate 2 refine W.seq ?_
 refine W.region ?_
 iterate 5 refine pE rfl ?_
 refine WO.nil (qs (ao rfl (fun h10 => ?_) (fun h10 => ?_)))
 ·
  have hg : decide (a = b) = false := decide_eq_false (by rintro rfl; simp at h10)
  refine W.seq (W.region (pE rfl (WO.nil (qs (W.ret (ah (QF.aq trivial rfl ?_)))))))
  rw [hg]; rfl
 have hl2 : a.length = b.length := by simp at h10; omega
 refine W.skip (qs ?_)
 iterate 2 refine W.seq ?_
 refine W.region (pE rfl (WO.nil (qs (W.block (W.len (t := 0) rfl rfl (fun hlen => ?_))))))
 try simp only [List.length_map, Ex.aD] at hlen
 refine W.aV (ι := {x : Nat // match x with | k => k ≤ a.length ∧ (a.drop k = b.drop k ↔ a = b)})
  (fun x => match x.1 with | k => [(5, .d (.v (.int .i64 ((k : Nat) : Int))))]) [(0, _), (1, _)]
  (fun x => match x.1 with | k => []) [] [] 0 (fun x => match x.1 with | k => a.length - k)
  [] ⟨0, ?_⟩ rfl ?_ ⟨rfl, rfl, rfl, rfl, trivial⟩ ?_ trivial rfl ?_
 · exact ⟨Nat.zero_le _, by simp⟩
 · repeat' first | exact trivial | refine ⟨rfl, ?_⟩
 · repeat' exact trivial
 rintro ⟨k, hk, hI⟩
 show W _ _ _ _ _ ⟨[(5, .d (.v (.int .i64 ((k : Nat) : Int)))), (0, _), (1, _)], [], [], 0⟩
 iterate 2 refine W.seq ?_
 refine W.region ?_
 iterate 4 refine pE rfl ?_
 refine WO.nil (qs (bc (l := a) (k := k) rfl (by simp [Ex.aD, aK]) hk (fun x hx hd hlt => ?_) (fun he hd => ?_)))
 ·
  obtain ⟨y, hy⟩ : ∃ y, b[k]? = some y := ⟨b[k]'(by omega), by simp⟩
  have hd2 : b.drop k = y :: b.drop (k + 1) := by
   have hlt2 : k < b.length := by omega
   have := List.drop_eq_getElem_cons hlt2
   rw [this, (List.getElem?_eq_some_iff.1 hy).2]
  rw [hd, hd2] at hI
  refine W.skip (qs (W.seq (W.block (W.seq (W.bw aa (by kernel_rfl) ?_)))))
  iterate 2 refine ak (ev aa rfl) rfl ?_
  refine ak (indexAddr aa rfl rfl rfl rfl rfl rfl (Int.natCast_nonneg _) (aH hx) rfl) rfl ?_
  refine ak (ev aa rfl) rfl ?_
  iterate 2 refine ak (ev aa rfl) rfl ?_
  refine ak (indexAddr (l := y.c) aa rfl rfl rfl rfl rfl rfl (Int.natCast_nonneg _) (aH hy) rfl) rfl ?_
  refine ak (ev aa rfl) rfl ?_
  refine ak (ev aa rfl) rfl ?_
  refine CH.nil ?_
  refine qs (ao rfl (fun h25 => ?_) (fun h25 => ?_))
  ·
   have hxy : x ≠ y := by rintro rfl; simp at h25
   have hg : decide (a = b) = false := decide_eq_false (fun q => by have := hI.2 q; simp at this; exact hxy this.1)
   refine W.seq (W.region (pE rfl (WO.nil (qs (W.ret (ar (ah (bl (ar (ah (QF.aq trivial rfl ?_)))))))))))
   rw [hg]; rfl
  have hxy : x = y := by
   have := jB (a := x) (b := y)
   exact of_decide_eq_true (by rw [← this]; simpa using h25)
  have hn : a.drop (k + 1) = b.drop (k + 1) ↔ a = b := by rw [← hI, hxy]; simp
  refine W.skip (a7 (qs (W.region ?_)))
  iterate 3 refine pE rfl ?_
  refine WO.nil (W.aX [] ⟨k + 1, ?_⟩ ?_ rfl ?_ ⟨rfl, rfl, rfl, rfl, trivial⟩ ?_ trivial rfl)
  · exact ⟨hlt, hn⟩
  · dsimp only; omega
  · repeat' first | exact trivial | refine ⟨aF (by assumption) (by assumption), ?_⟩
  repeat' exact trivial
 have hd2 : b.drop k = [] := List.drop_eq_nil_of_le (by have := congrArg List.length hd; simp at this; omega)
 rw [hd, hd2] at hI
 have hg : decide (a = b) = true := decide_eq_true (hI.1 rfl)
 refine W.exit (aN (aR (aP (qs (W.seq (W.region (pE rfl (WO.nil (qs (W.ret (QF.aq trivial rfl ?_)))))))))))
 rw [hg]; rfl
theorem rO (a b : List aA) : aw Try.prog 36 [.d (.sl (a.map aA.c)), .d (.sl (b.map aA.c))] (.d (.v (.bool (decide (a = b))))) 0 := by
 refine aw.aY (n := 8) (ts := [4]) Try.func36 (by kernel_rfl) rfl Try.ntmps36 Try.results36 rfl rfl fun C hC hG => ?_
 refine W.seq (W.region (pE rfl (WO.nil (qs (W.seq (W.region ?_))))))
 iterate 2 refine pE rfl ?_
 refine pu (ab rfl rfl rfl (tj a b) rfl) rfl ?_
 refine pE rfl (WO.nil (qs (W.ret (QF.aq trivial rfl ?_))))
 rfl
theorem po (t : bh) : aw Try.prog 17 [.ag t.c] (.d (.v (.bool (ja t)))) 0 := by
 refine aw.aY (n := 36) (ts := [2]) Try.func17 (by kernel_rfl) rfl Try.ntmps17 Try.results17 rfl rfl fun C hC hG => ?_
 refine W.seq (W.region (bL rfl rfl rfl (pE rfl (WO.nil (qs (W.seq (W.region (pE rfl (pE rfl ?_)))))))))
 iterate 2 refine pE rfl ?_
 refine WO.nil (qs ?_)
 iterate 2 refine W.seq ?_
 refine W.region (pE rfl (WO.nil (qs (W.block (lI (g := 0) (j := 1) rfl rfl (fun hlen => ?_))))))
 rw [List.length_map] at hlen
 refine W.aV (ι := {x : Nat × Int // match x with | (k, n) => k ≤ t.rows.length ∧ jc (t.rows.drop k) n = jc t.rows (t.cols.length : Int)})
  (fun x => match x.1 with | (k, n) => [(1, .ptr 0 0), (3, .d (.v (.int .i64 (n)))), (4, .d (.v (.int .i64 ((k : Nat) : Int))))]) []
  (fun x => match x.1 with | (k, n) => [(0, t.c.map A.d)]) [] [] 1 (fun x => match x.1 with | (k, n) => t.rows.length - k)
  [0] ⟨(0, ((t.cols.map Col.c).length : Int)), ?_⟩ rfl ?_ trivial ?_ trivial rfl ?_
 · exact ⟨Nat.zero_le _, by rw [List.length_map]; rfl⟩
 · repeat' first | exact trivial | refine ⟨rfl, ?_⟩
 · repeat' first | exact trivial | refine ⟨rfl, ?_⟩
 rintro ⟨⟨k, n⟩, hk, hI⟩
 show W _ _ _ _ _ ⟨[(1, .ptr 0 0), (3, .d (.v (.int .i64 (n)))), (4, .d (.v (.int .i64 ((k : Nat) : Int))))], [(0, t.c.map A.d)], [], 1⟩
 iterate 2 refine W.seq ?_
 apply aG; (case hb => rfl)
 ·
  iterate 2 refine pE rfl ?_
  refine pE rfl ?_
  iterate 3 refine pE rfl ?_
  apply aC; (case hj => rfl); (case hl => rfl)
  ·
   refine an rfl rfl (pE rfl (an rfl rfl ?_))
   iterate 2 refine pE rfl ?_
   refine WO.nil (aB rfl rfl rfl)
  iterate 2 refine ax rfl rfl rfl rfl ?_
  refine pE rfl (WO.nil (aB rfl rfl rfl))
 refine qs (ao rfl (fun h16 => ?_) (fun h16 => ?_))
 ·
  have hlt : k < t.rows.length := by
   revert h16
   by_cases q : (k : Int) < (t.rows.length : Int)
   · intro _; omega
   simp [q]
  have hn6 : n ≤ 600 := by
   revert h16
   by_cases q : n ≤ 600
   · intro _; exact q
   simp [q]
  obtain ⟨x, hx⟩ : ∃ x, t.rows[k]? = some x := ⟨t.rows[k], by simp [hlt]⟩
  have hd : t.rows.drop k = x :: t.rows.drop (k + 1) := by
   have := List.drop_eq_getElem_cons hlt
   rw [this, (List.getElem?_eq_some_iff.1 hx).2]
  rw [hd] at hI
  simp only [jc] at hI
  rw [if_pos hn6] at hI
  refine W.skip (qs (W.seq (W.block (W.region ?_))))
  iterate 3 refine pE rfl ?_
  refine pE rfl (pE rfl (pu (indexAddr aa rfl rfl rfl rfl rfl rfl (Int.natCast_nonneg _) (aH hx) rfl) rfl ?_))
  refine pE rfl ?_
  iterate 3 refine pE rfl ?_
  refine WO.nil (a7 (qs (W.region ?_)))
  iterate 3 refine pE rfl ?_
  refine WO.nil (W.aX [0] ⟨(k + 1, IntKind.i64.wrap (IntKind.i64.wrap (n + 1) + ((x.map aA.c).length : Int))), ?_⟩ ?_ rfl ?_ trivial ?_ trivial rfl)
  · exact ⟨hlt, by rw [List.length_map]; exact hI⟩
  · dsimp only; omega
  · repeat' first | exact trivial | refine ⟨rfl, ?_⟩ | refine ⟨aF (by assumption) (by assumption), ?_⟩
  repeat' first | exact trivial | refine ⟨rfl, ?_⟩
 have hfin : jc t.rows (t.cols.length : Int) = n := by
  rw [← hI]
  cases hdd : t.rows.drop k with
  | nil => rfl
  | cons x r =>
   have hlt : k < t.rows.length := by have := congrArg List.length hdd; simp at this; omega
   have q : (k : Int) < (t.rows.length : Int) := by omega
   have q2 : ¬ n ≤ 600 := by
    intro q2
    revert h16
    simp [q, q2]
   simp only [jc]
   rw [if_neg q2]
 refine W.exit (aN (aR (aP (qs (W.seq ?_)))))
 apply aG; (case hb => rfl)
 ·
  iterate 3 refine pE rfl ?_
  apply aC; (case hj => rfl); (case hl => rfl)
  ·
   refine an rfl rfl (pE rfl (an rfl rfl (pE rfl (an rfl rfl (pE rfl (an rfl rfl ?_))))))
   iterate 3 refine pE rfl ?_
   refine WO.nil (aB rfl rfl rfl)
  iterate 4 refine ax rfl rfl rfl rfl ?_
  iterate 2 refine pE rfl ?_
  refine WO.nil (aB rfl rfl rfl)
 refine qs (W.ret (QF.aq trivial rfl ?_))
 simp only [norm, ay]; unfold ja; rw [hfin]; first | rfl | (simp; done) | skip
end Go.Proofs.Ytjenenllmjlimaa
namespace Go.Proofs.Ytjenenllmjlimaa
open Go.Ab Go.Tb
set_option maxRecDepth 10000
attribute [local irreducible] W WO Pu QS QB QL QF QV bK CH QE
theorem vq (a b : bh) (on : List ByteArray) : aw Try.prog 6 [.ag a.c, .ag b.c, .d (.sl (on.map sc))] (.d (.v (.bool (nx a b on)))) 0 := by
 refine aw.aY (n := 18) (ts := [6]) Try.func6 (by kernel_rfl) rfl Try.ntmps6 Try.results6 rfl rfl fun C hC hG => ?_
 refine W.seq (W.region (bL rfl rfl rfl (bL rfl rfl rfl (pE rfl (WO.nil (qs (W.seq ?_)))))))
 apply aG; (case hb => rfl)
 ·
  refine pE rfl (pu (ab rfl rfl rfl (po a) rfl) rfl ?_)
  refine pE rfl ?_
  apply aC; (case hj => rfl); (case hl => rfl)
  ·
   refine an rfl rfl (pE rfl (an rfl rfl (pu (ab rfl rfl rfl (po b) rfl) rfl ?_)))
   iterate 2 refine pE rfl ?_
   apply aC; (case hj => rfl); (case hl => rfl)
   ·
    refine an rfl rfl (pE rfl (an rfl rfl (pE rfl (an rfl rfl ?_))))
    iterate 3 refine pE rfl ?_
    refine WO.nil (aB rfl rfl rfl)
   iterate 3 refine ax rfl rfl rfl rfl ?_
   iterate 2 refine pE rfl ?_
   refine WO.nil (aB rfl rfl rfl)
  iterate 2 refine ax rfl rfl rfl rfl ?_
  iterate 2 refine pE rfl ?_
  iterate 3 refine ax rfl rfl rfl rfl ?_
  iterate 2 refine pE rfl ?_
  refine WO.nil (aB rfl rfl rfl)
 refine qs (W.ret (QF.aq trivial rfl ?_))
 simp only [norm, ay]; unfold nx; rw [List.length_map]; cases ja a <;> cases ja b <;> rfl
theorem tM {a b : Col} : (decide (a.name = b.name) && decide (a.type = b.type)) = decide (a = b) := by
 obtain ⟨x, y⟩ := a
 obtain ⟨x', y'⟩ := b
 simp only [Col.mk.injEq]
 by_cases h1 : x = x' <;> by_cases h2 : y = y' <;> simp [h1, h2]
theorem uc (a b : bh) : aw Try.prog 13 [.ag a.c, .ag b.c] (.d (.v (.bool (decide (a = b))))) 0 := by
 refine aw.aY (n := 60) (ts := [4]) Try.func13 (by kernel_rfl) rfl Try.ntmps13 Try.results13 rfl rfl fun C hC hG => ?_
 refine W.seq (W.region (bL rfl rfl rfl (bL rfl rfl rfl (pE rfl (WO.nil (qs ?_))))))
 iterate 2 refine W.seq ?_
 apply aG; (case hb => rfl)
 ·
  refine pE rfl (pE rfl ?_)
  iterate 2 refine pE rfl ?_
  refine pE rfl ?_
  iterate 3 refine pE rfl ?_
  apply aC; (case hj => rfl); (case hl => rfl)
  ·
   iterate 7 refine ax rfl rfl rfl rfl ?_
   refine pE rfl (WO.nil (aB rfl rfl rfl))
  refine an rfl rfl (pE rfl (an rfl rfl (pE rfl (an rfl rfl (pE rfl (an rfl rfl (pE rfl (an rfl rfl (pE rfl (an rfl rfl (pE rfl (an rfl rfl ?_))))))))))))
  iterate 2 refine pE rfl ?_
  refine WO.nil (aB rfl rfl rfl)
 refine qs (ao rfl (fun h22 => ?_) (fun h22 => ?_))
 ·
  have hg : decide (a = b) = false := decide_eq_false (by rintro rfl; simp at h22)
  refine W.seq (W.region (pE rfl (WO.nil (qs (W.ret (ah (QF.aq trivial rfl ?_)))))))
  rw [hg]; rfl
 have hl2 : a.cols.length = b.cols.length ∧ a.rows.length = b.rows.length := by
  revert h22
  by_cases q : (a.cols.length : Int) = (b.cols.length : Int)
  ·
   simp only [List.length_map, q, decide_true, Bool.not_true, cond_false]
   intro h
   simp at h
   omega
  simp [q]
 refine W.skip (qs ?_)
 iterate 2 refine W.seq ?_
 refine W.region (pE rfl (WO.nil (qs (W.block (lI (g := 0) (j := 0) rfl rfl (fun hlen0 => ?_))))))
 rw [List.length_map] at hlen0
 refine lI (g := 0) (j := 1) rfl rfl (fun hlen1 => ?_)
 rw [List.length_map] at hlen1
 refine W.aV (ι := {x : Nat // match x with | k => k ≤ a.cols.length ∧ (a.cols.drop k = b.cols.drop k ↔ a.cols = b.cols)})
  (fun x => match x.1 with | k => [(2, .ptr 0 0), (3, .ptr 1 0), (5, .d (.v (.int .i64 ((k : Nat) : Int))))]) []
  (fun x => match x.1 with | k => [(0, a.c.map A.d), (1, b.c.map A.d)]) [] [] 2 (fun x => match x.1 with | k => a.cols.length - k)
  [0, 1] ⟨0, ?_⟩ rfl ?_ trivial ?_ trivial rfl ?_
 · exact ⟨Nat.zero_le _, by simp⟩
 · repeat' first | exact trivial | refine ⟨rfl, ?_⟩
 · repeat' first | exact trivial | refine ⟨rfl, ?_⟩
 rintro ⟨k, hk, hI⟩
 show W _ _ _ _ _ ⟨[(2, .ptr 0 0), (3, .ptr 1 0), (5, .d (.v (.int .i64 ((k : Nat) : Int))))], [(0, a.c.map A.d), (1, b.c.map A.d)], [], 2⟩
 iterate 2 refine W.seq ?_
 refine W.region ?_
 iterate 2 refine pE rfl ?_
 refine pE rfl ?_
 iterate 2 refine pE rfl ?_
 refine WO.nil (qs (bc (l := a.cols) (k := k) rfl (by simp [Ex.aD, aK]) hk (fun x hx hd hlt => ?_) (fun he hd => ?_)))
 ·
  obtain ⟨y, hy⟩ : ∃ y, b.cols[k]? = some y := ⟨b.cols[k]'(by omega), by simp⟩
  have hd2 : b.cols.drop k = y :: b.cols.drop (k + 1) := by
   have hlt2 : k < b.cols.length := by omega
   have := List.drop_eq_getElem_cons hlt2
   rw [this, (List.getElem?_eq_some_iff.1 hy).2]
  rw [hd, hd2] at hI
  refine W.skip (qs (W.seq (W.block (W.seq (W.bw aa (by kernel_rfl) ?_)))))
  refine ak (ev aa rfl) rfl ?_
  refine ak (ev aa rfl) rfl ?_
  refine ak (ev aa rfl) rfl ?_
  refine ak (indexAddr aa rfl rfl rfl rfl rfl rfl (Int.natCast_nonneg _) (aH hx) rfl) rfl ?_
  refine ak (ev aa rfl) rfl ?_
  refine ak (ev aa rfl) rfl ?_
  refine ak (ev aa rfl) rfl ?_
  refine ak (ev aa rfl) rfl ?_
  refine ak (indexAddr (l := y.c) aa rfl rfl rfl rfl rfl rfl (Int.natCast_nonneg _) (aH hy) rfl) rfl ?_
  refine ak (ev aa rfl) rfl ?_
  refine ak (ev aa rfl) rfl ?_
  refine CH.nil ?_
  refine qs (ao rfl (fun h40 => ?_) (fun h40 => ?_))
  ·
   have hxy : x ≠ y := by rintro rfl; simp at h40
   have hg : decide (a = b) = false := decide_eq_false (fun q => by have := hI.2 (by rw [q]); simp at this; exact hxy this.1)
   refine W.seq (W.region (pE rfl (WO.nil (qs (W.ret (ar (ah (bl (ar (ah (QF.aq trivial rfl ?_)))))))))))
   rw [hg]; rfl
  have hxy : x = y := by
   have := tM (a := x) (b := y)
   exact of_decide_eq_true (by rw [← this]; simpa using h40)
  have hn : a.cols.drop (k + 1) = b.cols.drop (k + 1) ↔ a.cols = b.cols := by rw [← hI, hxy]; simp
  refine W.skip (a7 (qs (W.region ?_)))
  iterate 3 refine pE rfl ?_
  refine WO.nil (W.aX [0, 1] ⟨k + 1, ?_⟩ ?_ rfl ?_ trivial ?_ trivial rfl)
  · exact ⟨hlt, hn⟩
  · dsimp only; omega
  · repeat' first | exact trivial | refine ⟨rfl, ?_⟩ | refine ⟨aF (by assumption) (by assumption), ?_⟩
  repeat' first | exact trivial | refine ⟨rfl, ?_⟩
 have hd2 : b.cols.drop k = [] := List.drop_eq_nil_of_le (by have := congrArg List.length hd; simp at this; omega)
 rw [hd, hd2] at hI
 have hce : a.cols = b.cols := hI.1 rfl
 refine W.exit (aN (aR (aP (qs ?_))))
 iterate 2 refine W.seq ?_
 refine W.region (pE rfl (WO.nil (qs (W.block ?_))))
 refine W.aV (ι := {x : Nat // match x with | k => k ≤ a.rows.length ∧ (a.rows.drop k = b.rows.drop k ↔ a.rows = b.rows)})
  (fun x => match x.1 with | k => [(2, .ptr 0 0), (3, .ptr 1 0), (6, .d (.v (.int .i64 ((k : Nat) : Int))))]) []
  (fun x => match x.1 with | k => [(0, a.c.map A.d), (1, b.c.map A.d)]) [] [] 2 (fun x => match x.1 with | k => a.rows.length - k)
  [0, 1] ⟨0, ?_⟩ rfl ?_ trivial ?_ trivial rfl ?_
 · exact ⟨Nat.zero_le _, by simp⟩
 · repeat' first | exact trivial | refine ⟨rfl, ?_⟩
 · repeat' first | exact trivial | refine ⟨rfl, ?_⟩
 rintro ⟨k, hk, hR⟩
 show W _ _ _ _ _ ⟨[(2, .ptr 0 0), (3, .ptr 1 0), (6, .d (.v (.int .i64 ((k : Nat) : Int))))], [(0, a.c.map A.d), (1, b.c.map A.d)], [], 2⟩
 iterate 2 refine W.seq ?_
 refine W.region ?_
 iterate 2 refine pE rfl ?_
 refine pE rfl ?_
 iterate 2 refine pE rfl ?_
 refine WO.nil (qs (bc (l := a.rows) (k := k) rfl (by simp [Ex.aD, aK]) hk (fun x hx hd hlt => ?_) (fun he hd => ?_)))
 ·
  obtain ⟨y, hy⟩ : ∃ y, b.rows[k]? = some y := ⟨b.rows[k]'(by omega), by simp⟩
  have hd2 : b.rows.drop k = y :: b.rows.drop (k + 1) := by
   have hlt2 : k < b.rows.length := by omega
   have := List.drop_eq_getElem_cons hlt2
   rw [this, (List.getElem?_eq_some_iff.1 hy).2]
  rw [hd, hd2] at hR
  refine W.skip (qs (W.seq (W.block (W.seq (W.bw aa (by kernel_rfl) ?_)))))
  refine ak (ev aa rfl) rfl ?_
  refine ak (ev aa rfl) rfl ?_
  refine ak (ev aa rfl) rfl ?_
  refine ak (indexAddr aa rfl rfl rfl rfl rfl rfl (Int.natCast_nonneg _) (aH hx) rfl) rfl ?_
  refine ak (ev aa rfl) rfl ?_
  refine ak (ev aa rfl) rfl ?_
  refine ak (ev aa rfl) rfl ?_
  refine ak (ev aa rfl) rfl ?_
  refine ak (indexAddr (l := rc y) aa rfl rfl rfl rfl rfl rfl (Int.natCast_nonneg _) (aH hy) rfl) rfl ?_
  refine ak (ev aa rfl) rfl ?_
  refine ak (ab rfl rfl rfl (rO x y) rfl) rfl ?_
  refine ak (ev aa rfl) rfl ?_
  refine CH.nil ?_
  refine qs (ao rfl (fun h59 => ?_) (fun h59 => ?_))
  ·
   have hxy : x ≠ y := by simpa using h59
   have hg : decide (a = b) = false := decide_eq_false (fun q => by have := hR.2 (by rw [q]); simp at this; exact hxy this.1)
   refine W.seq (W.region (pE rfl (WO.nil (qs (W.ret (ar (ah (bl (ar (ah (QF.aq trivial rfl ?_)))))))))))
   rw [hg]; rfl
  have hxy : x = y := by simpa using h59
  have hn : a.rows.drop (k + 1) = b.rows.drop (k + 1) ↔ a.rows = b.rows := by rw [← hR, hxy]; simp
  refine W.skip (a7 (qs (W.region ?_)))
  iterate 3 refine pE rfl ?_
  refine WO.nil (W.aX [0, 1] ⟨k + 1, ?_⟩ ?_ rfl ?_ trivial ?_ trivial rfl)
  · exact ⟨hlt, hn⟩
  · dsimp only; omega
  · repeat' first | exact trivial | refine ⟨rfl, ?_⟩ | refine ⟨aF (by assumption) (by assumption), ?_⟩
  repeat' first | exact trivial | refine ⟨rfl, ?_⟩
 have hd2 : b.rows.drop k = [] := List.drop_eq_nil_of_le (by have := congrArg List.length hd; simp at this; omega)
 rw [hd, hd2] at hR
 have hg : decide (a = b) = true := decide_eq_true (by cases a; cases b; simp only [bh.mk.injEq]; exact ⟨hce, hR.1 rfl⟩)
 refine W.exit (aN (aR (aP (qs (W.seq (W.region (pE rfl (WO.nil (qs (W.ret (QF.aq trivial rfl ?_)))))))))))
 rw [hg]; rfl
def wK : ByteArray := B #[107]
def wV : ByteArray := B #[118]
def tA : bh := ⟨[wK, aJ, bA].map eB, [[l7 (B #[120]), cH 0, cH 10], [l7 (B #[121]), cH 0, cH 10]]⟩
def tB : bh := ⟨[wK, aJ, bA, wV].map eB, [[l7 (B #[120]), cH 5, cH 20, cH 1], [l7 (B #[120]), cH 10, cH 12, cH 2]]⟩
def tW : bh := ⟨[wK, aJ, bA, wV].map eB, [[l7 (B #[120]), cH 5, cH 10, cH 1]]⟩
def tC : bh := ⟨[aJ].map eB, [[7].map cH, [2].map cH]⟩
def tD : bh := ⟨[aJ, wV].map eB, [[3, 1].map cH, [5, 2].map cH, [5, 3].map cH, [9, 4].map cH]⟩
def tN : bh := ⟨[aJ, wV].map eB, [[7, 3].map cH, [cH 2, eY]]⟩
def tS : bh := ⟨[aJ, bA].map eB, [[0, 3].map cH, [7, 9].map cH, [8, 8].map cH, [3, 5].map cH]⟩
def tU : bh := ⟨[aJ, bA].map eB, [[0, 5].map cH, [7, 9].map cH]⟩
set_option maxRecDepth 100000 in
theorem w9 : bC tA tB [wK] = (tW, 0) := by decide +kernel
set_option maxRecDepth 100000 in
theorem xg : bC tA tB [] = (fJ, 4) := by decide +kernel
set_option maxRecDepth 100000 in
theorem xh : e6 tC tD [] = (tN, 0) := by decide +kernel
set_option maxRecDepth 100000 in
theorem xa : b9 tS [] = (tU, 0) := by decide +kernel
end Go.Proofs.Ytjenenllmjlimaa
namespace Go.Proofs.Ytjenenllmjlimaa
open Go.Ab Go.Tb
set_option maxRecDepth 10000
attribute [local irreducible] W WO Pu QS QB QL QF QV bK CH QE
theorem lG : aw Try.prog 7 [] (.d (.v (.bool true))) 0 := by
 have hov1 : aw Try.prog 8 [.ag tA.c, .ag tB.c, .d (.sl ([wK].map sc))] (.tup [.ag tW.c, .d (.v (.int .i64 0))]) 0 := by have := iR tA tB [wK] (by decide); rw [w9] at this; exact this
 have hov2 : aw Try.prog 8 [.ag tA.c, .ag tB.c, .d (.sl (([] : List ByteArray).map sc))] (.tup [.ag fJ.c, .d (.v (.int .i64 4))]) 0 := by have := iR tA tB [] (by decide); rw [xg] at this; exact this
 have hne : aw Try.prog 11 [.ag tC.c, .ag tD.c, .d (.sl (([] : List ByteArray).map sc))] (.tup [.ag tN.c, .d (.v (.int .i64 0))]) 0 := by have := sr tC tD [] (by decide); rw [xh] at this; exact this
 have hco : aw Try.prog 12 [.ag tS.c, .d (.sl (([] : List ByteArray).map sc))] (.tup [.ag tU.c, .d (.v (.int .i64 0))]) 0 := by have := qW tS [] (by decide); rw [xa] at this; exact this
 have hs : ∀ t : bh, aw Try.prog 13 [.ag t.c, .ag t.c] (.d (.v (.bool true))) 0 := fun t => by have := uc t t; rw [decide_eq_true (rfl : t = t)] at this; exact this
 refine aw.aY (n := 154) (ts := [0]) Try.func7 (by kernel_rfl) rfl Try.ntmps7 Try.results7 rfl rfl fun C hC hG => ?_
 refine W.seq (W.region (pE rfl (WO.nil (qs (W.seq (W.region (pu (aE aa rfl rfl rfl rfl rfl rfl rfl rfl rfl) rfl ?_)))))))
 refine pu (ab rfl rfl rfl (jd [wK, aJ, bA] (by decide)) rfl) rfl ?_
 refine pu (ab rfl rfl rfl ((ju _)) rfl) rfl ?_
 refine pu (ab rfl rfl rfl ((ca _)) rfl) rfl ?_
 refine pu (ab rfl rfl rfl ((ca _)) rfl) rfl ?_
 refine pu (aE aa rfl rfl rfl rfl rfl rfl rfl rfl rfl) rfl ?_
 refine pu (ab rfl rfl rfl ((ju _)) rfl) rfl ?_
 refine pu (ab rfl rfl rfl ((ca _)) rfl) rfl ?_
 refine pu (ab rfl rfl rfl ((ca _)) rfl) rfl ?_
 refine pu (aE aa rfl rfl rfl rfl rfl rfl rfl rfl rfl) rfl ?_
 refine pu (aE aa rfl rfl rfl rfl rfl rfl rfl rfl rfl) rfl ?_
 refine pu (build aa rfl rfl rfl rfl) rfl ?_
 refine aW aa rfl rfl rfl (aM aa rfl rfl rfl rfl rfl rfl rfl rfl (WO.nil (qs (W.seq (W.region (pu (aE aa rfl rfl rfl rfl rfl rfl rfl rfl rfl) rfl ?_))))))
 refine pu (ab rfl rfl rfl (jd [wK, aJ, bA, wV] (by decide)) rfl) rfl ?_
 refine pu (ab rfl rfl rfl ((ju _)) rfl) rfl ?_
 refine pu (ab rfl rfl rfl ((ca _)) rfl) rfl ?_
 refine pu (ab rfl rfl rfl ((ca _)) rfl) rfl ?_
 refine pu (ab rfl rfl rfl ((ca _)) rfl) rfl ?_
 refine pu (aE aa rfl rfl rfl rfl rfl rfl rfl rfl rfl) rfl ?_
 refine pu (ab rfl rfl rfl ((ju _)) rfl) rfl ?_
 refine pu (ab rfl rfl rfl ((ca _)) rfl) rfl ?_
 refine pu (ab rfl rfl rfl ((ca _)) rfl) rfl ?_
 refine pu (ab rfl rfl rfl ((ca _)) rfl) rfl ?_
 refine pu (aE aa rfl rfl rfl rfl rfl rfl rfl rfl rfl) rfl ?_
 refine pu (aE aa rfl rfl rfl rfl rfl rfl rfl rfl rfl) rfl ?_
 refine pu (build aa rfl rfl rfl rfl) rfl ?_
 refine aW aa rfl rfl rfl (aM aa rfl rfl rfl rfl rfl rfl rfl rfl (WO.nil (qs (W.seq (W.region (pE rfl (pE rfl (pu (aE aa rfl rfl rfl rfl rfl rfl rfl rfl rfl) rfl ?_))))))))
 refine pu (ab rfl rfl rfl hov1 rfl) rfl ?_
 iterate 3 refine pE rfl ?_
 refine aW aa rfl rfl rfl (aM aa rfl rfl rfl rfl rfl rfl rfl rfl (pE rfl (WO.nil (qs (W.seq (W.region (pE rfl (pE rfl (pu (oq rfl rfl rfl hov2 rfl) rfl ?_)))))))))
 iterate 3 refine pE rfl ?_
 refine aW aa rfl rfl rfl (aM aa rfl rfl rfl rfl rfl rfl rfl rfl (pE rfl (WO.nil (qs (W.seq (W.kf aa 10 1 (by kernel_rfl) rfl rfl ?_))))))
 refine bM rfl (ev aa rfl) rfl ?_
 refine bM rfl (ev aa rfl) rfl ?_
 refine bM rfl (ab rfl rfl rfl ((ju _)) rfl) rfl ?_
 refine bM rfl (ab rfl rfl rfl ((ca _)) rfl) rfl ?_
 refine bM rfl (ab rfl rfl rfl ((ca _)) rfl) rfl ?_
 refine bM rfl (ab rfl rfl rfl ((ca _)) rfl) rfl ?_
 refine bM rfl (aE aa rfl rfl rfl rfl rfl rfl rfl rfl rfl) rfl ?_
 refine bM rfl (aE aa rfl rfl rfl rfl rfl rfl rfl rfl rfl) rfl ?_
 refine bM rfl (build aa rfl rfl rfl rfl) rfl ?_
 refine hH 0 rfl rfl rfl rfl rfl rfl ?_
 refine CE.nil ?_
 refine aM aa rfl rfl rfl rfl rfl rfl rfl rfl (WO.nil (qs (W.seq (W.region (pu (aE aa rfl rfl rfl rfl rfl rfl rfl rfl rfl) rfl ?_)))))
 refine pu (ab rfl rfl rfl (jd [aJ] (by decide)) rfl) rfl ?_
 refine pu (aE aa rfl rfl rfl rfl rfl rfl rfl rfl rfl) rfl ?_
 refine pu (ab rfl rfl rfl (dB [7] (by decide)) rfl) rfl ?_
 refine pu (aE aa rfl rfl rfl rfl rfl rfl rfl rfl rfl) rfl ?_
 refine pu (ab rfl rfl rfl (dB [2] (by decide)) rfl) rfl ?_
 refine pu (aE aa rfl rfl rfl rfl rfl rfl rfl rfl rfl) rfl ?_
 refine pu (build aa rfl rfl rfl rfl) rfl ?_
 refine aW aa rfl rfl rfl (aM aa rfl rfl rfl rfl rfl rfl rfl rfl (WO.nil (qs (W.seq (W.region (pu (aE aa rfl rfl rfl rfl rfl rfl rfl rfl rfl) rfl ?_))))))
 refine pu (ab rfl rfl rfl (jd [aJ, wV] (by decide)) rfl) rfl ?_
 refine pu (aE aa rfl rfl rfl rfl rfl rfl rfl rfl rfl) rfl ?_
 refine pu (ab rfl rfl rfl (dB [3, 1] (by decide)) rfl) rfl ?_
 refine pu (aE aa rfl rfl rfl rfl rfl rfl rfl rfl rfl) rfl ?_
 refine pu (ab rfl rfl rfl (dB [5, 2] (by decide)) rfl) rfl ?_
 refine pu (aE aa rfl rfl rfl rfl rfl rfl rfl rfl rfl) rfl ?_
 refine pu (ab rfl rfl rfl (dB [5, 3] (by decide)) rfl) rfl ?_
 refine pu (aE aa rfl rfl rfl rfl rfl rfl rfl rfl rfl) rfl ?_
 refine pu (ab rfl rfl rfl (dB [9, 4] (by decide)) rfl) rfl ?_
 refine pu (aE aa rfl rfl rfl rfl rfl rfl rfl rfl rfl) rfl ?_
 refine pu (build aa rfl rfl rfl rfl) rfl ?_
 refine aW aa rfl rfl rfl (aM aa rfl rfl rfl rfl rfl rfl rfl rfl (WO.nil (qs (W.seq (W.region (pE rfl (pE rfl (pu (oq rfl rfl rfl hne rfl) rfl ?_))))))))
 iterate 3 refine pE rfl ?_
 refine aW aa rfl rfl rfl (aM aa rfl rfl rfl rfl rfl rfl rfl rfl (pE rfl (WO.nil (qs (W.seq (W.kf aa 10 1 (by kernel_rfl) rfl rfl ?_))))))
 refine bM rfl (ev aa rfl) rfl ?_
 refine bM rfl (ev aa rfl) rfl ?_
 refine bM rfl (aE aa rfl rfl rfl rfl rfl rfl rfl rfl rfl) rfl ?_
 refine bM rfl (ab rfl rfl rfl (dB [7, 3] (by decide)) rfl) rfl ?_
 refine bM rfl (ab rfl rfl rfl ((ca _)) rfl) rfl ?_
 refine bM rfl (build aa rfl rfl rfl rfl) rfl ?_
 refine bM rfl (aE aa rfl rfl rfl rfl rfl rfl rfl rfl rfl) rfl ?_
 refine bM rfl (aE aa rfl rfl rfl rfl rfl rfl rfl rfl rfl) rfl ?_
 refine bM rfl (build aa rfl rfl rfl rfl) rfl ?_
 refine hH 0 rfl rfl rfl rfl rfl rfl ?_
 refine CE.nil ?_
 refine aM aa rfl rfl rfl rfl rfl rfl rfl rfl (WO.nil (qs (W.seq (W.region (pu (aE aa rfl rfl rfl rfl rfl rfl rfl rfl rfl) rfl ?_)))))
 refine pu (ab rfl rfl rfl (jd [aJ, bA] (by decide)) rfl) rfl ?_
 refine pu (aE aa rfl rfl rfl rfl rfl rfl rfl rfl rfl) rfl ?_
 refine pu (ab rfl rfl rfl (dB [0, 3] (by decide)) rfl) rfl ?_
 refine pu (aE aa rfl rfl rfl rfl rfl rfl rfl rfl rfl) rfl ?_
 refine pu (ab rfl rfl rfl (dB [7, 9] (by decide)) rfl) rfl ?_
 refine pu (aE aa rfl rfl rfl rfl rfl rfl rfl rfl rfl) rfl ?_
 refine pu (ab rfl rfl rfl (dB [8, 8] (by decide)) rfl) rfl ?_
 refine pu (aE aa rfl rfl rfl rfl rfl rfl rfl rfl rfl) rfl ?_
 refine pu (ab rfl rfl rfl (dB [3, 5] (by decide)) rfl) rfl ?_
 refine pu (aE aa rfl rfl rfl rfl rfl rfl rfl rfl rfl) rfl ?_
 refine pu (build aa rfl rfl rfl rfl) rfl ?_
 refine aW aa rfl rfl rfl (aM aa rfl rfl rfl rfl rfl rfl rfl rfl (WO.nil (qs (W.seq (W.region (pE rfl (pu (oq rfl rfl rfl hco rfl) rfl ?_)))))))
 iterate 3 refine pE rfl ?_
 refine aW aa rfl rfl rfl (aM aa rfl rfl rfl rfl rfl rfl rfl rfl (pE rfl (WO.nil (qs (W.seq (W.kf aa 9 1 (by kernel_rfl) rfl rfl ?_))))))
 refine bM rfl (ev aa rfl) rfl ?_
 refine bM rfl (ev aa rfl) rfl ?_
 refine bM rfl (aE aa rfl rfl rfl rfl rfl rfl rfl rfl rfl) rfl ?_
 refine bM rfl (ab rfl rfl rfl (dB [0, 5] (by decide)) rfl) rfl ?_
 refine bM rfl (aE aa rfl rfl rfl rfl rfl rfl rfl rfl rfl) rfl ?_
 refine bM rfl (ab rfl rfl rfl (dB [7, 9] (by decide)) rfl) rfl ?_
 refine bM rfl (aE aa rfl rfl rfl rfl rfl rfl rfl rfl rfl) rfl ?_
 refine bM rfl (build aa rfl rfl rfl rfl) rfl ?_
 refine hH 0 rfl rfl rfl rfl rfl rfl ?_
 refine CE.nil ?_
 refine aM aa rfl rfl rfl rfl rfl rfl rfl rfl (WO.nil (qs (W.seq ?_)))
 apply aG; (case hb => rfl)
 ·
  refine pE rfl (pE rfl (pu (ab rfl rfl rfl (hs tW) rfl) rfl ?_))
  refine pE rfl ?_
  apply aC; (case hj => rfl); (case hl => rfl)
  ·
   refine an rfl rfl (pE rfl (an rfl rfl ?_))
   iterate 3 refine pE rfl ?_
   apply aC; (case hj => rfl); (case hl => rfl)
   ·
    refine an rfl rfl (pE rfl (an rfl rfl ?_))
    iterate 3 refine pE rfl ?_
    apply aC; (case hj => rfl); (case hl => rfl)
    ·
     refine an rfl rfl (pE rfl (an rfl rfl (pE rfl (an rfl rfl (pu (ab rfl rfl rfl (hs tN) rfl) rfl ?_)))))
     iterate 2 refine pE rfl ?_
     apply aC; (case hj => rfl); (case hl => rfl)
     ·
      refine an rfl rfl (pE rfl (an rfl rfl ?_))
      iterate 3 refine pE rfl ?_
      apply aC; (case hj => rfl); (case hl => rfl)
      ·
       refine an rfl rfl (pE rfl (an rfl rfl (pE rfl (an rfl rfl (pu (ab rfl rfl rfl (hs tU) rfl) rfl ?_)))))
       iterate 2 refine pE rfl ?_
       apply aC; (case hj => rfl); (case hl => rfl)
       ·
        refine an rfl rfl (pE rfl (an rfl rfl ?_))
        iterate 3 refine pE rfl ?_
        refine WO.nil (aB rfl rfl rfl)
       iterate 2 refine ax rfl rfl rfl rfl ?_
       iterate 2 refine pE rfl ?_
       refine WO.nil (aB rfl rfl rfl)
      iterate 3 refine ax rfl rfl rfl rfl ?_
      iterate 2 refine pE rfl ?_
      iterate 2 refine ax rfl rfl rfl rfl ?_
      iterate 2 refine pE rfl ?_
      refine WO.nil (aB rfl rfl rfl)
     iterate 2 refine ax rfl rfl rfl rfl ?_
     iterate 2 refine pE rfl ?_
     iterate 3 refine ax rfl rfl rfl rfl ?_
     iterate 2 refine pE rfl ?_
     iterate 2 refine ax rfl rfl rfl rfl ?_
     iterate 2 refine pE rfl ?_
     refine WO.nil (aB rfl rfl rfl)
    iterate 3 refine ax rfl rfl rfl rfl ?_
    iterate 2 refine pE rfl ?_
    iterate 2 refine ax rfl rfl rfl rfl ?_
    iterate 2 refine pE rfl ?_
    iterate 3 refine ax rfl rfl rfl rfl ?_
    iterate 2 refine pE rfl ?_
    iterate 2 refine ax rfl rfl rfl rfl ?_
    iterate 2 refine pE rfl ?_
    refine WO.nil (aB rfl rfl rfl)
   iterate 2 refine ax rfl rfl rfl rfl ?_
   iterate 2 refine pE rfl ?_
   iterate 3 refine ax rfl rfl rfl rfl ?_
   iterate 2 refine pE rfl ?_
   iterate 2 refine ax rfl rfl rfl rfl ?_
   iterate 2 refine pE rfl ?_
   iterate 3 refine ax rfl rfl rfl rfl ?_
   iterate 2 refine pE rfl ?_
   iterate 2 refine ax rfl rfl rfl rfl ?_
   iterate 2 refine pE rfl ?_
   refine WO.nil (aB rfl rfl rfl)
  iterate 2 refine ax rfl rfl rfl rfl ?_
  iterate 2 refine pE rfl ?_
  iterate 2 refine ax rfl rfl rfl rfl ?_
  iterate 2 refine pE rfl ?_
  iterate 3 refine ax rfl rfl rfl rfl ?_
  iterate 2 refine pE rfl ?_
  iterate 2 refine ax rfl rfl rfl rfl ?_
  iterate 2 refine pE rfl ?_
  iterate 3 refine ax rfl rfl rfl rfl ?_
  iterate 2 refine pE rfl ?_
  iterate 2 refine ax rfl rfl rfl rfl ?_
  iterate 2 refine pE rfl ?_
  refine WO.nil (aB rfl rfl rfl)
 refine qs (W.ret (QF.aq trivial rfl ?_))
 rfl
end Go.Proofs.Ytjenenllmjlimaa
namespace Go.Proofs.Ytjenenllmjlimaa
open Go.Ab Go.Tb
set_option maxRecDepth 10000
attribute [local irreducible] W WO Pu QS QB QL QF QV bK CH QE
def kI (i j : Nat) (rows : List (List aA)) : Int := (rows.map fun r => (a9 r j).n - (a9 r i).n).sum
theorem tz {i j k : Nat} {rows : List (List aA)} {z : List aA} (h : rows[k]? = some z) : kI i j (rows.take (k + 1)) = kI i j (rows.take k) + ((a9 z j).n - (a9 z i).n) := by
 unfold kI
 rw [List.take_add_one, h]
 simp
theorem oV (t : bh) (i j : Nat) (hi : ct t.cols aJ = some i) (hj : ct t.cols bA = some j) (hr : ∀ r ∈ t.rows, i < r.length ∧ j < r.length ∧ cr r i j = true) (htl : t.rows.length ≤ 20000) :
  aw Try.prog 9 [.ag t.c] (.tup [.d (.v (.int .i64 (IntKind.i64.wrap (kI i j t.rows)))), .d (.v (.bool true))]) 0 := by
 have htm : t.rows.length ≤ maxLen := by simp only [maxLen]; omega
 have hcf : aw Try.prog 30 [.ag t.c, .d (.v (.string aJ))] (.d (.v (.int .i64 (i : Int)))) 0 := by
  have h0 := ke t aJ
  have h2 : (t.cols.findIdx? fun x => decide (x.name = aJ)) = some i := hi
  rw [h2] at h0; exact h0
 have hct : aw Try.prog 30 [.ag t.c, .d (.v (.string bA))] (.d (.v (.int .i64 (j : Int)))) 0 := by
  have h0 := ke t bA
  have h2 : (t.cols.findIdx? fun x => decide (x.name = bA)) = some j := hj
  rw [h2] at h0; exact h0
 refine aw.aY (n := 86) (ts := [2, 3]) Try.func9 (by kernel_rfl) rfl Try.ntmps9 Try.results9 rfl rfl fun C hC hG => ?_
 refine W.seq (W.region (bL rfl rfl rfl ?_))
 iterate 2 refine pE rfl ?_
 refine WO.nil (qs (W.seq (W.bw aa (by kernel_rfl) ?_)))
 refine ak (ev aa rfl) rfl ?_
 refine ak (ab rfl rfl rfl hcf rfl) rfl ?_
 refine ak (ev aa rfl) rfl ?_
 refine ak (ab rfl rfl rfl hct rfl) rfl ?_
 iterate 2 refine ak (ev aa rfl) rfl ?_
 refine CH.nil ?_
 refine qs (W.seq (W.region (pE rfl (WO.nil (qs ?_)))))
 iterate 2 refine W.seq ?_
 refine W.region (pE rfl (WO.nil (qs (W.block ?_))))
 refine W.aV (ι := {x : Nat // match x with | k => k ≤ t.rows.length})
  (fun x => match x.1 with | k => [(1, .ptr 0 0), (6, .d (.v (.int .i64 (IntKind.i64.wrap (kI i j (t.rows.take k)))))), (7, .d (.v (.int .i64 ((k : Nat) : Int))))]) [(4, _), (5, _)]
  (fun x => match x.1 with | k => [(0, t.c.map A.d)]) [] [] 1 (fun x => match x.1 with | k => t.rows.length - k)
  [0] ⟨0, ?_⟩ rfl ?_ ⟨rfl, rfl, rfl, rfl, trivial⟩ ?_ trivial rfl ?_
 · exact Nat.zero_le _
 · repeat' first | exact trivial | refine ⟨rfl, ?_⟩
 · repeat' first | exact trivial | refine ⟨rfl, ?_⟩
 rintro ⟨k, hk⟩
 show W _ _ _ _ _ ⟨[(1, .ptr 0 0), (6, .d (.v (.int .i64 (IntKind.i64.wrap (kI i j (t.rows.take k)))))), (7, .d (.v (.int .i64 ((k : Nat) : Int)))), (4, _), (5, _)], [(0, t.c.map A.d)], [], 1⟩
 iterate 2 refine W.seq ?_
 refine W.region ?_
 iterate 2 refine pE rfl ?_
 refine pE rfl ?_
 iterate 2 refine pE rfl ?_
 refine WO.nil (qs (bc (l := t.rows) (k := k) rfl (by simp [Ex.aD, aK]) hk (fun z hx hd hlt => ?_) (fun he hd => ?_)))
 ·
  have hz := hr z (List.mem_of_getElem? hx)
  have hsp := hz.2.2
  unfold cr at hsp
  simp only [Bool.and_eq_true, decide_eq_true_eq] at hsp
  have hzi : (z.map aA.c)[((i : Nat) : Int).toNat]? = some (a9 z i).c := aH (fz hz.1)
  have hzj : (z.map aA.c)[((j : Nat) : Int).toNat]? = some (a9 z j).c := aH (fz hz.2.1)
  have hst := tz (i := i) (j := j) hx
  refine W.skip (qs (W.seq (W.block (W.seq (W.region (pE rfl (pE rfl (pE rfl (pu (indexAddr aa rfl rfl rfl rfl rfl rfl (Int.natCast_nonneg _) (aH hx) rfl) rfl ?_)))))))))
  refine pE rfl (pE rfl (WO.nil (qs ?_)))
  iterate 2 refine W.seq ?_
  apply jb aa; (case hb => rfl); (case hB => kernel_rfl)
  ·
   iterate 3 refine ak (ev aa rfl) rfl ?_
   apply hF; (case hj => rfl); (case hl => rfl)
   ·
    iterate 2 refine bD rfl rfl rfl rfl ?_
    iterate 2 refine ak (ev aa rfl) rfl ?_
    iterate 4 refine bD rfl rfl rfl rfl ?_
    iterate 2 refine ak (ev aa rfl) rfl ?_
    iterate 4 refine bD rfl rfl rfl rfl ?_
    iterate 2 refine ak (ev aa rfl) rfl ?_
    iterate 6 refine bD rfl rfl rfl rfl ?_
    iterate 2 refine ak (ev aa rfl) rfl ?_
    iterate 6 refine bD rfl rfl rfl rfl ?_
    iterate 2 refine ak (ev aa rfl) rfl ?_
    iterate 11 refine bD rfl rfl rfl rfl ?_
    refine ak (ev aa rfl) rfl ?_
    refine CH.nil ?_
    refine aB rfl rfl rfl
   refine aO rfl rfl (ev aa rfl) rfl ?_
   refine aO rfl rfl (ev aa rfl) rfl ?_
   iterate 2 refine ak (ev aa rfl) rfl ?_
   apply hF; (case hj => rfl); (case hl => rfl)
   ·
    iterate 4 refine bD rfl rfl rfl rfl ?_
    iterate 2 refine ak (ev aa rfl) rfl ?_
    iterate 4 refine bD rfl rfl rfl rfl ?_
    iterate 2 refine ak (ev aa rfl) rfl ?_
    iterate 6 refine bD rfl rfl rfl rfl ?_
    iterate 2 refine ak (ev aa rfl) rfl ?_
    iterate 6 refine bD rfl rfl rfl rfl ?_
    iterate 2 refine ak (ev aa rfl) rfl ?_
    iterate 11 refine bD rfl rfl rfl rfl ?_
    refine ak (ev aa rfl) rfl ?_
    refine CH.nil ?_
    refine aB rfl rfl rfl
   refine aO rfl rfl (ev aa rfl) rfl ?_
   refine aO rfl rfl (ev aa rfl) rfl ?_
   refine aO rfl rfl (ev aa rfl) rfl ?_
   refine aO rfl rfl (ev aa rfl) rfl ?_
   iterate 2 refine ak (ev aa rfl) rfl ?_
   apply hF; (case hj => rfl); (case hl => rfl)
   ·
    iterate 4 refine bD rfl rfl rfl rfl ?_
    iterate 2 refine ak (ev aa rfl) rfl ?_
    iterate 6 refine bD rfl rfl rfl rfl ?_
    iterate 2 refine ak (ev aa rfl) rfl ?_
    iterate 6 refine bD rfl rfl rfl rfl ?_
    iterate 2 refine ak (ev aa rfl) rfl ?_
    iterate 11 refine bD rfl rfl rfl rfl ?_
    refine ak (ev aa rfl) rfl ?_
    refine CH.nil ?_
    refine aB rfl rfl rfl
   refine aO rfl rfl (ev aa rfl) rfl ?_
   refine aO rfl rfl (ev aa rfl) rfl ?_
   refine aO rfl rfl (ev aa rfl) rfl ?_
   refine aO rfl rfl (ev aa rfl) rfl ?_
   iterate 2 refine ak (ev aa rfl) rfl ?_
   apply hF; (case hj => rfl); (case hl => rfl)
   ·
    iterate 6 refine bD rfl rfl rfl rfl ?_
    iterate 2 refine ak (ev aa rfl) rfl ?_
    iterate 6 refine bD rfl rfl rfl rfl ?_
    iterate 2 refine ak (ev aa rfl) rfl ?_
    iterate 11 refine bD rfl rfl rfl rfl ?_
    refine ak (ev aa rfl) rfl ?_
    refine CH.nil ?_
    refine aB rfl rfl rfl
   refine aO rfl rfl (ev aa rfl) rfl ?_
   refine aO rfl rfl (ev aa rfl) rfl ?_
   refine aO rfl rfl (indexAddr aa rfl rfl rfl rfl rfl rfl (Int.natCast_nonneg _) hzi rfl) rfl ?_
   refine aO rfl rfl (ev aa rfl) rfl ?_
   refine aO rfl rfl (ev aa rfl) rfl ?_
   refine aO rfl rfl (ev aa rfl) rfl ?_
   iterate 2 refine ak (ev aa rfl) rfl ?_
   apply hF; (case hj => rfl); (case hl => rfl)
   ·
    iterate 6 refine bD rfl rfl rfl rfl ?_
    iterate 2 refine ak (ev aa rfl) rfl ?_
    iterate 11 refine bD rfl rfl rfl rfl ?_
    refine ak (ev aa rfl) rfl ?_
    refine CH.nil ?_
    refine aB rfl rfl rfl
   refine aO rfl rfl (ev aa rfl) rfl ?_
   refine aO rfl rfl (ev aa rfl) rfl ?_
   refine aO rfl rfl (indexAddr aa rfl rfl rfl rfl rfl rfl (Int.natCast_nonneg _) hzj rfl) rfl ?_
   refine aO rfl rfl (ev aa rfl) rfl ?_
   refine aO rfl rfl (ev aa rfl) rfl ?_
   refine aO rfl rfl (ev aa rfl) rfl ?_
   iterate 2 refine ak (ev aa rfl) rfl ?_
   apply hF; (case hj => rfl); (case hl => rfl)
   ·
    iterate 11 refine bD rfl rfl rfl rfl ?_
    refine ak (ev aa rfl) rfl ?_
    refine CH.nil ?_
    refine aB rfl rfl rfl
   refine aO rfl rfl (ev aa rfl) rfl ?_
   refine aO rfl rfl (ev aa rfl) rfl ?_
   refine aO rfl rfl (indexAddr aa rfl rfl rfl rfl rfl rfl (Int.natCast_nonneg _) hzi rfl) rfl ?_
   refine aO rfl rfl (ev aa rfl) rfl ?_
   refine aO rfl rfl (ev aa rfl) rfl ?_
   refine aO rfl rfl (ev aa rfl) rfl ?_
   refine aO rfl rfl (ev aa rfl) rfl ?_
   refine aO rfl rfl (indexAddr aa rfl rfl rfl rfl rfl rfl (Int.natCast_nonneg _) hzj rfl) rfl ?_
   refine aO rfl rfl (ev aa rfl) rfl ?_
   refine aO rfl rfl (ev aa rfl) rfl ?_
   refine aO rfl rfl (ev aa rfl) rfl ?_
   refine ak (ev aa rfl) rfl ?_
   refine CH.nil ?_
   refine aB rfl rfl rfl
  refine qs (ao rfl (fun h71 => ?_) (fun h71 => ?_))
  ·
   exfalso
   revert h71
   simp [hsp.1, hsp.2.1]
   omega
  refine W.skip (qs (W.bw aa (by kernel_rfl) ?_))
  iterate 3 refine ak (ev aa rfl) rfl ?_
  refine ak (indexAddr aa rfl rfl rfl rfl rfl rfl (Int.natCast_nonneg _) hzj rfl) rfl ?_
  refine ak (ev aa rfl) rfl ?_
  refine ak (ev aa rfl) rfl ?_
  iterate 3 refine ak (ev aa rfl) rfl ?_
  refine ak (indexAddr aa rfl rfl rfl rfl rfl rfl (Int.natCast_nonneg _) hzi rfl) rfl ?_
  refine ak (ev aa rfl) rfl ?_
  refine ak (ev aa rfl) rfl ?_
  iterate 2 refine ak (ev aa rfl) rfl ?_
  refine CH.nil ?_
  refine a7 (qs (W.region ?_))
  iterate 3 refine pE rfl ?_
  refine WO.nil (W.aX [0] ⟨k + 1, ?_⟩ ?_ rfl ?_ ⟨rfl, rfl, rfl, rfl, trivial⟩ ?_ trivial rfl)
  · exact hlt
  · dsimp only; omega
  · repeat' first | exact trivial | refine ⟨rfl, ?_⟩ | refine ⟨aF (by assumption) (by assumption), ?_⟩ | refine ⟨by rw [hst, ← tG]; rfl, ?_⟩
  repeat' first | exact trivial | refine ⟨rfl, ?_⟩
 have hfin : t.rows.take k = t.rows := List.take_of_length_le (by have := congrArg List.length hd; simp at this; omega)
 refine W.exit (aN (aR (aP (qs (W.seq (W.region ?_))))))
 iterate 3 refine pE rfl ?_
 refine WO.nil (qs (W.ret (QF.aq trivial rfl ?_)))
 simp only [norm, ay]; rw [hfin]; rfl
theorem uT (a b : bh) (on : List ByteArray) : aw Try.prog 3 [.ag a.c, .ag b.c, .d (.sl (on.map sc))] (.d (.v (.bool true))) 0 := by
 have hbi := uo (a := a) (b := b) (on := on)
 have ho1 := nH (a := a) (b := b) (on := on)
 have ho2 := nH (a := b) (b := a) (on := on)
 have hr1 := jo (a := a) (b := b) (on := on)
 have hr2 := jo (a := b) (b := a) (on := on)
 have hlc := qI a b on
 have hsc := tL a b on
 obtain ⟨T0, hT0⟩ : ∃ t, bC a b on = t := ⟨_, rfl⟩
 obtain ⟨U0, hU0⟩ : ∃ t, bC b a on = t := ⟨_, rfl⟩
 rw [hT0] at hbi ho1 hr1
 rw [hU0] at hbi ho2 hr2
 refine aw.aY (n := 85) (ts := [6]) Try.func3 (by kernel_rfl) rfl Try.ntmps3 Try.results3 rfl rfl fun C hC hG => ?_
 refine W.seq (W.region (bL rfl rfl rfl (bL rfl rfl rfl (pE rfl (WO.nil (qs ?_))))))
 iterate 2 refine W.seq ?_
 refine W.region (pE rfl (pE rfl (pE rfl (pu (ab rfl rfl rfl (vq a b on) rfl) rfl ?_))))
 refine pE rfl (WO.nil (qs (ao rfl (fun h19 => ?_) (fun h19 => ?_))))
 ·
  refine W.seq (W.region (pu (ab rfl rfl rfl lG rfl) rfl ?_))
  refine pE rfl (WO.nil (qs (W.ret (ah (QF.aq trivial rfl ?_)))))
  rfl
 have hfew : nx a b on = true := by simpa using h19
 have hon := (uE hfew).1
 have hov := iR a b on (by omega)
 rw [hT0] at hov
 have hov2 := iR b a on (by omega)
 rw [hU0] at hov2
 refine W.skip (qs (W.seq (W.region (pE rfl (pE rfl (pE rfl (pu (ab rfl rfl rfl hov rfl) rfl ?_)))))))
 iterate 3 refine pE rfl ?_
 refine aW aa rfl rfl rfl (aM aa rfl rfl rfl rfl rfl rfl rfl rfl (pE rfl (WO.nil (qs (W.seq (W.region (pE rfl (pE rfl (pE rfl (pu (ab rfl rfl rfl hov2 rfl) rfl ?_))))))))))
 iterate 3 refine pE rfl ?_
 refine aW aa rfl rfl rfl (aM aa rfl rfl rfl rfl rfl rfl rfl rfl (pE rfl (WO.nil (qs ?_))))
 iterate 2 refine W.seq ?_
 apply aG; (case hb => rfl)
 ·
  iterate 3 refine pE rfl ?_
  apply aC; (case hj => rfl); (case hl => rfl)
  ·
   iterate 2 refine ax rfl rfl rfl rfl ?_
   refine pE rfl (WO.nil (aB rfl rfl rfl))
  refine an rfl rfl (pE rfl (an rfl rfl ?_))
  iterate 2 refine pE rfl ?_
  refine WO.nil (aB rfl rfl rfl)
 refine qs (ao rfl (fun h40 => ?_) (fun h40 => ?_))
 ·
  have he : T0.2 ≠ 0 := by
   intro q
   have := hbi.1 q
   revert h40
   simp [q, this]
  have he2 : U0.2 ≠ 0 := fun q => he (hbi.2 q)
  have hb1 : decide (T0.2 = 0) = false := decide_eq_false he
  have hb2 : decide (U0.2 = 0) = false := decide_eq_false he2
  refine W.seq ?_
  apply aG; (case hb => rfl)
  ·
   iterate 6 refine pE rfl ?_
   apply aC; (case hj => rfl); (case hl => rfl)
   ·
    refine an rfl rfl (pu (ab rfl rfl rfl lG rfl) rfl ?_)
    iterate 2 refine pE rfl ?_
    refine WO.nil (aB rfl rfl rfl)
   refine ax rfl rfl rfl rfl ?_
   iterate 2 refine pE rfl ?_
   refine WO.nil (aB rfl rfl rfl)
  refine qs (W.ret (ah (QF.aq trivial rfl ?_)))
  (simp only [norm, ay]; simp [hb1, hb2]; done)
 have he : T0.2 = 0 := by
  by_cases q : T0.2 = 0
  · exact q
  have q2 : ¬ U0.2 = 0 := fun r => q (hbi.2 r)
  revert h40
  simp [q]
 have he2 : U0.2 = 0 := hbi.1 he
 obtain ⟨hv1, i1, j1, p1, q1, s1, t1⟩ := ho1 he
 obtain ⟨hv2, i2, j2, p2, q2, s2, t2⟩ := ho2 he2
 have hl1 := oV T0.1 i1 j1 p1 q1 s1 (dw hv1).2
 have hl2 := oV U0.1 i2 j2 p2 q2 s2 (dw hv2).2
 have hee : kI i1 j1 T0.1.rows = kI i2 j2 U0.1.rows := by unfold kI; rw [t1, t2, hsc]
 rw [hee] at hl1
 have hlen : T0.1.rows.length = U0.1.rows.length := by rw [hr1 he, hr2 he2, List.length_map, List.length_map, hlc]
 refine W.skip (qs (W.seq (W.region (pE rfl (pu (ab rfl rfl rfl hl1 rfl) rfl ?_)))))
 iterate 5 refine pE rfl ?_
 refine WO.nil (qs (W.seq (W.region (pE rfl (pu (ab rfl rfl rfl hl2 rfl) rfl ?_)))))
 iterate 5 refine pE rfl ?_
 refine WO.nil (qs (W.seq ?_))
 apply aG; (case hb => rfl)
 ·
  iterate 2 refine pE rfl ?_
  apply aC; (case hj => rfl); (case hl => rfl)
  ·
   refine an rfl rfl ?_
   iterate 3 refine pE rfl ?_
   apply aC; (case hj => rfl); (case hl => rfl)
   ·
    refine an rfl rfl (pE rfl (an rfl rfl (pE rfl (an rfl rfl ?_))))
    iterate 3 refine pE rfl ?_
    apply aC; (case hj => rfl); (case hl => rfl)
    ·
     refine an rfl rfl (pE rfl (an rfl rfl (pE rfl (an rfl rfl (pE rfl (an rfl rfl (pE rfl (an rfl rfl (pE rfl (an rfl rfl (pE rfl (an rfl rfl ?_))))))))))))
     iterate 3 refine pE rfl ?_
     apply aC; (case hj => rfl); (case hl => rfl)
     ·
      refine an rfl rfl (pE rfl (an rfl rfl (pu (ab rfl rfl rfl (qh T0.1) rfl) rfl ?_)))
      refine an rfl rfl ?_
      iterate 3 refine pE rfl ?_
      apply aC; (case hj => rfl); (case hl => rfl)
      ·
       refine an rfl rfl (pu (ab rfl rfl rfl lG rfl) rfl ?_)
       iterate 2 refine pE rfl ?_
       refine WO.nil (aB rfl rfl rfl)
      refine ax rfl rfl rfl rfl ?_
      iterate 2 refine pE rfl ?_
      refine WO.nil (aB rfl rfl rfl)
     iterate 3 refine ax rfl rfl rfl rfl ?_
     iterate 2 refine pE rfl ?_
     refine ax rfl rfl rfl rfl ?_
     iterate 2 refine pE rfl ?_
     refine WO.nil (aB rfl rfl rfl)
    iterate 7 refine ax rfl rfl rfl rfl ?_
    iterate 2 refine pE rfl ?_
    iterate 3 refine ax rfl rfl rfl rfl ?_
    iterate 2 refine pE rfl ?_
    refine ax rfl rfl rfl rfl ?_
    iterate 2 refine pE rfl ?_
    refine WO.nil (aB rfl rfl rfl)
   iterate 3 refine ax rfl rfl rfl rfl ?_
   iterate 2 refine pE rfl ?_
   iterate 7 refine ax rfl rfl rfl rfl ?_
   iterate 2 refine pE rfl ?_
   iterate 3 refine ax rfl rfl rfl rfl ?_
   iterate 2 refine pE rfl ?_
   refine ax rfl rfl rfl rfl ?_
   iterate 2 refine pE rfl ?_
   refine WO.nil (aB rfl rfl rfl)
  refine ax rfl rfl rfl rfl ?_
  iterate 2 refine pE rfl ?_
  iterate 3 refine ax rfl rfl rfl rfl ?_
  iterate 2 refine pE rfl ?_
  iterate 7 refine ax rfl rfl rfl rfl ?_
  iterate 2 refine pE rfl ?_
  iterate 3 refine ax rfl rfl rfl rfl ?_
  iterate 2 refine pE rfl ?_
  refine ax rfl rfl rfl rfl ?_
  iterate 2 refine pE rfl ?_
  refine WO.nil (aB rfl rfl rfl)
 refine qs (W.ret (QF.aq trivial rfl ?_))
 (simp only [norm, ay]; simp [hlen, hv1]; done)
end Go.Proofs.Ytjenenllmjlimaa
