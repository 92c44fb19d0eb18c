import Derived.Test.YtifeonoehfffmaaGreatDoorQ5
namespace Go.Proofs.YtifeonoehfffmaaGreatDoor
open Go.Ab Go.Tb
set_option maxRecDepth 10000
attribute [local irreducible] W WO Pu QS QB QL QF QV QV1 CH QE
theorem digits_fn : ∀ (k u : Nat), u ≤ k → u ≤ 1000000000000000 → Does Tryz.prog 87 [.d (.v (.int .i64 (u : Int)))] (.d (.v (.string (ofL (digB u))))) 0
  | k, u, hk, hu => by
    by_cases h10 : u < 10
    · have hb : digB u = [UInt8.ofNat (48 + u)] := digB_small h10
      have hx : (B #[48, 49, 50, 51, 52, 53, 54, 55, 56, 57]).extract u (u + 1) = ofL (digB u) := by
        rw [hb]
        have : u = 0 ∨ u = 1 ∨ u = 2 ∨ u = 3 ∨ u = 4 ∨ u = 5 ∨ u = 6 ∨ u = 7 ∨ u = 8 ∨ u = 9 := by omega
        rcases this with rfl | rfl | rfl | rfl | rfl | rfl | rfl | rfl | rfl | rfl <;> decide
      refine Does.of_W (n := 16) (ts := [2]) Tryz.func87 (by kernel_rfl) rfl Tryz.ntmps87 Tryz.results87 rfl rfl fun C hC hG => ?_
      refine W.seq ?_
      refine W.region ?_
      refine pu (ev tab rfl) rfl ?_
      refine WO.nil ?_
      refine qs ?_
      refine W.seq ?_
      refine W.seq ?_
      refine W.region ?_
      iterate 2 refine pu (ev tab rfl) rfl ?_
      refine WO.nil ?_
      refine qs ?_
      refine condK rfl (fun h4 => ?_) (fun h4 => ?_)
      · skip
        refine W.seq ?_
        refine W.region ?_
        iterate 2 refine pu (ev tab rfl) rfl ?_
        refine pu (puI (ev tab rfl) (y := ((u + 1 : Nat) : Int)) (by rw [wrap64 (by omega)]; rfl)) rfl ?_
        refine pu (puS (strPart (s := B #[48, 49, 50, 51, 52, 53, 54, 55, 56, 57]) (l := (u : Int)) (h := ((u + 1 : Nat) : Int)) tab rfl rfl rfl rfl rfl (Int.natCast_nonneg _) (by omega) (by show ((u + 1 : Nat) : Int) ≤ 10; omega)) hx) rfl ?_
        refine pu (ev tab rfl) rfl ?_
        refine WO.nil ?_
        refine qs ?_
        refine W.ret ?_
        refine qsRet ?_
        refine QF.ret0 trivial rfl ?_
        rfl
      · skip
        exfalso
        simp at h4
        omega
    · obtain ⟨k', rfl⟩ : ∃ k', k = k' + 1 := ⟨k - 1, by omega⟩
      have i1 := digits_fn k' (u / 10) (by omega) (by omega)
      have i2 := digits_fn k' (u % 10) (by omega) (by omega)
      have l1 := digB_len (u / 10) 15 (by have : (10 : Nat) ^ (15 + 1) = 10000000000000000 := by decide
                                          omega)
      have l2 := digB_len (u % 10) 15 (by have : (10 : Nat) ^ (15 + 1) = 10000000000000000 := by decide
                                          omega)
      have e1 : ((u : Int)).tdiv 10 = ((u / 10 : Nat) : Int) := by rw [show (10 : Int) = ((10 : Nat) : Int) from rfl, ← Int.ofNat_tdiv]
      have e2 : ((u : Int)).tmod 10 = ((u % 10 : Nat) : Int) := by rw [show (10 : Int) = ((10 : Nat) : Int) from rfl, ← Int.ofNat_tmod]
      have hb : ofL (digB (u / 10)) ++ ofL (digB (u % 10)) = ofL (digB u) := by
        rw [ofL_append, digB_big h10, digB_small (Nat.mod_lt u (by decide))]
      refine Does.of_W (n := 16) (ts := [2]) Tryz.func87 (by kernel_rfl) rfl Tryz.ntmps87 Tryz.results87 rfl rfl fun C hC hG => ?_
      refine W.seq ?_
      refine W.region ?_
      refine pu (ev tab rfl) rfl ?_
      refine WO.nil ?_
      refine qs ?_
      refine W.seq ?_
      refine W.seq ?_
      refine W.region ?_
      iterate 2 refine pu (ev tab rfl) rfl ?_
      refine WO.nil ?_
      refine qs ?_
      refine condK rfl (fun h4 => ?_) (fun h4 => ?_)
      · skip
        exfalso
        simp at h4
        omega
      · skip
        refine W.skip ?_
        refine qs ?_
        refine W.seq ?_
        refine W.region ?_
        refine pu (ev tab rfl) rfl ?_
        refine pu (puI (quoR rfl rfl (by decide) (okc_wrap _ _)) (y := ((u / 10 : Nat) : Int)) (by rw [e1]; exact wrap64 (by omega))) rfl ?_
        refine pu (puCall rfl rfl rfl i1 rfl) rfl ?_
        refine pu (ev tab rfl) rfl ?_
        refine pu (puI (remR rfl rfl (by decide) (by rw [e2]; simp only [okc, Bool.and_eq_true, decide_eq_true_eq]; exact ⟨by show (-9223372036854775808 : Int) ≤ _; omega, by show _ ≤ (9223372036854775807 : Int); omega⟩)) (y := ((u % 10 : Nat) : Int)) e2) rfl ?_
        refine pu (puCall rfl rfl rfl i2 rfl) rfl ?_
        refine pu (puS (strAdd rfl rfl (by rw [ofL_size, ofL_size]; omega)) hb) rfl ?_
        refine pu (ev tab rfl) rfl ?_
        refine WO.nil ?_
        refine qs ?_
        refine W.ret ?_
        refine QF.ret0 trivial rfl ?_
        rfl
theorem digits_fn' {n : Int} (h0 : 0 ≤ n) (h1 : n ≤ 1000000000000000) : Does Tryz.prog 87 [.d (.v (.int .i64 n))] (.d (.v (.string (digsB n)))) 0 := by
  obtain ⟨u, rfl⟩ : ∃ u : Nat, n = (u : Int) := ⟨n.toNat, by omega⟩
  exact digits_fn u u (Nat.le_refl _) (by omega)
theorem operator_fn {op : Int} (h5 : 5 ≤ op) (h15 : op ≤ 15) : Does Tryz.prog 47 [.d (.v (.int .i64 op))] (.d (.v (.string (opText op)))) 0 := by
  have hx : ([[cs gAdd], [cs gSub], [cs gMul], [cs gDiv], [cs gMod], [cs gEq], [cs gNe], [cs gLt], [cs gLe], [cs kwAnd], [cs kwOr]] : List (List D))[(op - 5).toNat]? = some [cs (opText op)] := by
    rcases op_cases h5 h15 with rfl | rfl | rfl | rfl | rfl | rfl | rfl | rfl | rfl | rfl | rfl <;> rfl
  refine Does.of_W (n := 8) (ts := [2]) Tryz.func47 (by kernel_rfl) rfl Tryz.ntmps47 Tryz.results47 rfl rfl fun C hC hG => ?_
  refine W.seq ?_
  refine W.region ?_
  refine pu (ev tab rfl) rfl ?_
  refine WO.nil ?_
  refine qs ?_
  refine W.seq ?_
  refine W.region ?_
  refine pu (buildV tab rfl rfl rfl rfl rfl rfl rfl rfl rfl) rfl ?_
  refine pu (ev tab rfl) rfl ?_
  refine pu (puI (ev tab rfl) (y := (((op - 5).toNat : Nat) : Int)) (by rw [wrap64 (by omega)]; omega)) rfl ?_
  refine pu (indexAddr (l := [cs (opText op)]) tab rfl rfl rfl rfl rfl rfl (Int.natCast_nonneg _) hx rfl) rfl ?_
  first | refine pu (ev tab rfl) rfl ?_ | refine pu (loadRow tab rfl rfl rfl rfl) rfl ?_ | refine pu (loadBox tab rfl rfl rfl rfl rfl) rfl ?_
  refine pu (ev tab rfl) rfl ?_
  refine WO.nil ?_
  refine qs ?_
  refine W.ret ?_
  refine QF.ret0 trivial rfl ?_
  rfl
theorem plain_fn (v : Val) (h : constErr v = 0) : Does Tryz.prog 46 [.ag v.c] (.d (.v (.string (plainB v)))) 0 := by
  have hs := const_text h
  have hr : v.kind ≠ 0 → v.kind ≠ 3 → v.kind ≠ 1 → -1000000000000000 ≤ v.n ∧ v.n ≤ 1000000000000000 := fun h0 h3 h1 => by
    rcases const_facts h with ⟨e, _⟩ | ⟨e, _⟩ | e | e | ⟨e, hr⟩
    · exact absurd e h0
    · exact absurd e h3
    · exact absurd (by rw [e]) h1
    · exact absurd (by rw [e]) h1
    · simpa [inR] using hr
  refine Does.of_W (n := 41) (ts := [2]) Tryz.func46 (by kernel_rfl) rfl Tryz.ntmps46 Tryz.results46 rfl rfl fun C hC hG => ?_
  refine W.seq ?_
  refine W.region ?_
  refine boxR rfl rfl rfl ?_
  refine pu (ev tab rfl) rfl ?_
  refine WO.nil ?_
  refine qs ?_
  refine W.seq ?_
  refine W.block ?_
  refine W.seq ?_
  refine W.region ?_
  refine pu (ev tab rfl) rfl ?_
  first | refine pu (ev tab rfl) rfl ?_ | refine pu (loadRow tab rfl rfl rfl rfl) rfl ?_ | refine pu (loadBox tab rfl rfl rfl rfl rfl) rfl ?_
  iterate 2 refine pu (ev tab rfl) rfl ?_
  refine WO.nil ?_
  refine qs ?_
  refine condK rfl (fun h3 => ?_) (fun h3 => ?_)
  · skip
    have k0 : v.kind = 0 := of_decide_eq_true h3
    have hp : plainB v = kwNull := by unfold plainB; rw [if_pos k0]
    refine W.seq ?_
    refine W.region ?_
    refine pu (ev tab rfl) rfl ?_
    refine WO.nil ?_
    refine qs ?_
    refine W.ret ?_
    refine qbRet ?_
    refine qsRet ?_
    refine QF.ret0 trivial rfl ?_
    rw [hp]; rfl
  · skip
    have k0 : ¬ v.kind = 0 := of_decide_eq_false h3
    refine W.seq ?_
    refine W.region ?_
    refine pu (ev tab rfl) rfl ?_
    first | refine pu (ev tab rfl) rfl ?_ | refine pu (loadRow tab rfl rfl rfl rfl) rfl ?_ | refine pu (loadBox tab rfl rfl rfl rfl rfl) rfl ?_
    iterate 2 refine pu (ev tab rfl) rfl ?_
    refine WO.nil ?_
    refine qs ?_
    refine condK rfl (fun h7 => ?_) (fun h7 => ?_)
    · skip
      have k3 : v.kind = 3 := of_decide_eq_true h7
      have hp : plainB v = B #[34] ++ v.s ++ B #[34] := by unfold plainB; rw [if_neg k0, if_pos k3]
      refine W.seq ?_
      refine W.region ?_
      refine pu (ev tab rfl) rfl ?_
      first | refine pu (ev tab rfl) rfl ?_ | refine pu (loadRow tab rfl rfl rfl rfl) rfl ?_ | refine pu (loadBox tab rfl rfl rfl rfl rfl) rfl ?_
      refine pu (strAdd rfl rfl (by show 1 + v.s.size ≤ _; omega)) rfl ?_
      refine pu (strAdd rfl rfl (by rw [ByteArray.size_append]; show 1 + v.s.size + 1 ≤ _; omega)) rfl ?_
      refine pu (ev tab rfl) rfl ?_
      refine WO.nil ?_
      refine qs ?_
      refine W.ret ?_
      refine qbRet ?_
      refine qsRet ?_
      refine QF.ret0 trivial rfl ?_
      rw [hp]; rfl
    · skip
      have k3 : ¬ v.kind = 3 := of_decide_eq_false h7
      refine W.seq ?_
      apply regionB; (case hb => rfl)
      · skip
        refine pu (ev tab rfl) rfl ?_
        first | refine pu (ev tab rfl) rfl ?_ | refine pu (loadRow tab rfl rfl rfl rfl) rfl ?_ | refine pu (loadBox tab rfl rfl rfl rfl rfl) rfl ?_
        iterate 2 refine pu (ev tab rfl) rfl ?_
        apply splitJ; (case hj => rfl); (case hl => rfl)
        · skip
          refine goG rfl rfl ?_
          refine pu (ev tab rfl) rfl ?_
          refine goG rfl rfl ?_
          first | refine pu (ev tab rfl) rfl ?_ | refine pu (loadRow tab rfl rfl rfl rfl) rfl ?_ | refine pu (loadBox tab rfl rfl rfl rfl rfl) rfl ?_
          refine goG rfl rfl ?_
          iterate 3 refine pu (ev tab rfl) rfl ?_
          refine WO.nil ?_
          refine qv1 rfl rfl rfl
        · skip
          refine skipT rfl rfl rfl rfl ?_
          refine skipT rfl rfl rfl rfl ?_
          refine skipT rfl rfl rfl rfl ?_
          iterate 2 refine pu (ev tab rfl) rfl ?_
          refine WO.nil ?_
          refine qv1 rfl rfl rfl
      refine qs ?_
      refine condK rfl (fun h15 => ?_) (fun h15 => ?_)
      · skip
        have k1 : v.kind = 1 ∧ v.n = 1 := by simpa using h15
        have hp : plainB v = kwTrue := by unfold plainB; rw [if_neg k0, if_neg k3, if_pos k1]
        refine W.seq ?_
        refine W.region ?_
        refine pu (ev tab rfl) rfl ?_
        refine WO.nil ?_
        refine qs ?_
        refine W.ret ?_
        refine qbRet ?_
        refine qsRet ?_
        refine QF.ret0 trivial rfl ?_
        rw [hp]; rfl
      · skip
        have k1 : ¬ (v.kind = 1 ∧ v.n = 1) := by simpa using h15
        refine W.seq ?_
        refine W.region ?_
        refine pu (ev tab rfl) rfl ?_
        first | refine pu (ev tab rfl) rfl ?_ | refine pu (loadRow tab rfl rfl rfl rfl) rfl ?_ | refine pu (loadBox tab rfl rfl rfl rfl rfl) rfl ?_
        iterate 2 refine pu (ev tab rfl) rfl ?_
        refine WO.nil ?_
        refine qs ?_
        refine condK rfl (fun h24 => ?_) (fun h24 => ?_)
        · skip
          have k2 : v.kind = 1 := of_decide_eq_true h24
          have hp : plainB v = kwFalse := by unfold plainB; rw [if_neg k0, if_neg k3, if_neg k1, if_pos k2]
          refine W.seq ?_
          refine W.region ?_
          refine pu (ev tab rfl) rfl ?_
          refine WO.nil ?_
          refine qs ?_
          refine W.ret ?_
          refine qbRet ?_
          refine qsRet ?_
          refine QF.ret0 trivial rfl ?_
          rw [hp]; rfl
        · skip
          have k2 : ¬ v.kind = 1 := of_decide_eq_false h24
          have hr' := hr k0 k3 k2
          refine W.seq ?_
          refine W.region ?_
          refine pu (ev tab rfl) rfl ?_
          first | refine pu (ev tab rfl) rfl ?_ | refine pu (loadRow tab rfl rfl rfl rfl) rfl ?_ | refine pu (loadBox tab rfl rfl rfl rfl rfl) rfl ?_
          iterate 2 refine pu (ev tab rfl) rfl ?_
          refine WO.nil ?_
          refine qs ?_
          refine condK rfl (fun h28 => ?_) (fun h28 => ?_)
          · skip
            have kn : v.n < 0 := of_decide_eq_true h28
            have hd := digits_fn' (n := -v.n) (by omega) (by omega)
            have hz := digsB_size (n := -v.n) (by omega) (by omega)
            have hp : plainB v = B #[40, 45] ++ digsB (-v.n) ++ B #[41] := by unfold plainB; rw [if_neg k0, if_neg k3, if_neg k1, if_neg k2, if_pos kn]
            refine W.seq ?_
            refine W.region ?_
            refine pu (ev tab rfl) rfl ?_
            first | refine pu (ev tab rfl) rfl ?_ | refine pu (loadRow tab rfl rfl rfl rfl) rfl ?_ | refine pu (loadBox tab rfl rfl rfl rfl rfl) rfl ?_
            refine pu (puI (ev tab rfl) (show IntKind.i64.wrap (0 - v.n) = -v.n from by rw [Int.zero_sub]; exact wrap64 (by omega))) rfl ?_
            refine pu (puCall rfl rfl rfl hd rfl) rfl ?_
            refine pu (strAdd rfl rfl (by show 2 + (digsB (-v.n)).size ≤ _; omega)) rfl ?_
            refine pu (strAdd rfl rfl (by rw [ByteArray.size_append]; show 2 + (digsB (-v.n)).size + 1 ≤ _; omega)) rfl ?_
            refine pu (ev tab rfl) rfl ?_
            refine WO.nil ?_
            refine qs ?_
            refine W.ret ?_
            refine qbRet ?_
            refine qsRet ?_
            refine QF.ret0 trivial rfl ?_
            rw [hp]; rfl
          · skip
            have kn : ¬ v.n < 0 := of_decide_eq_false h28
            have hd := digits_fn' (n := v.n) (by omega) (by omega)
            have hp : plainB v = digsB v.n := by unfold plainB; rw [if_neg k0, if_neg k3, if_neg k1, if_neg k2, if_neg kn]
            refine W.skip ?_
            refine qbN ?_
            refine qs ?_
            refine W.seq ?_
            refine W.region ?_
            refine pu (ev tab rfl) rfl ?_
            first | refine pu (ev tab rfl) rfl ?_ | refine pu (loadRow tab rfl rfl rfl rfl) rfl ?_ | refine pu (loadBox tab rfl rfl rfl rfl rfl) rfl ?_
            refine pu (puCall rfl rfl rfl hd rfl) rfl ?_
            refine pu (ev tab rfl) rfl ?_
            refine WO.nil ?_
            refine qs ?_
            refine W.ret ?_
            refine QF.ret0 trivial rfl ?_
            rw [hp]; rfl
end Go.Proofs.YtifeonoehfffmaaGreatDoor
namespace Go.Proofs.YtifeonoehfffmaaGreatDoor
open Go.Ab Go.Tb
set_option maxRecDepth 10000
attribute [local irreducible] W WO Pu QS QB QL QF QV QV1 CH QE
theorem fullB_eq (e : Ex) : fullB e = fullN e.op e.name e.v (e.kids.map fullB) := by
  obtain ⟨op, name, v, kids⟩ := e
  rw [← fullBs_map]
  rfl
theorem vx_inv {e : Ex} (h : Vx e) : (e.op = 1 → constErr e.v = 0) ∧ (e.op = 2 → identB e.name = true) ∧ (e.op = 3 ∨ e.op = 4 → ∃ k, e.kids = [k] ∧ Vx k) ∧ (e.op = 16 → identB e.name = true ∧ (∀ k ∈ e.kids, Vx k) ∧ e.kids.length ≤ 2) ∧ (e.op ≠ 1 → e.op ≠ 2 → e.op ≠ 3 → e.op ≠ 4 → e.op ≠ 16 → 5 ≤ e.op ∧ e.op ≤ 15 ∧ ∃ a b, e.kids = [a, b] ∧ Vx a ∧ Vx b) := by
  cases h with
  | const v h => exact ⟨fun _ => h, fun q => absurd q (show ¬ (1 : Int) = 2 by decide), fun q => absurd q (show ¬ ((1 : Int) = 3 ∨ (1 : Int) = 4) by decide), fun q => absurd q (show ¬ (1 : Int) = 16 by decide), fun q => absurd rfl q⟩
  | field s h => exact ⟨fun q => absurd q (show ¬ (2 : Int) = 1 by decide), fun _ => h, fun q => absurd q (show ¬ ((2 : Int) = 3 ∨ (2 : Int) = 4) by decide), fun q => absurd q (show ¬ (2 : Int) = 16 by decide), fun _ q => absurd rfl q⟩
  | not_ k h => exact ⟨fun q => absurd q (show ¬ (3 : Int) = 1 by decide), fun q => absurd q (show ¬ (3 : Int) = 2 by decide), fun _ => ⟨k, rfl, h⟩, fun q => absurd q (show ¬ (3 : Int) = 16 by decide), fun _ _ q => absurd rfl q⟩
  | neg k h => exact ⟨fun q => absurd q (show ¬ (4 : Int) = 1 by decide), fun q => absurd q (show ¬ (4 : Int) = 2 by decide), fun _ => ⟨k, rfl, h⟩, fun q => absurd q (show ¬ (4 : Int) = 16 by decide), fun _ _ _ q => absurd rfl q⟩
  | bin op a b h5 h15 ha hb => exact ⟨fun q => absurd (show op = 1 from q) (by omega), fun q => absurd (show op = 2 from q) (by omega), fun q => absurd (show op = 3 ∨ op = 4 from q) (by omega), fun q => absurd (show op = 16 from q) (by omega), fun _ _ _ _ _ => ⟨h5, h15, a, b, rfl, ha, hb⟩⟩
  | call1 s k h hk => exact ⟨fun q => absurd q (show ¬ (16 : Int) = 1 by decide), fun q => absurd q (show ¬ (16 : Int) = 2 by decide), fun q => absurd q (show ¬ ((16 : Int) = 3 ∨ (16 : Int) = 4) by decide), fun _ => ⟨h, fun x hx => by obtain rfl := List.mem_singleton.1 hx; exact hk, show 1 ≤ 2 by decide⟩, fun _ _ _ _ q => absurd rfl q⟩
  | call2 s a b h ha hb => exact ⟨fun q => absurd q (show ¬ (16 : Int) = 1 by decide), fun q => absurd q (show ¬ (16 : Int) = 2 by decide), fun q => absurd q (show ¬ ((16 : Int) = 3 ∨ (16 : Int) = 4) by decide), fun _ => ⟨h, fun x hx => by
      have hx' : x ∈ [a, b] := hx
      simp only [List.mem_cons, List.not_mem_nil, or_false] at hx'
      rcases hx' with rfl | rfl
      · exact ha
      · exact hb, show 2 ≤ 2 by decide⟩, fun _ _ _ _ q => absurd rfl q⟩
theorem cnt_kid {e k : Ex} (h : k ∈ e.kids) : cnt k ≤ cnt e := by
  rw [cnt_eq e]
  revert h
  generalize e.kids = l
  intro h
  induction l with
  | nil => cases h
  | cons a l ih =>
    simp only [cntL]
    have h1 := cnt_pos a
    have h2 := cntL_pos l
    rcases List.mem_cons.1 h with rfl | h
    · omega
    · have := ih h
      omega
set_option maxHeartbeats 4000000 in
theorem full_fn : ∀ e : Ex, Vx e → cnt e ≤ 200 → Does Tryz.prog 20 [.ag e.c] (.d (.v (.string (fullB e)))) 0 := by
  refine Ex.ind fun e ih hv hc => ?_
  obtain ⟨i1, i2, i34, i16, ib⟩ := vx_inv hv
  have hsz : ∀ k ∈ e.kids, Vx k → (fullB k).size ≤ 60000 ∧ Does Tryz.prog 20 [.ag k.c] (.d (.v (.string (fullB k)))) 0 := fun k hk hvk => by
    have h1 := cnt_kid hk
    have h2 := full_size hvk
    exact ⟨by omega, ih k hk hvk (by omega)⟩
  have hf := fullB_eq e
  refine Does.of_W (n := 78) (ts := [2]) Tryz.func20 (by kernel_rfl) rfl Tryz.ntmps20 Tryz.results20 rfl rfl fun C hC hG => ?_
  refine W.seq ?_
  refine W.region ?_
  refine boxR rfl rfl rfl ?_
  refine pu (ev tab rfl) rfl ?_
  refine WO.nil ?_
  refine qs ?_
  refine W.seq ?_
  refine W.seq ?_
  refine W.region ?_
  refine pu (ev tab rfl) rfl ?_
  first | refine pu (ev tab rfl) rfl ?_ | refine pu (loadRow tab rfl rfl rfl rfl) rfl ?_ | refine pu (loadBox tab rfl rfl rfl rfl rfl) rfl ?_
  refine WO.nil ?_
  refine qs ?_
  refine W.block ?_
  refine W.seq ?_
  refine W.region ?_
  iterate 2 refine pu (ev tab rfl) rfl ?_
  refine WO.nil ?_
  refine qs ?_
  refine condK rfl (fun h7 => ?_) (fun h7 => ?_)
  · skip
    have e1 : e.op = 1 := of_decide_eq_true h7
    rw [show fullB e = plainB e.v by rw [hf]; unfold fullN; rw [if_pos e1]]
    refine W.seq ?_
    refine W.region ?_
    refine pu (ev tab rfl) rfl ?_
    first | refine pu (ev tab rfl) rfl ?_ | refine pu (loadRow tab rfl rfl rfl rfl) rfl ?_ | refine pu (loadBox tab rfl rfl rfl rfl rfl) rfl ?_
    refine pu (puCall rfl rfl rfl (plain_fn e.v (i1 e1)) rfl) rfl ?_
    refine pu (ev tab rfl) rfl ?_
    refine WO.nil ?_
    refine qs ?_
    refine W.ret ?_
    refine qbRet ?_
    refine qsRet ?_
    refine QF.ret0 trivial rfl ?_
    rfl
  · skip
    have e1 : ¬ e.op = 1 := of_decide_eq_false h7
    refine W.seq ?_
    refine W.region ?_
    iterate 2 refine pu (ev tab rfl) rfl ?_
    refine WO.nil ?_
    refine qs ?_
    refine condK rfl (fun h12 => ?_) (fun h12 => ?_)
    · skip
      have e2 : e.op = 2 := of_decide_eq_true h12
      rw [show fullB e = e.name by rw [hf]; unfold fullN; rw [if_neg e1, if_pos e2]]
      refine W.seq ?_
      refine W.region ?_
      refine pu (ev tab rfl) rfl ?_
      first | refine pu (ev tab rfl) rfl ?_ | refine pu (loadRow tab rfl rfl rfl rfl) rfl ?_ | refine pu (loadBox tab rfl rfl rfl rfl rfl) rfl ?_
      refine pu (ev tab rfl) rfl ?_
      refine WO.nil ?_
      refine qs ?_
      refine W.ret ?_
      refine qbRet ?_
      refine qsRet ?_
      refine QF.ret0 trivial rfl ?_
      rfl
    · skip
      have e2 : ¬ e.op = 2 := of_decide_eq_false h12
      refine W.seq ?_
      refine W.region ?_
      iterate 2 refine pu (ev tab rfl) rfl ?_
      refine WO.nil ?_
      refine qs ?_
      refine condK rfl (fun h16 => ?_) (fun h16 => ?_)
      · skip
        have e3 : e.op = 3 := of_decide_eq_true h16
        obtain ⟨k, hk, hvk⟩ := i34 (.inl e3)
        have hk0 : e.kids[0]? = some k := by rw [hk]; rfl
        obtain ⟨z1, z2⟩ := hsz k (by rw [hk]; simp) hvk
        rw [show fullB e = B #[40, 110, 111, 116, 32] ++ fullB k ++ B #[41] by rw [hf, hk]; unfold fullN; rw [if_neg e1, if_neg e2, if_pos e3]; rfl]
        refine W.seq ?_
        refine W.region ?_
        refine pu (ev tab rfl) rfl ?_
        first | refine pu (ev tab rfl) rfl ?_ | refine pu (loadRow tab rfl rfl rfl rfl) rfl ?_ | refine pu (loadBox tab rfl rfl rfl rfl rfl) rfl ?_
        refine pu (indexAddr (l := k.c) tab rfl rfl rfl rfl rfl rfl (by decide) (Ex.kc_idx (i := 0) hk0) rfl) rfl ?_
        first | refine pu (ev tab rfl) rfl ?_ | refine pu (loadRow tab rfl rfl rfl rfl) rfl ?_ | refine pu (loadBox tab rfl rfl rfl rfl rfl) rfl ?_
        refine pu (puCall rfl rfl rfl z2 rfl) rfl ?_
        refine pu (strAdd rfl rfl (by show 5 + (fullB k).size ≤ _; omega)) rfl ?_
        refine pu (strAdd rfl rfl (by rw [ByteArray.size_append]; show 5 + (fullB k).size + 1 ≤ _; omega)) rfl ?_
        refine pu (ev tab rfl) rfl ?_
        refine WO.nil ?_
        refine qs ?_
        refine W.ret ?_
        refine qbRet ?_
        refine qsRet ?_
        refine QF.ret0 trivial rfl ?_
        rfl
      · skip
        have e3 : ¬ e.op = 3 := of_decide_eq_false h16
        refine W.seq ?_
        refine W.region ?_
        iterate 2 refine pu (ev tab rfl) rfl ?_
        refine WO.nil ?_
        refine qs ?_
        refine condK rfl (fun h25 => ?_) (fun h25 => ?_)
        · skip
          have e4 : e.op = 4 := of_decide_eq_true h25
          obtain ⟨k, hk, hvk⟩ := i34 (.inr e4)
          have hk0 : e.kids[0]? = some k := by rw [hk]; rfl
          obtain ⟨z1, z2⟩ := hsz k (by rw [hk]; simp) hvk
          rw [show fullB e = B #[45] ++ fullB k by rw [hf, hk]; unfold fullN; rw [if_neg e1, if_neg e2, if_neg e3, if_pos e4]; rfl]
          refine W.seq ?_
          refine W.region ?_
          refine pu (ev tab rfl) rfl ?_
          first | refine pu (ev tab rfl) rfl ?_ | refine pu (loadRow tab rfl rfl rfl rfl) rfl ?_ | refine pu (loadBox tab rfl rfl rfl rfl rfl) rfl ?_
          refine pu (indexAddr (l := k.c) tab rfl rfl rfl rfl rfl rfl (by decide) (Ex.kc_idx (i := 0) hk0) rfl) rfl ?_
          first | refine pu (ev tab rfl) rfl ?_ | refine pu (loadRow tab rfl rfl rfl rfl) rfl ?_ | refine pu (loadBox tab rfl rfl rfl rfl rfl) rfl ?_
          refine pu (puCall rfl rfl rfl z2 rfl) rfl ?_
          refine pu (strAdd rfl rfl (by show 1 + (fullB k).size ≤ _; omega)) rfl ?_
          refine pu (ev tab rfl) rfl ?_
          refine WO.nil ?_
          refine qs ?_
          refine W.ret ?_
          refine qbRet ?_
          refine qsRet ?_
          refine QF.ret0 trivial rfl ?_
          rfl
        · skip
          have e4 : ¬ e.op = 4 := of_decide_eq_false h25
          refine W.seq ?_
          refine W.region ?_
          iterate 2 refine pu (ev tab rfl) rfl ?_
          refine WO.nil ?_
          refine qs ?_
          refine condK rfl (fun h33 => ?_) (fun h33 => ?_)
          · skip
            have e16 : e.op = 16 := of_decide_eq_true h33
            obtain ⟨hid, hvk, hle⟩ := i16 e16
            have hns := ident_size hid
            have hkl := e.kc_len
            have hml : e.kids.length ≤ maxLen := by simp only [maxLen]; omega
            rw [show fullB e = commaB (B #[44]) (e.name ++ B #[40]) (e.kids.map fullB) ++ B #[41] by rw [hf]; unfold fullN; rw [if_neg e1, if_neg e2, if_neg e3, if_neg e4, if_pos e16]]
            have hcs : ∀ j, (commaB (B #[44]) (e.name ++ B #[40]) ((e.kids.map fullB).take j)).size ≤ 200000 := fun j => by
              have h1 := commaB_size (x := B #[44]) (out := e.name ++ B #[40]) (M := 60000) (l := (e.kids.map fullB).take j) (fun s hs => by
                obtain ⟨k, hk, rfl⟩ := List.mem_map.1 (List.mem_of_mem_take hs)
                exact (hsz k hk (hvk k hk)).1)
              have h2 : ((e.kids.map fullB).take j).length ≤ 2 := by rw [List.length_take, List.length_map]; omega
              rw [ByteArray.size_append] at h1
              have h3 : ((e.kids.map fullB).take j).length * (60000 + (B #[44]).size) ≤ 2 * 60001 := Nat.mul_le_mul h2 (Nat.le_refl _)
              have h4 : (B #[40]).size = 1 := rfl
              omega
            refine W.seq ?_
            refine W.region ?_
            refine pu (ev tab rfl) rfl ?_
            first | refine pu (ev tab rfl) rfl ?_ | refine pu (loadRow tab rfl rfl rfl rfl) rfl ?_ | refine pu (loadBox tab rfl rfl rfl rfl rfl) rfl ?_
            refine pu (puS (strAdd rfl rfl (by show e.name.size + 1 ≤ _; omega)) (show e.name ++ B #[40] = commaB (B #[44]) (e.name ++ B #[40]) ((e.kids.map fullB).take 0) from rfl)) rfl ?_
            refine pu (ev tab rfl) rfl ?_
            refine WO.nil ?_
            refine qs ?_
            refine W.seq ?_
            refine W.seq ?_
            refine W.region ?_
            refine pu (ev tab rfl) rfl ?_
            refine WO.nil ?_
            refine qs ?_
            refine W.block ?_
            refine W.loopR (ι := {x : Nat // match x with | k => k ≤ e.kids.length})
              (fun x => match x.1 with | k => [(1, .ptr 0 0), (3, .d (.v (.string ((commaB (B #[44]) (e.name ++ B #[40]) ((e.kids.map fullB).take k)))))), (4, .d (.v (.int .i64 ((k : Nat) : Int))))]) []
              (fun x => match x.1 with | k => []) [(0, _)] [] 1 (fun x => match x.1 with | k => e.kids.length - k)
              [0] ⟨0, ?_⟩ rfl ?_ trivial ?_ ⟨rfl, rfl, trivial⟩ rfl ?_
            · exact Nat.zero_le _
            · repeat' first | exact trivial | refine ⟨rfl, ?_⟩ | refine ⟨step_nat (by assumption) (by assumption), ?_⟩
            · repeat' first | exact trivial | refine ⟨rfl, ?_⟩ | refine ⟨step_nat (by assumption) (by assumption), ?_⟩
            rintro ⟨k, hk⟩
            show W _ _ _ _ _ ⟨[(1, .ptr 0 0), (3, .d (.v (.string ((commaB (B #[44]) (e.name ++ B #[40]) ((e.kids.map fullB).take k)))))), (4, .d (.v (.int .i64 ((k : Nat) : Int))))], [(0, _)], [], 1⟩
            refine W.seq ?_
            refine W.seq ?_
            refine W.region ?_
            iterate 2 refine pu (ev tab rfl) rfl ?_
            first | refine pu (ev tab rfl) rfl ?_ | refine pu (loadRow tab rfl rfl rfl rfl) rfl ?_ | refine pu (loadBox tab rfl rfl rfl rfl rfl) rfl ?_
            iterate 2 refine pu (ev tab rfl) rfl ?_
            refine WO.nil ?_
            refine qs ?_
            refine eachR (l := e.kids) (k := k) rfl (by simp [Ex.kc_len, bytes_len]) hk (fun x hx hd hlt => ?_) (fun he hd => ?_)
            · skip
              have hkx : (e.kids.map fullB)[k]? = some (fullB x) := by rw [List.getElem?_map, hx]; rfl
              have hxm := List.mem_of_getElem? hx
              obtain ⟨z1, z2⟩ := hsz x hxm (hvk x hxm)
              have hst := commaB_take (x := B #[44]) (out := e.name ++ B #[40]) hkx
              have hck := hcs k
              have hco : (if k = 0 then commaB (B #[44]) (e.name ++ B #[40]) ((e.kids.map fullB).take k) else commaB (B #[44]) (e.name ++ B #[40]) ((e.kids.map fullB).take k) ++ B #[44]).size ≤ 200001 := by
                split
                · omega
                · rw [ByteArray.size_append]; show _ + 1 ≤ 200001; omega
              refine W.skip ?_
              refine qs ?_
              refine W.seq ?_
              refine W.block ?_
              refine W.seq ?_
              refine W.seq ?_
              refine W.region ?_
              iterate 2 refine pu (ev tab rfl) rfl ?_
              refine WO.nil ?_
              refine qs ?_
              refine W.cutS [(1, .ptr 0 0), (3, .d (.v (.string ((if k = 0 then commaB (B #[44]) (e.name ++ B #[40]) ((e.kids.map fullB).take k) else commaB (B #[44]) (e.name ++ B #[40]) ((e.kids.map fullB).take k) ++ B #[44]))))), (4, .d (.v (.int .i64 ((k : Nat) : Int))))] [] [] [0] [] 1 ?_ ?_
              · skip
                refine condK rfl (fun h46 => ?_) (fun h46 => ?_)
                · skip
                  rw [if_neg (show ¬ k = 0 by simp at h46; omega)]
                  refine W.region ?_
                  refine pu (ev tab rfl) rfl ?_
                  refine pu (strAdd rfl rfl (by show _ + 1 ≤ _; omega)) rfl ?_
                  refine pu (ev tab rfl) rfl ?_
                  refine WO.nil ?_
                  refine cutEnd [0] rfl ?_ trivial ?_ ⟨rfl, rfl, trivial⟩ rfl
                  · repeat' first | exact trivial | refine ⟨rfl, ?_⟩ | refine ⟨step_nat (by assumption) (by assumption), ?_⟩
                  · repeat' first | exact trivial | refine ⟨rfl, ?_⟩ | refine ⟨step_nat (by assumption) (by assumption), ?_⟩
                · skip
                  rw [if_pos (show k = 0 by simp at h46; omega)]
                  refine W.skip ?_
                  refine cutEnd [0] rfl ?_ trivial ?_ ⟨rfl, rfl, trivial⟩ rfl
                  · repeat' first | exact trivial | refine ⟨rfl, ?_⟩ | refine ⟨step_nat (by assumption) (by assumption), ?_⟩
                  · repeat' first | exact trivial | refine ⟨rfl, ?_⟩ | refine ⟨step_nat (by assumption) (by assumption), ?_⟩
              refine qs ?_
              refine W.region ?_
              iterate 2 refine pu (ev tab rfl) rfl ?_
              first | refine pu (ev tab rfl) rfl ?_ | refine pu (loadRow tab rfl rfl rfl rfl) rfl ?_ | refine pu (loadBox tab rfl rfl rfl rfl rfl) rfl ?_
              refine pu (ev tab rfl) rfl ?_
              refine pu (indexAddr (l := x.c) tab rfl rfl rfl rfl rfl rfl (Int.natCast_nonneg _) (Ex.kc_idx hx) rfl) rfl ?_
              first | refine pu (ev tab rfl) rfl ?_ | refine pu (loadRow tab rfl rfl rfl rfl) rfl ?_ | refine pu (loadBox tab rfl rfl rfl rfl rfl) rfl ?_
              refine pu (puCall rfl rfl rfl z2 rfl) rfl ?_
              refine pu (puS (strAdd rfl rfl (by omega)) (show _ = commaB (B #[44]) (e.name ++ B #[40]) ((e.kids.map fullB).take (k + 1)) from by rw [hst]; split <;> rfl)) rfl ?_
              refine pu (ev tab rfl) rfl ?_
              refine WO.nil ?_
              refine qbN ?_
              refine qs ?_
              refine W.region ?_
              iterate 3 refine pu (ev tab rfl) rfl ?_
              refine WO.nil ?_
              refine W.endR [0] ⟨k + 1, ?_⟩ ?_ rfl ?_ trivial ?_ ⟨rfl, rfl, trivial⟩ rfl
              · exact hlt
              · dsimp only; omega
              · repeat' first | exact trivial | refine ⟨rfl, ?_⟩ | refine ⟨step_nat (by assumption) (by assumption), ?_⟩
              · repeat' first | exact trivial | refine ⟨rfl, ?_⟩ | refine ⟨step_nat (by assumption) (by assumption), ?_⟩
            · skip
              have htk : (e.kids.map fullB).take k = e.kids.map fullB := List.take_of_length_le (by simp; omega)
              have hck := hcs k
              rw [htk] at hck ⊢
              refine W.exit ?_
              refine qsExit ?_
              refine qlExit ?_
              refine qbExit ?_
              refine qs ?_
              refine W.seq ?_
              refine W.region ?_
              refine pu (ev tab rfl) rfl ?_
              refine pu (strAdd rfl rfl (by show _ + 1 ≤ _; omega)) rfl ?_
              refine pu (ev tab rfl) rfl ?_
              refine WO.nil ?_
              refine qs ?_
              refine W.ret ?_
              refine qbRet ?_
              refine qsRet ?_
              refine QF.ret0 trivial rfl ?_
              rfl
          · skip
            have e16 : ¬ e.op = 16 := of_decide_eq_false h33
            obtain ⟨h5, h15, a, b, hk, hva, hvb⟩ := ib e1 e2 e3 e4 e16
            have hk0 : e.kids[0]? = some a := by rw [hk]; rfl
            have hk1 : e.kids[1]? = some b := by rw [hk]; rfl
            obtain ⟨z1, z2⟩ := hsz a (by rw [hk]; simp) hva
            obtain ⟨y1, y2⟩ := hsz b (by rw [hk]; simp) hvb
            have hos := opText_size h5 h15
            rw [show fullB e = B #[40] ++ fullB a ++ B #[32] ++ opText e.op ++ B #[32] ++ fullB b ++ B #[41] by rw [hf, hk]; unfold fullN; rw [if_neg e1, if_neg e2, if_neg e3, if_neg e4, if_neg e16]; rfl]
            refine W.skip ?_
            refine qbN ?_
            refine qs ?_
            refine W.seq ?_
            refine W.regionD tab (by kernel_rfl) ?_
            refine chPu (ev tab rfl) rfl ?_
            first | refine chPu (ev tab rfl) rfl ?_ | refine chPu (loadRow tab rfl rfl rfl rfl) rfl ?_ | refine chPu (loadBox tab rfl rfl rfl rfl rfl) rfl ?_
            refine chPu (indexAddr (l := a.c) tab rfl rfl rfl rfl rfl rfl (by decide) (Ex.kc_idx (i := 0) hk0) rfl) rfl ?_
            first | refine chPu (ev tab rfl) rfl ?_ | refine chPu (loadRow tab rfl rfl rfl rfl) rfl ?_ | refine chPu (loadBox tab rfl rfl rfl rfl rfl) rfl ?_
            refine chPu (puCall rfl rfl rfl z2 rfl) rfl ?_
            refine chPu (strAdd rfl rfl (by show 1 + (fullB a).size ≤ _; omega)) rfl ?_
            refine chPu (strAdd rfl rfl (by rw [ByteArray.size_append]; show 1 + (fullB a).size + 1 ≤ _; omega)) rfl ?_
            refine chPu (ev tab rfl) rfl ?_
            first | refine chPu (ev tab rfl) rfl ?_ | refine chPu (loadRow tab rfl rfl rfl rfl) rfl ?_ | refine chPu (loadBox tab rfl rfl rfl rfl rfl) rfl ?_
            refine chPu (puCall rfl rfl rfl (operator_fn h5 h15) rfl) rfl ?_
            refine chPu (strAdd rfl rfl (by simp only [ByteArray.size_append]; show 1 + (fullB a).size + 1 + (opText e.op).size ≤ _; omega)) rfl ?_
            refine chPu (strAdd rfl rfl (by simp only [ByteArray.size_append]; show 1 + (fullB a).size + 1 + (opText e.op).size + 1 ≤ _; omega)) rfl ?_
            refine chPu (ev tab rfl) rfl ?_
            first | refine chPu (ev tab rfl) rfl ?_ | refine chPu (loadRow tab rfl rfl rfl rfl) rfl ?_ | refine chPu (loadBox tab rfl rfl rfl rfl rfl) rfl ?_
            refine chPu (indexAddr (l := b.c) tab rfl rfl rfl rfl rfl rfl (by decide) (Ex.kc_idx (i := 1) hk1) rfl) rfl ?_
            first | refine chPu (ev tab rfl) rfl ?_ | refine chPu (loadRow tab rfl rfl rfl rfl) rfl ?_ | refine chPu (loadBox tab rfl rfl rfl rfl rfl) rfl ?_
            refine chPu (puCall rfl rfl rfl y2 rfl) rfl ?_
            refine chPu (strAdd rfl rfl (by simp only [ByteArray.size_append]; show 1 + (fullB a).size + 1 + (opText e.op).size + 1 + (fullB b).size ≤ _; omega)) rfl ?_
            refine chPu (strAdd rfl rfl (by simp only [ByteArray.size_append]; show 1 + (fullB a).size + 1 + (opText e.op).size + 1 + (fullB b).size + 1 ≤ _; omega)) rfl ?_
            refine chPu (ev tab rfl) rfl ?_
            refine CH.nil ?_
            refine qs ?_
            refine W.ret ?_
            refine QF.ret0 trivial rfl ?_
            rfl
end Go.Proofs.YtifeonoehfffmaaGreatDoor
namespace Go.Proofs.YtifeonoehfffmaaGreatDoor
open Go.Ab Go.Tb
set_option maxRecDepth 10000
attribute [local irreducible] W WO Pu QS QB QL QF QV QV1 CH QE
end Go.Proofs.YtifeonoehfffmaaGreatDoor
namespace Go.Proofs.YtifeonoehfffmaaGreatDoor
open Go.Ab Go.Tb
set_option maxRecDepth 10000
attribute [local irreducible] W WO Pu QS QB QL QF QV QV1 CH QE
end Go.Proofs.YtifeonoehfffmaaGreatDoor
namespace Go.Proofs.YtifeonoehfffmaaGreatDoor
open Go.Ab Go.Tb
set_option maxRecDepth 10000
attribute [local irreducible] W WO Pu QS QB QL QF QV QV1 CH QE
end Go.Proofs.YtifeonoehfffmaaGreatDoor
namespace Go.Proofs.YtifeonoehfffmaaGreatDoor
open Go.Ab Go.Tb
set_option maxRecDepth 10000
attribute [local irreducible] W WO Pu QS QB QL QF QV QV1 CH QE
end Go.Proofs.YtifeonoehfffmaaGreatDoor
namespace Go.Proofs.YtifeonoehfffmaaGreatDoor
open Go.Ab Go.Tb
set_option maxRecDepth 10000
attribute [local irreducible] W WO Pu QS QB QL QF QV QV1 CH QE
end Go.Proofs.YtifeonoehfffmaaGreatDoor
namespace Go.Proofs.YtifeonoehfffmaaGreatDoor
open Go.Ab Go.Tb
set_option maxRecDepth 10000
attribute [local irreducible] W WO Pu QS QB QL QF QV QV1 CH QE
theorem lexback_fn (x : Ex) : Does Tryz.prog 6 [.ag x.c] (.d (.v (.bool true))) 0 := by
  refine Does.of_W (n := 42) (ts := [2]) Tryz.func6 (by kernel_rfl) rfl Tryz.ntmps6 Tryz.results6 rfl rfl fun C hC hG => ?_
  refine W.seq ?_
  refine W.region ?_
  refine boxR rfl rfl rfl ?_
  refine pu (ev tab rfl) rfl ?_
  refine WO.nil ?_
  refine qs ?_
  refine W.seq ?_
  refine W.seq ?_
  apply regionB; (case hb => rfl)
  · skip
    first | refine pu (ev tab rfl) rfl ?_ | refine pu (loadRow tab rfl rfl rfl rfl) rfl ?_ | refine pu (loadBox tab rfl rfl rfl rfl rfl) rfl ?_
    refine pu (puCall rfl rfl rfl (count_fn x 200 (by decide) (by decide)) rfl) rfl ?_
    iterate 2 refine pu (ev tab rfl) rfl ?_
    apply splitH; (case hj => rfl); (case hl => rfl)
    · intro g10
      refine skipT rfl rfl rfl rfl ?_
      refine skipT rfl rfl rfl rfl ?_
      refine skipT rfl rfl rfl rfl ?_
      refine pu (ev tab rfl) rfl ?_
      refine WO.nil ?_
      refine qv1 rfl rfl rfl
    · intro g10
      refine goG rfl rfl ?_
      first | refine pu (ev tab rfl) rfl ?_ | refine pu (loadRow tab rfl rfl rfl rfl) rfl ?_ | refine pu (loadBox tab rfl rfl rfl rfl rfl) rfl ?_
      refine goG rfl rfl ?_
      refine pu (puCall rfl rfl rfl (rexpr_fn x) rfl) rfl ?_
      refine goG rfl rfl ?_
      iterate 2 refine pu (ev tab rfl) rfl ?_
      refine WO.nil ?_
      refine qv1 rfl rfl rfl
  refine qs ?_
  refine condK rfl (fun h14 => ?_) (fun h14 => ?_)
  · skip
    refine W.seq ?_
    refine W.region ?_
    refine pu (puCall rfl rfl rfl (lives37_fn ..) rfl) rfl ?_
    refine pu (ev tab rfl) rfl ?_
    refine WO.nil ?_
    refine qs ?_
    refine W.ret ?_
    refine qsRet ?_
    refine QF.ret0 trivial rfl ?_
    rfl
  · skip
    have he : exprErr x = 0 := by simp at h14; exact h14.2
    have hv := expr_vx he
    have hc : cnt x ≤ 200 := by have c1 := he; unfold exprErr at c1; split at c1; cases c1; omega
    refine W.skip ?_
    refine qs ?_
    refine W.seq ?_
    refine W.region ?_
    first | refine pu (ev tab rfl) rfl ?_ | refine pu (loadRow tab rfl rfl rfl rfl) rfl ?_ | refine pu (loadBox tab rfl rfl rfl rfl rfl) rfl ?_
    refine pu (puCall rfl rfl rfl (full_fn x hv hc) rfl) rfl ?_
    refine pu (ev tab rfl) rfl ?_
    refine WO.nil ?_
    refine qs ?_
    refine W.seq ?_
    refine W.seq ?_
    refine W.region ?_
    iterate 3 refine pu (ev tab rfl) rfl ?_
    refine WO.nil ?_
    refine qs ?_
    refine condK rfl (fun h20 => ?_) (fun h20 => ?_)
    · skip
      refine W.seq ?_
      refine W.region ?_
      refine pu (puCall rfl rfl rfl (lives37_fn ..) rfl) rfl ?_
      refine pu (ev tab rfl) rfl ?_
      refine WO.nil ?_
      refine qs ?_
      refine W.ret ?_
      refine qsRet ?_
      refine QF.ret0 trivial rfl ?_
      rfl
    · skip
      have hs : (fullB x).size ≤ 2000 := by simp at h20; omega
      have hq := pexpr_fn (fullB x) (by omega)
      rw [expr_back true he hv hs] at hq
      refine W.skip ?_
      refine qs ?_
      refine W.seq ?_
      refine W.region ?_
      refine pu (ev tab rfl) rfl ?_
      refine pu (puCall rfl rfl rfl hq rfl) rfl ?_
      iterate 4 refine pu (ev tab rfl) rfl ?_
      refine allocR tab rfl rfl rfl ?_
      refine storeR tab rfl rfl rfl rfl rfl rfl rfl rfl ?_
      iterate 2 refine pu (ev tab rfl) rfl ?_
      refine WO.nil ?_
      refine qs ?_
      refine W.seq ?_
      apply regionB; (case hb => rfl)
      · skip
        first | refine pu (ev tab rfl) rfl ?_ | refine pu (loadRow tab rfl rfl rfl rfl) rfl ?_ | refine pu (loadBox tab rfl rfl rfl rfl rfl) rfl ?_
        first | refine pu (ev tab rfl) rfl ?_ | refine pu (loadRow tab rfl rfl rfl rfl) rfl ?_ | refine pu (loadBox tab rfl rfl rfl rfl rfl) rfl ?_
        refine pu (puCall rfl rfl rfl (sameX_fn x) rfl) rfl ?_
        refine pu (ev tab rfl) rfl ?_
        apply splitH; (case hj => rfl); (case hl => rfl)
        · intro g31
          refine goG rfl rfl ?_
          refine pu (ev tab rfl) rfl ?_
          refine goG rfl rfl ?_
          iterate 3 refine pu (ev tab rfl) rfl ?_
          apply splitH; (case hj => rfl); (case hl => rfl)
          · intro g35
            refine goG rfl rfl ?_
            refine pu (ev tab rfl) rfl ?_
            refine goG rfl rfl ?_
            iterate 3 refine pu (ev tab rfl) rfl ?_
            apply splitH; (case hj => rfl); (case hl => rfl)
            · intro g39
              refine goG rfl rfl ?_
              refine pu (puCall rfl rfl rfl (lives37_fn ..) rfl) rfl ?_
              iterate 2 refine pu (ev tab rfl) rfl ?_
              refine WO.nil ?_
              refine qv1 rfl rfl rfl
            · intro g39
              refine skipT rfl rfl rfl rfl ?_
              iterate 2 refine pu (ev tab rfl) rfl ?_
              refine WO.nil ?_
              refine qv1 rfl rfl rfl
          · intro g35
            refine skipT rfl rfl rfl rfl ?_
            refine skipT rfl rfl rfl rfl ?_
            iterate 2 refine pu (ev tab rfl) rfl ?_
            refine skipT rfl rfl rfl rfl ?_
            iterate 2 refine pu (ev tab rfl) rfl ?_
            refine WO.nil ?_
            refine qv1 rfl rfl rfl
        · intro g31
          refine skipT rfl rfl rfl rfl ?_
          refine skipT rfl rfl rfl rfl ?_
          iterate 2 refine pu (ev tab rfl) rfl ?_
          refine skipT rfl rfl rfl rfl ?_
          refine skipT rfl rfl rfl rfl ?_
          iterate 2 refine pu (ev tab rfl) rfl ?_
          refine skipT rfl rfl rfl rfl ?_
          iterate 2 refine pu (ev tab rfl) rfl ?_
          refine WO.nil ?_
          refine qv1 rfl rfl rfl
      refine qs ?_
      refine W.ret ?_
      refine QF.ret0 trivial rfl ?_
      rfl
end Go.Proofs.YtifeonoehfffmaaGreatDoor
