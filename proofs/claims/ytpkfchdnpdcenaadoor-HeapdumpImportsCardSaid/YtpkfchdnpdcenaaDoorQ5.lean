import Derived.Test.YtpkfchdnpdcenaaDoorQ4
namespace Go.Proofs.YtpkfchdnpdcenaaDoor
open Go.Ab Go.Tb
set_option maxRecDepth 10000
attribute [local irreducible] W WO Pu QS QB QL QF QV QV1 CH QE
theorem drop_two {α : Type} {L : List α} {i : Nat} {l m : α} (h0 : L[i]? = some l) (h1 : L[i + 1]? = some m) : L.drop i = l :: m :: L.drop (i + 2) ∧ L.drop (i + 1) = m :: L.drop (i + 2) := by
  obtain ⟨a, b⟩ := List.getElem?_eq_some_iff.1 h0
  obtain ⟨c, d⟩ := List.getElem?_eq_some_iff.1 h1
  have e1 := List.drop_eq_getElem_cons a
  have e2 := List.drop_eq_getElem_cons c
  rw [b] at e1
  rw [d] at e2
  exact ⟨by rw [e1, e2], e2⟩
theorem rimport25_fn (s : ByteArray) : Does Tryd.prog 18 [.d (.v (.string s))] (.tup [.ag (importH s).1.c, .d (.v (.int .i64 (importH s).2.1)), .d (.v (.int .i64 (importH s).2.2))]) 0 := by
  refine Does.of_V tab (n := 99) (rs := [.cell 2 25, .tmp 3, .tmp 4]) Tryd.func18 (by kernel_rfl) rfl Tryd.ntmps18 Tryd.results18 rfl fun C hC hG => ?_
  refine W.seq ?_
  refine W.region ?_
  refine allocR tab rfl rfl rfl ?_
  iterate 2 refine pu (ev tab rfl) rfl ?_
  refine WO.nil ?_
  refine qs ?_
  refine W.seq ?_
  refine W.seq ?_
  refine W.region ?_
  iterate 3 refine pu (ev tab rfl) rfl ?_
  refine WO.nil ?_
  refine qs ?_
  refine condK rfl (fun h17 => ?_) (fun h17 => ?_)
  · skip
    have hg : importH s = (hp0, 0, 7) := by unfold importH; rw [if_pos (by simp at h17; omega)]
    refine W.seq ?_
    refine W.region ?_
    refine pu (build tab rfl rfl rfl rfl) rfl ?_
    refine storeR tab rfl rfl rfl rfl rfl rfl rfl rfl ?_
    iterate 2 refine pu (ev tab rfl) rfl ?_
    refine WO.nil ?_
    refine qs ?_
    try refine nilBox 0 0 rfl rfl rfl ?_
    try refine nilBox 0 1 rfl rfl rfl ?_
    refine W.ret ?_
    refine qsRet ?_
    refine QV.ret0 tab trivial rfl ?_
    rw [hg]; rfl
  · skip
    have hsz : s.size ≤ 65536 := by simp at h17; omega
    have hg : importH s = impL (cutB s 10) 1 hp0 := by unfold importH; rw [if_neg (by omega)]
    have hLl := cutB_len s 10
    have hLz := cutB_le (s := s) (c := 10) (m := 65536) (by omega)
    generalize hLs : cutB s 10 = L at hg hLl hLz
    obtain ⟨n, hn⟩ : ∃ n, L.length = n + 1 := ⟨L.length - 1, by omega⟩
    refine W.skip ?_
    refine qs ?_
    refine W.seq ?_
    refine W.region ?_
    refine pu (build tab rfl rfl rfl rfl) rfl ?_
    refine allocR tab rfl rfl rfl ?_
    refine storeR tab rfl rfl rfl rfl rfl rfl rfl rfl ?_
    refine WO.nil ?_
    refine qs ?_
    refine W.seq ?_
    refine W.region ?_
    refine pu (ev tab rfl) rfl ?_
    refine pu (puCall rfl rfl rfl (hLs ▸ cut_fn s 10 (by omega)) rfl) rfl ?_
    refine pu (ev tab rfl) rfl ?_
    refine WO.nil ?_
    refine qs ?_
    refine W.seq ?_
    refine W.region ?_
    iterate 2 refine pu (ev tab rfl) rfl ?_
    refine pu (puI (ev tab rfl) (y := ((n : Nat) : Int)) (by rw [List.length_map, hn, wrap64 (by omega)]; omega)) rfl ?_
    refine pu (ev tab rfl) rfl ?_
    refine WO.nil ?_
    refine qs ?_
    refine W.seq ?_
    refine W.seq ?_
    refine W.region ?_
    refine pu (ev tab rfl) rfl ?_
    refine WO.nil ?_
    refine qs ?_
    refine W.block ?_
    refine ownNilBox 1 0 rfl rfl rfl ?_
    refine nilBox 1 1 rfl rfl rfl ?_
    refine W.loopR (ι := {x : Nat × Hp // match x with | (i, h) => i ≤ n ∧ impL (L.drop i) (i + 1) h = impL L 1 hp0 ∧ h.objs.length ≤ i})
      (fun x => match x.1 with | (i, h) => [(2, .ptr 0 0), (5, .ptr 1 0), (6, .d (.sl (txs L))), (7, .d (.v (.int .i64 ((n : Nat) : Int)))), (8, .d (.v (.int .i64 ((i : Nat) : Int))))]) []
      (fun x => match x.1 with | (i, h) => [(0, [.d (.v (.slice none 0 0)), .d (.v (.slice none 0 0))]), (1, [.own 2 (h.objs.map Ob.c), .d (.sl (h.roots.map ic))])]) [] [2] 3 (fun x => match x.1 with | (i, h) => n - i)
      [0, 1, 2] ⟨(0, hp0), ?_⟩ rfl ?_ trivial ?_ trivial rfl ?_
    · exact ⟨Nat.zero_le _, rfl, Nat.le_refl 0⟩
    · repeat' first | exact trivial | refine ⟨rfl, ?_⟩ | refine ⟨step_nat (by assumption) (by assumption), ?_⟩
    · repeat' first | exact trivial | refine ⟨rfl, ?_⟩ | refine ⟨step_nat (by assumption) (by assumption), ?_⟩
    rintro ⟨⟨i, h⟩, hk, hI, hl⟩
    show W _ _ _ _ _ ⟨[(2, .ptr 0 0), (5, .ptr 1 0), (6, .d (.sl (txs L))), (7, .d (.v (.int .i64 ((n : Nat) : Int)))), (8, .d (.v (.int .i64 ((i : Nat) : Int))))], [(0, [.d (.v (.slice none 0 0)), .d (.v (.slice none 0 0))]), (1, [.own 2 (h.objs.map Ob.c), .d (.sl (h.roots.map ic))])], [2], 3⟩
    refine W.seq ?_
    refine W.seq ?_
    refine W.region ?_
    iterate 3 refine pu (ev tab rfl) rfl ?_
    refine WO.nil ?_
    refine qs ?_
    refine condK rfl (fun h27 => ?_) (fun h27 => ?_)
    · skip
      have hlt : i < n := by simp at h27; omega
      obtain ⟨l, h0⟩ : ∃ l, L[i]? = some l := ⟨L[i]'(by omega), by simp⟩
      obtain ⟨m, h1⟩ : ∃ m, L[i + 1]? = some m := ⟨L[i + 1]'(by omega), by simp⟩
      obtain ⟨e0, e1⟩ := drop_two h0 h1
      have hlz := hLz l (List.mem_of_getElem? h0)
      obtain ⟨ws, hws⟩ : ∃ ws, ws = cutB l 32 := ⟨_, rfl⟩
      have hwl := cutB_len l 32
      rw [← hws] at hwl
      refine W.skip ?_
      refine qs ?_
      refine W.seq ?_
      refine W.block ?_
      refine W.seq ?_
      refine W.region ?_
      iterate 2 refine pu (ev tab rfl) rfl ?_
      refine pu (indexAddr tab rfl rfl rfl rfl rfl rfl (Int.natCast_nonneg _) (idx_map h0) rfl) rfl ?_
      first | refine pu (ev tab rfl) rfl ?_ | refine pu (loadRow tab rfl rfl rfl rfl) rfl ?_ | refine pu (loadBox tab rfl rfl rfl rfl rfl) rfl ?_
      refine pu (puCall rfl rfl rfl (hws ▸ cut_fn l 32 (by omega)) rfl) rfl ?_
      refine pu (ev tab rfl) rfl ?_
      refine WO.nil ?_
      refine qs ?_
      refine W.seq ?_
      refine W.region ?_
      refine pu (ev tab rfl) rfl ?_
      refine pu (puCall rfl rfl rfl (robject_fn ws (by omega)) rfl) rfl ?_
      iterate 3 refine pu (ev tab rfl) rfl ?_
      refine allocR tab rfl rfl rfl ?_
      refine storeR tab rfl rfl rfl rfl rfl rfl rfl rfl ?_
      refine pu (ev tab rfl) rfl ?_
      refine WO.nil ?_
      refine qs ?_
      refine W.seq ?_
      refine W.seq ?_
      refine W.region ?_
      refine pu (ev tab rfl) rfl ?_
      refine WO.nil ?_
      refine qs ?_
      refine condK rfl (fun h40 => ?_) (fun h40 => ?_)
      · skip
        have hst := imp_obj (l := l) (m := m) (r := L.drop (i + 2)) (i := i + 1) (h := h) (by rw [← hws]; exact h40)
        rw [← e0, ← e1, ← hws] at hst
        refine W.seq ?_
        refine W.region ?_
        refine pu (ev tab rfl) rfl ?_
        first | refine pu (ev tab rfl) rfl ?_ | refine pu (loadRow tab rfl rfl rfl rfl) rfl ?_ | refine pu (loadBox tab rfl rfl rfl rfl rfl) rfl ?_
        first | refine pu (ev tab rfl) rfl ?_ | refine pu (loadRow tab rfl rfl rfl rfl) rfl ?_ | refine pu (loadBox tab rfl rfl rfl rfl rfl) rfl ?_
        refine pu (buildV tab rfl rfl rfl rfl rfl rfl rfl rfl rfl) rfl ?_
        refine appendM (a := (objR ws).1) tab rfl rfl rfl rfl rfl rfl rfl rfl rfl rfl (fun _ => rfl) (by show (h.objs.length + 1) * 56 ≤ _; omega) ?_
        refine pu (ev tab rfl) rfl ?_
        refine storeR tab rfl rfl rfl rfl rfl rfl rfl rfl ?_
        refine WO.nil ?_
        refine qs ?_
        refine W.exit ?_
        refine qsExit ?_
        refine qbExit ?_
        refine qs ?_
        refine W.region ?_
        refine pu (ev tab rfl) rfl ?_
        refine pu (puI (ev tab rfl) (y := ((i + 1 : Nat) : Int)) (by rw [wrap64 (by omega)]; rfl)) rfl ?_
        refine pu (ev tab rfl) rfl ?_
        refine WO.nil ?_
        first | (refine W.endR [0, 1, 4] ⟨(i + 1, ⟨h.objs ++ [(objR ws).1], h.roots⟩), ?_⟩ ?_ rfl ?_ trivial ?_ trivial rfl) | (refine W.endR [0, 1, 2] ⟨(i + 1, ⟨h.objs, (numsA (ws.drop 1)).1⟩), ?_⟩ ?_ rfl ?_ trivial ?_ trivial rfl)
        · exact ⟨hlt, hst.symm.trans hI, by simp; omega⟩
        · dsimp only; omega
        · repeat' first | exact trivial | refine ⟨rfl, ?_⟩ | refine ⟨step_nat (by assumption) (by assumption), ?_⟩
        · repeat' first | exact trivial | refine ⟨rfl, ?_⟩ | refine ⟨step_nat (by assumption) (by assumption), ?_⟩
      · skip
        have hno := imp_noobj (l := l) (m := m) (r := L.drop (i + 2)) (i := i + 1) (h := h) (by rw [← hws]; exact h40)
        rw [← e0, ← e1, ← hws] at hno
        refine W.skip ?_
        refine qs ?_
        refine W.seq ?_
        refine W.region ?_
        refine pu (ev tab rfl) rfl ?_
        refine pu (sliceV (fn := sc) (l := ws) (i := 1) (r := ws.drop 1) tab rfl rfl rfl rfl rfl (fun _ => rfl) rfl rfl (by decide) (by omega) (Int.le_refl _) (sliceA ws 1 (by omega))) rfl ?_
        refine pu (puCall rfl rfl rfl (rparsed_fn (ws.drop 1) (by simp; omega)) rfl) rfl ?_
        iterate 5 refine pu (ev tab rfl) rfl ?_
        refine WO.nil ?_
        refine qs ?_
        refine W.seq ?_
        refine W.seq ?_
        apply regionB; (case hb => rfl)
        · skip
          refine pu (ev tab rfl) rfl ?_
          refine pu (indexAddr (l := sc (ws.getD 0 (B #[]))) tab rfl rfl rfl rfl rfl rfl (by decide) (idx_map (getD_at (by omega))) rfl) rfl ?_
          first | refine pu (ev tab rfl) rfl ?_ | refine pu (loadRow tab rfl rfl rfl rfl) rfl ?_ | refine pu (loadBox tab rfl rfl rfl rfl rfl) rfl ?_
          iterate 2 refine pu (ev tab rfl) rfl ?_
          apply splitH; (case hj => rfl); (case hl => rfl)
          · intro g57
            refine skipT rfl rfl rfl rfl ?_
            refine skipT rfl rfl rfl rfl ?_
            refine skipT rfl rfl rfl rfl ?_
            iterate 2 refine pu (ev tab rfl) rfl ?_
            refine skipT rfl rfl rfl rfl ?_
            refine skipT rfl rfl rfl rfl ?_
            iterate 2 refine pu (ev tab rfl) rfl ?_
            refine skipT rfl rfl rfl rfl ?_
            refine skipT rfl rfl rfl rfl ?_
            refine skipT rfl rfl rfl rfl ?_
            refine skipT rfl rfl rfl rfl ?_
            iterate 2 refine pu (ev tab rfl) rfl ?_
            refine skipT rfl rfl rfl rfl ?_
            refine skipT rfl rfl rfl rfl ?_
            refine skipT rfl rfl rfl rfl ?_
            refine skipT rfl rfl rfl rfl ?_
            refine skipT rfl rfl rfl rfl ?_
            refine pu (ev tab rfl) rfl ?_
            refine WO.nil ?_
            refine qv1 rfl rfl rfl
          · intro g57
            refine goG rfl rfl ?_
            refine pu (ev tab rfl) rfl ?_
            refine goG rfl rfl ?_
            refine pu (ev tab rfl) rfl ?_
            refine goG rfl rfl ?_
            iterate 3 refine pu (ev tab rfl) rfl ?_
            apply splitH; (case hj => rfl); (case hl => rfl)
            · intro g62
              refine skipT rfl rfl rfl rfl ?_
              refine skipT rfl rfl rfl rfl ?_
              iterate 2 refine pu (ev tab rfl) rfl ?_
              refine skipT rfl rfl rfl rfl ?_
              refine skipT rfl rfl rfl rfl ?_
              refine skipT rfl rfl rfl rfl ?_
              refine skipT rfl rfl rfl rfl ?_
              iterate 2 refine pu (ev tab rfl) rfl ?_
              refine skipT rfl rfl rfl rfl ?_
              refine skipT rfl rfl rfl rfl ?_
              refine skipT rfl rfl rfl rfl ?_
              refine skipT rfl rfl rfl rfl ?_
              refine skipT rfl rfl rfl rfl ?_
              refine pu (ev tab rfl) rfl ?_
              refine WO.nil ?_
              refine qv1 rfl rfl rfl
            · intro g62
              refine goG rfl rfl ?_
              refine pu (ev tab rfl) rfl ?_
              refine goG rfl rfl ?_
              iterate 3 refine pu (ev tab rfl) rfl ?_
              apply splitH; (case hj => rfl); (case hl => rfl)
              · intro g66
                refine skipT rfl rfl rfl rfl ?_
                refine skipT rfl rfl rfl rfl ?_
                refine skipT rfl rfl rfl rfl ?_
                refine skipT rfl rfl rfl rfl ?_
                iterate 2 refine pu (ev tab rfl) rfl ?_
                refine skipT rfl rfl rfl rfl ?_
                refine skipT rfl rfl rfl rfl ?_
                refine skipT rfl rfl rfl rfl ?_
                refine skipT rfl rfl rfl rfl ?_
                refine skipT rfl rfl rfl rfl ?_
                refine pu (ev tab rfl) rfl ?_
                refine WO.nil ?_
                refine qv1 rfl rfl rfl
              · intro g66
                refine goG rfl rfl ?_
                refine pu (ev tab rfl) rfl ?_
                refine goG rfl rfl ?_
                refine pu (puI (ev tab rfl) (y := ((i + 1 : Nat) : Int)) (by rw [wrap64 (by omega)]; rfl)) rfl ?_
                refine goG rfl rfl ?_
                refine pu (ev tab rfl) rfl ?_
                refine goG rfl rfl ?_
                iterate 3 refine pu (ev tab rfl) rfl ?_
                apply splitH; (case hj => rfl); (case hl => rfl)
                · intro g72
                  refine skipT rfl rfl rfl rfl ?_
                  refine skipT rfl rfl rfl rfl ?_
                  refine skipT rfl rfl rfl rfl ?_
                  refine skipT rfl rfl rfl rfl ?_
                  refine skipT rfl rfl rfl rfl ?_
                  refine pu (ev tab rfl) rfl ?_
                  refine WO.nil ?_
                  refine qv1 rfl rfl rfl
                · intro g72
                  refine goG rfl rfl ?_
                  refine pu (ev tab rfl) rfl ?_
                  refine goG rfl rfl ?_
                  refine pu (ev tab rfl) rfl ?_
                  refine goG rfl rfl ?_
                  refine pu (indexAddr (l := sc (L.getD n (B #[]))) tab rfl rfl rfl rfl rfl rfl (Int.natCast_nonneg _) (idx_map (getD_at (by omega))) rfl) rfl ?_
                  refine goG rfl rfl ?_
                  first | refine pu (ev tab rfl) rfl ?_ | refine pu (loadRow tab rfl rfl rfl rfl) rfl ?_ | refine pu (loadBox tab rfl rfl rfl rfl rfl) rfl ?_
                  refine goG rfl rfl ?_
                  iterate 2 refine pu (ev tab rfl) rfl ?_
                  refine WO.nil ?_
                  refine qv1 rfl rfl rfl
        refine qs ?_
        refine condK rfl (fun h78 => ?_) (fun h78 => ?_)
        · skip
          have hr : ¬ rootOK ws (L.drop (i + 2)) m := by
            rintro ⟨r1, r2, r3, r4, r5⟩
            have hin : i + 1 = n := by have := congrArg List.length r4; simp at this; omega
            have hm : L.getD n (B #[]) = B #[] := by rw [List.getD_eq_getElem?_getD, ← hin, h1, r5]; rfl
            rw [List.getD_eq_getElem?_getD] at hm r1
            simp [-List.drop_one, r1, r3, hm] at h78
            rcases h78 with q | q
            · rw [q] at r2; exact r2 rfl
            · omega
          have hg2 : importH s = (hp0, ((i + 1 : Nat) : Int), 10) := by rw [hg, ← hI]; exact hno.2 hr
          refine W.seq ?_
          refine W.region ?_
          refine pu (build tab rfl rfl rfl rfl) rfl ?_
          refine pu (ev tab rfl) rfl ?_
          refine pu (puI (ev tab rfl) (y := ((i + 1 : Nat) : Int)) (by rw [wrap64 (by omega)]; rfl)) rfl ?_
          refine storeR tab rfl rfl rfl rfl rfl rfl rfl rfl ?_
          iterate 2 refine pu (ev tab rfl) rfl ?_
          refine WO.nil ?_
          refine qs ?_
          try refine nilBox 0 0 rfl rfl rfl ?_
          try refine nilBox 0 1 rfl rfl rfl ?_
          refine W.ret ?_
          refine qsRet ?_
          refine qbRet ?_
          refine qsRet ?_
          refine qlRet ?_
          refine qbRet ?_
          refine qsRet ?_
          refine QV.ret0 tab trivial rfl ?_
          rw [hg2]; rfl
        · skip
          have hr : rootOK ws (L.drop (i + 2)) m := by
            simp [-List.drop_one] at h78
            have hin : i + 1 = n := by omega
            refine ⟨by simpa using h78.1, ?_, h78.2.2.1, List.drop_eq_nil_of_le (by omega), ?_⟩
            · intro q
              have := List.length_eq_zero_iff.1 q
              exact h78.2.1 this
            · have q := h78.2.2.2.2
              rw [← hin, h1] at q
              simpa using q
          have hst := hno.1 hr
          refine W.skip ?_
          refine qs ?_
          refine W.region ?_
          iterate 2 refine pu (ev tab rfl) rfl ?_
          refine storeR tab rfl rfl rfl rfl rfl rfl rfl rfl ?_
          refine WO.nil ?_
          refine qbN ?_
          refine qs ?_
          refine W.region ?_
          refine pu (ev tab rfl) rfl ?_
          refine pu (puI (ev tab rfl) (y := ((i + 1 : Nat) : Int)) (by rw [wrap64 (by omega)]; rfl)) rfl ?_
          refine pu (ev tab rfl) rfl ?_
          refine WO.nil ?_
          first | (refine W.endR [0, 1, 4] ⟨(i + 1, ⟨h.objs ++ [(objR ws).1], h.roots⟩), ?_⟩ ?_ rfl ?_ trivial ?_ trivial rfl) | (refine W.endR [0, 1, 2] ⟨(i + 1, ⟨h.objs, (numsA (ws.drop 1)).1⟩), ?_⟩ ?_ rfl ?_ trivial ?_ trivial rfl)
          · exact ⟨hlt, hst.symm.trans hI, by simp; omega⟩
          · dsimp only; omega
          · repeat' first | exact trivial | refine ⟨rfl, ?_⟩ | refine ⟨step_nat (by assumption) (by assumption), ?_⟩
          · repeat' first | exact trivial | refine ⟨rfl, ?_⟩ | refine ⟨step_nat (by assumption) (by assumption), ?_⟩
    · skip
      have hin : i = n := by simp at h27; omega
      have hlast : L[n]? = some (L.getD n (B #[])) := getD_at (by omega)
      have hd : L.drop i = [L.getD n (B #[])] := by
        rw [hin, List.drop_eq_getElem_cons (by omega), List.drop_eq_nil_of_le (by omega)]
        have := (List.getElem?_eq_some_iff.1 hlast).2
        rw [this]
      rw [hd] at hI
      simp only [impL] at hI
      refine W.exit ?_
      refine qsExit ?_
      refine qlExit ?_
      refine qbExit ?_
      refine qs ?_
      refine W.seq ?_
      refine W.seq ?_
      refine W.region ?_
      iterate 2 refine pu (ev tab rfl) rfl ?_
      refine pu (indexAddr (l := sc (L.getD n (B #[]))) tab rfl rfl rfl rfl rfl rfl (Int.natCast_nonneg _) (idx_map hlast) rfl) rfl ?_
      first | refine pu (ev tab rfl) rfl ?_ | refine pu (loadRow tab rfl rfl rfl rfl) rfl ?_ | refine pu (loadBox tab rfl rfl rfl rfl rfl) rfl ?_
      refine pu (ev tab rfl) rfl ?_
      refine WO.nil ?_
      refine qs ?_
      refine condK rfl (fun h88 => ?_) (fun h88 => ?_)
      · skip
        have hne : L.getD n (B #[]) ≠ B #[] := by simpa using h88
        rw [if_neg hne] at hI
        have hg3 : importH s = (hp0, ((n + 1 : Nat) : Int), 10) := by rw [hg, ← hI, hin]
        refine W.seq ?_
        refine W.region ?_
        refine pu (build tab rfl rfl rfl rfl) rfl ?_
        refine pu (ev tab rfl) rfl ?_
        refine pu (puI (ev tab rfl) (y := ((n + 1 : Nat) : Int)) (by rw [wrap64 (by omega)]; rfl)) rfl ?_
        refine storeR tab rfl rfl rfl rfl rfl rfl rfl rfl ?_
        iterate 2 refine pu (ev tab rfl) rfl ?_
        refine WO.nil ?_
        refine qs ?_
        try refine nilBox 0 0 rfl rfl rfl ?_
        try refine nilBox 0 1 rfl rfl rfl ?_
        refine W.ret ?_
        refine qsRet ?_
        refine QV.ret0 tab trivial rfl ?_
        rw [hg3]; rfl
      · skip
        have hne : L.getD n (B #[]) = B #[] := by simpa using h88
        rw [if_pos hne] at hI
        have hf : importH s = finH h := by rw [hg, ← hI]
        refine W.skip ?_
        refine qs ?_
        refine W.seq ?_
        refine W.region ?_
        first | refine pu (ev tab rfl) rfl ?_ | refine pu (loadRow tab rfl rfl rfl rfl) rfl ?_ | refine pu (loadBox tab rfl rfl rfl rfl rfl) rfl ?_
        refine pu (puCall rfl rfl rfl (rcheck25_fn h) rfl) rfl ?_
        refine pu (ev tab rfl) rfl ?_
        refine WO.nil ?_
        refine qs ?_
        refine W.seq ?_
        refine W.seq ?_
        refine W.region ?_
        iterate 2 refine pu (ev tab rfl) rfl ?_
        refine WO.nil ?_
        refine qs ?_
        refine condK rfl (fun h95 => ?_) (fun h95 => ?_)
        · skip
          have hg4 : importH s = (hp0, 0, checkH h) := by rw [hf]; exact if_pos (by simpa using h95)
          refine W.seq ?_
          refine W.region ?_
          refine pu (build tab rfl rfl rfl rfl) rfl ?_
          refine pu (ev tab rfl) rfl ?_
          refine storeR tab rfl rfl rfl rfl rfl rfl rfl rfl ?_
          iterate 2 refine pu (ev tab rfl) rfl ?_
          refine WO.nil ?_
          refine qs ?_
          try refine nilBox 0 0 rfl rfl rfl ?_
          try refine nilBox 0 1 rfl rfl rfl ?_
          refine W.ret ?_
          refine qsRet ?_
          refine QV.ret0 tab trivial rfl ?_
          rw [hg4]; rfl
        · skip
          have hg4 : importH s = (h, 0, 0) := by rw [hf]; exact if_neg (by simpa using h95)
          refine W.skip ?_
          refine qs ?_
          refine W.seq ?_
          refine W.region ?_
          first | refine pu (ev tab rfl) rfl ?_ | refine pu (loadRow tab rfl rfl rfl rfl) rfl ?_ | refine pu (loadBox tab rfl rfl rfl rfl rfl) rfl ?_
          refine storeR tab rfl rfl rfl rfl rfl rfl rfl rfl ?_
          iterate 2 refine pu (ev tab rfl) rfl ?_
          refine WO.nil ?_
          refine qs ?_
          try refine nilBox 0 0 rfl rfl rfl ?_
          try refine nilBox 0 1 rfl rfl rfl ?_
          refine W.ret ?_
          refine QV.ret0 tab trivial rfl ?_
          rw [hg4]; rfl
end Go.Proofs.YtpkfchdnpdcenaaDoor
namespace Go.Proofs.YtpkfchdnpdcenaaDoor
open Go.Ab Go.Tb
set_option maxRecDepth 10000
attribute [local irreducible] W WO Pu QS QB QL QF QV QV1 CH QE
abbrev heapT : ByteArray := B #[111, 98, 106, 32, 49, 32, 49, 48, 32, 110, 111, 100, 101, 32, 50, 32, 53, 10, 111, 98, 106, 32, 50, 32, 48, 32, 108, 101, 97, 102, 10, 111, 98, 106, 32, 53, 32, 55, 32, 108, 101, 97, 102, 10, 114, 111, 111, 116, 115, 32, 49, 10]
abbrev heapX : Hp := ⟨[⟨1, 10, B #[110, 111, 100, 101], [2, 5]⟩, ⟨2, 0, B #[108, 101, 97, 102], []⟩, ⟨5, 7, B #[108, 101, 97, 102], []⟩], [1]⟩
theorem awake25_fn : Does Tryd.prog 8 [] (.d (.v (.bool true))) 0 := by
  have p1 : importH heapT = (heapX, 0, 0) := by decide +kernel
  have p2 : importH (B #[111, 98, 106, 32, 49, 32, 50, 32, 97]) = (hp0, 1, 10) := by decide +kernel
  have p3 : importH (B #[114, 111, 111, 116, 115, 32, 49, 10]) = (hp0, 0, 5) := by decide +kernel
  have t1 : printH heapX = (heapT, 0) := by decide +kernel
  have f1 : findA heapX.objs 5 = 2 := by decide
  have f2 : hasI heapX.objs 5 = true := by decide
  have e1 := import_fn heapT
  have e2 := import_fn (B #[111, 98, 106, 32, 49, 32, 50, 32, 97])
  have e3 := import_fn (B #[114, 111, 111, 116, 115, 32, 49, 10])
  have e4 := print_fn heapX
  have e5 := find_fn heapX 5
  rw [p1] at e1
  rw [p2] at e2
  rw [p3] at e3
  rw [t1] at e4
  rw [f1, f2] at e5
  refine Does.of_W (n := 76) (ts := [0]) Tryd.func8 (by kernel_rfl) rfl Tryd.ntmps8 Tryd.results8 rfl rfl fun C hC hG => ?_
  refine W.seq ?_
  refine W.region ?_
  refine pu (ev tab rfl) rfl ?_
  refine WO.nil ?_
  refine qs ?_
  refine W.seq ?_
  refine W.region ?_
  refine pu (puCall rfl rfl rfl e1 rfl) rfl ?_
  iterate 4 refine pu (ev tab rfl) rfl ?_
  refine allocR tab rfl rfl rfl ?_
  refine storeR tab rfl rfl rfl rfl rfl rfl rfl rfl ?_
  iterate 2 refine pu (ev tab rfl) rfl ?_
  refine WO.nil ?_
  refine qs ?_
  refine W.seq ?_
  refine W.region ?_
  first | refine pu (ev tab rfl) rfl ?_ | refine pu (loadRow tab rfl rfl rfl rfl) rfl ?_ | refine pu (loadBox tab rfl rfl rfl rfl rfl) rfl ?_
  refine pu (puCall rfl rfl rfl e4 rfl) rfl ?_
  iterate 5 refine pu (ev tab rfl) rfl ?_
  refine WO.nil ?_
  refine qs ?_
  refine W.seq ?_
  refine W.region ?_
  first | refine pu (ev tab rfl) rfl ?_ | refine pu (loadRow tab rfl rfl rfl rfl) rfl ?_ | refine pu (loadBox tab rfl rfl rfl rfl rfl) rfl ?_
  refine pu (puCall rfl rfl rfl e5 rfl) rfl ?_
  iterate 5 refine pu (ev tab rfl) rfl ?_
  refine WO.nil ?_
  refine qs ?_
  refine W.seq ?_
  refine W.region ?_
  refine pu (puCall rfl rfl rfl e2 rfl) rfl ?_
  iterate 4 refine pu (ev tab rfl) rfl ?_
  refine allocR tab rfl rfl rfl ?_
  refine storeR tab rfl rfl rfl rfl rfl rfl rfl rfl ?_
  iterate 2 refine pu (ev tab rfl) rfl ?_
  refine WO.nil ?_
  refine qs ?_
  refine W.seq ?_
  refine W.region ?_
  refine pu (puCall rfl rfl rfl e3 rfl) rfl ?_
  iterate 4 refine pu (ev tab rfl) rfl ?_
  refine allocR tab rfl rfl rfl ?_
  refine storeR tab rfl rfl rfl rfl rfl rfl rfl rfl ?_
  iterate 2 refine pu (ev tab rfl) rfl ?_
  refine WO.nil ?_
  refine qs ?_
  refine W.seq ?_
  apply regionB; (case hb => rfl)
  · skip
    iterate 3 refine pu (ev tab rfl) rfl ?_
    apply splitJ; (case hj => rfl); (case hl => rfl)
    · skip
      refine goG rfl rfl ?_
      refine pu (ev tab rfl) rfl ?_
      refine goG rfl rfl ?_
      iterate 3 refine pu (ev tab rfl) rfl ?_
      apply splitJ; (case hj => rfl); (case hl => rfl)
      · skip
        refine goG rfl rfl ?_
        refine pu (ev tab rfl) rfl ?_
        refine goG rfl rfl ?_
        iterate 3 refine pu (ev tab rfl) rfl ?_
        apply splitJ; (case hj => rfl); (case hl => rfl)
        · skip
          refine goG rfl rfl ?_
          refine pu (ev tab rfl) rfl ?_
          refine goG rfl rfl ?_
          iterate 3 refine pu (ev tab rfl) rfl ?_
          apply splitJ; (case hj => rfl); (case hl => rfl)
          · skip
            refine goG rfl rfl ?_
            refine pu (ev tab rfl) rfl ?_
            refine goG rfl rfl ?_
            iterate 3 refine pu (ev tab rfl) rfl ?_
            apply splitJ; (case hj => rfl); (case hl => rfl)
            · skip
              refine goG rfl rfl ?_
              iterate 3 refine pu (ev tab rfl) rfl ?_
              apply splitJ; (case hj => rfl); (case hl => rfl)
              · skip
                refine goG rfl rfl ?_
                refine pu (ev tab rfl) rfl ?_
                refine goG rfl rfl ?_
                iterate 3 refine pu (ev tab rfl) rfl ?_
                apply splitJ; (case hj => rfl); (case hl => rfl)
                · skip
                  refine goG rfl rfl ?_
                  refine pu (ev tab rfl) rfl ?_
                  refine goG rfl rfl ?_
                  iterate 3 refine pu (ev tab rfl) rfl ?_
                  apply splitJ; (case hj => rfl); (case hl => rfl)
                  · skip
                    refine goG rfl rfl ?_
                    refine pu (ev tab rfl) rfl ?_
                    refine goG rfl rfl ?_
                    iterate 3 refine pu (ev tab rfl) rfl ?_
                    apply splitJ; (case hj => rfl); (case hl => rfl)
                    · skip
                      refine goG rfl rfl ?_
                      refine pu (ev tab rfl) rfl ?_
                      refine goG rfl rfl ?_
                      iterate 3 refine pu (ev tab rfl) rfl ?_
                      refine WO.nil ?_
                      refine qv1 rfl rfl rfl
                    · skip
                      refine skipT rfl rfl rfl rfl ?_
                      refine skipT rfl rfl rfl rfl ?_
                      iterate 2 refine pu (ev tab rfl) rfl ?_
                      refine WO.nil ?_
                      refine qv1 rfl rfl rfl
                  · skip
                    refine skipT rfl rfl rfl rfl ?_
                    refine skipT rfl rfl rfl rfl ?_
                    iterate 2 refine pu (ev tab rfl) rfl ?_
                    refine skipT rfl rfl rfl rfl ?_
                    refine skipT rfl rfl rfl rfl ?_
                    iterate 2 refine pu (ev tab rfl) rfl ?_
                    refine WO.nil ?_
                    refine qv1 rfl rfl rfl
                · skip
                  refine skipT rfl rfl rfl rfl ?_
                  refine skipT rfl rfl rfl rfl ?_
                  iterate 2 refine pu (ev tab rfl) rfl ?_
                  refine skipT rfl rfl rfl rfl ?_
                  refine skipT rfl rfl rfl rfl ?_
                  iterate 2 refine pu (ev tab rfl) rfl ?_
                  refine skipT rfl rfl rfl rfl ?_
                  refine skipT rfl rfl rfl rfl ?_
                  iterate 2 refine pu (ev tab rfl) rfl ?_
                  refine WO.nil ?_
                  refine qv1 rfl rfl rfl
              · skip
                refine skipT rfl rfl rfl rfl ?_
                refine skipT rfl rfl rfl rfl ?_
                iterate 2 refine pu (ev tab rfl) rfl ?_
                refine skipT rfl rfl rfl rfl ?_
                refine skipT rfl rfl rfl rfl ?_
                iterate 2 refine pu (ev tab rfl) rfl ?_
                refine skipT rfl rfl rfl rfl ?_
                refine skipT rfl rfl rfl rfl ?_
                iterate 2 refine pu (ev tab rfl) rfl ?_
                refine skipT rfl rfl rfl rfl ?_
                refine skipT rfl rfl rfl rfl ?_
                iterate 2 refine pu (ev tab rfl) rfl ?_
                refine WO.nil ?_
                refine qv1 rfl rfl rfl
            · skip
              refine skipT rfl rfl rfl rfl ?_
              iterate 2 refine pu (ev tab rfl) rfl ?_
              refine skipT rfl rfl rfl rfl ?_
              refine skipT rfl rfl rfl rfl ?_
              iterate 2 refine pu (ev tab rfl) rfl ?_
              refine skipT rfl rfl rfl rfl ?_
              refine skipT rfl rfl rfl rfl ?_
              iterate 2 refine pu (ev tab rfl) rfl ?_
              refine skipT rfl rfl rfl rfl ?_
              refine skipT rfl rfl rfl rfl ?_
              iterate 2 refine pu (ev tab rfl) rfl ?_
              refine skipT rfl rfl rfl rfl ?_
              refine skipT rfl rfl rfl rfl ?_
              iterate 2 refine pu (ev tab rfl) rfl ?_
              refine WO.nil ?_
              refine qv1 rfl rfl rfl
          · skip
            refine skipT rfl rfl rfl rfl ?_
            refine skipT rfl rfl rfl rfl ?_
            iterate 2 refine pu (ev tab rfl) rfl ?_
            refine skipT rfl rfl rfl rfl ?_
            iterate 2 refine pu (ev tab rfl) rfl ?_
            refine skipT rfl rfl rfl rfl ?_
            refine skipT rfl rfl rfl rfl ?_
            iterate 2 refine pu (ev tab rfl) rfl ?_
            refine skipT rfl rfl rfl rfl ?_
            refine skipT rfl rfl rfl rfl ?_
            iterate 2 refine pu (ev tab rfl) rfl ?_
            refine skipT rfl rfl rfl rfl ?_
            refine skipT rfl rfl rfl rfl ?_
            iterate 2 refine pu (ev tab rfl) rfl ?_
            refine skipT rfl rfl rfl rfl ?_
            refine skipT rfl rfl rfl rfl ?_
            iterate 2 refine pu (ev tab rfl) rfl ?_
            refine WO.nil ?_
            refine qv1 rfl rfl rfl
        · skip
          refine skipT rfl rfl rfl rfl ?_
          refine skipT rfl rfl rfl rfl ?_
          iterate 2 refine pu (ev tab rfl) rfl ?_
          refine skipT rfl rfl rfl rfl ?_
          refine skipT rfl rfl rfl rfl ?_
          iterate 2 refine pu (ev tab rfl) rfl ?_
          refine skipT rfl rfl rfl rfl ?_
          iterate 2 refine pu (ev tab rfl) rfl ?_
          refine skipT rfl rfl rfl rfl ?_
          refine skipT rfl rfl rfl rfl ?_
          iterate 2 refine pu (ev tab rfl) rfl ?_
          refine skipT rfl rfl rfl rfl ?_
          refine skipT rfl rfl rfl rfl ?_
          iterate 2 refine pu (ev tab rfl) rfl ?_
          refine skipT rfl rfl rfl rfl ?_
          refine skipT rfl rfl rfl rfl ?_
          iterate 2 refine pu (ev tab rfl) rfl ?_
          refine skipT rfl rfl rfl rfl ?_
          refine skipT rfl rfl rfl rfl ?_
          iterate 2 refine pu (ev tab rfl) rfl ?_
          refine WO.nil ?_
          refine qv1 rfl rfl rfl
      · skip
        refine skipT rfl rfl rfl rfl ?_
        refine skipT rfl rfl rfl rfl ?_
        iterate 2 refine pu (ev tab rfl) rfl ?_
        refine skipT rfl rfl rfl rfl ?_
        refine skipT rfl rfl rfl rfl ?_
        iterate 2 refine pu (ev tab rfl) rfl ?_
        refine skipT rfl rfl rfl rfl ?_
        refine skipT rfl rfl rfl rfl ?_
        iterate 2 refine pu (ev tab rfl) rfl ?_
        refine skipT rfl rfl rfl rfl ?_
        iterate 2 refine pu (ev tab rfl) rfl ?_
        refine skipT rfl rfl rfl rfl ?_
        refine skipT rfl rfl rfl rfl ?_
        iterate 2 refine pu (ev tab rfl) rfl ?_
        refine skipT rfl rfl rfl rfl ?_
        refine skipT rfl rfl rfl rfl ?_
        iterate 2 refine pu (ev tab rfl) rfl ?_
        refine skipT rfl rfl rfl rfl ?_
        refine skipT rfl rfl rfl rfl ?_
        iterate 2 refine pu (ev tab rfl) rfl ?_
        refine skipT rfl rfl rfl rfl ?_
        refine skipT rfl rfl rfl rfl ?_
        iterate 2 refine pu (ev tab rfl) rfl ?_
        refine WO.nil ?_
        refine qv1 rfl rfl rfl
    · skip
      refine skipT rfl rfl rfl rfl ?_
      refine skipT rfl rfl rfl rfl ?_
      iterate 2 refine pu (ev tab rfl) rfl ?_
      refine skipT rfl rfl rfl rfl ?_
      refine skipT rfl rfl rfl rfl ?_
      iterate 2 refine pu (ev tab rfl) rfl ?_
      refine skipT rfl rfl rfl rfl ?_
      refine skipT rfl rfl rfl rfl ?_
      iterate 2 refine pu (ev tab rfl) rfl ?_
      refine skipT rfl rfl rfl rfl ?_
      refine skipT rfl rfl rfl rfl ?_
      iterate 2 refine pu (ev tab rfl) rfl ?_
      refine skipT rfl rfl rfl rfl ?_
      iterate 2 refine pu (ev tab rfl) rfl ?_
      refine skipT rfl rfl rfl rfl ?_
      refine skipT rfl rfl rfl rfl ?_
      iterate 2 refine pu (ev tab rfl) rfl ?_
      refine skipT rfl rfl rfl rfl ?_
      refine skipT rfl rfl rfl rfl ?_
      iterate 2 refine pu (ev tab rfl) rfl ?_
      refine skipT rfl rfl rfl rfl ?_
      refine skipT rfl rfl rfl rfl ?_
      iterate 2 refine pu (ev tab rfl) rfl ?_
      refine skipT rfl rfl rfl rfl ?_
      refine skipT rfl rfl rfl rfl ?_
      iterate 2 refine pu (ev tab rfl) rfl ?_
      refine WO.nil ?_
      refine qv1 rfl rfl rfl
  refine qs ?_
  refine W.ret ?_
  refine QF.ret0 trivial rfl ?_
  refine congrArg (fun b => A.d (D.v (Value.bool b))) (?_ : _ = true)
  decide +kernel
theorem himports_fn (s : ByteArray) : Does Tryd.prog 5 [.d (.v (.string s))] (.d (.v (.bool true))) 0 := by
  refine Does.of_W (n := 63) (ts := [2]) Tryd.func5 (by kernel_rfl) rfl Tryd.ntmps5 Tryd.results5 rfl rfl fun C hC hG => ?_
  refine W.seq ?_
  refine W.region ?_
  refine pu (ev tab rfl) rfl ?_
  refine WO.nil ?_
  refine qs ?_
  refine W.seq ?_
  refine W.seq ?_
  apply regionB; (case hb => rfl)
  · skip
    refine pu (puCall rfl rfl rfl (awake25_fn ..) rfl) rfl ?_
    iterate 2 refine pu (ev tab rfl) rfl ?_
    apply splitJ; (case hj => rfl); (case hl => rfl)
    · skip
      refine skipT rfl rfl rfl rfl ?_
      refine skipT rfl rfl rfl rfl ?_
      refine skipT rfl rfl rfl rfl ?_
      refine pu (ev tab rfl) rfl ?_
      refine WO.nil ?_
      refine qv1 rfl rfl rfl
    · skip
      refine goG rfl rfl ?_
      refine pu (ev tab rfl) rfl ?_
      refine goG rfl rfl ?_
      refine pu (ev tab rfl) rfl ?_
      refine goG rfl rfl ?_
      iterate 2 refine pu (ev tab rfl) rfl ?_
      refine WO.nil ?_
      refine qv1 rfl rfl rfl
  refine qs ?_
  refine condK rfl (fun h17 => ?_) (fun h17 => ?_)
  · skip
    refine W.seq ?_
    refine W.region ?_
    refine pu (puCall rfl rfl rfl (awake25_fn ..) rfl) rfl ?_
    refine pu (ev tab rfl) rfl ?_
    refine WO.nil ?_
    refine qs ?_
    refine W.ret ?_
    refine qsRet ?_
    refine QF.ret0 trivial rfl ?_
    first | (simp [norm, oneA]; done) | (simp [norm, oneA, hp, q1]; done)
  · skip
    refine W.skip ?_
    refine qs ?_
    refine W.seq ?_
    refine W.region ?_
    refine pu (ev tab rfl) rfl ?_
    refine pu (puCall rfl rfl rfl (import_fn s) rfl) rfl ?_
    iterate 4 refine pu (ev tab rfl) rfl ?_
    refine allocR tab rfl rfl rfl ?_
    refine storeR tab rfl rfl rfl rfl rfl rfl rfl rfl ?_
    iterate 2 refine pu (ev tab rfl) rfl ?_
    refine WO.nil ?_
    refine qs ?_
    refine W.seq ?_
    refine W.region ?_
    refine pu (ev tab rfl) rfl ?_
    refine pu (puCall rfl rfl rfl (rimport25_fn s) rfl) rfl ?_
    iterate 4 refine pu (ev tab rfl) rfl ?_
    refine allocR tab rfl rfl rfl ?_
    refine storeR tab rfl rfl rfl rfl rfl rfl rfl rfl ?_
    iterate 2 refine pu (ev tab rfl) rfl ?_
    refine WO.nil ?_
    refine qs ?_
    refine W.seq ?_
    refine W.seq ?_
    apply regionB; (case hb => rfl)
    · skip
      iterate 4 refine pu (ev tab rfl) rfl ?_
      apply splitJ; (case hj => rfl); (case hl => rfl)
      · skip
        refine skipT rfl rfl rfl rfl ?_
        refine skipT rfl rfl rfl rfl ?_
        refine skipT rfl rfl rfl rfl ?_
        iterate 2 refine pu (ev tab rfl) rfl ?_
        refine skipT rfl rfl rfl rfl ?_
        refine skipT rfl rfl rfl rfl ?_
        refine skipT rfl rfl rfl rfl ?_
        refine skipT rfl rfl rfl rfl ?_
        refine pu (ev tab rfl) rfl ?_
        refine WO.nil ?_
        refine qv1 rfl rfl rfl
      · skip
        refine goG rfl rfl ?_
        refine pu (ev tab rfl) rfl ?_
        refine goG rfl rfl ?_
        refine pu (ev tab rfl) rfl ?_
        refine goG rfl rfl ?_
        iterate 3 refine pu (ev tab rfl) rfl ?_
        apply splitJ; (case hj => rfl); (case hl => rfl)
        · skip
          refine skipT rfl rfl rfl rfl ?_
          refine skipT rfl rfl rfl rfl ?_
          refine skipT rfl rfl rfl rfl ?_
          refine skipT rfl rfl rfl rfl ?_
          refine pu (ev tab rfl) rfl ?_
          refine WO.nil ?_
          refine qv1 rfl rfl rfl
        · skip
          refine goG rfl rfl ?_
          first | refine pu (ev tab rfl) rfl ?_ | refine pu (loadRow tab rfl rfl rfl rfl) rfl ?_ | refine pu (loadBox tab rfl rfl rfl rfl rfl) rfl ?_
          refine goG rfl rfl ?_
          first | refine pu (ev tab rfl) rfl ?_ | refine pu (loadRow tab rfl rfl rfl rfl) rfl ?_ | refine pu (loadBox tab rfl rfl rfl rfl rfl) rfl ?_
          refine goG rfl rfl ?_
          refine pu (puCall rfl rfl rfl (rsame25_fn (importH s).1 (importH s).1) rfl) rfl ?_
          refine goG rfl rfl ?_
          iterate 2 refine pu (ev tab rfl) rfl ?_
          refine WO.nil ?_
          refine qv1 rfl rfl rfl
    refine qs ?_
    refine condK rfl (fun h44 => ?_) (fun h44 => ?_)
    · skip
      exfalso
      simp at h44
    · skip
      refine W.skip ?_
      refine qs ?_
      refine W.seq ?_
      refine W.seq ?_
      refine W.region ?_
      iterate 2 refine pu (ev tab rfl) rfl ?_
      refine WO.nil ?_
      refine qs ?_
      refine condK rfl (fun h46 => ?_) (fun h46 => ?_)
      · skip
        refine W.seq ?_
        refine W.region ?_
        refine pu (ev tab rfl) rfl ?_
        refine WO.nil ?_
        refine qs ?_
        refine W.ret ?_
        refine qsRet ?_
        refine QF.ret0 trivial rfl ?_
        first | (simp [norm, oneA]; done) | (simp [norm, oneA, hp, q1]; done)
      · skip
        have hz : (importH s).2.2 = 0 := by simpa using h46
        obtain ⟨q1, q2, q3, q4⟩ := print_import hz
        have hp : printH (importH s).1 = (s, 0) := by
          unfold printH
          rw [if_neg (by simp [q2]), q3, if_neg (by omega)]
        refine W.skip ?_
        refine qs ?_
        refine W.seq ?_
        refine W.region ?_
        first | refine pu (ev tab rfl) rfl ?_ | refine pu (loadRow tab rfl rfl rfl rfl) rfl ?_ | refine pu (loadBox tab rfl rfl rfl rfl rfl) rfl ?_
        refine pu (puCall rfl rfl rfl (print_fn (importH s).1) rfl) rfl ?_
        iterate 5 refine pu (ev tab rfl) rfl ?_
        refine WO.nil ?_
        refine qs ?_
        refine W.seq ?_
        apply regionB; (case hb => rfl)
        · skip
          iterate 3 refine pu (ev tab rfl) rfl ?_
          apply splitJ; (case hj => rfl); (case hl => rfl)
          · skip
            refine goG rfl rfl ?_
            refine pu (ev tab rfl) rfl ?_
            refine goG rfl rfl ?_
            refine pu (ev tab rfl) rfl ?_
            refine goG rfl rfl ?_
            iterate 3 refine pu (ev tab rfl) rfl ?_
            apply splitJ; (case hj => rfl); (case hl => rfl)
            · skip
              refine goG rfl rfl ?_
              refine pu (ev tab rfl) rfl ?_
              refine goG rfl rfl ?_
              iterate 3 refine pu (ev tab rfl) rfl ?_
              refine WO.nil ?_
              refine qv1 rfl rfl rfl
            · skip
              refine skipT rfl rfl rfl rfl ?_
              refine skipT rfl rfl rfl rfl ?_
              iterate 2 refine pu (ev tab rfl) rfl ?_
              refine WO.nil ?_
              refine qv1 rfl rfl rfl
          · skip
            refine skipT rfl rfl rfl rfl ?_
            refine skipT rfl rfl rfl rfl ?_
            refine skipT rfl rfl rfl rfl ?_
            iterate 2 refine pu (ev tab rfl) rfl ?_
            refine skipT rfl rfl rfl rfl ?_
            refine skipT rfl rfl rfl rfl ?_
            iterate 2 refine pu (ev tab rfl) rfl ?_
            refine WO.nil ?_
            refine qv1 rfl rfl rfl
        refine qs ?_
        refine W.ret ?_
        refine QF.ret0 trivial rfl ?_
        first | (simp [norm, oneA]; done) | (simp [norm, oneA, hp, q1]; done)
end Go.Proofs.YtpkfchdnpdcenaaDoor
namespace Go.Proofs.YtpkfchdnpdcenaaDoor
open Go.Ab Go.Tb
set_option maxRecDepth 10000
attribute [local irreducible] W WO Pu QS QB QL QF QV QV1 CH QE
end Go.Proofs.YtpkfchdnpdcenaaDoor
namespace Go.Proofs.YtpkfchdnpdcenaaDoor
open Go.Ab Go.Tb
set_option maxRecDepth 10000
attribute [local irreducible] W WO Pu QS QB QL QF QV QV1 CH QE
end Go.Proofs.YtpkfchdnpdcenaaDoor
