import Derived.Test.YtllkpgnpioojjaaDoorQ5
namespace Go.Proofs.YtllkpgnpioojjaaDoor
open Go.Ab Go.Tb
set_option maxRecDepth 10000
attribute [local irreducible] W WO Pu QS QB QL QF QV QV1 CH QE
theorem ew_ne {α : Type} {a : Nat} {w : Int} (h : EW (.no a w : PE α)) : ¬ w = 0 := by
 have h : w = 2 ∨ w = 4 ∨ w = 10 ∨ w = 20 := h
 omega
theorem tie_fin {l : List UInt8} {x : PE JV} {r : JV × RS} {p : Int} (hx : EW x) (h : Tie x r p id) : Tie x (finS l r) p (skipB l) := by
 cases x with
 | ok v j =>
  have h : r = (v, (j, p, 0)) := h
  subst h; exact finS_0 rfl
 | no a w =>
  obtain ⟨v', i', h⟩ := h
  subst h
  exact ⟨v', i', finS_1 (ew_ne hx)⟩
theorem word_tie {x : PE Unit} {v : JV} {p : Int} : Tie (match x with | .no a w => .no a w | .ok _ j => .ok v j) (v, outR x p) p id := by
 cases x with
 | ok u j => exact rfl
 | no a w => exact ⟨_, _, rfl⟩
theorem text_tie {x : PE (List UInt8)} {p : Int} : Tie (match x with | .no a w => .no a w | .ok t j => .ok (.mk 4 0 (bytesOf t) [] []) j) (.mk 4 0 (strR x) [] [], outR x p) p id := by
 cases x with
 | ok u j => exact rfl
 | no a w => exact ⟨_, _, rfl⟩
theorem word_ew {x : PE Unit} {v : JV} : EW x → EW (match x with | .no a w => .no a w | .ok _ j => .ok v j : PE JV) := by
 intro h
 cases x with
 | ok u j => trivial
 | no a w => exact h
theorem word_fin {l : List UInt8} {x : PE Unit} {v : JV} {p : Int} : EW x → Tie (match x with | .no a w => .no a w | .ok _ j => .ok v j) (finS l (v, outR x p)) p (skipB l) := fun h => tie_fin (word_ew h) word_tie
theorem text_ew {x : PE (List UInt8)} : EW x → EW (match x with | .no a w => .no a w | .ok t j => .ok (.mk 4 0 (bytesOf t) [] []) j : PE JV) := by
 intro h
 cases x with
 | ok u j => trivial
 | no a w => exact h
theorem loop_err (l : List UInt8) (k : Nat) (op : Int) (c : UInt8) (ar : Int) (keys : List ByteArray) (kids : List JV) (st : RS) (h : ¬ st.2.2 = 0) : rloopS l k op c ar keys kids st = (.mk op 0 (B #[]) keys kids, st) := by
 cases k with
 | zero => unfold rloopS; rfl
 | succ k => rw [rloopS_eq, if_neg h]
theorem need_err (l w : List UInt8) (st : RS) (h : ¬ st.2.2 = 0) : stNeed l w st = st := by unfold stNeed; rw [if_neg h]
theorem need_one (l : List UInt8) (c : UInt8) (i : Nat) (p : Int) : stNeed l [c] (i, p, 0) = outR (takeJ l c i) p := by
 unfold stNeed
 rw [if_pos rfl]
 show outR (wordJ l [c] i) p = _
 have hw : wordJ l [c] i = takeJ l c i := by simp only [wordJ]; cases takeJ l c i <;> rfl
 rw [hw]
theorem deep_list (l : List UInt8) (k : Nat) (op : Int) (c : UInt8) (ar : Int) (i : Nat) (p : Int) (h : 16 ≤ ar) : ∃ v' i', rlistS l (k + 1) op c ar (i, p, 0) = (v', (i', (i : Int), 20)) := by
 have hh : headS (i, p, 0) ar = (i, (i : Int), 20) := by unfold headS; rw [if_pos h]; rfl
 rw [rlistS_eq, hh]
 have hs : stSp l (stUp (i, (i : Int), 20)) = (skipB l (i + 1), (i : Int), 20) := rfl
 rw [hs, if_neg (fun q => absurd (show (20 : Int) = 0 from q.1) (by decide)), loop_err _ _ _ _ _ _ _ _ (show ¬ (20 : Int) = 0 by decide)]
 exact ⟨_, _, rfl⟩
theorem err_rest (l : List UInt8) (k : Nat) (op : Int) (c : UInt8) (ar : Int) (keys : List ByteArray) (kids : List JV) (V : JV × RS) (h : ¬ V.2.2.2 = 0) :
  (if V.2.2.2 = 0 ∧ hereB l V.2.1 = c then (JV.mk op 0 (B #[]) keys (kids ++ [V.1]), stUp V.2) else rloopS l k op c ar keys (kids ++ [V.1]) (stNeed l [44] V.2)) = (.mk op 0 (B #[]) keys (kids ++ [V.1]), V.2) := by
 rw [if_neg (fun q => h q.1), need_err _ _ _ h, loop_err _ _ _ _ _ _ _ _ h]
structure Ti (l : List UInt8) (k : Nat) : Prop where
 v : ∀ ar i p, i ≤ l.length → 3 * (l.length - i) + 1 ≤ k → Tie (valJ l k (ar + 1) i) (rvalS l k ar (i, p, 0)) p (skipB l)
 a : ∀ ar i p, ¬ 16 ≤ ar → i < l.length → 3 * (l.length - i) ≤ k → Tie (arrJ l k (ar + 1) (i + 1)) (rlistS l k 5 93 ar (i, p, 0)) p id
 ag : ∀ ar i p acc, i ≤ l.length → 3 * (l.length - i) + 2 ≤ k → Tie (arrGo l k (ar + 1) i acc) (rloopS l k 5 93 ar [] acc (i, p, 0)) p id
 o : ∀ ar i p, ¬ 16 ≤ ar → i < l.length → 3 * (l.length - i) ≤ k → Tie (objJ l k (ar + 1) (i + 1)) (rlistS l k 6 125 ar (i, p, 0)) p id
 og : ∀ ar i p keys acc, i ≤ l.length → 3 * (l.length - i) + 2 ≤ k → Tie (objGo l k (ar + 1) i keys acc) (rloopS l k 6 125 ar keys acc (i, p, 0)) p id
theorem comma_tie {l : List UInt8} {k : Nat} {op : Int} {c : UInt8} {ar : Int} {keys : List ByteArray} {kids : List JV} {v : JV} {j : Nat} {p : Int} {G : Nat → PE JV} (hc : c ≠ 44) (hc0 : c ≠ 0)
  (hG : hereB l j = 44 → Tie (G (j + 1)) (rloopS l k op c ar keys (kids ++ [v]) (j + 1, p, 0)) p id) :
  Tie (if hereB l j = 44 then G (j + 1) else match takeJ l c j with | .no a w => .no a w | .ok _ j2 => .ok (.mk op 0 (B #[]) keys (kids ++ [v])) j2)
   (if (v, ((j, p, 0) : RS)).2.2.2 = 0 ∧ hereB l (v, ((j, p, 0) : RS)).2.1 = c then (JV.mk op 0 (B #[]) keys (kids ++ [(v, ((j, p, 0) : RS)).1]), stUp (v, ((j, p, 0) : RS)).2) else rloopS l k op c ar keys (kids ++ [(v, ((j, p, 0) : RS)).1]) (stNeed l [44] (v, ((j, p, 0) : RS)).2)) p id := by
 dsimp only
 by_cases h44 : hereB l j = 44
 ·
  have hj : j < l.length := here_lt (by rw [h44]; decide)
  have ht : takeJ l 44 j = .ok () (j + 1) := by unfold takeJ; rw [if_pos ⟨hj, h44⟩]
  rw [if_pos h44, if_neg (fun q => hc (q.2.symm.trans h44)), need_one, ht]
  exact hG h44
 ·
  rw [if_neg h44]
  by_cases hcc : hereB l j = c
  ·
   rw [if_pos ⟨rfl, hcc⟩]
   have hj : j < l.length := here_lt (by rw [hcc]; exact hc0)
   unfold takeJ
   rw [if_pos ⟨hj, hcc⟩]; exact rfl
  ·
   have ht : takeJ l c j = .no j 10 := by unfold takeJ; rw [if_neg (fun h => hcc h.2)]
   have ht2 : takeJ l 44 j = .no j 10 := by unfold takeJ; rw [if_neg (fun h => h44 h.2)]
   rw [ht, if_neg (fun q => hcc q.2), need_one, ht2, loop_err _ _ _ _ _ _ _ _ (show ¬ (10 : Int) = 0 by decide)]
   exact ⟨_, _, rfl⟩
theorem ties (l : List UInt8) : ∀ k, Ti l k
 | 0 => ⟨fun _ _ _ _ h => by omega, fun _ _ _ _ h h2 => by omega, fun _ _ _ _ _ h => by omega, fun _ _ _ _ h h2 => by omega, fun _ _ _ _ _ _ h => by omega⟩
 | k + 1 => by
  have ih := ties l k
  have er := errs (l := l) k
  have bd := allBd l k
  refine ⟨fun ar i p hi hk => ?_, fun ar i p har hi hk => ?_, fun ar i p acc hi hk => ?_, fun ar i p har hi hk => ?_, fun ar i p keys acc hi hk => ?_⟩
  ·
   have hle := skipB_le hi
   have hge := skipB_ge l i
   rw [valJ_eq, rvalS_eq, if_pos rfl]
   dsimp only
   by_cases c1 : hereB l (skipB l i) = 110
   · rw [if_pos c1, if_pos c1]; exact word_fin wordJ_e
   rw [if_neg c1, if_neg c1]
   by_cases c2 : hereB l (skipB l i) = 116
   · rw [if_pos c2, if_pos c2]; exact word_fin wordJ_e
   rw [if_neg c2, if_neg c2]
   by_cases c3 : hereB l (skipB l i) = 102
   · rw [if_pos c3, if_pos c3]; exact word_fin wordJ_e
   rw [if_neg c3, if_neg c3]
   by_cases c4 : hereB l (skipB l i) = 34
   · rw [if_pos c4, if_pos c4]; exact tie_fin (text_ew textJ_e) text_tie
   rw [if_neg c4, if_neg c4]
   by_cases c5 : hereB l (skipB l i) = 91
   ·
    have hlt : skipB l i < l.length := here_lt (by rw [c5]; decide)
    rw [if_pos (.inl c5), if_pos c5, if_pos c5]
    by_cases hd : 16 < ar + 1
    ·
     rw [if_pos hd]
     obtain ⟨k', rfl⟩ : ∃ k', k = k' + 1 := ⟨k - 1, by omega⟩
     obtain ⟨v', i', e⟩ := deep_list l k' 5 93 ar (skipB l i) p (by omega)
     rw [e]
     exact ⟨v', i', finS_1 (show ¬ (20 : Int) = 0 by decide)⟩
    ·
     rw [if_neg hd]
     exact tie_fin (er.a _ _) (ih.a ar _ p (by omega) hlt (by omega))
   by_cases c6 : hereB l (skipB l i) = 123
   ·
    have hlt : skipB l i < l.length := here_lt (by rw [c6]; decide)
    rw [if_pos (.inr c6), if_neg c5, if_neg c5, if_pos c6]
    by_cases hd : 16 < ar + 1
    ·
     rw [if_pos hd]
     obtain ⟨k', rfl⟩ : ∃ k', k = k' + 1 := ⟨k - 1, by omega⟩
     obtain ⟨v', i', e⟩ := deep_list l k' 6 125 ar (skipB l i) p (by omega)
     rw [e]
     exact ⟨v', i', finS_1 (show ¬ (20 : Int) = 0 by decide)⟩
    ·
     rw [if_neg hd]
     exact tie_fin (er.o _ _) (ih.o ar _ p (by omega) hlt (by omega))
   rw [if_neg (fun q => q.elim c5 c6), if_neg c5, if_neg c6]
   exact tie_fin numJ_e (num_tie hle)
  ·
   have hh : headS (i, p, 0) ar = (i, p, 0) := by unfold headS; rw [if_neg har]
   have hs : stSp l (stUp (i, p, 0)) = (skipB l (i + 1), p, 0) := rfl
   have hle := skipB_le (show i + 1 ≤ l.length from hi)
   have hge := skipB_ge l (i + 1)
   rw [arrJ_eq, rlistS_eq, hh, hs]
   dsimp only
   by_cases c1 : hereB l (skipB l (i + 1)) = 93
   · rw [if_pos c1, if_pos ⟨rfl, c1⟩]; exact rfl
   ·
    rw [if_neg c1, if_neg (fun q => c1 q.2)]
    exact ih.ag ar _ p [] hle (by omega)
  ·
   rw [arrGo_eq, rloopS_eq, if_pos rfl]
   have hks : rkeyS l 5 [] (i, p, 0) = ([], (i, p, 0)) := by unfold rkeyS; rw [if_neg (by decide)]
   rw [hks]
   dsimp only
   have hv := ih.v (ar + 1) i p hi (by omega)
   have hb := bd.v (ar + 1 + 1) i hi
   have he := er.v (ar + 1 + 1) i
   cases hr : valJ l k (ar + 1 + 1) i with
   | no a w =>
    rw [hr] at hv he
    obtain ⟨v', i', hv⟩ := hv
    rw [hv]
    dsimp only
    have := err_rest l k 5 93 ar [] acc (v', (i', (a : Int), w)) (ew_ne he)
    dsimp only at this
    rw [this]
    exact ⟨_, _, rfl⟩
   | ok v j =>
    rw [hr] at hv hb
    have hv : rvalS l k (ar + 1) (i, p, 0) = (v, (skipB l j, p, 0)) := hv
    rw [hv]
    have hj1 : i < j := hb.1
    have hle := skipB_le hb.2
    have hge := skipB_ge l j
    exact comma_tie (G := fun q => arrGo l k (ar + 1) q (acc ++ [v])) (by decide) (by decide) fun h44 => ih.ag ar _ p _ (here_lt (by rw [h44]; decide)) (by have := here_lt (l := l) (i := skipB l j) (by rw [h44]; decide); omega)
  ·
   have hh : headS (i, p, 0) ar = (i, p, 0) := by unfold headS; rw [if_neg har]
   have hs : stSp l (stUp (i, p, 0)) = (skipB l (i + 1), p, 0) := rfl
   have hle := skipB_le (show i + 1 ≤ l.length from hi)
   have hge := skipB_ge l (i + 1)
   rw [objJ_eq, rlistS_eq, hh, hs]
   dsimp only
   by_cases c1 : hereB l (skipB l (i + 1)) = 125
   · rw [if_pos c1, if_pos ⟨rfl, c1⟩]; exact rfl
   ·
    rw [if_neg c1, if_neg (fun q => c1 q.2)]
    exact ih.og ar _ p [] [] hle (by omega)
  ·
   rw [objGo_eq, rloopS_eq, if_pos rfl]
   have hle := skipB_le hi
   have hge := skipB_ge l i
   have hbt := textJ_bd (l := l) hle
   have het := textJ_e (l := l) (i := skipB l i)
   have hks : rkeyS l 6 keys (i, p, 0) = (keys ++ [strR (textJ l (skipB l i))], stNeed l [58] (stSp l (stKey l keys (i, p, 0)))) := by unfold rkeyS; rw [if_pos rfl]
   have hstop : ∀ (x : RS), ¬ x.2.2 = 0 → ∀ K, (if (rvalS l k (ar + 1) x).2.2.2 = 0 ∧ hereB l (rvalS l k (ar + 1) x).2.1 = 125 then (JV.mk 6 0 (B #[]) K (acc ++ [(rvalS l k (ar + 1) x).1]), stUp (rvalS l k (ar + 1) x).2) else rloopS l k 6 125 ar K (acc ++ [(rvalS l k (ar + 1) x).1]) (stNeed l [44] (rvalS l k (ar + 1) x).2)) = (.mk 6 0 (B #[]) K (acc ++ [zeroJ]), x) := by
    intro x hx K
    rw [rval_err l k (ar + 1) x hx]
    exact err_rest l k 6 125 ar K acc (zeroJ, x) hx
   rw [hks]
   dsimp only
   cases hr : textJ l (skipB l i) with
   | no a w =>
    rw [hr] at het
    have hw := ew_ne het
    have hkey : stKey l keys (i, p, 0) = (a, (a : Int), w) := by
     unfold stKey
     dsimp only
     rw [hr]
     have ho : outR (.no a w : PE (List UInt8)) p = (a, (a : Int), w) := rfl
     rw [ho]
     split
     · unfold stF; dsimp only; rw [if_neg hw, if_neg hw]
     · rfl
    rw [hkey]
    have hne : ¬ (stSp l (a, (a : Int), w)).2.2 = 0 := hw
    rw [need_err _ _ _ hne, hstop _ hne]
    exact ⟨_, _, rfl⟩
   | ok t j =>
    rw [hr] at hbt
    have hst : strR (.ok t j : PE (List UInt8)) = bytesOf t := rfl
    rw [hst]
    dsimp only
    by_cases c4 : keys.any (fun x => decide (x = bytesOf t)) = true
    ·
     have hkey : stKey l keys (i, p, 0) = (j, ((skipB l i : Nat) : Int), 4) := by
      unfold stKey
      dsimp only
      rw [hr, hst, if_pos (show hasB keys (bytesOf t) = true from c4)]
      rfl
     rw [if_pos c4, hkey]
     have hne : ¬ (stSp l (j, ((skipB l i : Nat) : Int), (4 : Int))).2.2 = 0 := by show ¬ (4 : Int) = 0; decide
     rw [need_err _ _ _ hne, hstop _ hne]
     exact ⟨_, _, rfl⟩
    ·
     have hkey : stKey l keys (i, p, 0) = (j, p, 0) := by
      unfold stKey
      dsimp only
      rw [hr, hst, if_neg (show ¬ hasB keys (bytesOf t) = true from c4)]
      rfl
     rw [if_neg c4, hkey]
     have hsp : stSp l (j, p, 0) = (skipB l j, p, 0) := rfl
     rw [hsp, need_one]
     have hle2 := skipB_le hbt.2
     have hge2 := skipB_ge l j
     cases hr2 : takeJ l 58 (skipB l j) with
     | no a w =>
      have hw : ¬ w = 0 := by have := takeJ_e (l := l) (c := 58) (i := skipB l j); rw [hr2] at this; exact ew_ne this
      have ho : outR (.no a w : PE Unit) p = (a, (a : Int), w) := rfl
      rw [ho, hstop (a, (a : Int), w) hw]
      exact ⟨_, _, rfl⟩
     | ok u j1 =>
      obtain ⟨e1, e2⟩ := takeJ_at hr2
      have ho : outR (.ok u j1 : PE Unit) p = (j1, p, 0) := rfl
      rw [ho]
      dsimp only
      have hij : i < j := by have := hbt.1; omega
      have hv := ih.v (ar + 1) j1 p (by omega) (by omega)
      have hb := bd.v (ar + 1 + 1) j1 (by omega)
      have he := er.v (ar + 1 + 1) j1
      cases hr3 : valJ l k (ar + 1 + 1) j1 with
      | no a w =>
       rw [hr3] at hv he
       obtain ⟨v', i', hv⟩ := hv
       rw [hv]
       have := err_rest l k 6 125 ar (keys ++ [bytesOf t]) acc (v', (i', (a : Int), w)) (ew_ne he)
       rw [this]
       exact ⟨_, _, rfl⟩
      | ok v j2 =>
       rw [hr3] at hv hb
       have hv : rvalS l k (ar + 1) (j1, p, 0) = (v, (skipB l j2, p, 0)) := hv
       rw [hv]
       have hj2 : j1 < j2 := hb.1
       have hle3 := skipB_le hb.2
       have hge3 := skipB_ge l j2
       exact comma_tie (G := fun q => objGo l k (ar + 1) q (keys ++ [bytesOf t]) (acc ++ [v])) (by decide) (by decide) fun h44 => ih.og ar _ p _ _ (here_lt (by rw [h44]; decide)) (by have := here_lt (l := l) (i := skipB l j2) (by rw [h44]; decide); omega)
theorem parsed_same (s : ByteArray) : rparsed s = parsed s := by
 unfold rparsed parsed
 by_cases h : 65536 < s.size
 · rw [if_pos h, if_pos h]
 ·
  rw [if_neg h, if_neg h]
  have hT := (ties (bys s) (3 * s.size + 1)).v 0 0 0 (Nat.zero_le _) (by rw [bytes_len]; omega)
  have hE := (errs (l := bys s) (3 * s.size + 1)).v (0 + 1) 0
  have hb := (allBd (bys s) (3 * s.size + 1)).v (0 + 1) 0 (Nat.zero_le _)
  have hp : parseJ (bys s) = match valJ (bys s) (3 * s.size + 1) (0 + 1) 0 with
   | .no a w => .no a w
   | .ok j i => if skipB (bys s) i < (bys s).length then .no (skipB (bys s) i) 10 else .ok j 0 := by
   unfold parseJ
   rw [bytes_len]
   show (match valJ (bys s) (3 * s.size + 1) 1 0 with | .no a w => .no a w | .ok j i => if skipB (bys s) i < s.size then .no (skipB (bys s) i) 10 else .ok j 0 : PE JV) = match valJ (bys s) (3 * s.size + 1) 1 0 with | .no a w => .no a w | .ok j i => if skipB (bys s) i < s.size then .no (skipB (bys s) i) 10 else .ok j 0
   rfl
  rw [hp]
  unfold rres
  cases hr : valJ (bys s) (3 * s.size + 1) (0 + 1) 0 with
  | no a w =>
   rw [hr] at hT hE
   obtain ⟨v', i', hT⟩ := hT
   have hw := ew_ne hE
   rw [hT]
   have he : rend s (i', (a : Int), w) = (i', (a : Int), w) := by unfold rend; rw [if_neg (fun q => hw q.1)]
   dsimp only
   rw [he, if_neg hw]
  | ok v j =>
   rw [hr] at hT hb
   have hT : rvalS (bys s) (3 * s.size + 1) 0 (0, 0, 0) = (v, (skipB (bys s) j, 0, 0)) := hT
   rw [hT]
   dsimp only
   by_cases hj : skipB (bys s) j < (bys s).length
   ·
    have he : rend s (skipB (bys s) j, 0, 0) = (skipB (bys s) j, ((skipB (bys s) j : Nat) : Int), 10) := by unfold rend; rw [if_pos ⟨rfl, by rw [bytes_len] at hj; exact hj⟩]; rfl
    rw [if_pos hj, he, if_neg (show ¬ (10 : Int) = 0 by decide)]
   ·
    have he : rend s (skipB (bys s) j, 0, 0) = (skipB (bys s) j, 0, 0) := by unfold rend; rw [if_neg (fun q => hj (by rw [bytes_len]; exact q.2))]
    rw [if_neg hj, he, if_pos rfl]
theorem jparses_fn (s : ByteArray) : Does Tryd.prog 4 [.d (.v (.string s))] (.d (.v (.bool true))) 0 := by
 have hq := rparse_fn s
 rw [parsed_same] at hq
 refine Does.of_W (n := 46) (ts := [2]) Tryd.func4 (by kernel_rfl) rfl Tryd.ntmps4 Tryd.results4 rfl rfl fun C hC hG => ?_
 refine W.seq (W.region ?_)
 refine pE rfl ?_
 refine WO.nil (qs ?_)
 iterate 2 refine W.seq ?_
 apply regionB; (case hb => rfl)
 ·
  iterate 4 refine pE rfl ?_
  apply splitJ; (case hj => rfl); (case hl => rfl)
  ·
   refine goG rfl rfl ?_
   refine pE rfl ?_
   refine goG rfl rfl ?_
   refine pE rfl ?_
   refine goG rfl rfl ?_
   iterate 2 refine pE rfl ?_
   refine WO.nil ?_
   refine qv1 rfl rfl rfl
  ·
   iterate 3 refine skipT rfl rfl rfl rfl ?_
   refine pE rfl ?_
   refine WO.nil ?_
   refine qv1 rfl rfl rfl
 refine qs ?_
 refine condK rfl (fun h16 => ?_) (fun h16 => ?_)
 ·
  refine W.seq (W.region ?_)
  refine pu (puCall rfl rfl rfl (awake_fn ..) rfl) rfl ?_
  refine pE rfl ?_
  refine WO.nil (qs (W.ret (qsRet ?_)))
  refine QF.ret0 trivial rfl ?_
  first | rfl | (simp [norm, oneA, eqJ_refl]; done)
 ·
  refine W.skip (qs (W.seq (W.region ?_)))
  refine pE rfl ?_
  refine pu (puCall rfl rfl rfl (parse_fn' s) rfl) rfl ?_
  iterate 4 refine pE rfl ?_
  refine allocR tab rfl rfl rfl ?_
  refine storeR tab rfl rfl rfl rfl rfl rfl rfl rfl ?_
  iterate 2 refine pE rfl ?_
  refine WO.nil (qs (W.seq (W.region ?_)))
  refine pE rfl ?_
  refine pu (puCall rfl rfl rfl hq rfl) rfl ?_
  iterate 4 refine pE rfl ?_
  refine allocR tab rfl rfl rfl ?_
  refine storeR tab rfl rfl rfl rfl rfl rfl rfl rfl ?_
  iterate 2 refine pE rfl ?_
  refine WO.nil (qs (W.seq ?_))
  apply regionB; (case hb => rfl)
  ·
   first | refine pE rfl ?_ | refine pR rfl rfl rfl rfl rfl ?_ | refine pB rfl rfl rfl rfl rfl rfl ?_
   first | refine pE rfl ?_ | refine pR rfl rfl rfl rfl rfl ?_ | refine pB rfl rfl rfl rfl rfl rfl ?_
   refine pu (puCall rfl rfl rfl (rSame_fn (parsed s).1 (parsed s).1) rfl) rfl ?_
   refine pE rfl ?_
   apply splitJ; (case hj => rfl); (case hl => rfl)
   ·
    refine goG rfl rfl ?_
    refine pE rfl ?_
    refine goG rfl rfl ?_
    refine pE rfl ?_
    refine goG rfl rfl ?_
    iterate 3 refine pE rfl ?_
    apply splitJ; (case hj => rfl); (case hl => rfl)
    ·
     refine goG rfl rfl ?_
     refine pE rfl ?_
     refine goG rfl rfl ?_
     refine pE rfl ?_
     refine goG rfl rfl ?_
     iterate 3 refine pE rfl ?_
     apply splitJ; (case hj => rfl); (case hl => rfl)
     ·
      refine goG rfl rfl ?_
      refine pu (puCall rfl rfl rfl (awake_fn ..) rfl) rfl ?_
      iterate 2 refine pE rfl ?_
      refine WO.nil ?_
      refine qv1 rfl rfl rfl
     ·
      refine skipT rfl rfl rfl rfl ?_
      iterate 2 refine pE rfl ?_
      refine WO.nil ?_
      refine qv1 rfl rfl rfl
    ·
     iterate 3 refine skipT rfl rfl rfl rfl ?_
     iterate 2 refine pE rfl ?_
     refine skipT rfl rfl rfl rfl ?_
     iterate 2 refine pE rfl ?_
     refine WO.nil ?_
     refine qv1 rfl rfl rfl
   ·
    iterate 3 refine skipT rfl rfl rfl rfl ?_
    iterate 2 refine pE rfl ?_
    iterate 3 refine skipT rfl rfl rfl rfl ?_
    iterate 2 refine pE rfl ?_
    refine skipT rfl rfl rfl rfl ?_
    iterate 2 refine pE rfl ?_
    refine WO.nil ?_
    refine qv1 rfl rfl rfl
  refine qs (W.ret ?_)
  refine QF.ret0 trivial rfl ?_
  first | rfl | (simp [norm, oneA, eqJ_refl]; done)
end Go.Proofs.YtllkpgnpioojjaaDoor
