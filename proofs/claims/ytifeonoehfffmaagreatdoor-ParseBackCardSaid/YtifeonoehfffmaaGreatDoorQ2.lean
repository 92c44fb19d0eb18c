import Derived.Test.YtifeonoehfffmaaGreatDoorQ1
import Derived.Laws.Cover3
import Derived.Lib.Bytealg
import Derived.Laws.Externs
import Derived.Lib.LaidTab
import Derived.Lib.SmallJoins
import Derived.Lib.AppendIntMem
import Derived.Lib.LaidU8
import Derived.LaidLaws
import Derived.HandedShaped
import Derived.Lay
import Derived.Lib.AtoiAllCases
import Derived.Lib.ItoaNum
import Derived.Lib.SplitLaws
import Derived.Lib.Join
import Derived.Laws.Slices
namespace Go.Ab
open Go.RowKit
inductive RV where
  | tmp (t : Nat)
  | cell (t ty : Nat)
def RV.var : RV → ResultVar
  | .tmp t => .tmp t
  | .cell t ty => .cell t ty
def rvRun (tmps : Array Value) : ResultVar → Sem Value
  | .tmp t => pure (tmps.getD t undef)
  | .cell a t => do loadVar t (← asAddr (tmps.getD a undef))
section
variable {P : Program} (T : Tab P)
def resV (f : List (Nat × A)) (bx : List (Nat × List A)) : List RV → Option (List A)
  | [] => some []
  | .tmp t :: r => match look f t, resV f bx r with
    | some a, some l => some (a :: l)
    | _, _ => none
  | .cell t ty :: r => match look f t with
    | some (.ptr g off) => (match look' bx g with
      | some cells => (match partA T ty (cells.drop off), resV f bx r with
        | some a, some l => some (a :: l)
        | _, _ => none)
      | none => none)
    | _ => none
def QV (rs : List RV) (r : A) (k : Nat) : Exit → St → Prop := fun e st =>
  (match e with | .normal => True | .ret => True | _ => False) ∧ ∃ l order, resV T st.f st.bx rs = some l ∧ norm order (oneA l) = r ∧ order.length = k ∧ order.Nodup ∧ ∀ g ∈ order, g ∈ st.lv
theorem run_resV {C : Ctx} {n : Nat} {st : St} {G : Gh} {tmps : Array Value} {w : World} (hs : SimG C n st G tmps w) : ∀ (rs : List RV) (l : List A), resV T st.f st.bx rs = some l →
    ∃ vs : List Value, ((rs.map RV.var).mapM (rvRun tmps)).run P w = .ok vs w ∧ vs.length = l.length ∧
      ∀ (i : Nat) (u : Value) (a : A), vs[i]? = some u → l[i]? = some a → Rep (enOf C G st.gen w) u a
  | [], l, h => by simp only [resV, Option.some.injEq] at h; subst h; exact ⟨[], by simp, rfl, by simp⟩
  | .tmp t :: r, l, h => by
    simp only [resV] at h
    split at h
    · rename_i a l' ha hl'
      simp only [Option.some.injEq] at h
      subst h
      obtain ⟨vs, h1, h2, h3⟩ := run_resV hs r l' hl'
      obtain ⟨v, hv, hr⟩ := hs.frame _ _ ha
      refine ⟨v :: vs, ?_, by simp [h2], fun i u a hu ha => ?_⟩
      · simp only [List.map_cons, RV.var, List.mapM_cons, Sem.run_bind, rvRun, Sem.run_pure, Result.andThen_ok, h1]
        simp [hv]
      · cases i with
        | zero => simp at hu ha; subst hu; subst ha; exact hr
        | succ i => exact h3 i u a (by simpa using hu) (by simpa using ha)
    · cases h
  | .cell t ty :: r, l, h => by
    simp only [resV] at h
    split at h
    · rename_i g off ht
      split at h
      · rename_i cells hb
        split at h
        · rename_i a l' ha hl'
          simp only [Option.some.injEq] at h
          subst h
          obtain ⟨vs, h1, h2, h3⟩ := run_resV hs r l' hl'
          obtain ⟨v, hv, hr⟩ := hs.frame _ _ ht
          obtain ⟨b, cs, T', h4, h5, h6, h7, h8⟩ := box_cells hs hb hr
          subst h4
          obtain ⟨u, hu1, hu2⟩ := load_partA (E := enOf C G st.gen w) T (t := ty) (b := b) (off := off) (u := fun j => cs[off + j]?.getD default) (l := cells.drop off) (fun j hj => by
              have hj' : off + j < cs.size := by simp at hj; omega
              have e : cs[off + j]? = some cs[off + j] := by simp [hj']
              exact ⟨by show cellAt w b (off + j) = _; rw [cellAt_row h5, e]; rfl, by rw [e]; exact h7 _ _ e⟩) (fun j y hy => by
              have hy' : cells[off + j]? = some y := by simpa using hy
              have hj' : off + j < cs.size := by rw [h6]; exact (List.getElem?_eq_some_iff.1 hy').1
              have e : cs[off + j]? = some cs[off + j] := by simp [hj']
              rw [e]
              exact h8 _ _ _ e hy') ha
          have hu1' : (loadVar ty ⟨b, off, none⟩).run P w = .ok u w := hu1
          refine ⟨u :: vs, ?_, by simp [h2], fun i x a hx ha => ?_⟩
          · have hg : tmps.getD t undef = .pointer (some ⟨b, off, none⟩) := by simp [hv]
            simp only [List.map_cons, RV.var, List.mapM_cons, rvRun, Sem.run_bind, Sem.run_pure, Result.andThen_ok, h1, hg, asAddr, hu1']
          · cases i with
            | zero => simp at hx ha; subst hx; subst ha; exact hu2
            | succ i => exact h3 i x a (by simpa using hx) (by simpa using ha)
        · cases h
      · cases h
    · cases h
theorem run_resultsV {fn : Func} {rs : List RV} (h : fn.results = (rs.map RV.var).toArray) {tmps : Array Value} {w : World} {vs : List Value}
    (hr : ((rs.map RV.var).mapM (rvRun tmps)).run P w = .ok vs w) :
    (results fn tmps).run P w = .ok (oneV vs) w := by
  have e : results fn tmps = (do
      let vs ← fn.results.mapM (rvRun tmps)
      pure (if h : vs.size = 1 then vs[0] else .tuple vs)) := by
    unfold results
    congr 2
    first | done | (congr 2; funext x; cases x <;> rfl)
  rw [e, h, Array.mapM_eq_mapM_toList]
  simp only [Sem.run_bind, Sem.run_map, hr, Result.andThen_ok, Sem.run_pure]
  match vs with
  | [] => simp [oneV]
  | [v] => simp [oneV]
  | v :: v2 :: vs => simp [oneV]
theorem Does.of_V [Met P] {f : FuncId} {fn : Func} {c : Code} {rs : List RV} {n : Nat} {args : List A} {r : A} {k : Nat} (hf : P.funcs[f]? = some fn) (hname : (fn.name == "runtime.NumGoroutine") = false) (hb : fn.body = some c) (hn : fn.ntmps = n)
    (hr : fn.results = (rs.map RV.var).toArray) (hlen : Nat.ble args.length n = true) (h : ∀ C, NB C 0 → GC P C → W P C n c (QV T rs r k) ⟨args0 0 args, [], [], 0⟩) : Does P f args r k := by
  have hlen := Nat.le_of_ble_eq_true hlen
  refine ⟨⟨fn, hf, hname, by rw [hb]; rfl⟩, fun C vals w hG hw hp hx hsz hrep => ?_⟩
  subst hw
  refine calls_of_wp hf hb (wp_mono (h C ⟨by rw [hp.2.2]; rfl⟩ hG (vals ++ Array.replicate (fn.ntmps - vals.size) undef) C.w0 ⟨G0, ?_⟩) ?_)
  · refine { size := by simp [hn]; omega, frame := fun t a ha => ?_, box := fun g cells hc => by simp [look'] at hc, gbox := fun g b hb => by simp [G0] at hb, inj := fun g g' b hb => by simp [G0] at hb,
             live := fun g hg => by simp at hg, gown := fun g r hr => by simp [G0] at hr, row := fun g b len cap sz pub hr => by simp [G0] at hr, mrow := fun g b hr => by simp [G0] at hr, xold := fun b o hb => ⟨hx b o hb, hp.1 b⟩, kold := fun b o hb => absurd hb (hp.2.1 b o), lent := fun i b hb => by rw [hp.2.2] at hb; simp at hb,
             fr := ⟨rfl, rfl, rfl, Nat.le_refl _, fun _ _ _ => rfl, fun _ _ _ hb => absurd hb (hp.2.1 _ _)⟩ }
    obtain ⟨_, h1⟩ := args0_look args 0 t a ha
    have h2 : t < args.length := (List.getElem?_eq_some_iff.1 (by simpa using h1)).1
    have h3 : t < vals.size := by omega
    have h4 : vals[t]? = some vals[t] := by simp [h3]
    exact ⟨vals[t], by rw [Array.getElem?_append_left h3]; exact h4, hrep t _ a h4 (by simpa using h1)⟩
  · rintro e ⟨tmps, df⟩ w' ⟨hd, st, ⟨G, hs⟩, he, l, order, hl, hno, hol, hnd, hov⟩
    have hmain : ∃ v, (results fn tmps).run P w' = .ok v w' ∧ ∃ v_1 G', Ending.returned v = .returned v_1 ∧ SimG C 0 ⟨[], [], List.range k, k⟩ G' #[] w' ∧ Rep (enOf C G' k w') v_1 r := by
      obtain ⟨vs, hvs, hvl, hvr⟩ := run_resV T hs rs l hl
      refine ⟨_, run_resultsV hr hvs, _, ⟨fun _ => none, fun i => if i < k then (order[i]?).bind G.own else none⟩, rfl, ?_, ?_⟩
      · refine { size := rfl, frame := fun t a ha => by simp [look] at ha, box := fun g cells hc => by simp [look'] at hc, gbox := fun g b hb => by simp at hb, inj := fun g g' b hb => by simp at hb,
                 live := fun g hg => ?_, gown := fun g r hr => ?_, row := fun g b len cap sz pub hr => ?_, mrow := fun g b hr => ?_, xold := hs.xold, kold := hs.kold, lent := fun i b hb => by rw [hp.2.2] at hb; simp at hb, fr := hs.fr }
        · have hg' : g < k := by simpa using hg
          have hg2 : g < order.length := by omega
          obtain ⟨r', hr'⟩ := hs.live order[g] (hov _ (List.getElem_mem hg2))
          exact ⟨r', by simp [hg', hg2, hr']⟩
        · dsimp only at hr
          split at hr
          · assumption
          · cases hr
        · dsimp only at hr
          split at hr
          · rename_i hgk
            obtain ⟨g0, hg0, hr0⟩ := Option.bind_eq_some_iff.1 hr
            obtain ⟨h1, h2, h3, h4⟩ := hs.row g0 b len cap sz pub hr0
            refine ⟨h1, fun g' => by simp, fun g' len' cap' sz' pub' hr' => ?_, h4⟩
            dsimp only at hr'
            split at hr'
            · obtain ⟨g1, hg1, hr1⟩ := Option.bind_eq_some_iff.1 hr'
              have e := h3 g1 len' cap' sz' pub' hr1
              subst e
              obtain ⟨i1, e1⟩ := List.getElem?_eq_some_iff.1 hg0
              obtain ⟨i2, e2⟩ := List.getElem?_eq_some_iff.1 hg1
              have hpw := List.pairwise_iff_getElem.1 hnd
              rcases Nat.lt_trichotomy g' g with hlt | heq | hgt
              · exact absurd (e2.trans e1.symm) (hpw g' g i2 i1 hlt)
              · exact heq
              · exact absurd (e1.trans e2.symm) (hpw g g' i1 i2 hgt)
            · cases hr'
          · cases hr
        · dsimp only at hr
          split at hr
          · rename_i hgk
            obtain ⟨g0, hg0, hr0⟩ := Option.bind_eq_some_iff.1 hr
            obtain ⟨h1, _, h3, h4⟩ := hs.mrow g0 b hr0
            refine ⟨h1, fun g' => by simp, fun g' hr' => ?_, h4⟩
            dsimp only at hr'
            split at hr'
            · obtain ⟨g1, hg1, hr1⟩ := Option.bind_eq_some_iff.1 hr'
              have e := h3 g1 hr1
              subst e
              obtain ⟨i1, e1⟩ := List.getElem?_eq_some_iff.1 hg0
              obtain ⟨i2, e2⟩ := List.getElem?_eq_some_iff.1 hg1
              have hpw := List.pairwise_iff_getElem.1 hnd
              rcases Nat.lt_trichotomy g' g with hlt | heq | hgt
              · exact absurd (e2.trans e1.symm) (hpw g' g i2 i1 hlt)
              · exact heq
              · exact absurd (e1.trans e2.symm) (hpw g g' i1 i2 hgt)
            · cases hr'
          · cases hr
      · rw [← hno]
        refine Rep.norm (order := order) (E := enOf C G st.gen w') (E2 := enOf C ⟨fun _ => none, fun i => if i < k then (order[i]?).bind G.own else none⟩ k w') (fun b o u hu hn => ⟨hu, fun hp => hn ?_⟩) (fun g r' hg hr' => ?_) (by simp [enOf, hol]) (oneA_rep hvl hvr)
        · rcases (hp : pvOf C ⟨fun _ => none, fun i => if i < k then (order[i]?).bind G.own else none⟩ b o) with hp | ⟨g, hp⟩ | ⟨g, len, cap, sz, pub, hp, hle⟩
          · exact Or.inl hp
          · cases hp
          · simp only at hp
            split at hp
            · obtain ⟨g0, _, hr0⟩ := Option.bind_eq_some_iff.1 hp
              exact Or.inr (Or.inr ⟨g0, len, cap, sz, pub, hr0, hle⟩)
            · cases hp
        · have hr2 : (if order.idxOf g < k then (order[order.idxOf g]?).bind G.own else none) = some r' := hr'
          rw [if_pos (by rw [← hol]; exact idxOf_lt' hg)] at hr2
          have : order[order.idxOf g]? = some g := by
            rw [List.getElem?_eq_some_iff]
            exact ⟨idxOf_lt' hg, List.getElem_idxOf (idxOf_lt' hg)⟩
          rw [this] at hr2
          exact hr2
    cases e with
    | normal => exact ⟨hd, hmain⟩
    | ret => exact ⟨hd, hmain⟩
    | exit _ => exact he.elim
    | goto _ => exact he.elim
    | panic _ => exact he.elim
    | outgrown => exact he.elim
theorem QV.ret0 {rs : List RV} {r : A} {e : Exit} {st : St} {l : List A} (he : match e with | .normal => True | .ret => True | _ => False) (hl : resV T st.f st.bx rs = some l) (hr : norm [] (oneA l) = r) : QV T rs r 0 e st :=
  ⟨he, l, [], hl, hr, rfl, List.nodup_nil, by simp⟩
variable {C : Ctx} {n : Nat} {ops : Array Oper} {Q : Exit → St → Prop} {rest l : List Oper} {c : Code}
variable {f f' : List (Nat × A)} {bx bx' : List (Nat × List A)} {lv lv' : List Nat} {gen gen' d : Nat} {op : Op} {ty : TypeId} {pos : String} {af : Array Edge} {a : A} {dst : Option Nat}
def QE (f : List (Nat × A)) (bx : List (Nat × List A)) (lv : List Nat) (gen : Nat) : Exit → St → Prop := fun e st => e = .normal ∧ Sub st.f f ∧ SubB st.bx bx ∧ (∀ g ∈ lv, g ∈ st.lv) ∧ st.gen ≤ gen
theorem WO.cut (f') (bx') (lv') (gen') {st : St} (h : WO P C n ops (QE f' bx' lv' gen') l st) (hq : Q .normal ⟨f', bx', lv', gen'⟩) : WO P C n ops Q l st := by
  have key : ∀ (l : List Oper) (act : Act) (w : World), wpL P ops (lift C n (QE f' bx' lv' gen')) l act w → wpL P ops (lift C n Q) l act w := by
    intro l
    induction l with
    | nil =>
      rintro act w ⟨hd, st', ⟨G, hs⟩, _, h1, h2, h3, h4⟩
      exact ⟨hd, _, ⟨G, SimG.weak (f := st'.f) (bx := st'.bx) (lv := st'.lv) (gen := st'.gen) hs h1 h2 h3 h4⟩, hq⟩
    | cons o l ih =>
      intro act w h
      simp only [wpL] at h ⊢
      split
      · rename_i hw
        rw [if_pos hw] at h
        refine Oper.wp_mono ?_ (Q := lift C n Q) (K := wpL P ops (lift C n (QE f' bx' lv' gen')) l) ?_
        · exact ih
        · unfold Oper.wp at h ⊢
          generalize (execOp act.eval o).run P w = r at *
          cases r with
          | ok x w' =>
            cases x <;> simp only [Oper.upon] at h ⊢
            case enter f args =>
              refine h.mono fun e w'' he => ?_
              cases e with
              | returned v => exact he
              | panicked chain => exact absurd he.2.choose_spec.2.1 (by simp)
              | outgrown => obtain ⟨_, _, he⟩ := he; exact absurd he.2.choose_spec.2.1 (by simp)
            all_goals exact h
          | halt x w' =>
            cases x <;> simp only [Oper.upon] at h ⊢
            exact absurd h.2.choose_spec.2.1 (by simp)
      · rename_i hw
        rw [if_neg hw] at h
        exact ih _ _ h
  exact fun tmps w hs => key l _ w (h tmps w hs)
theorem QE.mk {st : St} (h1 : Sub st.f f) (h2 : SubB st.bx bx) (h3 : ∀ g ∈ lv, g ∈ st.lv) (h4 : st.gen ≤ gen) : QE f bx lv gen .normal st := ⟨rfl, h1, h2, h3, h4⟩
theorem W.cut (f') (bx') (lv') (gen') {st : St} (h : W P C n c (fun e st => match e with | .normal => QE f' bx' lv' gen' .normal st | e => Q e st) st) (hq : Q .normal ⟨f', bx', lv', gen'⟩) : W P C n c Q st :=
  fun tmps w hs => wp_mono (h tmps w hs) fun e act w ⟨hd, st', ⟨G, hs⟩, he⟩ => by
    cases e with
    | normal => exact ⟨hd, _, ⟨G, SimG.weak (f := st'.f) (bx := st'.bx) (lv := st'.lv) (gen := st'.gen) hs he.2.1 he.2.2.1 he.2.2.2.1 he.2.2.2.2⟩, hq⟩
    | _ => exact ⟨hd, st', ⟨G, hs⟩, he⟩
theorem puExt {x : Operand} {xs : Array Operand} {tys : Array TypeId} {fid : FuncId} {vs : List Value} {r : Value} (hx : av f x = some (.clo fid [])) (hxs : avs f xs.toList = some (vs.map fun v => A.d (.v v))) (hrun : ∀ w, (callFunc fid vs.toArray).run P w = .ok (.value r) w) (hr : okc r = true) :
    Pu P C n ⟨f, bx, lv, gen⟩ ⟨dst, .call ⟨.value x, xs, tys⟩, ty, pos, af, none⟩ (.d (.v r)) := by
  intro G tmps w hs
  have hrx := hs.av hx
  generalize hv : Act.eval ⟨tmps, []⟩ x = v at hrx
  cases hrx with
  | clo _ cs _ hsz hd =>
  have hcs : cs = #[] := Array.eq_empty_of_size_eq_zero (by simpa using hsz)
  subst hcs
  obtain ⟨h1, h2⟩ := avs_rep hs xs.toList _ hxs
  have hargs : xs.map (Act.eval ⟨tmps, []⟩) = vs.toArray := by
    apply Array.ext_getElem?
    intro i
    simp only [Array.getElem?_map, List.getElem?_toArray]
    cases hvi : vs[i]? with
    | none =>
      have : xs.size ≤ i := by have := List.getElem?_eq_none_iff.1 hvi; simp at h1; omega
      simp [this]
    | some u =>
      obtain ⟨y, hy, hr⟩ := h2 i (.d (.v u)) (by rw [List.getElem?_map, hvi]; rfl)
      have hy' : xs[i]? = some y := by simpa using hy
      rw [hy']
      simp only [Option.map_some, Option.some.injEq]
      generalize Act.eval ⟨tmps, []⟩ y = z at hr ⊢
      cases hr with | d hr => cases hr; rfl
  refine gives_value (v := r) (w' := w) ?_ ⟨Below.refl _ _, .d (.v _ hr)⟩
  unfold execOp
  show Sem.run P (do let d ← resolve (Act.eval ⟨tmps, []⟩) ⟨.value x, xs, tys⟩ ty; invoke d.target d.args) w = _
  simp only [resolve, hv, Deferred.ofValue, Sem.run_bind, Sem.run_pure, Result.andThen_ok, invoke, Array.empty_append, hargs, Array.append_empty]
  exact hrun w
end
end Go.Ab
namespace Go.Ab
open Go.RowKit
def boolD : Bool → List Oper → Option Nat
  | _, [] => none
  | g, o :: r => match o.op, r with
    | .pick _ _ _, [] => bif g then o.dst else none
    | .pick _ _ _, [o'] => match o'.op with
      | .assign _ => bif g then o'.dst else none
      | _ => boolD (g || o.guard.isSome) r
    | .assign _, _ => none
    | _, _ => boolD (g || o.guard.isSome) r
abbrev boolA (b : Bool) : A := .d (.v (.bool b))
def apartB (d : Nat) : List (Nat × A) → List (Nat × A) → Bool
  | [], _ => true
  | (s, _) :: r, f0 => (Nat.beq s d || f0.all fun x => !Nat.beq x.1 s) && apartB d r f0
section
variable {P : Program} {C : Ctx} {n : Nat} {ops : Array Oper} {Q : Exit → St → Prop} {rest l : List Oper} {c : Code}
variable {f f0 f' : List (Nat × A)} {bx bx0 bx' : List (Nat × List A)} {lv lv0 lv' : List Nat} {gen gen0 gen' d : Nat} {op : Op} {ty : TypeId} {pos : String} {af : Array Edge} {a : A} {dst : Option Nat}
def QV1 (d : Nat) (y : Bool) (f : List (Nat × A)) (bx : List (Nat × List A)) (lv : List Nat) (gen : Nat) : Exit → St → Prop := fun e st =>
  e = .normal ∧ (∀ t a, look ((d, boolA y) :: f) t = some a → look st.f t = some a) ∧ st.bx = bx ∧ st.lv = lv ∧ st.gen = gen
theorem WO.cut1 {y : Bool} {st : St} (h : WO P C n ops (QV1 d y f bx lv gen) l st) (hq : Q .normal ⟨(d, boolA y) :: f, bx, lv, gen⟩) : WO P C n ops Q l st := by
  have key : ∀ (l : List Oper) (act : Act) (w : World), wpL P ops (lift C n (QV1 d y f bx lv gen)) l act w → wpL P ops (lift C n Q) l act w := by
    intro l
    induction l with
    | nil =>
      rintro act w ⟨hd, st', ⟨G, hs⟩, _, h1, h2, h3, h4⟩
      exact ⟨hd, _, ⟨G, hs.weaken (st' := ⟨(d, boolA y) :: f, bx, lv, gen⟩) ⟨h1, by rw [← h2]; exact fun _ _ h => h, by rw [← h3]; exact fun _ h => h, h4.symm⟩⟩, hq⟩
    | cons o l ih =>
      intro act w h
      simp only [wpL] at h ⊢
      split
      · rename_i hw
        rw [if_pos hw] at h
        refine Oper.wp_mono ?_ (Q := lift C n Q) (K := wpL P ops (lift C n (QV1 d y f bx lv gen)) l) ?_
        · exact ih
        · unfold Oper.wp at h ⊢
          generalize (execOp act.eval o).run P w = r at *
          cases r with
          | ok x w' =>
            cases x <;> simp only [Oper.upon] at h ⊢
            case enter f args =>
              refine h.mono fun e w'' he => ?_
              cases e with
              | returned v => exact he
              | panicked chain => exact absurd he.2.choose_spec.2.1 (by simp)
              | outgrown => obtain ⟨_, _, he⟩ := he; exact absurd he.2.choose_spec.2.1 (by simp)
            all_goals exact h
          | halt x w' =>
            cases x <;> simp only [Oper.upon] at h ⊢
            exact absurd h.2.choose_spec.2.1 (by simp)
      · rename_i hw
        rw [if_neg hw] at h
        exact ih _ _ h
  exact fun tmps w hs => key l _ w (h tmps w hs)
theorem regionB {id : Nat} {y : Bool} (hb : boolD false l = some d) (h : WO P C n l.toArray (QV1 d y f bx lv gen) l ⟨f, bx, lv, gen⟩) (hq : Q .normal ⟨(d, boolA y) :: f, bx, lv, gen⟩) : W P C n (.region id l.toArray false) Q ⟨f, bx, lv, gen⟩ :=
  W.region (WO.cut1 h hq)
theorem qv1 {y : Bool} (hl : look f d = some (boolA y)) (hd : f.drop (f.length - f0.length) = f0) (hj : apartB d (f.take (f.length - f0.length)) f0 = true) : QV1 d y f0 bx lv gen .normal ⟨f, bx, lv, gen⟩ := by
  refine ⟨rfl, fun t a ha => ?_, rfl, rfl, rfl⟩
  rw [look_cons] at ha
  split at ha
  · rename_i e; subst e; rw [← ha]; exact hl
  · rename_i hne
    dsimp only
    rw [← List.take_append_drop (f.length - f0.length) f, hd]
    generalize f.take (f.length - f0.length) = p at hj
    clear hd hl
    induction p with
    | nil => exact ha
    | cons x p ih =>
      obtain ⟨s, b⟩ := x
      simp only [apartB, Bool.and_eq_true, Bool.or_eq_true, List.all_eq_true] at hj
      rw [List.cons_append, look_cons, if_neg]
      · exact ih hj.2
      · rintro rfl
        rcases hj.1 with h | h
        · exact hne (Nat.eq_of_beq_eq_true h).symm
        · clear ih
          have : ∀ (l : List (Nat × A)), (∀ x ∈ l, (!Nat.beq x.1 s) = true) → look l s = none := by
            intro l
            induction l with
            | nil => intro _; rfl
            | cons y l ih =>
              intro h
              obtain ⟨u, v⟩ := y
              rw [look_cons, if_neg]
              · exact ih fun x hx => h x (by simp [hx])
              · rintro rfl
                have := h (u, v) (by simp)
                simp at this
          rw [this f0 h] at ha
          cases ha
theorem splitJ {y1 y2 : Bool} {d0 : Nat} {j e : Nat} {want b : Bool} (hj : gslot ops j = some e) (hl : look f e = some (.d (.v (.bool b))))
    (ht : WO P C n ops (QV1 d0 y1 f0 bx0 lv0 gen0) (⟨dst, op, ty, pos, af, some (j, want)⟩ :: rest) ⟨(e, .d (.v (.bool true))) :: f, bx, lv, gen⟩)
    (hf : WO P C n ops (QV1 d0 y2 f0 bx0 lv0 gen0) (⟨dst, op, ty, pos, af, some (j, want)⟩ :: rest) ⟨(e, .d (.v (.bool false))) :: f, bx, lv, gen⟩) :
    WO P C n ops (QV1 d0 (bif b then y1 else y2) f0 bx0 lv0 gen0) (⟨dst, op, ty, pos, af, some (j, want)⟩ :: rest) ⟨f, bx, lv, gen⟩ := by
  refine WO.split (st := ⟨f, bx, lv, gen⟩) hl (fun h => ?_) (fun h => ?_)
  · subst h; exact ht
  · subst h; exact hf
end
end Go.Ab
namespace Go.Ab
open Go.RowKit
def pos : List Nat → Nat → Option Nat
  | [], _ => none
  | g :: r, h => bif Nat.beq g h then some 0 else match pos r h with
    | some i => some (i + 1)
    | none => none
theorem pos_some : ∀ {order : List Nat} {g i : Nat}, pos order g = some i → order[i]? = some g
  | [], g, i, h => by simp [pos] at h
  | g' :: r, g, i, h => by
    simp only [pos] at h
    cases e : Nat.beq g' g with
    | true =>
      rw [e] at h
      simp only [cond_true, Option.some.injEq] at h
      subst h
      simp [Nat.eq_of_beq_eq_true e]
    | false =>
      rw [e] at h
      simp only [cond_false] at h
      split at h
      · rename_i j hj
        simp only [Option.some.injEq] at h
        subst h
        simpa using pos_some hj
      · cases h
mutual
def ren (order : List Nat) : A → A
  | .own g es => match pos order g with
    | some i => .own i es
    | none => .d (.sl es)
  | .ptr g off => match pos order g with
    | some i => .ptr i off
    | none => .any
  | .xs g es => match pos order g with
    | some i => .xs i es
    | none => .any
  | .xp g i off l => match pos order g with
    | some j => .xp j i off l
    | none => .any
  | .mp g es => match pos order g with
    | some i => .mp i es
    | none => .any
  | .agg l => .agg (renL order l)
  | .tup l => .tup (renL order l)
  | .row l => .row (renL order l)
  | .clo f l => .clo f (renL order l)
  | .bnd f l => .bnd f (renL order l)
  | a => a
def renL (order : List Nat) : List A → List A
  | [] => []
  | a :: l => ren order a :: renL order l
end
theorem renL_map (order : List Nat) : ∀ l, renL order l = l.map (ren order)
  | [] => rfl
  | a :: l => by simp [renL, renL_map order l]
mutual
def noId : A → Bool
  | .own _ _ => false
  | .ptr _ _ => false
  | .xs _ _ => false
  | .xp _ _ _ _ => false
  | .mp _ _ => false
  | .agg l => noIdL l
  | .tup l => noIdL l
  | .row l => noIdL l
  | .clo _ l => noIdL l
  | .bnd _ l => noIdL l
  | _ => true
def noIdL : List A → Bool
  | [] => true
  | a :: l => noId a && noIdL l
end
mutual
theorem ren_noId (order : List Nat) : ∀ a, noId a = true → ren order a = a
  | .own _ _, h => by simp [noId] at h
  | .ptr _ _, h => by simp [noId] at h
  | .xs _ _, h => by simp [noId] at h
  | .xp _ _ _ _, h => by simp [noId] at h
  | .mp _ _, h => by simp [noId] at h
  | .agg l, h => by simp only [noId] at h; simp [ren, renL_noId order l h]
  | .tup l, h => by simp only [noId] at h; simp [ren, renL_noId order l h]
  | .row l, h => by simp only [noId] at h; simp [ren, renL_noId order l h]
  | .clo _ l, h => by simp only [noId] at h; simp [ren, renL_noId order l h]
  | .bnd _ l, h => by simp only [noId] at h; simp [ren, renL_noId order l h]
  | .d _, _ => rfl
  | .ag _, _ => rfl
  | .rowd _, _ => rfl
  | .ni, _ => rfl
  | .fl _, _ => rfl
  | .any, _ => rfl
theorem renL_noId (order : List Nat) : ∀ l, noIdL l = true → renL order l = l
  | [], _ => rfl
  | a :: l, h => by
    simp only [noIdL, Bool.and_eq_true] at h
    simp [renL, ren_noId order a h.1, renL_noId order l h.2]
end
def renG (order : List Nat) (G : Gh) : Gh := ⟨fun i => (order[i]?).bind G.box, fun i => (order[i]?).bind G.own⟩
theorem pvOf_ren {C : Ctx} {G : Gh} {order : List Nat} {b o : Nat} (h : pvOf C (renG order G) b o) : pvOf C G b o := by
  rcases h with h | ⟨g, h⟩ | ⟨g, len, cap, sz, pub, h, hle⟩
  · exact Or.inl h
  · obtain ⟨g0, _, h0⟩ := Option.bind_eq_some_iff.1 h
    exact Or.inr (Or.inl ⟨g0, h0⟩)
  · obtain ⟨g0, _, h0⟩ := Option.bind_eq_some_iff.1 h
    exact Or.inr (Or.inr ⟨g0, len, cap, sz, pub, h0, hle⟩)
theorem Rep.ren {C : Ctx} {G : Gh} {gen gen' : Nat} {w : World} {order : List Nat} (hg : order.length ≤ gen') {v : Value} {a : A} (h : Rep (enOf C G gen w) v a) : Rep (enOf C (renG order G) gen' w) v (ren order a) := by
  have hc : ∀ b o u, cellAt w b o = some u → ¬ pvOf C G b o → cellAt w b o = some u ∧ ¬ pvOf C (renG order G) b o := fun b o u h hn => ⟨h, fun hp => hn (pvOf_ren hp)⟩
  have hlt : ∀ {g i : Nat}, pos order g = some i → i < gen' := fun hp => Nat.lt_of_lt_of_le (List.getElem?_eq_some_iff.1 (pos_some hp)).1 hg
  generalize hE : enOf C G gen w = E at h
  induction h with
  | any x => exact .any x
  | d hd => subst hE; exact .d (hd.mono hc)
  | ag vs l hs hd => subst hE; exact .ag vs l hs (fun i u x h1 h2 => (hd i u x h1 h2).mono hc)
  | own x g es hd hgg hr =>
    subst hE
    simp only [Ab.ren]
    split
    · rename_i i hp
      refine .own x i es (hd.mono hc) (hlt hp) (fun r hr' => hr r ?_)
      have : (order[i]?).bind G.own = some r := hr'
      rw [pos_some hp] at this
      exact this
    · exact .d (hd.mono hc)
  | agg vs l hs hone _ ih =>
    simp only [Ab.ren, renL_map]
    refine .agg vs _ (by simp [hs]) hone (fun i u x hu hx => ?_)
    simp only [List.getElem?_map, Option.map_eq_some_iff] at hx
    obtain ⟨y, hy, rfl⟩ := hx
    exact ih i u y hu hy
  | tup vs l hs _ ih =>
    simp only [Ab.ren, renL_map]
    refine .tup vs _ (by simp [hs]) (fun i u x hu hx => ?_)
    simp only [List.getElem?_map, Option.map_eq_some_iff] at hx
    obtain ⟨y, hy, rfl⟩ := hx
    exact ih i u y hu hy
  | rowd b off l u hcc hd => subst hE; exact .rowd b off l u (fun j hj => hc _ _ _ (hcc j hj).1 (hcc j hj).2) (fun j x hx => (hd j x hx).mono hc)
  | row b off l u hcc _ ih =>
    simp only [Ab.ren, renL_map]
    subst hE
    refine .row b off _ u (fun j hj => hcc j (by simpa using hj)) (fun j x hx => ?_)
    simp only [List.getElem?_map, Option.map_eq_some_iff] at hx
    obtain ⟨y, hy, rfl⟩ := hx
    exact ih j y hy
  | ptr x g off b0 hgg hb0 hp =>
    subst hE
    simp only [Ab.ren]
    split
    · rename_i i hpp
      refine .ptr x i off b0 (hlt hpp) ?_ hp
      show (order[i]?).bind G.box = some b0
      rw [pos_some hpp]
      exact hb0
    · exact .any _
  | xs x g es hgg h1 hx =>
    subst hE
    simp only [Ab.ren]
    split
    · rename_i i hpp
      refine .xs x i es (hlt hpp) h1 (fun r hr' => ?_)
      have hr : (order[i]?).bind G.own = some r := hr'
      rw [pos_some hpp] at hr
      exact (hx r hr).weak hc
    · exact .any _
  | xp x g i off l hgg h1 hx =>
    subst hE
    simp only [Ab.ren]
    split
    · rename_i j hpp
      refine .xp x j i off l (hlt hpp) h1 (fun r hr' => ?_)
      have hr : (order[j]?).bind G.own = some r := hr'
      rw [pos_some hpp] at hr
      exact (hx r hr).weak hc
    · exact .any _
  | ni t x => exact .ni t x
  | fl x es hd hfl => subst hE; exact .fl x es (hd.mono hc) hfl
  | mp x g es hgg h1 hx =>
    subst hE
    simp only [Ab.ren]
    split
    · rename_i i hpp
      refine .mp x i es (hlt hpp) h1 (fun r hr' => ?_)
      have hr : (order[i]?).bind G.own = some r := hr'
      rw [pos_some hpp] at hr
      exact (hx r hr).weak hc
    · exact .any _
  | clo f vs l hs _ ih =>
    simp only [Ab.ren, renL_map]
    refine .clo f vs _ (by simp [hs]) (fun i u x hu hx => ?_)
    simp only [List.getElem?_map, Option.map_eq_some_iff] at hx
    obtain ⟨y, hy, rfl⟩ := hx
    exact ih i u y hu hy
  | bnd f vs l hs _ ih =>
    simp only [Ab.ren, renL_map]
    refine .bnd f vs _ (by simp [hs]) (fun i u x hu hx => ?_)
    simp only [List.getElem?_map, Option.map_eq_some_iff] at hx
    obtain ⟨y, hy, rfl⟩ := hx
    exact ih i u y hu hy
def nodupB : List Nat → Bool
  | [] => true
  | a :: l => (l.all fun b => !Nat.beq a b) && nodupB l
theorem nodup_of : ∀ {l : List Nat}, nodupB l = true → l.Nodup
  | [], _ => List.nodup_nil
  | a :: l, h => by
    simp only [nodupB, Bool.and_eq_true, List.all_eq_true] at h
    refine List.nodup_cons.2 ⟨fun hm => ?_, nodup_of h.2⟩
    have := h.1 a hm
    simp at this
def SubR (order : List Nat) (f : List (Nat × A)) : List (Nat × A) → Prop
  | [] => True
  | (t, a) :: r => (match look f t with | some x => some (ren order x) | none => none) = some a ∧ SubR order f r
def SubC (f : List (Nat × A)) : List (Nat × A) → Prop
  | [] => True
  | (t, a) :: r => look f t = some a ∧ noId a = true ∧ SubC f r
def SubBR (order : List Nat) (bx : List (Nat × List A)) : List (Nat × List A) → Prop
  | [] => True
  | (i, l) :: r => (match order[i]? with | some g => (match look' bx g with | some x => some (renL order x) | none => none) | none => none) = some l ∧ SubBR order bx r
def SubBC (order : List Nat) (bx : List (Nat × List A)) : List (Nat × List A) → Prop
  | [] => True
  | (i, l) :: r => (match order[i]? with | some g => look' bx g | none => none) = some l ∧ noIdL l = true ∧ SubBC order bx r
def lvR (order lv : List Nat) : List Nat → Bool
  | [] => true
  | i :: r => (match order[i]? with | some g => lv.any fun h => Nat.beq h g | none => false) && lvR order lv r
theorem SubR.le {order : List Nat} {f : List (Nat × A)} : ∀ {f' : List (Nat × A)}, SubR order f f' → ∀ t a', look f' t = some a' → ∃ a, look f t = some a ∧ ren order a = a'
  | [], _, t, a, h => by simp [look] at h
  | (s, b) :: r, hs, t, a, h => by
    rw [look_cons] at h
    split at h
    · rename_i e
      subst e
      simp only [Option.some.injEq] at h
      subst h
      have := hs.1
      split at this
      · rename_i x hx
        simp only [Option.some.injEq] at this
        exact ⟨x, hx, this⟩
      · cases this
    · exact SubR.le hs.2 t a h
theorem SubC.le {order : List Nat} {f : List (Nat × A)} : ∀ {f' : List (Nat × A)}, SubC f f' → ∀ t a', look f' t = some a' → ∃ a, look f t = some a ∧ ren order a = a'
  | [], _, t, a, h => by simp [look] at h
  | (s, b) :: r, hs, t, a, h => by
    rw [look_cons] at h
    split at h
    · rename_i e
      subst e
      simp only [Option.some.injEq] at h
      subst h
      exact ⟨b, hs.1, ren_noId order b hs.2.1⟩
    · exact SubC.le hs.2.2 t a h
theorem SubBR.le {order : List Nat} {f : List (Nat × List A)} : ∀ {f' : List (Nat × List A)}, SubBR order f f' → ∀ i l', look' f' i = some l' → ∃ g l, order[i]? = some g ∧ look' f g = some l ∧ l.map (ren order) = l'
  | [], _, t, a, h => by simp [look'] at h
  | (s, b) :: r, hs, t, a, h => by
    rw [look'_cons] at h
    split at h
    · rename_i e
      subst e
      simp only [Option.some.injEq] at h
      subst h
      have := hs.1
      split at this
      · rename_i g hg
        split at this
        · rename_i x hx
          simp only [Option.some.injEq] at this
          exact ⟨g, x, hg, hx, by rw [← this, renL_map]⟩
        · cases this
      · cases this
    · exact SubBR.le hs.2 t a h
theorem SubBC.le {order : List Nat} {f : List (Nat × List A)} : ∀ {f' : List (Nat × List A)}, SubBC order f f' → ∀ i l', look' f' i = some l' → ∃ g l, order[i]? = some g ∧ look' f g = some l ∧ l.map (ren order) = l'
  | [], _, t, a, h => by simp [look'] at h
  | (s, b) :: r, hs, t, a, h => by
    rw [look'_cons] at h
    split at h
    · rename_i e
      subst e
      simp only [Option.some.injEq] at h
      subst h
      have := hs.1
      split at this
      · rename_i g hg
        exact ⟨g, b, hg, this, by rw [← renL_map]; exact renL_noId order b hs.2.1⟩
      · cases this
    · exact SubBC.le hs.2.2 t a h
theorem lvR_mem {order lv : List Nat} : ∀ {lv' : List Nat}, lvR order lv lv' = true → ∀ i ∈ lv', ∃ g, order[i]? = some g ∧ g ∈ lv
  | [], _, i, h => by simp at h
  | j :: r, h, i, hi => by
    simp only [lvR, Bool.and_eq_true] at h
    rcases List.mem_cons.1 hi with rfl | hi
    · have := h.1
      split at this
      · rename_i g hg
        obtain ⟨x, hx, he⟩ := List.any_eq_true.1 this
        exact ⟨g, hg, Nat.eq_of_beq_eq_true he ▸ hx⟩
      · cases this
    · exact lvR_mem h.2 i hi
theorem look_append {f f2 : List (Nat × A)} {t : Nat} {a : A} : look (f ++ f2) t = some a → look f t = some a ∨ look f2 t = some a := by
  induction f with
  | nil => exact Or.inr
  | cons x f ih =>
    obtain ⟨s, b⟩ := x
    rw [List.cons_append, look_cons, look_cons]
    split
    · exact Or.inl
    · exact ih
theorem look'_append {f f2 : List (Nat × List A)} {t : Nat} {a : List A} : look' (f ++ f2) t = some a → look' f t = some a ∨ look' f2 t = some a := by
  induction f with
  | nil => exact Or.inr
  | cons x f ih =>
    obtain ⟨s, b⟩ := x
    rw [List.cons_append, look'_cons, look'_cons]
    split
    · exact Or.inl
    · exact ih
section
variable {P : Program} {C : Ctx} {n : Nat} {ops : Array Oper} {Q : Exit → St → Prop} {rest l : List Oper} {c : Code}
variable {f f0 f' : List (Nat × A)} {bx bx0 bx' : List (Nat × List A)} {lv lv0 lv' : List Nat} {gen gen0 gen' d : Nat}
theorem SimG.ren {st : St} {G : Gh} {tmps : Array Value} {w : World} (h : SimG C n st G tmps w) (order : List Nat) (hnd : order.Nodup) (hg : order.length ≤ gen') (hlt : ∀ i, i < C.bx.length → order[i]? = some i)
    (hf : ∀ t a', look f' t = some a' → ∃ a, look st.f t = some a ∧ Ab.ren order a = a')
    (hb : ∀ i l', look' bx' i = some l' → ∃ g l, order[i]? = some g ∧ look' st.bx g = some l ∧ l.map (Ab.ren order) = l')
    (hl : ∀ i ∈ lv', ∃ g, order[i]? = some g ∧ g ∈ st.lv) : SimG C n ⟨f', bx', lv', gen'⟩ (renG order G) tmps w := by
  have inj' : ∀ {i j g : Nat}, order[i]? = some g → order[j]? = some g → i = j := by
    intro i j g h1 h2
    obtain ⟨i1, e1⟩ := List.getElem?_eq_some_iff.1 h1
    obtain ⟨i2, e2⟩ := List.getElem?_eq_some_iff.1 h2
    have hpw := List.pairwise_iff_getElem.1 hnd
    rcases Nat.lt_trichotomy i j with hlt | heq | hgt
    · exact absurd (e1.trans e2.symm) (hpw i j i1 i2 hlt)
    · exact heq
    · exact absurd (e2.trans e1.symm) (hpw j i i2 i1 hgt)
  have hlg : ∀ {i g : Nat}, order[i]? = some g → i < gen' := fun h => Nat.lt_of_lt_of_le (List.getElem?_eq_some_iff.1 h).1 hg
  refine { size := h.size, frame := fun t a' ha => ?_, box := fun i l' hc => ?_, gbox := fun i b hb' => ?_, inj := fun i j b h1 h2 => ?_, live := fun i hi => ?_, gown := fun i r hr => ?_,
           row := fun i b len cap sz pub hr => ?_, mrow := fun i b hr => ?_, xold := h.xold, kold := h.kold, lent := fun i b hb => ?_, fr := h.fr }
  · obtain ⟨a, h1, h2⟩ := hf t a' ha
    obtain ⟨v, hv, hr⟩ := h.frame t a h1
    exact ⟨v, hv, by rw [← h2]; exact hr.ren hg⟩
  · obtain ⟨g, l, h1, h2, h3⟩ := hb i l' hc
    obtain ⟨b, cs, T, h4, h5, h6, h7, h8⟩ := h.box g l h2
    refine ⟨b, cs, T, by simp [renG, h1, h4], h5, by rw [← h3]; simpa using h6, h7, fun j u a hu ha => ?_⟩
    rw [← h3, List.getElem?_map, Option.map_eq_some_iff] at ha
    obtain ⟨y, hy, rfl⟩ := ha
    exact (h8 j u y hu hy).ren hg
  · obtain ⟨g, h1, h2⟩ := Option.bind_eq_some_iff.1 hb'
    exact ⟨hlg h1, (h.gbox g b h2).2⟩
  · obtain ⟨g1, h3, h4⟩ := Option.bind_eq_some_iff.1 h1
    obtain ⟨g2, h5, h6⟩ := Option.bind_eq_some_iff.1 h2
    have e := h.inj g1 g2 b h4 h6
    subst e
    exact inj' h3 h5
  · obtain ⟨g, h1, h2⟩ := hl i hi
    obtain ⟨r, hr⟩ := h.live g h2
    exact ⟨r, by simp [renG, h1, hr]⟩
  · obtain ⟨g, h1, h2⟩ := Option.bind_eq_some_iff.1 hr
    exact hlg h1
  · obtain ⟨g, h1, h2⟩ := Option.bind_eq_some_iff.1 hr
    obtain ⟨h3, h4, h5, h6⟩ := h.row g b len cap sz pub h2
    refine ⟨h3, fun j hj => ?_, fun j len' cap' sz' pub' hj => ?_, h6⟩
    · obtain ⟨g2, _, h8⟩ := Option.bind_eq_some_iff.1 hj
      exact h4 g2 h8
    · obtain ⟨g2, h7, h8⟩ := Option.bind_eq_some_iff.1 hj
      have e := h5 g2 len' cap' sz' pub' h8
      subst e
      exact inj' h7 h1
  · obtain ⟨g, h1, h2⟩ := Option.bind_eq_some_iff.1 hr
    obtain ⟨h3, h4, h5, h6⟩ := h.mrow g b h2
    refine ⟨h3, fun j hj => ?_, fun j hj => ?_, h6⟩
    · obtain ⟨g2, _, h8⟩ := Option.bind_eq_some_iff.1 hj
      exact h4 g2 h8
    · obtain ⟨g2, h7, h8⟩ := Option.bind_eq_some_iff.1 hj
      have e := h5 g2 h8
      subst e
      exact inj' h7 h1
  · have h1 := h.lent i b hb
    have h2 := hlt i (List.getElem?_eq_some_iff.1 hb).1
    show (order[i]?).bind G.box = some b
    rw [h2]; exact h1
def LR (C : Ctx) (n : Nat) {ι : Type} (S : ι → St) (μ : ι → Nat) : Nat → St → Prop := fun m st => ∃ i, μ i = m ∧ ∀ (tmps : Array Value) (w : World), Sim C n st tmps w → Sim C n (S i) tmps w
def headB : Nat → List Nat → Nat → Bool
  | 0, _, _ => true
  | _ + 1, [], _ => false
  | m + 1, g :: r, i => Nat.beq g i && headB m r (i + 1)
theorem headB_get : ∀ {m : Nat} {l : List Nat} {i : Nat}, headB m l i = true → ∀ j, j < m → l[j]? = some (i + j)
  | 0, _, _, _, j, h => absurd h (Nat.not_lt_zero _)
  | m + 1, [], _, h, _, _ => by simp [headB] at h
  | m + 1, g :: r, i, h, j, hj => by
    simp only [headB, Bool.and_eq_true] at h
    cases j with
    | zero => simpa using Nat.eq_of_beq_eq_true h.1
    | succ j => have := headB_get h.2 j (by omega); simpa [Nat.add_assoc, Nat.add_comm 1 j] using this
def orderB (order : List Nat) (gen nb : Nat) : Bool := nodupB order && Nat.ble order.length gen && headB nb order 0
theorem Sim.ren {nb : Nat} [hnb : NB C nb] {fi : List (Nat × A)} {bi : List (Nat × List A)} (order : List Nat) (ho : orderB order gen' nb = true) (hf : SubR order f f') (hfi : SubC f fi) (hb : SubBR order bx bx') (hbi : SubBC order bx bi) (hl : lvR order lv lv' = true)
    {tmps : Array Value} {w : World} (h : Sim C n ⟨f, bx, lv, gen⟩ tmps w) : Sim C n ⟨f' ++ fi, bx' ++ bi, lv', gen'⟩ tmps w := by
  obtain ⟨G, h⟩ := h
  simp only [orderB, Bool.and_eq_true] at ho
  exact ⟨_, h.ren order (nodup_of ho.1.1) (Nat.le_of_ble_eq_true ho.1.2) (fun i hi => by have := headB_get ho.2 i (by rw [← hnb.h]; exact hi); simpa using this) (fun t a ha => (look_append ha).elim (hf.le t a) (hfi.le t a)) (fun t a ha => (look'_append ha).elim (hb.le t a) (hbi.le t a)) (lvR_mem hl)⟩
theorem W.loopR {nb : Nat} [hnb : NB C nb] {ι : Type} (V : ι → List (Nat × A)) (fi : List (Nat × A)) (B : ι → List (Nat × List A)) (bi : List (Nat × List A)) (lv' : List Nat) (gen' : Nat) (μ : ι → Nat) (order : List Nat) (i : ι) (ho : orderB order gen' nb = true)
    (hf : SubR order f (V i)) (hfi : SubC f fi) (hb : SubBR order bx (B i)) (hbi : SubBC order bx bi) (hl : lvR order lv lv' = true)
    (hr : ∀ i, W P C n c (QL (LR C n (fun i => ⟨V i ++ fi, B i ++ bi, lv', gen'⟩) μ) (μ i) Q) ⟨V i ++ fi, B i ++ bi, lv', gen'⟩) : W P C n (.loop c) Q ⟨f, bx, lv, gen⟩ := by
  refine W.loop (LR C n (fun i => ⟨V i ++ fi, B i ++ bi, lv', gen'⟩) μ) (fun m st ⟨i, hm, hle⟩ => ?_) (m := μ i) ⟨i, rfl, fun tmps w h => Sim.ren order ho hf hfi hb hbi hl h⟩
  subst hm
  exact fun tmps w hs => hr i tmps w (hle tmps w hs)
theorem W.endR {nb : Nat} [hnb : NB C nb] {ι : Type} {V : ι → List (Nat × A)} {fi : List (Nat × A)} {B : ι → List (Nat × List A)} {bi : List (Nat × List A)} {μ : ι → Nat} {m : Nat} (order : List Nat) (i : ι) (hm : μ i < m) (ho : orderB order gen' nb = true)
    (hf : SubR order f (V i)) (hfi : SubC f fi) (hb : SubBR order bx (B i)) (hbi : SubBC order bx bi) (hl : lvR order lv lv' = true) :
    QL (LR C n (fun i => ⟨V i ++ fi, B i ++ bi, lv', gen'⟩) μ) m Q .normal ⟨f, bx, lv, gen⟩ :=
  ⟨μ i, hm, i, rfl, fun _ _ h => Sim.ren order ho hf hfi hb hbi hl h⟩
end
end Go.Ab
namespace Go.Ab
open Go.RowKit
section
variable {P : Program} {C : Ctx} {n : Nat} {Q : Exit → St → Prop} {x y : Code} {st : St} {α : Type}
theorem eachR {l : List α} {k : Nat} {c : Operand} {b : Bool} (hc : av st.f c = some (.d (.v (.bool b)))) (hb : b = decide ((k : Int) < (l.length : Int))) (hk : k ≤ l.length)
    (ht : ∀ a, l[k]? = some a → l.drop k = a :: l.drop (k + 1) → k < l.length → W P C n x Q st) (hf : k = l.length → l.drop k = [] → W P C n y Q st) : W P C n (.cond c x y) Q st := by
  refine W.cond hc (fun h => ?_) (fun h => ?_)
  · subst hb
    have h : k < l.length := by simpa using h
    exact ht l[k] (by simp [h]) (List.drop_eq_getElem_cons h) h
  · subst hb
    have h : k = l.length := by
      have : ¬ (k : Int) < l.length := by simpa using h
      omega
    exact hf h (by rw [h]; simp)
theorem byteList {s : ByteArray} {k : Nat} {b : UInt8} (h : s.data.toList[k]? = some b) : s[((k : Int)).toNat]? = some b := by
  have : s[k]? = s.data.toList[k]? := by
    rcases Nat.lt_or_ge k s.size with hk | hk
    · rw [getElem?_pos s k hk, List.getElem?_eq_getElem (by simpa using hk)]; rfl
    · rw [getElem?_neg s k (by simpa using hk), List.getElem?_eq_none (by simpa using hk)]
  simpa [this] using h
end
end Go.Ab
namespace Go.Ab
open Go.RowKit
def lensB (m : Nat) : List (List D) → Bool
  | [] => true
  | x :: r => Nat.beq x.length m && lensB m r
theorem lensB_mem {m : Nat} : ∀ {l : List (List D)}, lensB m l = true → ∀ x ∈ l, x.length = m
  | [], _, x, h => by simp at h
  | y :: r, h, x, hx => by
    simp only [lensB, Bool.and_eq_true] at h
    rcases List.mem_cons.1 hx with rfl | hx
    · exact Nat.eq_of_beq_eq_true h.1
    · exact lensB_mem h.2 x hx
section
variable {P : Program} (T : Tab P) {C : Ctx} {n : Nat} {ops : Array Oper} {Q : Exit → St → Prop} {rest : List Oper} {c : Code}
variable {f : List (Nat × A)} {bx : List (Nat × List A)} {lv : List Nat} {gen d : Nat} {ty : TypeId} {pos : String} {af : Array Edge} {a : A} {dst : Option Nat}
theorem buildV {t e len : Nat} {parts : Array (Nat × Operand)} {td ed : TyD} {es : List (List D)} (ht : look' T.l t = some td) (hk : td.k = .slice e) (he : look' T.l e = some ed) (hes : elsA f 0 parts.toList = some es) (hlen : es.length = len)
    (hz : Nat.blt 0 ed.n = true) (hsm : Nat.ble (len * ed.n) 16777216 = true) (hl : lensB ed.n es = true) (hpos : Nat.blt 0 len = true) : Pu P C n ⟨f, bx, lv, gen⟩ ⟨dst, .buildSlice t len parts, ty, pos, af, none⟩ (.d (.sl es)) :=
  Pu.buildSl (st := ⟨f, bx, lv, gen⟩) T rfl ht hk he hes hlen hz hsm (lensB_mem hl) hpos
theorem strPart {t : Nat} {x lo hi : Operand} {td : TyD} {s : ByteArray} {l h : Int} {kl kh : IntKind} (hx : av f x = some (.d (.v (.string s)))) (hlo : av f lo = some (.d (.v (.int kl l)))) (hhi : av f hi = some (.d (.v (.int kh h)))) (ht : look' T.l t = some td) (hk : td.k = .str)
    (h0 : 0 ≤ l) (h1 : l ≤ h) (h2 : h ≤ s.size) : Pu P C n ⟨f, bx, lv, gen⟩ ⟨dst, .slice t x (some lo) (some hi) none, ty, pos, af, none⟩ (.d (.v (.string (s.extract l.toNat h.toNat)))) :=
  Pu.sliceStr (st := ⟨f, bx, lv, gen⟩) T (lo := some lo) (hi := some hi) rfl ht hk hx (l := l) (h := h) ⟨kl, hlo⟩ ⟨kh, hhi⟩ h0 h1 h2
end
end Go.Ab
namespace Go.Ab
open Go.RowKit
section
variable {P : Program} {C : Ctx} {n : Nat} {ops : Array Oper} {Q : Exit → St → Prop} {rest : List Oper} {st : St} {o : Oper}
variable {f : List (Nat × A)} {bx : List (Nat × List A)} {lv : List Nat} {gen d : Nat} {op : Op} {ty : TypeId} {pos : String} {af : Array Edge} {dst : Option Nat}
theorem Rep.undef {E : En} : Rep E undef (.tup []) := .tup #[] [] rfl (by simp)
theorem WO.skipT {j d : Nat} {want b : Bool} (hg : o.guard = some (j, want)) (hj : gslot ops j = some d) (hl : look st.f d = some (.d (.v (.bool b)))) (hb : (b == want) = false) (hd : dstOK n o.dst = true)
    (h : WO P C n ops Q rest (st.put o.dst (.tup []))) : WO P C n ops Q (o :: rest) st := by
  intro tmps w ⟨G, hs⟩
  simp only [wpL, Region.wanted, hg]
  rw [yielded_of hj (look_bool hs hl)]
  have hbw : (some b == some want) = false := by simpa using hb
  simp only [hbw, Bool.false_eq_true, if_false]
  rw [Act.put_eq]
  exact h _ _ ⟨G, hs.put (dstOK_lt hd) Rep.undef⟩
theorem WO.skipU {j d : Nat} {want : Bool} (hg : o.guard = some (j, want)) (hj : gslot ops j = some d) (hl : look st.f d = some (.tup [])) (hd : dstOK n o.dst = true)
    (h : WO P C n ops Q rest (st.put o.dst (.tup []))) : WO P C n ops Q (o :: rest) st := by
  intro tmps w ⟨G, hs⟩
  obtain ⟨v, hv, hr⟩ := hs.frame _ _ hl
  have hy : yielded ops tmps j = none := by
    unfold yielded
    unfold gslot at hj
    rw [hj]
    simp only [Option.bind_some, hv]
    cases hr; rfl
  simp only [wpL, Region.wanted, hg, hy]
  have hbw : ((none : Option Bool) == some want) = false := rfl
  simp only [hbw, Bool.false_eq_true, if_false]
  rw [Act.put_eq]
  exact h _ _ ⟨G, hs.put (dstOK_lt hd) Rep.undef⟩
theorem skipT {j e : Nat} {want b : Bool} (hj : gslot ops j = some e) (hl : look f e = some (.d (.v (.bool b)))) (hb : (b == want) = false) (hd : Nat.blt d n = true) (h : WO P C n ops Q rest ⟨(d, .tup []) :: f, bx, lv, gen⟩) :
    WO P C n ops Q (⟨some d, op, ty, pos, af, some (j, want)⟩ :: rest) ⟨f, bx, lv, gen⟩ :=
  WO.skipT (st := ⟨f, bx, lv, gen⟩) rfl hj hl hb hd h
theorem skipU {j e : Nat} {want : Bool} (hj : gslot ops j = some e) (hl : look f e = some (.tup [])) (hd : Nat.blt d n = true) (h : WO P C n ops Q rest ⟨(d, .tup []) :: f, bx, lv, gen⟩) :
    WO P C n ops Q (⟨some d, op, ty, pos, af, some (j, want)⟩ :: rest) ⟨f, bx, lv, gen⟩ :=
  WO.skipU (st := ⟨f, bx, lv, gen⟩) rfl hj hl hd h
theorem splitH {f0 : List (Nat × A)} {bx0 : List (Nat × List A)} {lv0 : List Nat} {gen0 : Nat} {y1 y2 : Bool} {d0 : Nat} {j e : Nat} {want b : Bool} (hj : gslot ops j = some e) (hl : look f e = some (.d (.v (.bool b))))
    (ht : b = true → WO P C n ops (QV1 d0 y1 f0 bx0 lv0 gen0) (⟨dst, op, ty, pos, af, some (j, want)⟩ :: rest) ⟨(e, .d (.v (.bool true))) :: f, bx, lv, gen⟩)
    (hf : b = false → WO P C n ops (QV1 d0 y2 f0 bx0 lv0 gen0) (⟨dst, op, ty, pos, af, some (j, want)⟩ :: rest) ⟨(e, .d (.v (.bool false))) :: f, bx, lv, gen⟩) :
    WO P C n ops (QV1 d0 (bif b then y1 else y2) f0 bx0 lv0 gen0) (⟨dst, op, ty, pos, af, some (j, want)⟩ :: rest) ⟨f, bx, lv, gen⟩ := by
  refine WO.split (st := ⟨f, bx, lv, gen⟩) hl (fun h => ?_) (fun h => ?_)
  · subst h; exact ht rfl
  · subst h; exact hf rfl
end
end Go.Ab
namespace Go.Ab
open Go.RowKit
section
variable {P : Program} {C : Ctx} {n : Nat} {ops : Array Oper} {Q : Exit → St → Prop} {rest l : List Oper} {c : Code}
variable {f f0 : List (Nat × A)} {bx bx0 : List (Nat × List A)} {lv lv0 : List Nat} {gen gen0 d : Nat} {op : Op} {ty : TypeId} {pos : String} {af : Array Edge} {dst : Option Nat} {a : A}
theorem condK {s : Nat} {x y : Code} {b : Bool} (hl : look f s = some (.d (.v (.bool b)))) (ht : b = true → W P C n x Q ⟨(s, .d (.v (.bool true))) :: f, bx, lv, gen⟩) (hf : b = false → W P C n y Q ⟨(s, .d (.v (.bool false))) :: f, bx, lv, gen⟩) :
    W P C n (.cond (.tmp s) x y) Q ⟨f, bx, lv, gen⟩ := by
  refine W.cond (b := b) hl (fun h => ?_) (fun h => ?_)
  · exact fun tmps w ⟨G, hs⟩ => ht h tmps w ⟨G, hs.known hl (by rw [h])⟩
  · exact fun tmps w ⟨G, hs⟩ => hf h tmps w ⟨G, hs.known hl (by rw [h])⟩
theorem W.cut1 {y : Bool} {st : St} (h : W P C n c (QV1 d y f bx lv gen) st) (hq : Q .normal ⟨(d, boolA y) :: f, bx, lv, gen⟩) : W P C n c Q st :=
  fun tmps w hs => wp_mono (h tmps w hs) fun e act w ⟨hd, st', ⟨G, hs⟩, he, h1, h2, h3, h4⟩ => by
    subst he
    exact ⟨hd, _, ⟨G, hs.weaken (st' := ⟨(d, boolA y) :: f, bx, lv, gen⟩) ⟨h1, by rw [← h2]; exact fun _ _ h => h, by rw [← h3]; exact fun _ h => h, h4.symm⟩⟩, hq⟩
theorem regionDB (T : Tab P) {id : Nat} {y : Bool} (hb : boolD false l = some d) (hB : Region.lexB .any l.toArray = true) (h : CH P C n bx lv gen l.toArray (QV1 d y f bx lv gen .normal) l f) (hq : Q .normal ⟨(d, boolA y) :: f, bx, lv, gen⟩) :
    W P C n (.region id l.toArray true) Q ⟨f, bx, lv, gen⟩ := W.cut1 (W.regionD T (Q := QV1 d y f bx lv gen) hB h) hq
theorem chSplitH {y1 y2 : Bool} {d0 : Nat} {j e : Nat} {want b : Bool} (hj : gslot ops j = some e) (hl : look f e = some (.d (.v (.bool b))))
    (ht : b = true → CH P C n bx lv gen ops (QV1 d0 y1 f0 bx0 lv0 gen0 .normal) (⟨dst, op, ty, pos, af, some (j, want)⟩ :: rest) ((e, .d (.v (.bool true))) :: f))
    (hf : b = false → CH P C n bx lv gen ops (QV1 d0 y2 f0 bx0 lv0 gen0 .normal) (⟨dst, op, ty, pos, af, some (j, want)⟩ :: rest) ((e, .d (.v (.bool false))) :: f)) :
    CH P C n bx lv gen ops (QV1 d0 (bif b then y1 else y2) f0 bx0 lv0 gen0 .normal) (⟨dst, op, ty, pos, af, some (j, want)⟩ :: rest) f := by
  refine chSplit hl (fun h => ?_) (fun h => ?_)
  · subst h; exact ht rfl
  · subst h; exact hf rfl
theorem chSplitJ {y1 y2 : Bool} {d0 : Nat} {j e : Nat} {want b : Bool} (hj : gslot ops j = some e) (hl : look f e = some (.d (.v (.bool b))))
    (ht : CH P C n bx lv gen ops (QV1 d0 y1 f0 bx0 lv0 gen0 .normal) (⟨dst, op, ty, pos, af, some (j, want)⟩ :: rest) ((e, .d (.v (.bool true))) :: f))
    (hf : CH P C n bx lv gen ops (QV1 d0 y2 f0 bx0 lv0 gen0 .normal) (⟨dst, op, ty, pos, af, some (j, want)⟩ :: rest) ((e, .d (.v (.bool false))) :: f)) :
    CH P C n bx lv gen ops (QV1 d0 (bif b then y1 else y2) f0 bx0 lv0 gen0 .normal) (⟨dst, op, ty, pos, af, some (j, want)⟩ :: rest) f :=
  chSplitH hj hl (fun _ => ht) (fun _ => hf)
end
end Go.Ab
namespace Go.Ab
open Go.RowKit
section
variable {P : Program} (T : Tab P) {C : Ctx} {n : Nat} {ops : Array Oper} {Q : Exit → St → Prop} {rest : List Oper} {c : Code}
variable {f : List (Nat × A)} {bx : List (Nat × List A)} {lv : List Nat} {gen d : Nat} {ty : TypeId} {pos : String} {af : Array Edge}
theorem ownNilR (hl : look f d = some (.d (.v (.slice none 0 0)))) (hd : Nat.blt d n = true) (h : W P C n c Q ⟨(d, .own gen []) :: f, bx, gen :: lv, gen + 1⟩) : W P C n c Q ⟨f, bx, lv, gen⟩ :=
  W.ownNil (st := ⟨f, bx, lv, gen⟩) hl hd h
theorem appendM {α : Type} {fn : α → List D} {l : List α} {a : α} {x y : Operand} {t e : Nat} {td ed : TyD} {g : Nat} {b : A} (hx : av f x = some (.own g (l.map fn))) (hy : av f y = some b) (hb2 : slOf b = some [fn a]) (ht : look' T.l t = some td) (hk : td.k = .slice e)
    (he : look' T.l e = some ed) (hgl : (lv.any fun h => Nat.beq h g) = true) (hz : Nat.blt 0 ed.n = true) (hb0 : Nat.blt 0 ed.b = true) (hd : Nat.blt d n = true) (hl : ∀ a, (fn a).length = ed.n) (hb : (l.length + 1) * ed.b ≤ 140737488355328)
    (h : WO P C n ops Q rest ⟨(d, .own gen ((l ++ [a]).map fn)) :: f, bx, gen :: dropId lv g, gen + 1⟩) : WO P C n ops Q (⟨some d, .call ⟨.builtin .append, #[x, y], #[t, t]⟩, ty, pos, af, none⟩ :: rest) ⟨f, bx, lv, gen⟩ := by
  obtain ⟨g', hg1, hg2⟩ := List.any_eq_true.1 hgl
  have hgm : g ∈ lv := Nat.eq_of_beq_eq_true hg2 ▸ hg1
  refine appendR T hx hy hb2 ht hk he hgm hz hb0 hd (fun z hzm => ?_) (by simpa using hb) ?_
  · rcases List.mem_append.1 hzm with h | h
    · obtain ⟨a', _, rfl⟩ := List.mem_map.1 h; exact hl a'
    · simp only [List.mem_singleton] at h; subst h; exact hl a
  · rw [List.map_append] at h
    exact h
end
end Go.Ab
namespace Go.Ab
open Go.RowKit
def bxs : Nat → List (List A) → List (Nat × List A)
  | _, [] => []
  | k, c :: r => (k, c) :: bxs (k + 1) r
theorem bxs_look : ∀ (l : List (List A)) (k g : Nat) (c : List A), look' (bxs k l) g = some c → k ≤ g ∧ l[g - k]? = some c
  | [], _, _, _, h => by simp [bxs, look'] at h
  | b :: l, k, g, c, h => by
    simp only [bxs, look'_cons] at h
    split at h
    · rename_i e
      subst e
      simp only [Option.some.injEq] at h
      subst h
      exact ⟨Nat.le_refl _, by simp⟩
    · rename_i e
      obtain ⟨h1, h2⟩ := bxs_look l (k + 1) g c h
      refine ⟨by omega, ?_⟩
      have : g - k = (g - (k + 1)) + 1 := by omega
      rw [this]
      simpa using h2
theorem look_bxs : ∀ (l : List (List A)) (k i : Nat) (c : List A), l[i]? = some c → look' (bxs k l) (k + i) = some c
  | [], _, _, _, h => by simp at h
  | b :: l, k, i, c, h => by
    simp only [bxs, look'_cons]
    cases i with
    | zero => simpa using h
    | succ i =>
      rw [if_neg (by omega)]
      have := look_bxs l (k + 1) i c (by simpa using h)
      rw [← this]
      congr 1
      omega
structure DoesB (P : Program) [Met P] (f : FuncId) (args : List A) (b0 : List (List A)) (m : Nat) (r : A) (b1 : List (List A)) (k : Nat) : Prop where
  ok : FnOK P f
  len : b1.length = b0.length
  calls : ∀ (C : Ctx) (G : Gh) (vals : Array Value) (w : World), GC P C → C.w0 = w → C.bx.length = b0.length →
    SimG C 0 ⟨[], bxs 0 b0, (List.range m).map (b0.length + ·), b0.length + m⟩ G #[] w → vals.size = args.length →
    (∀ (i : Nat) (u : Value) (a : A), vals[i]? = some u → args[i]? = some a → Rep (enOf C G (b0.length + m) w) u a) →
    Calls P f vals w fun e w' => ∃ v G', e = .returned v ∧ SimG C 0 ⟨[], bxs 0 b1, (List.range k).map (b0.length + ·), b0.length + k⟩ G' #[] w' ∧ Rep (enOf C G' (b0.length + k) w') v r
theorem SimG.noFrame {C : Ctx} {n n' : Nat} {bx : List (Nat × List A)} {lv : List Nat} {gen : Nat} {G : Gh} {tmps tmps' : Array Value} {w : World} (h : SimG C n ⟨[], bx, lv, gen⟩ G tmps w) (hs : tmps'.size = n') :
    SimG C n' ⟨[], bx, lv, gen⟩ G tmps' w :=
  { h with size := hs, frame := fun t a ha => by simp [look] at ha }
section
variable {P : Program} (T : Tab P)
def ordB (nb : Nat) (order : List Nat) : List Nat := List.range nb ++ order
def QB1 (rs : List RV) (r : A) (b1 : List (List A)) (k : Nat) : Exit → St → Prop := fun e st =>
  (match e with | .normal => True | .ret => True | _ => False) ∧ ∃ l order, resV T st.f st.bx rs = some l ∧ ren (ordB b1.length order) (oneA l) = r ∧ order.length = k ∧ nodupB (ordB b1.length order) = true ∧ (∀ g ∈ order, g ∈ st.lv) ∧
    ∀ (i : Nat) (c : List A), b1[i]? = some c → ∃ c0, look' st.bx i = some c0 ∧ renL (ordB b1.length order) c0 = c
theorem DoesB.of_V [Met P] {f : FuncId} {fn : Func} {c : Code} {rs : List RV} {n : Nat} {args : List A} {b0 : List (List A)} {m : Nat} {r : A} {b1 : List (List A)} {k : Nat} (hf : P.funcs[f]? = some fn) (hname : (fn.name == "runtime.NumGoroutine") = false)
    (hb : fn.body = some c) (hn : fn.ntmps = n) (hr : fn.results = (rs.map RV.var).toArray) (hlen : Nat.ble args.length n = true) (hbl : b1.length = b0.length)
    (h : ∀ C, NB C b0.length → GC P C → W P C n c (QB1 T rs r b1 k) ⟨args0 0 args, bxs 0 b0, (List.range m).map (b0.length + ·), b0.length + m⟩) : DoesB P f args b0 m r b1 k := by
  have hlen := Nat.le_of_ble_eq_true hlen
  refine ⟨⟨fn, hf, hname, by rw [hb]; rfl⟩, hbl, fun C G vals w hG hw hnb hs hsz hrep => ?_⟩
  subst hw
  refine calls_of_wp hf hb (wp_mono (h C ⟨hnb⟩ hG (vals ++ Array.replicate (fn.ntmps - vals.size) undef) C.w0 ⟨G, ?_⟩) ?_)
  · refine { hs with size := by simp [hn]; omega, frame := fun t a ha => ?_ }
    obtain ⟨_, h1⟩ := args0_look args 0 t a ha
    have h2 : t < args.length := (List.getElem?_eq_some_iff.1 (by simpa using h1)).1
    have h3 : t < vals.size := by omega
    have h4 : vals[t]? = some vals[t] := by simp [h3]
    exact ⟨vals[t], by rw [Array.getElem?_append_left h3]; exact h4, hrep t _ a h4 (by simpa using h1)⟩
  · rintro e ⟨tmps, df⟩ w' ⟨hd, st, ⟨G, hs⟩, he, l, order, hl, hno, hol, hnd, hov, hbx⟩
    have holen : (ordB b1.length order).length = b0.length + k := by simp [ordB, hol, hbl]
    have hget : ∀ i, i < C.bx.length → (ordB b1.length order)[i]? = some i := fun i hi => by
      unfold ordB
      rw [List.getElem?_append_left (by simp; omega), List.getElem?_range (by omega)]
    have hmain : ∃ v, (results fn tmps).run P w' = .ok v w' ∧ ∃ v_1 G', Ending.returned v = .returned v_1 ∧ SimG C 0 ⟨[], bxs 0 b1, (List.range k).map (b0.length + ·), b0.length + k⟩ G' #[] w' ∧ Rep (enOf C G' (b0.length + k) w') v_1 r := by
      obtain ⟨vs, hv1, hv2, hv3⟩ := run_resV T hs rs l hl
      refine ⟨_, run_resultsV hr hv1, _, renG (ordB b1.length order) G, rfl, ?_, ?_⟩
      · refine SimG.noFrame (hs.ren (f' := []) (bx' := bxs 0 b1) (lv' := (List.range k).map (b0.length + ·)) (gen' := b0.length + k) (ordB b1.length order) (nodup_of hnd) (by omega) hget (fun t a ha => by simp [look] at ha) (fun i c hc => ?_) (fun i hi => ?_)) rfl
        · obtain ⟨_, h1⟩ := bxs_look b1 0 i c hc
          simp only [Nat.sub_zero] at h1
          obtain ⟨c0, h2, h3⟩ := hbx i c h1
          have hlt : i < b1.length := (List.getElem?_eq_some_iff.1 h1).1
          exact ⟨i, c0, hget i (by rw [hnb, ← hbl]; exact hlt), h2, by rw [← renL_map]; exact h3⟩
        · obtain ⟨j, hj, rfl⟩ := List.mem_map.1 hi
          have hj : j < k := by simpa using hj
          have hj2 : j < order.length := by omega
          refine ⟨order[j], ?_, hov _ (List.getElem_mem hj2)⟩
          unfold ordB
          rw [List.getElem?_append_right (by simp; omega)]
          simp [hbl, hj2]
      · rw [← hno]
        refine Rep.ren (gen := st.gen) (by omega) (oneA_rep hv2 hv3)
    cases e with
    | normal => exact ⟨hd, hmain⟩
    | ret => exact ⟨hd, hmain⟩
    | exit _ => exact he.elim
    | goto _ => exact he.elim
    | panic _ => exact he.elim
    | outgrown => exact he.elim
theorem QB1.ret {rs : List RV} {r : A} {b1 : List (List A)} {k : Nat} {e : Exit} {st : St} {l : List A} (order : List Nat) (he : match e with | .normal => True | .ret => True | _ => False) (hl : resV T st.f st.bx rs = some l)
    (hk : order.length = k) (hnd : nodupB (ordB b1.length order) = true) (hov : (order.all fun g => st.lv.any fun h => Nat.beq h g) = true) (hb : ∀ (i : Nat) (c : List A), b1[i]? = some c → ∃ c0, look' st.bx i = some c0 ∧ renL (ordB b1.length order) c0 = c)
    (hr : ren (ordB b1.length order) (oneA l) = r) : QB1 T rs r b1 k e st :=
  ⟨he, l, order, hl, hr, hk, hnd, fun g hg => by
    obtain ⟨x, hx, he⟩ := List.any_eq_true.1 (List.all_eq_true.1 hov g hg)
    exact Nat.eq_of_beq_eq_true he ▸ hx, hb⟩
end
/-! the caller's side -/
def lendA (bx : List (Nat × List A)) (gs os : List Nat) : Nat → A → A
  | 0, _ => .any
  | _ + 1, .d x => .d x
  | _ + 1, .ag l => .ag l
  | _ + 1, .own g es => match pos os g with
    | some i => .own (gs.length + i) es
    | none => .d (.sl es)
  | k + 1, .agg l => mkAgg (l.map (lendA bx gs os k))
  | _ + 1, .tup _ => .any
  | _ + 1, .rowd l => .rowd l
  | k + 1, .row l => .row (l.map (lendA bx gs os k))
  | k + 1, .ptr g off => match pos gs g with
    | some i => .ptr i off
    | none => match look' bx g with
      | some cells => .row ((cells.drop off).map (lendA bx gs os k))
      | none => .any
  | _ + 1, .xs g es => match pos os g with
    | some i => .xs (gs.length + i) es
    | none => .any
  | _ + 1, .xp _ _ _ _ => .any
  | _ + 1, .mp g es => match pos os g with
    | some i => .mp (gs.length + i) es
    | none => .any
  | k + 1, .clo f l => .clo f (l.map (lendA bx gs os k))
  | k + 1, .bnd f l => .bnd f (l.map (lendA bx gs os k))
  | _ + 1, .ni => .ni
  | _ + 1, .fl es => .fl es
  | _ + 1, .any => .any
def lendBx (bx : List (Nat × List A)) (gs os : List Nat) : List Nat → Option (List (List A))
  | [] => some []
  | g :: r => match look' bx g, lendBx bx gs os r with
    | some c, some l => some (c.map (lendA bx gs os 5) :: l)
    | _, _ => none
mutual
def back (gs : List Nat) (m : Nat) : A → A
  | .own g es => .own (g + m) es
  | .agg l => .agg (backL gs m l)
  | .tup l => .tup (backL gs m l)
  | .clo f l => .clo f (backL gs m l)
  | .bnd f l => .bnd f (backL gs m l)
  | .ptr i off => match gs[i]? with
    | some g => .ptr g off
    | none => .any
  | .xs g es => .xs (g + m) es
  | .xp g i off l => .xp (g + m) i off l
  | .mp g es => .mp (g + m) es
  | .row _ => .any
  | .d x => .d x
  | .ag l => .ag l
  | .rowd l => .rowd l
  | .fl es => .fl es
  | .ni => .ni
  | .any => .any
def backL (gs : List Nat) (m : Nat) : List A → List A
  | [] => []
  | a :: l => back gs m a :: backL gs m l
end
theorem backL_map (gs : List Nat) (m : Nat) : ∀ l : List A, backL gs m l = l.map (back gs m)
  | [] => rfl
  | a :: l => by simp [backL, backL_map gs m l]
def zipB (gs : List Nat) (m : Nat) : List Nat → List (List A) → List (Nat × List A)
  | g :: r, c :: l => (g, backL gs m c) :: zipB gs m r l
  | _, _ => []
theorem zipB_look {gs : List Nat} {m : Nat} : ∀ {r : List Nat} {l : List (List A)} {g : Nat} {c : List A}, look' (zipB gs m r l) g = some c → ∃ (i : Nat) (c0 : List A), r[i]? = some g ∧ l[i]? = some c0 ∧ backL gs m c0 = c
  | [], _, g, c, h => by simp [zipB, look'] at h
  | _ :: _, [], g, c, h => by simp [zipB, look'] at h
  | g0 :: r, c0 :: l, g, c, h => by
    simp only [zipB, look'_cons] at h
    split at h
    · rename_i e
      subst e
      simp only [Option.some.injEq] at h
      exact ⟨0, c0, rfl, rfl, h⟩
    · obtain ⟨i, c1, h1, h2, h3⟩ := zipB_look h
      exact ⟨i + 1, c1, by simpa using h1, by simpa using h2, h3⟩
section
variable {P : Program} {C : Ctx} {n : Nat} {ops : Array Oper} {Q : Exit → St → Prop} {st : St} {o : Oper} {rest : List Oper}
def lentBox (G : Gh) (gs : List Nat) (b : Nat) : Prop := ∃ g ∈ gs, G.box g = some b
def lentRow (G : Gh) (os : List Nat) (b lim : Nat) : Prop := ∃ g ∈ os, ∃ r, G.own g = some r ∧ r.isAt b lim
theorem SimG.rowAt {C : Ctx} {n : Nat} {st : St} {G : Gh} {tmps : Array Value} {w : World} (h : SimG C n st G tmps w) {g b lim : Nat} {r : Row} (hg : G.own g = some r) (hr : r.isAt b lim) :
    C.mine b lim ∧ (∀ g', G.box g' ≠ some b) ∧ b < w.heap.size ∧
      (∀ g' r' lim', G.own g' = some r' → r'.isAt b lim' → g' = g ∧ lim' = lim) := by
  have key : ∀ g' r' lim', G.own g' = some r' → r'.isAt b lim' → g' = g := by
    intro g' r' lim' hg' hr'
    cases r with
    | nil => exact hr.elim
    | zero _ => exact hr.elim
    | blk b1 len cap sz pub =>
      obtain ⟨rfl, rfl⟩ := hr
      obtain ⟨_, _, h3, cur, T, h4, _⟩ := h.row g b1 len cap sz lim hg
      cases r' with
      | nil => exact hr'.elim
      | zero _ => exact hr'.elim
      | blk b2 len2 cap2 sz2 pub2 => obtain ⟨rfl, rfl⟩ := hr'; exact h3 g' _ _ _ _ hg'
      | mp b2 =>
        obtain ⟨rfl, rfl⟩ := hr'
        obtain ⟨_, _, _, me, clock, h5⟩ := h.mrow g' b2 hg'
        rw [h4] at h5
        cases h5
    | mp b1 =>
      obtain ⟨rfl, rfl⟩ := hr
      obtain ⟨_, _, h3, me, clock, h4⟩ := h.mrow g b1 hg
      cases r' with
      | nil => exact hr'.elim
      | zero _ => exact hr'.elim
      | blk b2 len2 cap2 sz2 pub2 =>
        obtain ⟨rfl, rfl⟩ := hr'
        obtain ⟨_, _, _, cur, T, h5, _⟩ := h.row g' b2 _ _ _ _ hg'
        rw [h4] at h5
        cases h5
      | mp b2 => obtain ⟨rfl, rfl⟩ := hr'; exact h3 g' hg'
  refine (fun hk => ?_ : (∀ g' r' lim', G.own g' = some r' → r'.isAt b lim' → g' = g ∧ lim' = lim) → _) (fun g' r' lim' hg' hr' => ?_)
  · cases r with
    | nil => exact hr.elim
    | zero _ => exact hr.elim
    | blk b1 len cap sz pub =>
      obtain ⟨rfl, rfl⟩ := hr
      obtain ⟨h1, h2, h3, cur, T, h4, _⟩ := h.row g b1 len cap sz lim hg
      exact ⟨h1, h2, (Array.getElem?_eq_some_iff.1 h4).1, hk⟩
    | mp b1 =>
      obtain ⟨rfl, rfl⟩ := hr
      obtain ⟨h1, h2, h3, me, clock, h4⟩ := h.mrow g b1 hg
      exact ⟨h1, h2, (Array.getElem?_eq_some_iff.1 h4).1, hk⟩
  · have e := key g' r' lim' hg' hr'
    subst e
    rw [hg] at hg'
    simp only [Option.some.injEq] at hg'
    subst hg'
    refine ⟨rfl, ?_⟩
    cases r with
    | nil => exact hr.elim
    | zero _ => exact hr.elim
    | blk b1 len cap sz pub => exact hr'.2.trans hr.2.symm
    | mp b1 => exact hr'.2.trans hr.2.symm
theorem SimG.pvAt {C : Ctx} {n : Nat} {st : St} {G : Gh} {tmps : Array Value} {w : World} (h : SimG C n st G tmps w) {g b lim o : Nat} {r : Row} {u : Value} (hg : G.own g = some r) (hr : r.isAt b lim)
    (hu : cellAt w b o = some u) (hle : lim ≤ o) : pvOf C G b o := by
  cases r with
  | nil => exact hr.elim
  | zero _ => exact hr.elim
  | blk b1 len cap sz pub => obtain ⟨rfl, rfl⟩ := hr; exact .inr (.inr ⟨g, len, cap, sz, lim, hg, hle⟩)
  | mp b1 =>
    obtain ⟨rfl, rfl⟩ := hr
    obtain ⟨_, _, _, me, clock, h4⟩ := h.mrow g b1 hg
    simp [cellAt, World.cell?, h4] at hu
def lendC (C : Ctx) (G : Gh) (w : World) (gs os : List Nat) : Ctx :=
  { w0 := w, fp := fun b => lentBox G gs b ∨ ∃ lim, lentRow G os b lim, x := fun b o => pvOf C G b o ∧ ¬ (lentBox G gs b ∨ ∃ lim, lentRow G os b lim),
    keep := fun b o => ∃ lim, lentRow G os b lim ∧ o < lim, bx := gs.map fun g => (G.box g).getD 0 }
def lendG (G : Gh) (gs os : List Nat) : Gh := ⟨fun i => (gs[i]?).bind G.box, fun i => if i < gs.length then none else (os[i - gs.length]?).bind G.own⟩
theorem GC.inLend {P : Program} [Met P] {C : Ctx} [hC : GC P C] {n : Nat} {st : St} {G : Gh} {tmps : Array Value} {w : World} (hs : SimG C n st G tmps w) {gs os : List Nat} : GC P (lendC C G w gs os) := by
  obtain ⟨W', h1', h2', h3'⟩ := hC.h
  refine ⟨W', h1', Nat.le_trans h2' hs.fr.size, fun b hb => ⟨(hs.fr.block b (Nat.lt_of_lt_of_le hb h2') (h3' b hb).2).trans (h3' b hb).1, ?_⟩⟩
  rintro (⟨g, _, hg⟩ | ⟨_, g, _, r, hg, hr⟩)
  · rcases (hs.gbox g b hg).2.2.1 with h | h
    · omega
    · exact (h3' b hb).2 h
  · rcases (hs.rowAt hg hr).1.1 with h | h
    · omega
    · exact (h3' b hb).2 h
theorem lend_pv {C : Ctx} {G : Gh} {w : World} {gs os : List Nat} {b o : Nat} (h : pvOf (lendC C G w gs os) (lendG G gs os) b o) : pvOf C G b o := by
  rcases h with h | ⟨g, h⟩ | ⟨g, len, cap, sz, pub, h, hle⟩
  · exact h.1
  · obtain ⟨g0, _, h0⟩ := Option.bind_eq_some_iff.1 h
    exact Or.inr (Or.inl ⟨g0, h0⟩)
  · simp only [lendG] at h
    split at h
    · cases h
    · obtain ⟨g0, _, h0⟩ := Option.bind_eq_some_iff.1 h
      exact Or.inr (Or.inr ⟨g0, len, cap, sz, pub, h0, hle⟩)
theorem pv_lend {C : Ctx} {G : Gh} {w : World} {gs os : List Nat} {b o : Nat} (h : pvOf C G b o) (hn : ¬ (lentBox G gs b ∨ ∃ lim, lentRow G os b lim)) {G1 : Gh} : pvOf (lendC C G w gs os) G1 b o := Or.inl ⟨h, hn⟩
theorem Rep.lend {G : Gh} {tmps : Array Value} {w : World} (h : SimG C n st G tmps w) (gs os : List Nat) {gen' : Nat} (hgen : gs.length + os.length ≤ gen') :
    ∀ (k : Nat) (v : Value) (a : A), Rep (enOf C G st.gen w) v a → Rep (enOf (lendC C G w gs os) (lendG G gs os) gen' w) v (lendA st.bx gs os k a) := by
  have hc : ∀ b o u, cellAt w b o = some u → ¬ pvOf C G b o → cellAt w b o = some u ∧ ¬ pvOf (lendC C G w gs os) (lendG G gs os) b o := fun b o u h1 h2 => ⟨h1, fun hp => h2 (lend_pv hp)⟩
  have hold : ∀ b, (∃ g ∈ gs, G.box g = some b) ∨ (∃ lim, lentRow G os b lim) → C.w0.heap.size ≤ b ∨ C.fp b := by
    rintro b (⟨g, _, hg⟩ | ⟨lim, g, _, r, hg, hr⟩)
    · exact (h.gbox g b hg).2.2.1
    · exact (h.rowAt hg hr).1.1
  intro k
  induction k with
  | zero => intro v a _; exact .any v
  | succ k ih =>
    intro v a hr
    have lst : ∀ (l : List A) (vs : Array Value), (∀ (i : Nat) (u : Value) (x : A), vs[i]? = some u → l[i]? = some x → Rep (enOf C G st.gen w) u x) →
        ∀ (i : Nat) (u : Value) (x : A), vs[i]? = some u → (l.map (lendA st.bx gs os k))[i]? = some x → Rep (enOf (lendC C G w gs os) (lendG G gs os) gen' w) u x := by
      intro l vs hl i u x hu hx
      simp only [List.getElem?_map, Option.map_eq_some_iff] at hx
      obtain ⟨y, hy, rfl⟩ := hx
      exact ih u y (hl i u y hu hy)
    cases hr with
    | any => exact .any _
    | d hd => exact .d (hd.mono hc)
    | ag vs l hs hd => exact .ag vs l hs (fun i u x h1 h2 => (hd i u x h1 h2).mono hc)
    | own _ g es hd _ hx =>
      simp only [lendA]
      split
      · rename_i i hp
        have hi := pos_some hp
        have hil := (List.getElem?_eq_some_iff.1 hi).1
        refine .own _ _ es (hd.mono hc) (by simp only [enOf]; omega) (fun r hr' => hx r ?_)
        have hr2 : (if gs.length + i < gs.length then none else (os[gs.length + i - gs.length]?).bind G.own) = some r := hr'
        rw [if_neg (by omega), Nat.add_sub_cancel_left, hi] at hr2
        exact hr2
      · exact .d (hd.mono hc)
    | agg vs l hs hone hd => exact mkAgg_rep (by simp [hs]) hone (lst l vs hd)
    | tup vs l hs hd => exact .any _
    | rowd b off l u hcc hd => exact .rowd b off l u (fun j hj => hc _ _ _ (hcc j hj).1 (hcc j hj).2) (fun j x hx => (hd j x hx).mono hc)
    | row b off l u hcc hd =>
      refine .row b off _ u (fun j hj => ?_) (fun j x hx => ?_)
      · have := hcc j (by simpa using hj)
        refine ⟨this.1, ⟨cellAt_lt this.1, fun hl => ?_⟩, this.2.2⟩
        have h1 := hold b hl
        have h2 := this.2.1
        simp only [enOf] at h2
        rcases h1 with h1 | h1
        · omega
        · exact h2.2 h1
      · simp only [List.getElem?_map, Option.map_eq_some_iff] at hx
        obtain ⟨y, hy, rfl⟩ := hx
        exact ih _ y (hd j y hy)
    | xs _ g es hgg h1 hx =>
      simp only [lendA]
      split
      · rename_i i hp
        have hi := pos_some hp
        have hil := (List.getElem?_eq_some_iff.1 hi).1
        refine .xs _ _ es (by simp only [enOf]; omega) h1 (fun r hr' => ?_)
        have hr2 : (if gs.length + i < gs.length then none else (os[gs.length + i - gs.length]?).bind G.own) = some r := hr'
        rw [if_neg (by omega), Nat.add_sub_cancel_left, hi] at hr2
        exact (hx r hr2).weak hc
      · exact .any _
    | xp => exact .any _
    | ni t x => exact .ni t x
    | fl _ es hd hfl => exact .fl _ es (hd.mono hc) hfl
    | mp _ g es hgg h1 hx =>
      simp only [lendA]
      split
      · rename_i i hp
        have hi := pos_some hp
        have hil := (List.getElem?_eq_some_iff.1 hi).1
        refine .mp _ _ es (by simp only [enOf]; omega) h1 (fun r hr' => ?_)
        have hr2 : (if gs.length + i < gs.length then none else (os[gs.length + i - gs.length]?).bind G.own) = some r := hr'
        rw [if_neg (by omega), Nat.add_sub_cancel_left, hi] at hr2
        exact (hx r hr2).weak hc
      · exact .any _
    | ptr _ g off b0 hg hb0 hx0 =>
      have hp := ptr_at hb0 hx0
      simp only [lendA]
      split
      · rename_i i hpp
        have hi := pos_some hpp
        have hil := (List.getElem?_eq_some_iff.1 hi).1
        refine .ptr _ i off b0 (by simp only [enOf]; omega) ?_ hx0
        show (gs[i]?).bind G.box = some b0
        rw [hi]
        exact hb0
      · rename_i hpn
        split
        · rename_i cells hb
          obtain ⟨b, cs, T', h1, h2, h3, h4, h5⟩ := h.box g cells hb
          rw [hp b h1]
          refine .row b off _ (fun j => cs[off + j]?.getD default) (fun j hj => ?_) (fun j x hx => ?_)
          · have hj' : off + j < cs.size := by simp at hj; omega
            have e : cs[off + j]? = some cs[off + j] := by simp [hj']
            refine ⟨by show cellAt w b (off + j) = _; rw [cellAt_row h2, e]; rfl, ⟨(Array.getElem?_eq_some_iff.1 h2).1, ?_⟩, by rw [e]; exact h4 _ _ e⟩
            rintro (⟨g', hg', hb'⟩ | ⟨lim, g', hg', r, hr', hra⟩)
            · have e := h.inj g g' b h1 hb'
              subst e
              have : ∀ {l : List Nat}, pos l g = none → g ∉ l := by
                intro l
                induction l with
                | nil => intro _ hm; cases hm
                | cons y l ihl =>
                  intro hpos hm
                  simp only [pos] at hpos
                  cases e : Nat.beq y g with
                  | true => rw [e] at hpos; simp at hpos
                  | false =>
                    rw [e] at hpos
                    simp only [cond_false] at hpos
                    split at hpos
                    · cases hpos
                    · rename_i hno
                      rcases List.mem_cons.1 hm with rfl | hm
                      · simp at e
                      · exact ihl hno hm
              exact this hpn hg'
            · exact (h.rowAt hr' hra).2.1 g h1
          · simp only [List.getElem?_map, Option.map_eq_some_iff] at hx
            obtain ⟨y, hy, rfl⟩ := hx
            have hy' : cells[off + j]? = some y := by simpa using hy
            have hj' : off + j < cs.size := by rw [h3]; exact (List.getElem?_eq_some_iff.1 hy').1
            have e : cs[off + j]? = some cs[off + j] := by simp [hj']
            rw [e]
            exact ih _ y (h5 _ _ _ e hy')
        · exact .any _
    | clo f vs l hs hd => exact .clo f vs _ (by simp [hs]) (lst l vs hd)
    | bnd f vs l hs hd => exact .bnd f vs _ (by simp [hs]) (lst l vs hd)
theorem lendBx_get {bx : List (Nat × List A)} {gs os : List Nat} : ∀ {r : List Nat} {l : List (List A)}, lendBx bx gs os r = some l → l.length = r.length ∧ ∀ (i g : Nat), r[i]? = some g → ∃ c, look' bx g = some c ∧ l[i]? = some (c.map (lendA bx gs os 5))
  | [], l, h => by simp only [lendBx, Option.some.injEq] at h; subst h; simp
  | g0 :: r, l, h => by
    simp only [lendBx] at h
    split at h
    · rename_i c l' hc hl
      simp only [Option.some.injEq] at h
      subst h
      obtain ⟨h1, h2⟩ := lendBx_get hl
      refine ⟨by simp [h1], fun i g hi => ?_⟩
      cases i with
      | zero => simp at hi; subst hi; exact ⟨c, hc, rfl⟩
      | succ i => simpa using h2 i g (by simpa using hi)
    · cases h
theorem nodup_inj {l : List Nat} (hnd : l.Nodup) {i j g : Nat} (h1 : l[i]? = some g) (h2 : l[j]? = some g) : i = j := by
  obtain ⟨i1, e1⟩ := List.getElem?_eq_some_iff.1 h1
  obtain ⟨i2, e2⟩ := List.getElem?_eq_some_iff.1 h2
  have hpw := List.pairwise_iff_getElem.1 hnd
  rcases Nat.lt_trichotomy i j with hlt | heq | hgt
  · exact absurd (e1.trans e2.symm) (hpw i j i1 i2 hlt)
  · exact heq
  · exact absurd (e2.trans e1.symm) (hpw j i i2 i1 hgt)
theorem SimG.lend {G : Gh} {tmps : Array Value} {w : World} (h : SimG C n st G tmps w) {gs os : List Nat} {b0 : List (List A)} (hgs : gs.Nodup) (hos : os.Nodup) (hov : ∀ g ∈ os, g ∈ st.lv) (hb : lendBx st.bx gs os gs = some b0) :
    (lendC C G w gs os).bx.length = b0.length ∧ SimG (lendC C G w gs os) 0 ⟨[], bxs 0 b0, (List.range os.length).map (b0.length + ·), b0.length + os.length⟩ (lendG G gs os) #[] w := by
  obtain ⟨hl, hget⟩ := lendBx_get hb
  refine ⟨by simp [lendC, hl], ?_⟩
  have hown : ∀ {g r}, (lendG G gs os).own g = some r → gs.length ≤ g ∧ ∃ g0, os[g - gs.length]? = some g0 ∧ G.own g0 = some r := by
    intro g r hr
    simp only [lendG] at hr
    split at hr
    · cases hr
    · exact ⟨by omega, Option.bind_eq_some_iff.1 hr⟩
  refine { size := rfl, frame := fun t a ha => by simp [look] at ha, box := fun i l' hc => ?_, gbox := fun i b hb' => ?_, inj := fun i j b h1 h2 => ?_, live := fun i hi => ?_, gown := fun i r hr => ?_,
           row := fun i b len cap sz pub hr => ?_, mrow := fun i b hr => ?_, xold := fun b o hx => ⟨pv_old h hx.1, hx.2⟩, kold := fun b o hk => ?_, lent := fun i b hi => ?_, fr := ⟨rfl, rfl, rfl, Nat.le_refl _, fun _ _ _ => rfl, fun _ _ _ _ h => h⟩ }
  · obtain ⟨_, h1⟩ := bxs_look b0 0 i l' hc
    simp only [Nat.sub_zero] at h1
    have hlt : i < gs.length := by rw [← hl]; exact (List.getElem?_eq_some_iff.1 h1).1
    have hgi : gs[i]? = some gs[i] := by simp [hlt]
    obtain ⟨c, h2, h3⟩ := hget i _ hgi
    rw [h1] at h3
    simp only [Option.some.injEq] at h3
    subst h3
    obtain ⟨b, cs, T, h4, h5, h6, h7, h8⟩ := h.box _ c h2
    refine ⟨b, cs, T, by simp [lendG, hgi, h4], h5, by simpa using h6, h7, fun j u a hu ha => ?_⟩
    rw [List.getElem?_map, Option.map_eq_some_iff] at ha
    obtain ⟨y, hy, rfl⟩ := ha
    exact Rep.lend h gs os (gen' := b0.length + os.length) (by omega) 5 u y (h8 j u y hu hy)
  · obtain ⟨g, h1, h2⟩ := Option.bind_eq_some_iff.1 hb'
    have hlt : i < gs.length := (List.getElem?_eq_some_iff.1 h1).1
    refine ⟨by show i < b0.length + os.length; omega, (h.gbox g b h2).2.1, .inr (.inl ⟨g, List.mem_of_getElem? h1, h2⟩), ?_⟩
    rintro o ⟨lim, ⟨g', _, r, hr', hra⟩, _⟩
    exact absurd h2 ((h.rowAt hr' hra).2.1 g)
  · obtain ⟨g1, h3, h4⟩ := Option.bind_eq_some_iff.1 h1
    obtain ⟨g2, h5, h6⟩ := Option.bind_eq_some_iff.1 h2
    have e := h.inj g1 g2 b h4 h6
    subst e
    exact nodup_inj hgs h3 h5
  · obtain ⟨j, hj, rfl⟩ := List.mem_map.1 hi
    have hj : j < os.length := by simpa using hj
    obtain ⟨r, hr⟩ := h.live _ (hov _ (List.getElem_mem hj))
    refine ⟨r, ?_⟩
    simp only [lendG]
    rw [if_neg (by omega), hl, Nat.add_sub_cancel_left]
    simp [hj, hr]
  · obtain ⟨h1, g0, h2, h3⟩ := hown hr
    have := (List.getElem?_eq_some_iff.1 h2).1
    simp only
    omega
  · obtain ⟨h1, g0, h2, h3⟩ := hown hr
    obtain ⟨h4, h5, h6, h7⟩ := h.row g0 b len cap sz pub h3
    have hm := List.mem_of_getElem? h2
    refine ⟨⟨.inr (.inr ⟨_, g0, hm, _, h3, rfl, rfl⟩), ?_⟩, fun j hj => ?_, fun j len' cap' sz' pub' hj => ?_, h7⟩
    · rintro o ⟨lim, ⟨g', _, r', hr', hra⟩, hlt⟩
      have e := (h.rowAt h3 ⟨rfl, rfl⟩).2.2.2 g' r' lim hr' hra
      rw [e.2] at hlt
      exact hlt
    · obtain ⟨g2, _, h8⟩ := Option.bind_eq_some_iff.1 hj
      exact h5 g2 h8
    · obtain ⟨h9, g2, h10, h11⟩ := hown hj
      have e := h6 g2 len' cap' sz' pub' h11
      subst e
      have := nodup_inj hos h10 h2
      omega
  · obtain ⟨h1, g0, h2, h3⟩ := hown hr
    obtain ⟨h4, h5, h6, h7⟩ := h.mrow g0 b h3
    have hm := List.mem_of_getElem? h2
    refine ⟨⟨.inr (.inr ⟨_, g0, hm, _, h3, rfl, rfl⟩), ?_⟩, fun j hj => ?_, fun j hj => ?_, h7⟩
    · rintro o ⟨lim, ⟨g', _, r', hr', hra⟩, hlt⟩
      have e := (h.rowAt h3 ⟨rfl, rfl⟩).2.2.2 g' r' lim hr' hra
      rw [e.2] at hlt
      exact hlt
    · obtain ⟨g2, _, h8⟩ := Option.bind_eq_some_iff.1 hj
      exact h5 g2 h8
    · obtain ⟨h9, g2, h10, h11⟩ := hown hj
      have e := h6 g2 h11
      subst e
      have := nodup_inj hos h10 h2
      omega
  · obtain ⟨lim, ⟨g', _, r', hr', hra⟩, _⟩ := hk
    exact (h.rowAt hr' hra).2.2.1
  · simp only [lendC, List.getElem?_map, Option.map_eq_some_iff] at hi
    obtain ⟨g, hg, rfl⟩ := hi
    obtain ⟨c, h2, _⟩ := hget i g hg
    obtain ⟨b, _, _, h4, _⟩ := h.box _ c h2
    simp [lendG, hg, h4]
theorem Rep.back {E E2 : En} {gs : List Nat} {m : Nat} (hc : ∀ b o u, cellAt E.w b o = some u → ¬ E.pv b o → cellAt E2.w b o = some u ∧ ¬ E2.pv b o) (ho : ∀ g r, g < E.gen → E2.own (g + m) = some r → E.own g = some r)
    (hg : E.gen + m ≤ E2.gen) (hb : ∀ (i g b : Nat), gs[i]? = some g → E.box i = some b → g < E2.gen ∧ E2.box g = some b) (hw : E2.w = E.w) {v : Value} {a : A} (h : Rep E v a) : Rep E2 v (back gs m a) := by
  have hc' : ∀ b o u, cellAt E.w b o = some u → ¬ E.pv b o → cellAt E.w b o = some u ∧ ¬ E2.pv b o := fun b o u h1 h2 => ⟨h1, (hc b o u h1 h2).2⟩
  induction h with
  | any x => exact .any x
  | d hd => exact .d (hd.mono hc)
  | ag vs l hs hd => exact .ag vs l hs (fun i u x h1 h2 => (hd i u x h1 h2).mono hc)
  | own x g es hd hgg hr => exact .own x _ es (hd.mono hc) (by omega) (fun r hr' => hr r (ho g r hgg hr'))
  | agg vs l hs hone _ ih =>
    simp only [Ab.back, backL_map]
    refine .agg vs _ (by simp [hs]) hone (fun i u x hu hx => ?_)
    simp only [List.getElem?_map, Option.map_eq_some_iff] at hx
    obtain ⟨y, hy, rfl⟩ := hx
    exact ih i u y hu hy
  | tup vs l hs _ ih =>
    simp only [Ab.back, backL_map]
    refine .tup vs _ (by simp [hs]) (fun i u x hu hx => ?_)
    simp only [List.getElem?_map, Option.map_eq_some_iff] at hx
    obtain ⟨y, hy, rfl⟩ := hx
    exact ih i u y hu hy
  | rowd b off l u hcc hd => exact .rowd b off l u (fun j hj => hc _ _ _ (hcc j hj).1 (hcc j hj).2) (fun j x hx => (hd j x hx).mono hc)
  | row b off l u hcc _ _ => exact .any _
  | ptr x i off b0 hgg hb0 hp =>
    simp only [Ab.back]
    split
    · rename_i g hgi
      exact .ptr x g off b0 (hb i g b0 hgi hb0).1 (hb i g b0 hgi hb0).2 hp
    · exact .any _
  | xs x g es hgg h1 hx => exact .xs x _ es (by omega) h1 (fun r hr' => hw ▸ (hx r (ho g r hgg hr')).weak hc')
  | xp x g i off l hgg h1 hx => exact .xp x _ i off l (by omega) h1 (fun r hr' => hw ▸ (hx r (ho g r hgg hr')).weak hc')
  | ni t x => exact .ni t x
  | fl x es hd hfl => exact .fl x es (hd.mono hc) hfl
  | mp x g es hgg h1 hx => exact .mp x _ es (by omega) h1 (fun r hr' => hw ▸ (hx r (ho g r hgg hr')).weak hc')
  | clo f vs l hs _ ih =>
    simp only [Ab.back, backL_map]
    refine .clo f vs _ (by simp [hs]) (fun i u x hu hx => ?_)
    simp only [List.getElem?_map, Option.map_eq_some_iff] at hx
    obtain ⟨y, hy, rfl⟩ := hx
    exact ih i u y hu hy
  | bnd f vs l hs _ ih =>
    simp only [Ab.back, backL_map]
    refine .bnd f vs _ (by simp [hs]) (fun i u x hu hx => ?_)
    simp only [List.getElem?_map, Option.map_eq_some_iff] at hx
    obtain ⟨y, hy, rfl⟩ := hx
    exact ih i u y hu hy
theorem SimG.unlend {G : Gh} {tmps : Array Value} {w w' : World} (h : SimG C n st G tmps w) {gs os : List Nat} {b0 b1 : List (List A)} (hb : lendBx st.bx gs os gs = some b0) (hl1 : b1.length = b0.length) {k : Nat} {G1 : Gh}
    (h1 : SimG (lendC C G w gs os) 0 ⟨[], bxs 0 b1, (List.range k).map (b0.length + ·), b0.length + k⟩ G1 #[] w') :
    ∃ G2, (∀ v a, Rep (enOf (lendC C G w gs os) G1 (b0.length + k) w') v a → Rep (enOf C G2 (b0.length + k + st.gen) w') v (back gs st.gen a)) ∧
      SimG C n ⟨st.f, zipB gs st.gen gs b1 ++ st.bx, (List.range k).map (b0.length + · + st.gen) ++ st.lv.filter (fun g => !os.any (Nat.beq g)), b0.length + k + st.gen⟩ G2 tmps w' := by
  obtain ⟨hl, hget⟩ := lendBx_get hb
  have memos : ∀ g, os.any (Nat.beq g) = true ↔ g ∈ os := by
    intro g
    rw [List.any_eq_true]
    exact ⟨fun ⟨x, hx, he⟩ => Nat.eq_of_beq_eq_true he ▸ hx, fun hg => ⟨g, hg, Nat.beq_refl g⟩⟩
  let own2 : Nat → Option Row := fun g => if g < st.gen then (if os.any (Nat.beq g) then none else G.own g) else G1.own (g - st.gen)
  let G2 : Gh := ⟨G.box, own2⟩
  have hLb : ∀ {b}, lentBox G gs b → C.mine b 0 ∧ b < w.heap.size := by
    rintro b ⟨g, _, hg⟩
    exact ⟨(h.gbox g b hg).2.2, (h.gbox g b hg).2.1⟩
  have hLr : ∀ {b lim}, lentRow G os b lim → C.mine b lim ∧ b < w.heap.size ∧ (∀ g', G.box g' ≠ some b) := by
    rintro b lim ⟨g, _, r, hg, hra⟩
    obtain ⟨h1, h2, h3, _⟩ := h.rowAt hg hra
    exact ⟨h1, h3, h2⟩
  have hLm : ∀ {b}, (lentBox G gs b ∨ ∃ lim, lentRow G os b lim) → C.w0.heap.size ≤ b ∨ C.fp b := by
    rintro b (hl | ⟨lim, hl⟩)
    · exact (hLb hl).1.1
    · exact (hLr hl).1.1
  have hG1 : ∀ {i g : Nat} {b : Nat}, gs[i]? = some g → G.box g = some b → G1.box i = some b := by
    intro i g b hi hg
    refine h1.lent i b ?_
    simp [lendC, hi, hg]
  have old2 : ∀ {g r}, own2 g = some r → (g < st.gen ∧ g ∉ os ∧ G.own g = some r) ∨ (st.gen ≤ g ∧ G1.own (g - st.gen) = some r) := by
    intro g r hr
    simp only [own2] at hr
    split at hr
    · rename_i hlt
      split at hr
      · cases hr
      · rename_i hno
        exact .inl ⟨hlt, fun hm => hno ((memos g).2 hm), hr⟩
    · exact .inr ⟨by omega, hr⟩
  have hstay : ∀ {b}, b < w.heap.size → ¬ (lentBox G gs b ∨ ∃ lim, lentRow G os b lim) → w'.heap[b]? = w.heap[b]? := fun hlt hn => h1.fr.block _ hlt hn
  have hnotrow : ∀ {g b lim r}, G.own g = some r → r.isAt b lim → g ∉ os → ¬ (lentBox G gs b ∨ ∃ lim, lentRow G os b lim) := by
    rintro g b lim r hg hra hno (⟨g', _, hb'⟩ | ⟨lim', g', hg', r', hr', hra'⟩)
    · exact (h.rowAt hg hra).2.1 g' hb'
    · have e := (h.rowAt hg hra).2.2.2 g' r' lim' hr' hra'
      exact hno (e.1 ▸ hg')
  have hnotbox : ∀ {g b}, G.box g = some b → g ∉ gs → ¬ (lentBox G gs b ∨ ∃ lim, lentRow G os b lim) := by
    rintro g b hg hno (⟨g', hg', hb'⟩ | ⟨lim, hl⟩)
    · have e := h.inj g g' b hg hb'
      subst e
      exact hno hg'
    · exact (hLr hl).2.2 g hg
  have hnew : ∀ {g b lim r}, G1.own g = some r → r.isAt b lim → C.mine b lim ∧ (∀ g', G.box g' ≠ some b) ∧ (w.heap.size ≤ b ∨ ∃ lim', lentRow G os b lim' ∧ lim' ≤ lim) := by
    intro g b lim r hg hra
    obtain ⟨⟨hm, hk⟩, hnb, _⟩ := h1.rowAt hg hra
    have hm' : w.heap.size ≤ b ∨ (lentBox G gs b ∨ ∃ lim, lentRow G os b lim) := hm
    rcases hm' with hm | hm | ⟨lim', hm⟩
    · refine ⟨⟨.inl (Nat.le_trans h.fr.size hm), fun o ho => ?_⟩, fun g' hg' => ?_, .inl hm⟩
      · have := h.kold b o ho
        have := h.fr.size
        omega
      · have := (h.gbox g' b hg').2.1
        omega
    · obtain ⟨g0, hg0, hb0⟩ := hm
      obtain ⟨i, hi⟩ := List.mem_iff_getElem?.1 hg0
      exact absurd (hG1 hi hb0) (hnb i)
    · have hlim : lim' ≤ lim := by
        rcases Nat.lt_or_ge lim lim' with hlt | hge
        · exact absurd (hk lim ⟨lim', hm, hlt⟩) (Nat.lt_irrefl _)
        · exact hge
      obtain ⟨q1, q2, q3⟩ := hLr hm
      exact ⟨⟨q1.1, fun o ho => Nat.lt_of_lt_of_le (q1.2 o ho) hlim⟩, q3, .inr ⟨lim', hm, hlim⟩⟩
  have hfr : Fr C w' := by
    refine ⟨h1.fr.os.trans h.fr.os, h1.fr.tape.trans h.fr.tape, h1.fr.output.trans h.fr.output, Nat.le_trans h.fr.size h1.fr.size, fun b hlt hn => ?_, fun b o u hk hu => ?_⟩
    · rw [hstay (Nat.lt_of_lt_of_le hlt h.fr.size) (fun hl => (hLm hl).elim (fun h => by omega) hn)]
      exact h.fr.block b hlt hn
    · have hu' := h.fr.cells b o u hk hu
      by_cases hl : lentBox G gs b ∨ ∃ lim, lentRow G os b lim
      · rcases hl with hl | ⟨lim, hl⟩
        · exact absurd ((hLb hl).1.2 o hk) (Nat.not_lt_zero _)
        · exact h1.fr.cells b o u ⟨lim, hl, (hLr hl).1.2 o hk⟩ hu'
      · rw [cellAt_same (hstay (cellAt_lt hu') hl)]
        exact hu'
  have hpv2 : ∀ {b o}, pvOf C G2 b o → pvOf (lendC C G w gs os) G1 b o := by
    rintro b o (hp | ⟨g, hp⟩ | ⟨g, len, cap, sz, pub, hp, hle⟩)
    · refine pv_lend (.inl hp) (fun hl => ?_)
      obtain ⟨h2, h3⟩ := h.xold b o hp
      exact (hLm hl).elim (fun h => by omega) h3
    · by_cases hg : g ∈ gs
      · obtain ⟨i, hi⟩ := List.mem_iff_getElem?.1 hg
        exact .inr (.inl ⟨i, hG1 hi hp⟩)
      · exact pv_lend (G := G) (.inr (.inl ⟨g, hp⟩)) (hnotbox hp hg)
    · rcases old2 hp with ⟨_, h3, h4⟩ | ⟨_, h3⟩
      · exact pv_lend (.inr (.inr ⟨g, len, cap, sz, pub, h4, hle⟩)) (hnotrow h4 ⟨rfl, rfl⟩ h3)
      · exact .inr (.inr ⟨_, len, cap, sz, pub, h3, hle⟩)
  have hback : ∀ v a, Rep (enOf (lendC C G w gs os) G1 (b0.length + k) w') v a → Rep (enOf C G2 (b0.length + k + st.gen) w') v (back gs st.gen a) := by
    intro v a hr
    refine Rep.back (E := enOf (lendC C G w gs os) G1 (b0.length + k) w') (E2 := enOf C G2 (b0.length + k + st.gen) w') (fun b o u hu hn => ⟨hu, fun hp => hn (hpv2 hp)⟩) (fun g r hg hr' => ?_) (by simp [enOf]) (fun i g b hi hb1 => ?_) rfl hr
    · have hr2 : own2 (g + st.gen) = some r := hr'
      rcases old2 hr2 with ⟨h3, _⟩ | ⟨_, h3⟩
      · omega
      · rw [Nat.add_sub_cancel] at h3
        exact h3
    · obtain ⟨c, h2, _⟩ := hget i g hi
      obtain ⟨b', _, _, h4, _⟩ := h.box _ c h2
      have h5 := hG1 hi h4
      have h6 : G1.box i = some b := hb1
      rw [h5] at h6
      simp only [Option.some.injEq] at h6
      subst h6
      have := (h.gbox g b' h4).1
      exact ⟨by simp only [enOf]; omega, h4⟩
  have hle : (enOf C G st.gen w).le (enOf C G2 (b0.length + k + st.gen) w') := by
    refine leOf h.fr hfr (fun b o u hu hn => ⟨?_, fun hp => ?_⟩) (fun _ _ h => h) (fun g r hg hr => ?_) (by omega) (fun g b len cap sz pub o u hg hr _ hu => ?_) (fun g b hg hr => ?_)
    · by_cases hl : lentBox G gs b ∨ ∃ lim, lentRow G os b lim
      · rcases hl with ⟨g, _, hg⟩ | ⟨lim, hl⟩
        · exact absurd (.inr (.inl ⟨g, hg⟩)) hn
        · refine h1.fr.cells b o u ⟨lim, hl, ?_⟩ hu
          obtain ⟨g, _, r, hg, hra⟩ := hl
          exact Nat.lt_of_not_le fun hle => hn (h.pvAt hg hra hu hle)
      · rw [cellAt_same (hstay (cellAt_lt hu) hl)]
        exact hu
    · rcases hp with hp | ⟨g, hp⟩ | ⟨g, len, cap, sz, pub, hp, hle⟩
      · exact hn (.inl hp)
      · exact hn (.inr (.inl ⟨g, hp⟩))
      · rcases old2 hp with ⟨_, _, h4⟩ | ⟨_, h3⟩
        · exact hn (.inr (.inr ⟨g, len, cap, sz, pub, h4, hle⟩))
        · have hlt := cellAt_lt hu
          rcases (hnew h3 ⟨rfl, rfl⟩).2.2 with h5 | ⟨lim, hl, hlim⟩
          · omega
          · obtain ⟨g0, _, r0, hg0, hra⟩ := hl
            exact hn (h.pvAt hg0 hra hu (by omega))
    · have hr2 : own2 g = some r := hr
      rcases old2 hr2 with ⟨_, _, h3⟩ | ⟨h3, _⟩
      · exact h3
      · omega
    · have hr2 : own2 g = some (.blk b len cap sz pub) := hr
      rcases old2 hr2 with ⟨_, h3, h4⟩ | ⟨h3, _⟩
      · rw [cellAt_same (hstay (cellAt_lt hu) (hnotrow h4 ⟨rfl, rfl⟩ h3))]
        exact hu
      · omega
    · have hr2 : own2 g = some (.mp b) := hr
      rcases old2 hr2 with ⟨_, h3, h4⟩ | ⟨h3, _⟩
      · exact hstay (h.rowAt h4 ⟨rfl, rfl⟩).2.2.1 (hnotrow h4 ⟨rfl, rfl⟩ h3)
      · omega
  refine ⟨G2, hback, { size := h.size, frame := h.frame_mono hle, inj := h.inj, xold := h.xold, kold := h.kold, lent := h.lent, fr := hfr, box := ?_, gbox := ?_, live := ?_, gown := ?_, row := ?_, mrow := ?_ }⟩
  · intro g cells hc
    by_cases hg : g ∈ gs
    · have hz : ∃ c, look' (zipB gs st.gen gs b1) g = some c := by
        clear hback hle hpv2
        have : ∀ (r : List Nat) (l : List (List A)), l.length = r.length → g ∈ r → ∃ c, look' (zipB gs st.gen r l) g = some c := by
          intro r
          induction r with
          | nil => intro l _ hm; cases hm
          | cons x r ih =>
            intro l hl hm
            cases l with
            | nil => simp at hl
            | cons c l =>
              simp only [zipB, look'_cons]
              by_cases e : x = g
              · rw [if_pos e]; exact ⟨_, rfl⟩
              · rw [if_neg e]
                exact ih l (by simpa using hl) ((List.mem_cons.1 hm).resolve_left (fun h => e h.symm))
        exact this gs b1 (by omega) hg
      obtain ⟨c, hz⟩ := hz
      have hcc : c = cells := by
        rcases look'_append hc with h2 | h2
        · rw [h2] at hz; exact (Option.some.inj hz).symm
        · have : look' (zipB gs st.gen gs b1 ++ st.bx) g = some c := by
            clear hc hback hle
            revert hz
            generalize zipB gs st.gen gs b1 = z
            intro hz
            induction z with
            | nil => simp [look'] at hz
            | cons x z ih =>
              obtain ⟨s, y⟩ := x
              rw [look'_cons] at hz
              rw [List.cons_append, look'_cons]
              split
              · rename_i e; rw [if_pos e] at hz; exact hz
              · rename_i e; rw [if_neg e] at hz; exact ih hz
          rw [this] at hc
          exact Option.some.inj hc
      subst hcc
      obtain ⟨i, c0, h2, h3, rfl⟩ := zipB_look hz
      obtain ⟨b, cs, T, h4, h5, h6, h7, h8⟩ := h1.box i c0 (by have := look_bxs b1 0 i c0 h3; simpa using this)
      obtain ⟨c2, h9, _⟩ := hget i g h2
      obtain ⟨b', _, _, h10, _⟩ := h.box g c2 h9
      have e : b' = b := by
        have := hG1 h2 h10
        rw [h4] at this
        exact (Option.some.inj this).symm
      subst e
      refine ⟨b', cs, T, h10, h5, by rw [backL_map, List.length_map]; exact h6, h7, fun j u a hu ha => ?_⟩
      rw [backL_map, List.getElem?_map, Option.map_eq_some_iff] at ha
      obtain ⟨y, hy, rfl⟩ := ha
      exact hback u y (h8 j u y hu hy)
    · have hc2 : look' st.bx g = some cells := by
        rcases look'_append hc with h2 | h2
        · obtain ⟨i, c0, h3, _⟩ := zipB_look h2
          exact absurd (List.mem_of_getElem? h3) hg
        · exact h2
      obtain ⟨b, cs, T, h4, h5, h6, h7, h8⟩ := h.box g cells hc2
      refine ⟨b, cs, T, h4, by rw [hstay (Array.getElem?_eq_some_iff.1 h5).1 (hnotbox h4 hg)]; exact h5, h6, h7, fun j u a hu ha => (h8 j u a hu ha).mono hle⟩
  · intro g b hgb
    obtain ⟨h2, h3, h4⟩ := h.gbox g b hgb
    exact ⟨by simp only; omega, Nat.lt_of_lt_of_le h3 h1.fr.size, h4⟩
  · intro g hg
    rcases List.mem_append.1 hg with hg | hg
    · obtain ⟨j, hj, rfl⟩ := List.mem_map.1 hg
      obtain ⟨r, hr⟩ := h1.live (b0.length + j) (List.mem_map.2 ⟨j, hj, rfl⟩)
      refine ⟨r, ?_⟩
      simp only [G2, own2]
      rw [if_neg (by omega), Nat.add_sub_cancel]
      exact hr
    · obtain ⟨h2, h3⟩ := List.mem_filter.1 hg
      obtain ⟨r, hr⟩ := h.live g h2
      refine ⟨r, ?_⟩
      simp only [G2, own2]
      rw [if_pos (h.gown g r hr), if_neg (by cases e : os.any (Nat.beq g) with | true => rw [e] at h3; cases h3 | false => simp)]
      exact hr
  · intro g r hr
    rcases old2 hr with ⟨h2, _⟩ | ⟨h2, h3⟩
    · simp only; omega
    · have := h1.gown _ r h3
      simp only at this ⊢
      omega
  · intro g b len cap sz pub hr
    rcases old2 hr with ⟨h2, h3, h4⟩ | ⟨h2, h3⟩
    · obtain ⟨h5, h6, h7, cur, T, h8, h9⟩ := h.row g b len cap sz pub h4
      refine ⟨h5, h6, fun g' len' cap' sz' pub' hr' => ?_, cur, T, by rw [hstay (Array.getElem?_eq_some_iff.1 h8).1 (hnotrow h4 ⟨rfl, rfl⟩ h3)]; exact h8, h9⟩
      rcases old2 hr' with ⟨_, _, h10⟩ | ⟨_, h10⟩
      · exact h7 g' len' cap' sz' pub' h10
      · rcases (hnew h10 ⟨rfl, rfl⟩).2.2 with h11 | ⟨lim, h11, _⟩
        · have := (Array.getElem?_eq_some_iff.1 h8).1
          omega
        · exact absurd (.inr ⟨lim, h11⟩) (hnotrow h4 ⟨rfl, rfl⟩ h3)
    · obtain ⟨h5, h6, h7, h8⟩ := h1.row _ b len cap sz pub h3
      refine ⟨(hnew h3 ⟨rfl, rfl⟩).1, (hnew h3 ⟨rfl, rfl⟩).2.1, fun g' len' cap' sz' pub' hr' => ?_, h8⟩
      rcases old2 hr' with ⟨_, h10, h12⟩ | ⟨_, h10⟩
      · rcases (hnew h3 ⟨rfl, rfl⟩).2.2 with h11 | ⟨lim, h11, _⟩
        · have := (h.rowAt h12 ⟨rfl, rfl⟩).2.2.1
          omega
        · exact absurd (.inr ⟨lim, h11⟩) (hnotrow h12 ⟨rfl, rfl⟩ h10)
      · have := h7 _ len' cap' sz' pub' h10
        omega
  · intro g b hr
    rcases old2 hr with ⟨h2, h3, h4⟩ | ⟨h2, h3⟩
    · obtain ⟨h5, h6, h7, me, clock, h8⟩ := h.mrow g b h4
      refine ⟨h5, h6, fun g' hr' => ?_, me, clock, by rw [hstay (Array.getElem?_eq_some_iff.1 h8).1 (hnotrow h4 ⟨rfl, rfl⟩ h3)]; exact h8⟩
      rcases old2 hr' with ⟨_, _, h10⟩ | ⟨_, h10⟩
      · exact h7 g' h10
      · rcases (hnew h10 ⟨rfl, rfl⟩).2.2 with h11 | ⟨lim, h11, _⟩
        · have := (Array.getElem?_eq_some_iff.1 h8).1
          omega
        · exact absurd (.inr ⟨lim, h11⟩) (hnotrow h4 ⟨rfl, rfl⟩ h3)
    · obtain ⟨h5, h6, h7, h8⟩ := h1.mrow _ b h3
      refine ⟨(hnew h3 ⟨rfl, rfl⟩).1, (hnew h3 ⟨rfl, rfl⟩).2.1, fun g' hr' => ?_, h8⟩
      rcases old2 hr' with ⟨_, h10, h12⟩ | ⟨_, h10⟩
      · rcases (hnew h3 ⟨rfl, rfl⟩).2.2 with h11 | ⟨lim, h11, _⟩
        · have := (h.rowAt h12 ⟨rfl, rfl⟩).2.2.1
          omega
        · exact absurd (.inr ⟨lim, h11⟩) (hnotrow h12 ⟨rfl, rfl⟩ h10)
      · have := h7 _ h10
        omega
theorem WO.callB [Met P] [GC P C] (hg : o.guard = none) (hd : dstOK n o.dst = true) {x : Operand} {xs : Array Operand} {tys : Array TypeId} (ho : o.op = .call ⟨.value x, xs, tys⟩) {fid : FuncId} {caps as' : List A} (hx : av st.f x = some (.clo fid caps))
    (hxs : avs st.f xs.toList = some as') (gs os : List Nat) (hgs : nodupB gs = true) (hos : nodupB os = true) (hov : (os.all fun g => st.lv.any fun h => Nat.beq h g) = true) {args : List A} {b0 b1 : List (List A)} {r : A} {m k : Nat}
    (hf : DoesB P fid args b0 m r b1 k) (harg : (as' ++ caps).map (lendA st.bx gs os 5) = args) (hb : lendBx st.bx gs os gs = some b0) (hm : os.length = m)
    (h : WO P C n ops Q rest (St.put ⟨st.f, zipB gs st.gen gs b1 ++ st.bx, (List.range k).map (b0.length + · + st.gen) ++ st.lv.filter (fun g => !os.any (Nat.beq g)), b0.length + k + st.gen⟩ o.dst (back gs st.gen r))) : WO P C n ops Q (o :: rest) st := by
  subst hm
  subst harg
  refine WO.step hg fun tmps w ⟨G, hs⟩ => ?_
  obtain ⟨fn, hfn, hname, hbody⟩ := hf.ok
  have hr := hs.av hx
  generalize hv : Act.eval ⟨tmps, []⟩ x = v at hr
  cases hr with
  | clo _ vs _ hsz hcd =>
  obtain ⟨h1, h2⟩ := avs_rep hs xs.toList as' hxs
  have hrun : (execOp (Act.eval ⟨tmps, []⟩) o).run P w = .ok (.enter fid (xs.map (Act.eval ⟨tmps, []⟩) ++ vs)) w := by
    unfold execOp
    rw [ho]
    show Sem.run P (do let d ← resolve (Act.eval ⟨tmps, []⟩) ⟨.value x, xs, tys⟩ o.type; invoke d.target d.args) w = _
    simp only [resolve, hv, Deferred.ofValue, Sem.run_bind, Sem.run_pure, Result.andThen_ok, invoke, callFunc, run_program, hfn, hname, hbody, Bool.false_eq_true, if_false, Array.empty_append]
  obtain ⟨hlen, hent⟩ := hs.lend (gs := gs) (os := os) (nodup_of hgs) (nodup_of hos) (fun g hg => by
    obtain ⟨y, hy, he⟩ := List.any_eq_true.1 (List.all_eq_true.1 hov g hg)
    exact Nat.eq_of_beq_eq_true he ▸ hy) hb
  have hbl := (lendBx_get hb).1
  unfold Gives
  have hrun' : (execOp (Act.eval { tmps := tmps, defers := [] }) o).run P w = .ok (.enter fid (xs.map (Act.eval ⟨tmps, []⟩) ++ vs)) w := hrun
  rw [hrun']
  refine (hf.calls (lendC C G w gs os) (lendG G gs os) _ w (GC.inLend hs) rfl hlen hent (by simp at h1; simp [hsz, h1]) (fun i u a hu ha => ?_)).mono fun e w' ⟨v, G', he, h3, h4⟩ => ?_
  · simp only [List.getElem?_map, Option.map_eq_some_iff] at ha
    obtain ⟨y, hy, rfl⟩ := ha
    refine Rep.lend hs gs os (by omega) 5 u y ?_
    simp only [Array.getElem?_append] at hu
    split at hu
    · rename_i hlt
      simp only [Array.size_map] at hlt
      have hlt' : i < as'.length := by simp at h1; omega
      rw [List.getElem?_append_left hlt'] at hy
      obtain ⟨z, hz, hzr⟩ := h2 i y hy
      simp only [Array.getElem?_map, Option.map_eq_some_iff] at hu
      obtain ⟨z', hz', rfl⟩ := hu
      have : z = z' := by simp at hz; rw [hz'] at hz; exact (Option.some.inj hz).symm
      subst this
      exact hzr
    · rename_i hge
      simp only [Array.size_map] at hge hu
      have hge' : as'.length ≤ i := by simp at h1; omega
      rw [List.getElem?_append_right hge'] at hy
      refine hcd (i - xs.size) u y hu ?_
      have : xs.size = as'.length := by simpa using h1
      rw [this]
      exact hy
  · obtain ⟨G2, hbk, hs2⟩ := hs.unlend hb hf.len h3
    exact ⟨v, he, _, ⟨G2, hs2.put (dstOK_lt hd) (hbk v r h4)⟩, h⟩
theorem WO.callN [Met P] [GC P C] (hg : o.guard = none) (hd : dstOK n o.dst = true) {x : Operand} {xs : Array Operand} {tys : Array TypeId} (ho : o.op = .call ⟨.value x, xs, tys⟩) {fid : FuncId} {caps as' : List A} (hx : av st.f x = some (.bnd fid caps))
    (hxs : avs st.f xs.toList = some as') (gs os : List Nat) (hgs : nodupB gs = true) (hos : nodupB os = true) (hov : (os.all fun g => st.lv.any fun h => Nat.beq h g) = true) {args : List A} {b0 b1 : List (List A)} {r : A} {m k : Nat}
    (hf : DoesB P fid args b0 m r b1 k) (harg : (caps ++ as').map (lendA st.bx gs os 5) = args) (hb : lendBx st.bx gs os gs = some b0) (hm : os.length = m)
    (h : WO P C n ops Q rest (St.put ⟨st.f, zipB gs st.gen gs b1 ++ st.bx, (List.range k).map (b0.length + · + st.gen) ++ st.lv.filter (fun g => !os.any (Nat.beq g)), b0.length + k + st.gen⟩ o.dst (back gs st.gen r))) : WO P C n ops Q (o :: rest) st := by
  subst hm
  subst harg
  refine WO.step hg fun tmps w ⟨G, hs⟩ => ?_
  obtain ⟨fn, hfn, hname, hbody⟩ := hf.ok
  have hr := hs.av hx
  generalize hv : Act.eval ⟨tmps, []⟩ x = v at hr
  cases hr with
  | bnd _ vs _ hsz hcd =>
  obtain ⟨h1, h2⟩ := avs_rep hs xs.toList as' hxs
  have hrun : (execOp (Act.eval ⟨tmps, []⟩) o).run P w = .ok (.enter fid (vs ++ xs.map (Act.eval ⟨tmps, []⟩))) w := by
    unfold execOp
    rw [ho]
    show Sem.run P (do let d ← resolve (Act.eval ⟨tmps, []⟩) ⟨.value x, xs, tys⟩ o.type; invoke d.target d.args) w = _
    simp only [resolve, hv, Deferred.ofValue, Sem.run_bind, Sem.run_pure, Result.andThen_ok, invoke, callFunc, run_program, hfn, hname, hbody, Bool.false_eq_true, if_false, Array.append_empty]
  obtain ⟨hlen, hent⟩ := hs.lend (gs := gs) (os := os) (nodup_of hgs) (nodup_of hos) (fun g hg => by
    obtain ⟨y, hy, he⟩ := List.any_eq_true.1 (List.all_eq_true.1 hov g hg)
    exact Nat.eq_of_beq_eq_true he ▸ hy) hb
  have hbl := (lendBx_get hb).1
  unfold Gives
  have hrun' : (execOp (Act.eval { tmps := tmps, defers := [] }) o).run P w = .ok (.enter fid (vs ++ xs.map (Act.eval ⟨tmps, []⟩))) w := hrun
  rw [hrun']
  refine (hf.calls (lendC C G w gs os) (lendG G gs os) _ w (GC.inLend hs) rfl hlen hent (by simp at h1; simp [hsz, h1]) (fun i u a hu ha => ?_)).mono fun e w' ⟨v, G', he, h3, h4⟩ => ?_
  · simp only [List.getElem?_map, Option.map_eq_some_iff] at ha
    obtain ⟨y, hy, rfl⟩ := ha
    refine Rep.lend hs gs os (by omega) 5 u y ?_
    simp only [Array.getElem?_append] at hu
    split at hu
    · rename_i hlt
      rw [List.getElem?_append_left (by omega)] at hy
      exact hcd i u y hu hy
    · rename_i hge
      rw [List.getElem?_append_right (by omega)] at hy
      obtain ⟨z, hz, hzr⟩ := h2 _ y hy
      simp only [Array.getElem?_map, Option.map_eq_some_iff] at hu
      obtain ⟨z', hz', rfl⟩ := hu
      have : z = z' := by simp at hz; rw [← hsz, hz'] at hz; exact (Option.some.inj hz).symm
      subst this
      exact hzr
  · obtain ⟨G2, hbk, hs2⟩ := hs.unlend hb hf.len h3
    exact ⟨v, he, _, ⟨G2, hs2.put (dstOK_lt hd) (hbk v r h4)⟩, h⟩
end
end Go.Ab
namespace Go.Ab
open Go.RowKit
section
variable {P : Program} {C : Ctx} {n : Nat} {ops : Array Oper} {Q : Exit → St → Prop} {rest : List Oper} {c : Code}
variable {f : List (Nat × A)} {bx : List (Nat × List A)} {lv : List Nat} {gen : Nat} {d : Nat} {op : Op} {ty : TypeId} {pos : String} {af : Array Edge} {a : A} {dst : Option Nat}
theorem SimG.reBox {st : St} {G : Gh} {tmps : Array Value} {w : World} (h : SimG C n st G tmps w) {g : Nat} {cells cells' : List A} (hb : look' st.bx g = some cells) (hl : cells'.length = cells.length)
    (hr : ∀ (i : Nat) (u : Value) (a a' : A), cells[i]? = some a → cells'[i]? = some a' → Rep (enOf C G st.gen w) u a → Rep (enOf C G st.gen w) u a') : SimG C n { st with bx := (g, cells') :: st.bx } G tmps w := by
  refine { h with box := fun g' c hc => ?_ }
  simp only [look'_cons] at hc
  split at hc
  · rename_i e
    subst e
    simp only [Option.some.injEq] at hc
    subst hc
    obtain ⟨b, cs, T, h1, h2, h3, h4, h5⟩ := h.box g cells hb
    refine ⟨b, cs, T, h1, h2, by omega, h4, fun i u a hu ha => ?_⟩
    have hlt : i < cells.length := by rw [← hl]; exact (List.getElem?_eq_some_iff.1 ha).1
    exact hr i u cells[i] a (by simp [hlt]) ha (h5 i u cells[i] hu (by simp [hlt]))
  · exact h.box g' c hc
def isNil : A → Bool
  | .d (.v (.slice none 0 0)) => true
  | _ => false
theorem isNil_eq {a : A} (h : isNil a = true) : a = .d (.v (.slice none 0 0)) := by
  unfold isNil at h
  split at h
  · rfl
  · cases h
theorem Sim.ownNilBox {st : St} {tmps : Array Value} {w : World} (h : Sim C n st tmps w) {g j : Nat} {cells : List A} (hb : look' st.bx g = some cells) (hj : cells[j]? = some (.d (.v (.slice none 0 0)))) :
    Sim C n ⟨st.f, (g, cells.set j (.own st.gen [])) :: st.bx, st.gen :: st.lv, st.gen + 1⟩ tmps w := by
  obtain ⟨G, h⟩ := h
  obtain ⟨⟨G', _, hs, hv⟩⟩ := h.nameNil false st.lv (fun _ h => h)
  refine ⟨G', SimG.reBox (st := { st with lv := st.gen :: st.lv, gen := st.gen + 1 }) hs hb (by simp) (fun i u a a' ha ha' hr => ?_)⟩
  rw [List.getElem?_set] at ha'
  split at ha'
  · rename_i e
    subst e
    rw [hj] at ha
    simp only [Option.some.injEq] at ha
    subst ha
    split at ha'
    · simp only [Option.some.injEq] at ha'
      subst ha'
      cases hr with | d hr => cases hr; exact hv
    · cases ha'
  · rw [ha] at ha'
    simp only [Option.some.injEq] at ha'
    subst ha'
    exact hr
theorem ownNilBox (g j : Nat) {cells cells' : List A} (hb : look' bx g = some cells) (hj : cells[j]? = some (.d (.v (.slice none 0 0)))) (hc : cells.set j (.own gen []) = cells') (h : W P C n c Q ⟨f, (g, cells') :: bx, gen :: lv, gen + 1⟩) : W P C n c Q ⟨f, bx, lv, gen⟩ := by
  subst hc
  exact fun tmps w hs => h tmps w (hs.ownNilBox hb hj)
theorem ownNilBoxO (g j : Nat) {cells cells' : List A} (hb : look' bx g = some cells) (hj : cells[j]? = some (.d (.v (.slice none 0 0)))) (hc : cells.set j (.own gen []) = cells') (h : WO P C n ops Q rest ⟨f, (g, cells') :: bx, gen :: lv, gen + 1⟩) : WO P C n ops Q rest ⟨f, bx, lv, gen⟩ := by
  subst hc
  exact fun tmps w hs => h tmps w (hs.ownNilBox hb hj)
theorem callB [Met P] [GC P C] {x : Operand} {xs : Array Operand} {tys : Array TypeId} {fid : FuncId} {caps as' args : List A} {b0 b1 : List (List A)} {r : A} {m k : Nat} {r' : A} {bx' : List (Nat × List A)} {lv' : List Nat} {gen' : Nat} (gs os : List Nat) (hx : av f x = some (.clo fid caps)) (hxs : avs f xs.toList = some as')
    (harg : (as' ++ caps).map (lendA bx gs os 5) = args) (hb : lendBx bx gs os gs = some b0) (hm : os.length = m) (hf : DoesB P fid args b0 m r b1 k)
    (hgs : nodupB gs = true) (hos : nodupB os = true) (hov : (os.all fun g => lv.any fun h => Nat.beq h g) = true) (hd : Nat.blt d n = true)
    (hr : back gs gen r = r') (hbx : zipB gs gen gs b1 ++ bx = bx') (hlv : (List.range k).map (b0.length + · + gen) ++ lv.filter (fun g => !os.any (Nat.beq g)) = lv') (hgen : b0.length + k + gen = gen')
    (h : WO P C n ops Q rest ⟨(d, r') :: f, bx', lv', gen'⟩) :
    WO P C n ops Q (⟨some d, .call ⟨.value x, xs, tys⟩, ty, pos, af, none⟩ :: rest) ⟨f, bx, lv, gen⟩ := by
  subst hr; subst hbx; subst hlv; subst hgen
  exact WO.callB (st := ⟨f, bx, lv, gen⟩) rfl hd rfl hx hxs gs os hgs hos hov hf harg hb hm h
theorem callN [Met P] [GC P C] {x : Operand} {xs : Array Operand} {tys : Array TypeId} {fid : FuncId} {caps as' args : List A} {b0 b1 : List (List A)} {r : A} {m k : Nat} {r' : A} {bx' : List (Nat × List A)} {lv' : List Nat} {gen' : Nat} (gs os : List Nat) (hx : av f x = some (.bnd fid caps)) (hxs : avs f xs.toList = some as')
    (harg : (caps ++ as').map (lendA bx gs os 5) = args) (hb : lendBx bx gs os gs = some b0) (hm : os.length = m) (hf : DoesB P fid args b0 m r b1 k)
    (hgs : nodupB gs = true) (hos : nodupB os = true) (hov : (os.all fun g => lv.any fun h => Nat.beq h g) = true) (hd : Nat.blt d n = true)
    (hr : back gs gen r = r') (hbx : zipB gs gen gs b1 ++ bx = bx') (hlv : (List.range k).map (b0.length + · + gen) ++ lv.filter (fun g => !os.any (Nat.beq g)) = lv') (hgen : b0.length + k + gen = gen')
    (h : WO P C n ops Q rest ⟨(d, r') :: f, bx', lv', gen'⟩) :
    WO P C n ops Q (⟨some d, .call ⟨.value x, xs, tys⟩, ty, pos, af, none⟩ :: rest) ⟨f, bx, lv, gen⟩ := by
  subst hr; subst hbx; subst hlv; subst hgen
  exact WO.callN (st := ⟨f, bx, lv, gen⟩) rfl hd rfl hx hxs gs os hgs hos hov hf harg hb hm h
def BoxR (order : List Nat) (bx : List (Nat × List A)) : Nat → List (List A) → Prop
  | _, [] => True
  | i, c :: r => (match look' bx i with | some c0 => some (renL order c0) | none => none) = some c ∧ BoxR order bx (i + 1) r
theorem BoxR.get {order : List Nat} {bx : List (Nat × List A)} : ∀ {l : List (List A)} {k : Nat}, BoxR order bx k l → ∀ (i : Nat) (c : List A), l[i]? = some c → ∃ c0, look' bx (k + i) = some c0 ∧ renL order c0 = c
  | [], _, _, i, c, h => by simp at h
  | b :: l, k, hh, i, c, h => by
    cases i with
    | zero =>
      simp at h
      subst h
      have := hh.1
      split at this
      · rename_i c0 hc0
        exact ⟨c0, hc0, Option.some.inj this⟩
      · cases this
    | succ i =>
      have := BoxR.get hh.2 i c (by simpa using h)
      rwa [Nat.add_assoc, Nat.add_comm 1 i] at this
theorem QB1.end (T : Tab P) {rs : List RV} {r : A} {b1 : List (List A)} {k : Nat} {e : Exit} {l : List A} (order : List Nat) (he : match e with | .normal => True | .ret => True | _ => False) (hl : resV T f bx rs = some l)
    (hk : order.length = k) (hnd : nodupB (ordB b1.length order) = true) (hov : (order.all fun g => lv.any fun h => Nat.beq h g) = true) (hb : BoxR (ordB b1.length order) bx 0 b1)
    (hr : ren (ordB b1.length order) (oneA l) = r) : QB1 T rs r b1 k e ⟨f, bx, lv, gen⟩ :=
  QB1.ret (st := ⟨f, bx, lv, gen⟩) T order he hl hk hnd hov (fun i c hc => by have := hb.get i c hc; simpa using this) hr
end
end Go.Ab
namespace Go.Ab
open Go.RowKit
abbrev Bt := Nat → Option (List A)
def putB (β : Bt) : Option (Nat × List A) → Bt
  | some (g, c) => fun h => if h = g then some c else β h
  | none => β
def isNew (o : Oper) : Bool := match o.op with | .alloc _ => true | .box _ _ => true | _ => false
def isSt (o : Oper) : Bool := match o.op with | .store _ _ _ => true | _ => false
def stTo (o : Oper) : Option Nat := match o.op with | .store _ (.tmp d) _ => some d | _ => none
def cntNew : List Oper → Nat → Nat
  | [], _ => 0
  | _ :: _, 0 => 0
  | o :: r, i + 1 => (bif isNew o then 1 else 0) + cntNew r i
theorem cntNew_le : ∀ (l : List Oper) {i j : Nat}, i ≤ j → cntNew l i ≤ cntNew l j
  | [], i, j, _ => by simp [cntNew]
  | o :: r, 0, j, _ => by simp [cntNew]
  | o :: r, i + 1, 0, h => by omega
  | o :: r, i + 1, j + 1, h => by have := cntNew_le r (i := i) (j := j) (by omega); simp only [cntNew]; omega
theorem cntNew_succ : ∀ {l : List Oper} {i : Nat} {o : Oper}, l[i]? = some o → isNew o = true → cntNew l (i + 1) = cntNew l i + 1
  | [], i, o, h, _ => by simp at h
  | x :: r, 0, o, h, hn => by
    simp at h
    subst h
    cases r <;> simp [cntNew, hn]
  | x :: r, i + 1, o, h, hn => by
    have := cntNew_succ (l := r) (i := i) (by simpa using h) hn
    simp only [cntNew] at this ⊢
    rw [this]
    omega
theorem cntNew_lt {l : List Oper} {i j : Nat} {o : Oper} (h : l[i]? = some o) (hn : isNew o = true) (hij : i < j) : cntNew l i < cntNew l j := by
  have h1 := cntNew_succ h hn
  have h2 := cntNew_le l (i := i + 1) (j := j) (by omega)
  omega
section
variable {P : Program} (T : Tab P) {C : Ctx} {n : Nat} {bx : List (Nat × List A)} {lv : List Nat} {gen r : Nat} {ops : Array Oper} {md : Region.Mode} {m : Nat}
abbrev Sg := Fr' × Bt
structure SimE (C : Ctx) (n : Nat) (bx : List (Nat × List A)) (lv : List Nat) (gen r : Nat) (σ : Sg) (G : Gh) (tmps : Array Value) (w : World) : Prop where
  s : SimG C n ⟨[], bx, lv, gen + r⟩ G tmps w
  f : ∀ t a, σ.1 t = some a → ∃ v, tmps[t]? = some v ∧ Rep (enOf C G (gen + r) w) v a
  b : ∀ g cells, σ.2 g = some cells → gen ≤ g ∧ ∃ b cs T, G.box g = some b ∧ w.heap[b]? = some (.cells cs T (0, 0)) ∧ cs.size = cells.length ∧
    (∀ (i : Nat) (u : Value), cs[i]? = some u → u.oneCell' = true) ∧ ∀ (i : Nat) (u : Value) (a : A), cs[i]? = some u → cells[i]? = some a → Rep (enOf C G (gen + r) w) u a
  n : ∀ g, gen ≤ g → σ.2 g = none → G.box g = none
  o : ∀ g, gen ≤ g → ∀ c, look' bx g ≠ some c
theorem SimE.toG {σ : Sg} {G : Gh} {tmps : Array Value} {w : World} (h : SimE C n bx lv gen r σ G tmps w) {f : List (Nat × A)} {bn : List (Nat × List A)} (hf : ∀ t a, look f t = some a → σ.1 t = some a) (hb : ∀ g c, look' bn g = some c → σ.2 g = some c) :
    SimG C n ⟨f, bn ++ bx, lv, gen + r⟩ G tmps w :=
  { h.s with frame := fun t a ha => h.f t a (hf t a ha), box := fun g c hc => (look'_append hc).elim (fun h1 => (h.b g c (hb g c h1)).2) (h.s.box g c) }
theorem SimE.ofG {f : List (Nat × A)} {G : Gh} {tmps : Array Value} {w : World} (h : SimG C n ⟨f, bx, lv, gen⟩ G tmps w) : SimE C n bx lv gen r (look f, fun _ => none) G tmps w := by
  have h2 : SimG C n ⟨f, bx, lv, gen + r⟩ G tmps w := SimG.later (st := ⟨f, bx, lv, gen⟩) h (Nat.le_add_right _ _)
  refine ⟨{ h2 with frame := fun t a ha => by simp [look] at ha }, h2.frame, (fun g c hc => nomatch hc), fun g hg _ => ?_, fun g hg c hc => ?_⟩
  rotate_left
  · obtain ⟨b, _, _, h1, _⟩ := h.box g c hc
    have := (h.gbox g b h1).1
    simp only at this
    omega
  cases hb : G.box g with
  | none => rfl
  | some b => have := (h.gbox g b hb).1; simp only at this; omega
theorem SimE.step {σ : Sg} {G : Gh} {tmps : Array Value} {w w' : World} (h : SimE C n bx lv gen r σ G tmps w) (hb : Below w.heap.size w w') {dst : Option Nat} (hd : dstOK n dst = true) {v : Value} {a : A} (hr : Rep (enOf C G (gen + r) w') v a) :
    SimE C n bx lv gen r (putF σ.1 dst a, σ.2) G (Act.put ⟨tmps, []⟩ dst v).tmps w' := by
  obtain ⟨hle, hs⟩ := h.s.evolve hb
  have hbx : ∀ g cells, σ.2 g = some cells → gen ≤ g ∧ ∃ b cs T, G.box g = some b ∧ w'.heap[b]? = some (.cells cs T (0, 0)) ∧ cs.size = cells.length ∧
    (∀ (i : Nat) (u : Value), cs[i]? = some u → u.oneCell' = true) ∧ ∀ (i : Nat) (u : Value) (a : A), cs[i]? = some u → cells[i]? = some a → Rep (enOf C G (gen + r) w') u a := by
    intro g cells hg
    obtain ⟨h0, b, cs, T, h1, h2, h3, h4, h5⟩ := h.b g cells hg
    exact ⟨h0, b, cs, T, h1, by rw [hb.block b (h.s.gbox g b h1).2.1]; exact h2, h3, h4, fun i u a hu ha => (h5 i u a hu ha).mono hle⟩
  cases dst with
  | none => exact ⟨hs, fun t a ha => let ⟨v, h1, h2⟩ := h.f t a ha; ⟨v, h1, h2.mono hle⟩, hbx, h.n, h.o⟩
  | some d =>
    refine ⟨{ hs with size := by have := hs.size; simpa [Act.put] using this, frame := fun t a ha => by simp [look] at ha }, fun t b hb' => ?_, hbx, h.n, h.o⟩
    simp only [putF] at hb'
    split at hb'
    · rename_i e
      subst e
      simp only [Option.some.injEq] at hb'
      subst hb'
      exact ⟨v, by simp [Act.put, Array.getElem?_setIfInBounds, hs.size, dstOK_lt hd], hr⟩
    · rename_i e
      obtain ⟨u, h1, h2⟩ := h.f t b hb'
      exact ⟨u, by simp only [Act.put]; rw [Array.getElem?_setIfInBounds_ne (Ne.symm e)]; exact h1, h2.mono hle⟩
theorem SimE.mkBox {σ : Sg} {G : Gh} {tmps : Array Value} {w : World} (h : SimE C n bx lv gen r σ G tmps w) {g : Nat} (hg : gen ≤ g) (hgr : g < gen + r) (hn : σ.2 g = none) (cs : Array Value) (T : TypeId) (cells : List A) (hrc : RepC (enOf C G (gen + r) w) cs cells)
    {d : Nat} (hd : d < n) : ∃ G', SimE C n bx lv gen r (putF σ.1 (some d) (.ptr g 0), putB σ.2 (some (g, cells))) G' (tmps.setIfInBounds d (.pointer (some ⟨w.heap.size, 0, none⟩))) (w.alloc (.cells cs T)) := by
  obtain ⟨hs, h1, hc'⟩ := hrc
  have hgn := h.n g hg hn
  have hb : Below w.heap.size w (w.alloc (.cells cs T)) := (Below.refl _ w).alloc (Nat.le_refl _) _
  let G' : Gh := ⟨fun g' => if g' = g then some w.heap.size else G.box g', G.own⟩
  have hsz : w.heap.size < (w.alloc (.cells cs T)).heap.size := by simp
  have hGe : ∀ {g' b}, G.box g' = some b → G'.box g' = some b := by
    intro g' b hb'
    simp only [G']
    rw [if_neg (by rintro rfl; rw [hgn] at hb'; cases hb')]
    exact hb'
  have hle : (enOf C G (gen + r) w).le (enOf C G' (gen + r) (w.alloc (.cells cs T))) := by
    refine ⟨fun b o u hu hn' => ?_, fun b o u hu ho => ?_, fun g' b hb' => hGe hb', fun _ _ _ h => h, Nat.le_refl _, fun g b len cap sz pub o u _ _ _ hu => exBelow hb hu, fun g' b _ hr => ?_⟩
    · have hlt := cellAt_lt hu
      refine ⟨by show cellAt (w.alloc _) b o = _; rw [cellAt_same (hb.block b hlt)]; exact hu, fun hp => hn' ?_⟩
      rcases hp with hp | ⟨g', hp⟩ | hp
      · exact .inl hp
      · simp only [G'] at hp
        split at hp
        · simp only [Option.some.injEq] at hp
          have : b < w.heap.size := hlt
          omega
        · exact .inr (.inl ⟨g', hp⟩)
      · exact .inr (.inr hp)
    · have hlt := cellAt_lt hu
      exact ⟨by show cellAt (w.alloc _) b o = _; rw [cellAt_same (hb.block b hlt)]; exact hu, ho⟩
    · obtain ⟨_, _, _, me, clock, h3⟩ := h.s.mrow g' b hr
      exact hb.block b (Array.getElem?_eq_some_iff.1 h3).1
  have hrow0 : ∀ g' b len cap sz pub, G.own g' = some (.blk b len cap sz pub) → b < w.heap.size := fun g' b len cap sz pub hr => by
    obtain ⟨_, _, _, cur, T', h4, _⟩ := h.s.row g' b len cap sz pub hr
    exact (Array.getElem?_eq_some_iff.1 h4).1
  refine ⟨G', { s := { size := (by have := h.s.size; simpa using this), frame := (fun t a ha => by simp [look] at ha), xold := h.s.xold, kold := h.s.kold, lent := (fun i b hb => hGe (h.s.lent i b hb)), fr := h.s.fr.below hb, live := h.s.live, gown := h.s.gown, box := fun g' c hc => ?_, gbox := fun g' b hb' => ?_, inj := fun g1 g2 b hb1 hb2 => ?_, row := fun g' b len cap sz pub hr => ?_, mrow := fun g' b hr => ?_ }, f := fun t a ha => ?_, b := fun g' c hc => ?_, n := fun g' hg' hn' => ?_, o := h.o }⟩
  · obtain ⟨b, cs', T', h1', h2, h3, h4, h5⟩ := h.s.box g' c hc
    exact ⟨b, cs', T', hGe h1', by rw [hb.block b (h.s.gbox g' b h1').2.1]; exact h2, h3, h4, fun i u a hu ha => (h5 i u a hu ha).mono hle⟩
  · simp only [G'] at hb'
    split at hb'
    · rename_i e
      subst e
      simp only [Option.some.injEq] at hb'
      subst hb'
      exact ⟨hgr, hsz, .inl h.s.fr.size, fun o ho => absurd (h.s.kold _ o ho) (by have := h.s.fr.size; omega)⟩
    · obtain ⟨h6, h7, h8⟩ := h.s.gbox g' b hb'
      exact ⟨h6, by simp; omega, h8⟩
  · simp only [G'] at hb1 hb2
    split at hb1 <;> split at hb2
    · simp_all
    · simp only [Option.some.injEq] at hb1; have := (h.s.gbox g2 b hb2).2.1; omega
    · simp only [Option.some.injEq] at hb2; have := (h.s.gbox g1 b hb1).2.1; omega
    · exact h.s.inj g1 g2 b hb1 hb2
  · obtain ⟨h1', h2, h3, cur, T', h4, h5⟩ := h.s.row g' b len cap sz pub hr
    refine ⟨h1', fun g2 hg2 => ?_, h3, cur, T', by rw [hb.block b (hrow0 g' b len cap sz pub hr)]; exact h4, h5⟩
    simp only [G'] at hg2
    split at hg2
    · simp only [Option.some.injEq] at hg2; have := hrow0 g' b len cap sz pub hr; omega
    · exact h2 g2 hg2
  · obtain ⟨h1', h2, h3, me, clock, h4⟩ := h.s.mrow g' b hr
    have hlt := (Array.getElem?_eq_some_iff.1 h4).1
    refine ⟨h1', fun g2 hg2 => ?_, h3, me, clock, by rw [hb.block b hlt]; exact h4⟩
    simp only [G'] at hg2
    split at hg2
    · simp only [Option.some.injEq] at hg2; omega
    · exact h2 g2 hg2
  · simp only [putF] at ha
    split at ha
    · rename_i e
      subst e
      simp only [Option.some.injEq] at ha
      subst ha
      exact ⟨_, by have := h.s.size; simp [Array.getElem?_setIfInBounds, this, hd], .ptr _ g 0 w.heap.size (by simp [enOf]; omega) (by simp [enOf, G']) rfl⟩
    · rename_i e
      obtain ⟨u, h6, h7⟩ := h.f t a ha
      exact ⟨u, by rw [Array.getElem?_setIfInBounds_ne (Ne.symm e)]; exact h6, h7.mono hle⟩
  · simp only [putB] at hc
    split at hc
    · rename_i e
      subst e
      simp only [Option.some.injEq] at hc
      subst hc
      exact ⟨hg, w.heap.size, cs, T, by simp [G'], heap_alloc_new w _, hs, h1, fun i u a hu ha => (hc' i u a hu ha).mono hle⟩
    · obtain ⟨h0, b, cs', T', h1', h2, h3, h4, h5⟩ := h.b g' c hc
      exact ⟨h0, b, cs', T', hGe h1', by rw [hb.block b (h.s.gbox g' b h1').2.1]; exact h2, h3, h4, fun i u a hu ha => (h5 i u a hu ha).mono hle⟩
  · simp only [putB] at hn'
    split at hn'
    · cases hn'
    · rename_i e
      simp only [G']
      rw [if_neg e]
      exact h.n g' hg' hn'
theorem SimE.store {σ : Sg} {G : Gh} {tmps : Array Value} {w : World} (h : SimE C n bx lv gen r σ G tmps w) {g b : Nat} {cs cs' : Array Value} {T : TypeId} {cells cells' : List A} (hb : σ.2 g = some cells) (hg : G.box g = some b) (hw : w.heap[b]? = some (.cells cs T (0, 0)))
    (hr : RepC (enOf C G (gen + r) w) cs' cells') : SimE C n bx lv gen r (σ.1, putB σ.2 (some (g, cells'))) G tmps (w.setRow b cs') := by
  have hgg := (h.b g cells hb).1
  have hb' : w.heap[b]? ≠ none := by rw [hw]; simp
  have hm := (h.s.gbox g b hg).2.2
  have hfr : Fr C (w.setRow b cs') := ⟨h.s.fr.os, h.s.fr.tape, h.s.fr.output, by rw [size_setRow]; exact h.s.fr.size, fun b' h1 h2 => by
    rw [setRow_other w b b' cs' (fun e => by subst e; exact hm.1.elim (fun hm => by omega) h2)]; exact h.s.fr.block b' h1 h2, fun b' o u hk hu => by
    rw [cellAt_same (setRow_other w b b' cs' (fun e => by subst e; exact absurd (hm.2 o hk) (Nat.not_lt_zero _)))]; exact h.s.fr.cells b' o u hk hu⟩
  have hle : (enOf C G (gen + r) w).le (enOf C G (gen + r) (w.setRow b cs')) := by
    refine leOf (st := ⟨[], bx, lv, gen + r⟩) h.s.fr hfr (fun b' o u hu hn => ⟨?_, hn⟩) (fun _ _ h => h) (fun _ _ _ h => h) (Nat.le_refl _) (fun g' b' len cap sz pub o u _ hr _ hu => ?_) (fun g' b' _ hr => ?_)
    · have : b' ≠ b := fun e => hn (.inr (.inl ⟨g, by rw [e]; exact hg⟩))
      rw [cellAt_same (setRow_other w b b' cs' this)]
      exact hu
    · have : b' ≠ b := fun e => (h.s.row g' b' len cap sz pub hr).2.1 g (by rw [e]; exact hg)
      rw [cellAt_same (setRow_other w b b' cs' this)]
      exact hu
    · exact setRow_other w b b' cs' (fun e => (h.s.mrow g' b' hr).2.1 g (by rw [e]; exact hg))
  refine { s := { size := h.s.size, frame := fun t a ha => by simp [look] at ha, inj := h.s.inj, xold := h.s.xold, kold := h.s.kold, lent := h.s.lent, fr := hfr, live := h.s.live, gown := h.s.gown, box := fun g' c hc => ?_, gbox := fun g' b' hgb => ?_, row := fun g' b' len cap sz pub hgb => ?_, mrow := fun g' b' hr => ?_ }, f := fun t a ha => let ⟨v, h1, h2⟩ := h.f t a ha; ⟨v, h1, h2.mono hle⟩, b := fun g' c hc => ?_, n := fun g' hg' hn' => ?_, o := h.o }
  · obtain ⟨b', cs2, T', h1, h2, h3, h4, h5⟩ := h.s.box g' c hc
    by_cases e : b' = b
    · subst e
      have e2 := h.s.inj g' g b' h1 hg
      subst e2
      exact absurd hc (h.o g' hgg c)
    · exact ⟨b', cs2, T', h1, by rw [setRow_other w b b' cs' e]; exact h2, h3, h4, fun i u a hu ha => (h5 i u a hu ha).mono hle⟩
  · obtain ⟨h1, h2, h3⟩ := h.s.gbox g' b' hgb
    exact ⟨h1, by rw [size_setRow]; exact h2, h3⟩
  · obtain ⟨h1, h2, h3, cur, T', h4, h5⟩ := h.s.row g' b' len cap sz pub hgb
    have hne : b' ≠ b := fun e => h2 g (by rw [e]; exact hg)
    exact ⟨h1, h2, h3, cur, T', by rw [setRow_other w b b' cs' hne]; exact h4, h5⟩
  · obtain ⟨h1, h2, h3, me, clock, h4⟩ := h.s.mrow g' b' hr
    have hne : b' ≠ b := fun e => h2 g (by rw [e]; exact hg)
    exact ⟨h1, h2, h3, me, clock, by rw [setRow_other w b b' cs' hne]; exact h4⟩
  · simp only [putB] at hc
    split at hc
    · rename_i e
      subst e
      simp only [Option.some.injEq] at hc
      subst hc
      exact ⟨hgg, b, cs', T, hg, setRow_heap w b cs cs' T (0, 0) hw, hr.1, hr.2.1, fun i u a hu ha => (hr.2.2 i u a hu ha).mono hle⟩
    · rename_i e
      obtain ⟨h0, b', cs2, T', h1, h2, h3, h4, h5⟩ := h.b g' c hc
      have hne : b' ≠ b := fun e' => e (h.s.inj g' g b (e' ▸ h1) hg)
      exact ⟨h0, b', cs2, T', h1, by rw [setRow_other w b b' cs' hne]; exact h2, h3, h4, fun i u a hu ha => (h5 i u a hu ha).mono hle⟩
  · simp only [putB] at hn'
    split at hn'
    · cases hn'
    · exact h.n g' hg' hn'
def YE (P : Program) (T : Tab P) (C : Ctx) (n : Nat) (bx : List (Nat × List A)) (lv : List Nat) (gen r : Nat) (ops : Array Oper) (i : Nat) (o : Oper) (a : A) (u : Option (Nat × List A)) (σ : Sg) : Prop :=
  dstOK n o.dst = true ∧
    ((isNew o = false ∧ u = none ∧ YA P C n bx lv (gen + r) ops o a σ.1) ∨
     (isNew o = true ∧ o.guard = none ∧ σ.2 (gen + cntNew ops.toList i) = none ∧ cntNew ops.toList i < r ∧ a = .ptr (gen + cntNew ops.toList i) 0 ∧ ∃ d cells, o.dst = some d ∧ u = some (gen + cntNew ops.toList i, cells) ∧
        ((∃ e dt, o.op = .alloc e ∧ look' T.l e = some dt ∧ cells = dt.z.map fun v => A.d (.v v)) ∨
         (∃ e x f y, o.op = .box e x ∧ (∀ t z, look f t = some z → σ.1 t = some z ∧ t ∈ o.looksAt ops) ∧ av f x = some y ∧ cellsOf bx y = some cells))) ∨
     (isSt o = true ∧ o.guard = none ∧ o.dst = none ∧ a = .any ∧ ∃ t dx y k ok f z cells cs, o.op = .store t (.tmp dx) y ∧ ops[k]? = some ok ∧ isNew ok = true ∧ ok.dst = some dx ∧ (∀ t z, look f t = some z → σ.1 t = some z ∧ t ∈ o.looksAt ops) ∧
        σ.1 dx = some (.ptr (gen + cntNew ops.toList k) 0) ∧ av f y = some z ∧ cellsOf bx z = some cs ∧ szAt T t = cs.length ∧ cs.length ≠ 0 ∧ cs.length ≤ cells.length ∧ σ.2 (gen + cntNew ops.toList k) = some cells ∧
        u = some (gen + cntNew ops.toList k, setAt cells 0 cs)))
def apartE (ops : Array Oper) (x y : Oper) : Prop := x.apart ops y = true ∧ ∀ d, stTo x = some d → stTo y ≠ some d
theorem mem_looks {dx : Nat} {t : TypeId} {y : Operand} {o : Oper} (h : o.op = .store t (.tmp dx) y) : dx ∈ o.looksAt ops := by
  unfold Oper.looksAt
  rw [h]
  exact List.mem_append.2 (.inl (by simp [Op.operands]))
section
variable {T}
theorem YE.name {i : Nat} {o : Oper} {a : A} {g : Nat} {c : List A} {σ : Sg} (hi : ops[i]? = some o) (h : YE P T C n bx lv gen r ops i o a (some (g, c)) σ) :
    ∃ k ok dx, ops[k]? = some ok ∧ isNew ok = true ∧ ok.dst = some dx ∧ g = gen + cntNew ops.toList k ∧ ((k = i) ∨ (stTo o = some dx ∧ dx ∈ o.looksAt ops)) := by
  rcases h with ⟨_, ⟨_, h, _⟩ | ⟨h1, _, _, _, _, d, cells, h2, h3, _⟩ | ⟨h1, _, _, _, t, dx, y, k, ok, f, z, cells, cs, h2, h3, h4, h5, _, _, _, _, _, _, _, _, h6⟩⟩
  · cases h
  · simp only [Option.some.injEq, Prod.mk.injEq] at h3
    exact ⟨i, o, d, hi, h1, h2, h3.1, .inl rfl⟩
  · simp only [Option.some.injEq, Prod.mk.injEq] at h6
    exact ⟨k, ok, dx, h3, h4, h5, h6.1, .inr ⟨by unfold stTo; rw [h2], mem_looks h2⟩⟩
theorem cnt_inj {k k' : Nat} {o o' : Oper} (hk : ops[k]? = some o) (hk' : ops[k']? = some o') (hn : isNew o = true) (hn' : isNew o' = true) (h : cntNew ops.toList k = cntNew ops.toList k') : k = k' := by
  rcases Nat.lt_trichotomy k k' with hlt | he | hgt
  · have := cntNew_lt (l := ops.toList) (by simpa using hk) hn hlt; omega
  · exact he
  · have := cntNew_lt (l := ops.toList) (by simpa using hk') hn' hgt; omega
theorem names_ne {i j : Nat} {oi oj : Oper} {a b : A} {g g' : Nat} {c c' : List A} {σ σ' : Sg} (hi : ops[i]? = some oi) (hj : ops[j]? = some oj) (hij : i ≠ j) (hap : apartE ops oi oj) (h : YE P T C n bx lv gen r ops i oi a (some (g, c)) σ)
    (h' : YE P T C n bx lv gen r ops j oj b (some (g', c')) σ') : g ≠ g' := by
  rintro rfl
  obtain ⟨k, ok, dx, h1, h2, h3, h4, h5⟩ := YE.name hi h
  obtain ⟨k', ok', dx', h1', h2', h3', h4', h5'⟩ := YE.name hj h'
  have e : k = k' := cnt_inj h1 h1' h2 h2' (by omega)
  subst e
  rw [h1] at h1'
  simp only [Option.some.injEq] at h1'
  subst h1'
  rw [h3] at h3'
  simp only [Option.some.injEq] at h3'
  subst h3'
  obtain ⟨ha, hs⟩ := hap
  obtain ⟨a1, a2, a3⟩ := Oper.apart_spec ha
  rcases h5 with e | ⟨e, hm⟩ <;> rcases h5' with e' | ⟨e', hm'⟩
  · exact hij (e.symm.trans e')
  · subst e
    rw [hi] at h1
    simp only [Option.some.injEq] at h1
    subst h1
    exact a1 dx h3 hm'
  · subst e'
    rw [hj] at h1
    simp only [Option.some.injEq] at h1
    subst h1
    exact a3 dx h3 hm
  · exact hs dx e e'
theorem putF_key {φ : Fr'} {o : Oper} {dst : Option Nat} {x : A} (hd : ∀ d, dst = some d → d ∉ o.looksAt ops) {t : Nat} (ht : t ∈ o.looksAt ops) : putF φ dst x t = φ t := by
  cases dst with
  | none => rfl
  | some e =>
    have : t ≠ e := fun h => by subst h; exact hd t rfl ht
    simp [putF, this]
theorem YE_fwd {i j : Nat} {oi oj : Oper} {a b : A} {u v : Option (Nat × List A)} {σ σ' : Sg} (hi : ops[i]? = some oi) (hj : ops[j]? = some oj) (hij : i ≠ j) (hap : apartE ops oi oj) (h : YE P T C n bx lv gen r ops i oi a u σ) (hj' : YE P T C n bx lv gen r ops j oj b v σ') :
    YE P T C n bx lv gen r ops i oi a u (putF σ.1 oj.dst b, putB σ.2 v) := by
  obtain ⟨a1, a2, a3⟩ := Oper.apart_spec hap.1
  have hv : ∀ {g c}, u = some (g, c) → putB σ.2 v g = σ.2 g := by
    intro g c hu
    cases v with
    | none => rfl
    | some x =>
      obtain ⟨g', c'⟩ := x
      subst hu
      have := names_ne hi hj hij hap h hj'
      simp [putB, this]
  obtain ⟨h0, h | h | h⟩ := id h
  · exact ⟨h0, .inl ⟨h.1, h.2.1, (YA_put a3).2 h.2.2⟩⟩
  · obtain ⟨h1, h2, h3, h4, h5, d, cells, h6, h7, h8⟩ := h
    refine ⟨h0, .inr (.inl ⟨h1, h2, (hv h7).trans h3, h4, h5, d, cells, h6, h7, h8.imp id ?_⟩)⟩
    rintro ⟨e, x, f, y, g1, g2, g3⟩
    exact ⟨e, x, f, y, g1, fun t z hz => ⟨(putF_key a3 (g2 t z hz).2).trans (g2 t z hz).1, (g2 t z hz).2⟩, g3⟩
  · obtain ⟨h1, h2, h3, h4, t, dx, y, k, ok, f, z, cells, cs, g1, g2, g3, g4, g5, g6, g7, g8, g9, g10, g11, g12, g13⟩ := h
    exact ⟨h0, .inr (.inr ⟨h1, h2, h3, h4, t, dx, y, k, ok, f, z, cells, cs, g1, g2, g3, g4, fun t z hz => ⟨(putF_key a3 (g5 t z hz).2).trans (g5 t z hz).1, (g5 t z hz).2⟩,
      (putF_key a3 (mem_looks g1)).trans g6, g7, g8, g9, g10, g11, (hv g13).trans g12, g13⟩)⟩
theorem YE_bwd {i j : Nat} {oi oj : Oper} {a b : A} {u v : Option (Nat × List A)} {σ σ' : Sg} (hi : ops[i]? = some oi) (hj : ops[j]? = some oj) (hij : i ≠ j) (hap : apartE ops oi oj) (hi' : YE P T C n bx lv gen r ops i oi a u σ')
    (h : YE P T C n bx lv gen r ops j oj b v (putF σ.1 oi.dst a, putB σ.2 u)) : YE P T C n bx lv gen r ops j oj b v σ := by
  obtain ⟨a1, a2, a3⟩ := Oper.apart_spec hap.1
  have hv : ∀ {g c}, v = some (g, c) → putB σ.2 u g = σ.2 g := by
    intro g c hu
    cases u with
    | none => rfl
    | some x =>
      obtain ⟨g', c'⟩ := x
      subst hu
      have := names_ne hi hj hij hap hi' h
      simp [putB, Ne.symm this]
  obtain ⟨h0, h | h | h⟩ := id h
  · exact ⟨h0, .inl ⟨h.1, h.2.1, (YA_put a1).1 h.2.2⟩⟩
  · obtain ⟨h1, h2, h3, h4, h5, d, cells, h6, h7, h8⟩ := h
    refine ⟨h0, .inr (.inl ⟨h1, h2, (hv h7).symm.trans h3, h4, h5, d, cells, h6, h7, h8.imp id ?_⟩)⟩
    rintro ⟨e, x, f, y, g1, g2, g3⟩
    exact ⟨e, x, f, y, g1, fun t z hz => ⟨(putF_key a1 (g2 t z hz).2).symm.trans (g2 t z hz).1, (g2 t z hz).2⟩, g3⟩
  · obtain ⟨h1, h2, h3, h4, t, dx, y, k, ok, f, z, cells, cs, g1, g2, g3, g4, g5, g6, g7, g8, g9, g10, g11, g12, g13⟩ := h
    exact ⟨h0, .inr (.inr ⟨h1, h2, h3, h4, t, dx, y, k, ok, f, z, cells, cs, g1, g2, g3, g4, fun t z hz => ⟨(putF_key a1 (g5 t z hz).2).symm.trans (g5 t z hz).1, (g5 t z hz).2⟩,
      (putF_key a1 (mem_looks g1)).symm.trans g6, g7, g8, g9, g10, g11, (hv g13).symm.trans g12, g13⟩)⟩
theorem putB_comm {β : Bt} {u v : Option (Nat × List A)} (h : ∀ g c g' c', u = some (g, c) → v = some (g', c') → g ≠ g') : putB (putB β u) v = putB (putB β v) u := by
  cases u with
  | none => rfl
  | some x =>
    cases v with
    | none => rfl
    | some y =>
      obtain ⟨g, c⟩ := x
      obtain ⟨g', c'⟩ := y
      have := h g c g' c' rfl rfl
      funext t
      simp only [putB]
      split <;> split <;> simp_all
end
def qE (P : Program) (T : Tab P) (C : Ctx) (n : Nat) (bx : List (Nat × List A)) (lv : List Nat) (gen r : Nat) (ops : Array Oper) (i : Nat) (K : Sg → Prop) (σ : Sg) : Prop :=
  match ops[i]? with
  | none => K σ
  | some o => ∃ a u, YE P T C n bx lv gen r ops i o a u σ ∧ K (putF σ.1 o.dst a, putB σ.2 u)
theorem qE_mono {i : Nat} {σ : Sg} {K K' : Sg → Prop} (h : ∀ σ, K σ → K' σ) (hh : qE P T C n bx lv gen r ops i K σ) : qE P T C n bx lv gen r ops i K' σ := by
  unfold qE at *
  split
  · exact h _ (by simpa [*] using hh)
  · rename_i o ho
    simp only [ho] at hh
    obtain ⟨a, u, h1, h2⟩ := hh
    exact ⟨a, u, h1, h _ h2⟩
theorem qE_put {i j : Nat} {oi oj : Oper} {a : A} {u : Option (Nat × List A)} (hi : ops[i]? = some oi) (hj : ops[j]? = some oj) (hij : i ≠ j) (hap : apartE ops oi oj) {K : Sg → Prop} {σ : Sg} (hy : YE P T C n bx lv gen r ops i oi a u σ)
    (h : qE P T C n bx lv gen r ops j K (putF σ.1 oi.dst a, putB σ.2 u)) : qE P T C n bx lv gen r ops j (fun σ' => YE P T C n bx lv gen r ops i oi a u σ' ∧ K (putF σ'.1 oi.dst a, putB σ'.2 u)) σ := by
  obtain ⟨a1, a2, a3⟩ := Oper.apart_spec hap.1
  unfold qE at *
  simp only [hj] at h ⊢
  obtain ⟨b, v, hb, hk⟩ := h
  have hb' := YE_bwd hi hj hij hap hy hb
  refine ⟨b, v, hb', YE_fwd hi hj hij hap hy hb', ?_⟩
  have e1 := putF_comm σ.1 a b a2
  have e2 : putB (putB σ.2 u) v = putB (putB σ.2 v) u := putB_comm (fun g c g' c' hu hv => by subst hu; subst hv; exact names_ne hi hj hij hap hy hb')
  rw [← e1, ← e2]
  exact hk
def Split (m : Nat) (ops : Array Oper) (listed : Array Bool) : Prop := listed.size = ops.size ∧ (∀ j, j < m → listed.getD j false = true) ∧ ∀ j, m ≤ j → j < ops.size → listed.getD j true = false
def wpE (P : Program) (T : Tab P) (C : Ctx) (n : Nat) (bx : List (Nat × List A)) (lv : List Nat) (gen r m : Nat) (md : Region.Mode) (ops : Array Oper) (Q : Sg → Prop) : Nat → Array Bool → Sg → Prop
  | 0, listed, σ => Split m ops listed ∧ Q σ
  | fuel + 1, listed, σ => Region.ready md ops listed ≠ [] ∧ ∀ i ∈ Region.ready md ops listed, qE P T C n bx lv gen r ops i (wpE P T C n bx lv gen r m md ops Q fuel (listed.setIfInBounds i true)) σ
def behindB (md : Region.Mode) (ops : Array Oper) (j i : Nat) : Bool :=
  match ops[j]? with
  | some o => o.after.toList.any fun e => Nat.beq e.on i && Region.binds md e
  | none => false
theorem behindB_spec {j i : Nat} {oj : Oper} (hj : ops[j]? = some oj) (h : behindB md ops j i = true) : ∃ e ∈ oj.after, Region.binds md e = true ∧ e.on = i := by
  unfold behindB at h
  rw [hj] at h
  obtain ⟨e, he, hb⟩ := List.any_eq_true.1 h
  simp only [Bool.and_eq_true] at hb
  exact ⟨e, by simpa using he, hb.2, Nat.eq_of_beq_eq_true hb.1⟩
theorem unlisted {listed : Array Bool} {i : Nat} (h : listed.getD i true = false) : listed.getD i false = false := by
  rcases Nat.lt_or_ge i listed.size with h' | h'
  · simp [h'] at h ⊢; exact h
  · simp [Array.getElem?_eq_none h'] at h
def waitB (md : Region.Mode) (ops : Array Oper) (m : Nat) : Bool := (List.range ops.size).all fun j => decide (j < m) || (List.range j).all fun i => behindB md ops j i
def sepB : List Nat → Bool
  | [] => true
  | a :: r => !(r.any (Nat.beq a)) && sepB r
def oneStore (l : List Oper) : Bool := sepB (l.filterMap stTo)
theorem waits {j : Nat} (h : waitB md ops m = true) (hm : m ≤ j) {i : Nat} (hij : i < j) {listed : Array Bool} (hj : j ∈ Region.ready md ops listed) : listed.getD i false = true := by
  obtain ⟨_, oj, hoj, hall⟩ := mem_ready.1 hj
  have hlt : j < ops.size := (Array.getElem?_eq_some_iff.1 hoj).1
  have h1 := List.all_eq_true.1 h j (by simpa using hlt)
  simp only [Bool.or_eq_true, decide_eq_true_eq] at h1
  have h2 := List.all_eq_true.1 (h1.resolve_left (by omega)) i (by simpa using hij)
  obtain ⟨e, he, hb, heq⟩ := behindB_spec hoj h2
  rw [← heq]
  exact hall e he hb
theorem notBoth : ∀ {l : List Oper} (_ : oneStore l = true) {i j : Nat} {oi oj : Oper} (_ : l[i]? = some oi) (_ : l[j]? = some oj) (_ : i < j) {d : Nat} (_ : stTo oi = some d), stTo oj ≠ some d
  | [], _, i, j, oi, oj, h, _, _, _, _ => by simp at h
  | z :: l, h, 0, j + 1, oi, oj, hi, hj, _, d, hd => by
    simp at hi
    subst hi
    intro he
    simp only [oneStore, List.filterMap_cons, hd, sepB, Bool.and_eq_true, Bool.not_eq_true'] at h
    have h1 : (l.filterMap stTo).any (Nat.beq d) = true := List.any_eq_true.2 ⟨d, List.mem_filterMap.2 ⟨oj, List.mem_of_getElem? (by simpa using hj), he⟩, Nat.beq_refl d⟩
    rw [h1] at h
    cases h.1
  | z :: l, h, i + 1, j + 1, oi, oj, hi, hj, hij, d, hd => by
    refine notBoth (l := l) ?_ (i := i) (j := j) (by simpa using hi) (by simpa using hj) (by omega) hd
    simp only [oneStore, List.filterMap_cons] at h ⊢
    cases hz : stTo z with
    | none => simpa only [hz] using h
    | some e =>
      simp only [hz, sepB, Bool.and_eq_true] at h
      exact h.2
  | z :: l, _, i, 0, oi, oj, _, _, hij, _, _ => by omega
theorem notBoth' {l : List Oper} (h : oneStore l = true) {i j : Nat} {oi oj : Oper} (hi : l[i]? = some oi) (hj : l[j]? = some oj) (hij : i ≠ j) (d : Nat) (hd : stTo oi = some d) : stTo oj ≠ some d := by
  rcases Nat.lt_or_ge i j with hlt | hge
  · exact notBoth h hi hj hlt hd
  · exact fun he => notBoth h hj hi (by omega) he hd
theorem wpE_first {Q : Sg → Prop} {i : Nat} {oi : Oper} {a : A} {u : Option (Nat × List A)} (hone : oneStore (ops.toList.take m) = true) (hw : waitB md ops m = true) (him : i < m) (hi : ops[i]? = some oi) :
    ∀ (fuel : Nat) (listed : Array Bool) (σ : Sg),
      (∀ j oj, ops[j]? = some oj → j ≠ i → listed.getD j true = false → (∀ e ∈ oj.after, Region.binds md e = true → e.on ≠ i) → oi.apart ops oj = true) →
      i ∈ Region.ready md ops listed → YE P T C n bx lv gen r ops i oi a u σ →
      wpE P T C n bx lv gen r m md ops Q fuel (listed.setIfInBounds i true) (putF σ.1 oi.dst a, putB σ.2 u) → wpE P T C n bx lv gen r m md ops Q (fuel + 1) listed σ := by
  have take : ∀ {K : Sg → Prop} {σ : Sg}, YE P T C n bx lv gen r ops i oi a u σ → K (putF σ.1 oi.dst a, putB σ.2 u) → qE P T C n bx lv gen r ops i K σ := by
    intro K σ hy hk
    unfold qE
    simp only [hi]
    exact ⟨a, u, hy, hk⟩
  have unl : ∀ {listed : Array Bool}, i ∈ Region.ready md ops listed → listed.getD i false = false := by
    intro listed hr
    exact unlisted (mem_ready.1 hr).1
  intro fuel
  induction fuel with
  | zero =>
    intro listed σ _ hr hy H
    refine ⟨fun h => (by rw [h] at hr; cases hr), fun j hj => ?_⟩
    by_cases hji : j = i
    · subst hji; exact take hy H
    · exfalso
      obtain ⟨⟨_, h1, h2⟩, _⟩ := H
      have hj1 := (mem_ready.1 hj).1
      by_cases hjm : j < m
      · have := h1 j hjm
        rw [getD_set_ne false (Ne.symm hji)] at this
        rw [unlisted hj1] at this
        cases this
      · have := waits hw (by omega) (show i < j by omega) hj
        rw [unl hr] at this
        cases this
  | succ fuel ih =>
    intro listed σ hfree hr hy H
    refine ⟨fun h => (by rw [h] at hr; cases hr), fun j hj => ?_⟩
    by_cases hji : j = i
    · subst hji; exact take hy H
    · have h1 := H.2 j (ready_mono hj hji)
      obtain ⟨hjun, oj, hoj, hall⟩ := mem_ready.1 hj
      have hnot : ∀ e ∈ oj.after, Region.binds md e = true → e.on ≠ i := fun e he hb heq => by
        have h1 := hall e he hb
        rw [heq, unl hr] at h1
        cases h1
      have hjm : j < m := by
        rcases Nat.lt_or_ge j m with h | h
        · exact h
        · have := waits hw h (show i < j by omega) hj
          rw [unl hr] at this
          cases this
      have hap : apartE ops oi oj := by
        refine ⟨hfree j oj hoj hji hjun hnot, notBoth' (i := i) (j := j) hone ?_ ?_ (Ne.symm hji)⟩
        · rw [List.getElem?_take, if_pos him]; simpa using hi
        · rw [List.getElem?_take, if_pos hjm]; simpa using hoj
      have h2 := qE_put T hi hoj (Ne.symm hji) hap hy h1
      have hfree' : ∀ k ok, ops[k]? = some ok → k ≠ i → (listed.setIfInBounds j true).getD k true = false →
          (∀ e ∈ ok.after, Region.binds md e = true → e.on ≠ i) → oi.apart ops ok = true := fun k ok hk hki hun hno => by
        refine hfree k ok hk hki ?_ hno
        by_cases hjk : j = k
        · subst hjk; exact hjun
        · rw [getD_set_ne true hjk] at hun; exact hun
      refine qE_mono T (fun σ' h3 => ih (listed.setIfInBounds j true) σ' hfree' (ready_mono hr (Ne.symm hji)) h3.1 ?_) h2
      rw [Array.setIfInBounds_comm _ _ hji]
      exact h3.2
def ceA (P : Program) (T : Tab P) (C : Ctx) (n : Nat) (bx : List (Nat × List A)) (lv : List Nat) (gen r : Nat) (ops : Array Oper) (Q : Sg → Prop) : List Oper → Nat → Sg → Prop
  | [], _, σ => Q σ
  | o :: rest, i, σ => ∃ a u, YE P T C n bx lv gen r ops i o a u σ ∧ ceA P T C n bx lv gen r ops Q rest (i + 1) (putF σ.1 o.dst a, putB σ.2 u)
def lexE (md : Region.Mode) (ops : Array Oper) : Nat → Nat → Array Bool → Bool
  | 0, _, _ => true
  | t + 1, k, listed => (Region.ready md ops listed).contains k && Region.free md ops listed k && lexE md ops t (k + 1) (listed.setIfInBounds k true)
theorem wpE_lex {Q : Sg → Prop} (hone : oneStore (ops.toList.take m) = true) (hw : waitB md ops m = true) : ∀ (l : List Oper) (k : Nat) (listed : Array Bool) (σ : Sg), k + l.length = m → (∀ j, j < l.length → l[j]? = ops[k + j]?) →
    listed.size = ops.size → (∀ j, j < k → listed.getD j false = true) → (∀ j, k ≤ j → j < ops.size → listed.getD j true = false) →
    lexE md ops l.length k listed = true → ceA P T C n bx lv gen r ops Q l k σ → wpE P T C n bx lv gen r m md ops Q l.length listed σ
  | [], k, listed, σ, hk, _, hs, h1, h2, _, h => ⟨⟨hs, fun j hj => h1 j (by simp at hk; omega), fun j hj hj' => h2 j (by simp at hk; omega) hj'⟩, h⟩
  | o :: l, k, listed, σ, hk, hl, hs, h1, h2, hB, h => by
    have h0 : ops[k]? = some o := by simpa using (hl 0 (by simp)).symm
    have hks : k < ops.size := (Array.getElem?_eq_some_iff.1 h0).1
    simp only [List.length_cons, lexE, Bool.and_eq_true] at hB
    obtain ⟨⟨hr, hf⟩, hB'⟩ := hB
    obtain ⟨a, u, hy, hK⟩ := h
    have hkm : k < m := by simp at hk; omega
    refine wpE_first T hone hw hkm h0 l.length listed σ (Region.free_spec h0 hf) (by simpa using hr) hy
      (wpE_lex hone hw l (k + 1) _ _ (by simp at hk; omega) (fun j hj => by have := hl (j + 1) (by simpa using hj); simpa [Nat.add_assoc, Nat.add_comm 1 j] using this) (by simpa using hs) (fun j hj => ?_) (fun j hj hj' => ?_) hB' hK)
    · rcases Nat.lt_succ_iff_lt_or_eq.1 hj with hlt | rfl
      · exact getD_set_true (h1 j hlt)
      · simp [hs, hks]
    · rw [getD_set_ne true (by omega)]
      exact h2 j (by omega) hj'
theorem wpOp_of_qE {i : Nat} {σ : Sg} {K : Sg → Prop} {K' : Act → World → Prop} {Q' : Exit → Act → World → Prop} {G : Gh} {tmps : Array Value} {w : World} (hs : SimE C n bx lv gen r σ G tmps w)
    (h : ∀ σ G tmps w, SimE C n bx lv gen r σ G tmps w → K σ → K' ⟨tmps, []⟩ w) (hh : qE P T C n bx lv gen r ops i K σ) : wpOp P ops Q' i K' ⟨tmps, []⟩ w := by
  unfold qE at hh
  unfold wpOp
  split
  · rename_i ho; simp only [ho] at hh; exact h _ _ _ _ hs hh
  · rename_i o ho
    simp only [ho] at hh
    obtain ⟨a, u, ⟨hd, hy⟩, hk⟩ := hh
    have hsF : SimF C n bx lv (gen + r) σ.1 G tmps w := ⟨hs.s, hs.f⟩
    rcases hy with ⟨_, rfl, _, hy⟩ | ⟨_, hgd, hnone, hr, rfl, d, cells, hdst, rfl, hy⟩ | ⟨_, hgd, hdst, rfl, t, dx, y, k, ok, f, z, cells, cs, hop, hok, hon, hod, hf, hx, hav, hcs, hsz, hz, hle, hcell, rfl⟩
    · rcases hy with ⟨hw, f, hf, hp⟩ | ⟨hw, rfl⟩
      · rw [wanted_of hsF hw]
        simp only [if_true]
        refine .inl ?_
        have hg : Gives P o ⟨tmps, []⟩ w fun v w' => Below w.heap.size w w' ∧ Rep (enOf C G (gen + r) w') v a := hp G tmps w (hsF.toG fun t x hx => (hf t x hx).1)
        refine hg.wp fun v w' ⟨hb, hr⟩ => ?_
        rw [Act.put_eq]
        exact h _ _ _ _ (hs.step hb hd hr) hk
      · rw [wanted_of hsF hw]
        simp only [Bool.false_eq_true, if_false]
        rw [Act.put_eq]
        exact h _ _ _ _ (hs.step (Below.refl _ _) hd (.tup #[] [] rfl (by simp))) hk
    · have hwt : Region.wanted o (yielded ops tmps) = true := by simp [Region.wanted, hgd]
      rw [hwt]
      simp only [if_true]
      refine .inl ?_
      rw [hdst] at hk
      have hdl : d < n := dstOK_lt hd d hdst
      rcases hy with ⟨e, dt, hop, he, rfl⟩ | ⟨e, x, f, y, hop, hf, hav, hc⟩
      · obtain ⟨i', zz, hi, _, _, hzz, hzc, hzl, hzk, _⟩ := T.info he
        have hall : ∀ (i : Nat) (u : Value), zz.cells[i]? = some u → okc u = true := fun i u hu => by
          have : u ∈ dt.z := by rw [← hzc, List.mem_iff_getElem?]; exact ⟨i, by simpa using hu⟩
          exact List.all_eq_true.1 hzk u this
        obtain ⟨G', hs'⟩ := hs.mkBox (Nat.le_add_right _ _) (by omega) hnone zz.cells e (dt.z.map fun v => .d (.v v)) ⟨by rw [List.length_map, ← hzc]; simp, fun i u hu => okc_one (hall i u hu), fun i u a hu ha => by
          simp only [List.getElem?_map, Option.map_eq_some_iff] at ha
          obtain ⟨y, hy, rfl⟩ := ha
          rw [← hzc] at hy
          have : y = u := by simp at hy; rw [hu] at hy; exact (Option.some.inj hy).symm
          subst this
          exact .d (.v _ (hall i y hu))⟩ hdl
        refine (gives_value (v := .pointer (some ⟨w.heap.size, 0, none⟩)) (w' := w.alloc (.cells zz.cells e)) (R := fun v w' => v = .pointer (some ⟨w.heap.size, 0, none⟩) ∧ w' = w.alloc (.cells zz.cells e)) ?_ ⟨rfl, rfl⟩ : Gives P o ⟨tmps, []⟩ w _).wp ?_
        · unfold execOp
          rw [hop]
          show Sem.run P _ w = _
          simp only [Instr.alloc, zeroValue, typeInfo, hi, hzz, newVar, newRow, Sem.run_bind, run_program, run_newObj, Result.andThen_ok, Sem.run_pure]
          rfl
        · rintro v w' ⟨rfl, rfl⟩
          rw [hdst]
          exact h _ G' _ _ hs' hk
      · have hcr := cellsOf_rep (hsF.toG fun t x hx => (hf t x hx).1) hc (SimG.av (hsF.toG fun t x hx => (hf t x hx).1) hav)
        obtain ⟨G', hs'⟩ := hs.mkBox (Nat.le_add_right _ _) (by omega) hnone (Act.eval ⟨tmps, []⟩ x).cells e cells hcr hdl
        refine (gives_value (v := .pointer (some ⟨w.heap.size, 0, none⟩)) (w' := w.alloc (.cells (Act.eval ⟨tmps, []⟩ x).cells e)) (R := fun v w' => v = .pointer (some ⟨w.heap.size, 0, none⟩) ∧ w' = w.alloc (.cells (Act.eval ⟨tmps, []⟩ x).cells e)) ?_ ⟨rfl, rfl⟩ : Gives P o ⟨tmps, []⟩ w _).wp ?_
        · unfold execOp
          rw [hop]
          show Sem.run P _ w = _
          simp only [Instr.box, newVar, newRow, Sem.run_bind, run_newObj, Result.andThen_ok, Sem.run_pure]
          rfl
        · rintro v w' ⟨rfl, rfl⟩
          rw [hdst]
          exact h _ G' _ _ hs' hk
    · have hwt : Region.wanted o (yielded ops tmps) = true := by simp [Region.wanted, hgd]
      rw [hwt]
      simp only [if_true]
      refine .inl ?_
      rw [hdst] at hk
      obtain ⟨_, b, cur, T', h1, h2, h3, h4, h5⟩ := hs.b _ cells hcell
      obtain ⟨v, hv1, hv2⟩ := hs.f dx _ hx
      have hv : Act.eval ⟨tmps, []⟩ (.tmp dx) = .pointer (some ⟨b, 0, none⟩) := by
        have e : Act.eval ⟨tmps, []⟩ (.tmp dx) = v := by simp [Act.eval, hv1]
        rw [e]
        cases hv2 with
        | ptr _ _ _ b0 _ hb0 hx0 => exact ptr_at hb0 hx0 b h1
      have hG := hsF.toG (f := f) fun t x hx => (hf t x hx).1
      have hrc := cellsOf_rep hG hcs (SimG.av hG hav)
      have hst := run_storeCells_at P b 0 T' (Act.eval ⟨tmps, []⟩ y).cells.toList 0 cur w h2 (by have := hrc.1; simp at this ⊢; omega) (fun v hv => by
        obtain ⟨i, hi⟩ := List.mem_iff_getElem?.1 hv
        exact hrc.2.1 i v (by simpa using hi))
      obtain ⟨dt, hdt, hdn⟩ : ∃ d, look' T.l t = some d ∧ d.n = cs.length := by
        unfold szAt at hsz
        split at hsz
        · rename_i d hdt; exact ⟨d, hdt, hsz⟩
        · exact absurd hsz.symm hz
      have hs' := hs.store hcell h1 h2 (RepC.setAt (off := 0) ⟨h3, h4, h5⟩ hrc (by omega))
      refine (gives_skip (R := fun v w' => v = undef ∧ w' = w.setRow b (cur.toList.take 0 ++ (Act.eval ⟨tmps, []⟩ y).cells.toList ++ cur.toList.drop (0 + (Act.eval ⟨tmps, []⟩ y).cells.toList.length)).toArray) ?_ ⟨rfl, rfl⟩ : Gives P o ⟨tmps, []⟩ w _).wp ?_
      · unfold execOp
        rw [hop]
        show Sem.run P _ w = _
        simp only [hv, Instr.storeAt, Instr.sureAddr, storeVar, Sem.run_bind, Sem.run_pure, Result.andThen_ok, T.sizeOf hdt]
        rw [if_neg (by rw [hdn]; simp; exact hrc.1)]
        simp only [Nat.add_zero] at hst
        simp only [hst, Result.andThen_ok]
      · rintro v w' ⟨rfl, rfl⟩
        rw [hdst]
        exact h _ G _ _ hs' hk
theorem wpAny_of_E {Q : Sg → Prop} {Q' : Exit → Act → World → Prop} {t : Nat} (hQ : ∀ listed σ G tmps w, SimE C n bx lv gen r σ G tmps w → Split m ops listed → Q σ → wpAny P md ops Q' t listed ⟨tmps, []⟩ w) :
    ∀ (fuel : Nat) (listed : Array Bool) (σ : Sg) (G : Gh) (tmps : Array Value) (w : World), SimE C n bx lv gen r σ G tmps w → wpE P T C n bx lv gen r m md ops Q fuel listed σ → wpAny P md ops Q' (fuel + t) listed ⟨tmps, []⟩ w
  | 0, _, _, _, _, _, hs, h => by rw [Nat.zero_add]; exact hQ _ _ _ _ _ hs h.1 h.2
  | fuel + 1, _, _, _, _, _, hs, h => by
    rw [Nat.add_right_comm]
    exact ⟨fun h0 => absurd h0 h.1, fun i hi => wpOp_of_qE T hs (fun σ G tmps w hs' => wpAny_of_E hQ fuel _ σ G tmps w hs') (h.2 i hi)⟩
theorem wpAny_tail {Q' : Exit → Act → World → Prop} (hw : waitB md ops m = true) (hrd : ∀ k, m ≤ k → ∀ o, ops[k]? = some o → ∀ e ∈ o.after, Region.binds md e = true → e.on < k) :
    ∀ (l : List Oper) (k : Nat) (listed : Array Bool) (act : Act) (w : World), m ≤ k → k + l.length = ops.size → (∀ j, l[j]? = ops[k + j]?) → listed.size = ops.size → (∀ j, j < k → listed.getD j false = true) → (∀ j, k ≤ j → j < ops.size → listed.getD j true = false) →
      wpL P ops Q' l act w → wpAny P md ops Q' l.length listed act w
  | [], k, listed, act, w, hm, hk, _, hs, h1, h2, h => by
    refine ⟨?_, h⟩
    refine List.eq_nil_iff_forall_not_mem.2 fun j hj => ?_
    obtain ⟨h3, oj, hoj, _⟩ := mem_ready.1 hj
    have hlt := (Array.getElem?_eq_some_iff.1 hoj).1
    have := h1 j (by simp at hk; omega)
    rw [unlisted h3] at this
    cases this
  | o :: l, k, listed, act, w, hm, hk, hl, hs, h1, h2, h => by
    have h0 : ops[k]? = some o := by simpa using (hl 0).symm
    have hks : k < ops.size := (Array.getElem?_eq_some_iff.1 h0).1
    have hready : k ∈ Region.ready md ops listed := mem_ready.2 ⟨h2 k (Nat.le_refl _) hks, o, h0, fun e he hb => h1 _ (hrd k hm o h0 e he hb)⟩
    refine ⟨fun hn => (by rw [hn] at hready; cases hready), fun i hi => ?_⟩
    have hik : i = k := by
      obtain ⟨h3, oi, hoi, _⟩ := mem_ready.1 hi
      rcases Nat.lt_trichotomy i k with hlt | he | hgt
      · have := h1 i hlt; rw [unlisted h3] at this; cases this
      · exact he
      · have := waits hw (by omega) hgt hi
        rw [unlisted (h2 k (Nat.le_refl _) hks)] at this
        cases this
    subst hik
    have ih := fun act w => wpAny_tail (Q' := Q') hw hrd l (i + 1) (listed.setIfInBounds i true) act w (by omega) (by simp at hk; omega) (fun j => by have := hl (j + 1); simpa [Nat.add_assoc, Nat.add_comm 1 j] using this) (by simpa using hs)
      (fun j hj => by
        rcases Nat.lt_succ_iff_lt_or_eq.1 hj with hlt | rfl
        · exact getD_set_true (h1 j hlt)
        · simp [hs, hks]) (fun j hj hj' => by rw [getD_set_ne true (by omega)]; exact h2 j (by omega) hj')
    simp only [wpL] at h
    unfold wpOp
    simp only [h0]
    split
    · rename_i hw'
      rw [if_pos hw'] at h
      exact .inl (Oper.wp_mono ih h)
    · rename_i hw'
      rw [if_neg hw'] at h
      exact ih _ _ h
def foreB (md : Region.Mode) (ops : Array Oper) (m : Nat) : Bool := (List.range ops.size).all fun k => decide (k < m) || match ops[k]? with | some o => o.after.toList.all fun e => !Region.binds md e || decide (e.on < k) | none => true
theorem foreB_spec (h : foreB md ops m = true) : ∀ k, m ≤ k → ∀ o, ops[k]? = some o → ∀ e ∈ o.after, Region.binds md e = true → e.on < k := by
  intro k hm o ho e he hb
  have hlt := (Array.getElem?_eq_some_iff.1 ho).1
  have h1 := List.all_eq_true.1 h k (by simpa using hlt)
  simp only [Bool.or_eq_true, decide_eq_true_eq] at h1
  have h2 := h1.resolve_left (by omega)
  rw [ho] at h2
  have h3 := List.all_eq_true.1 h2 e (by simpa using he)
  simp only [Bool.or_eq_true, Bool.not_eq_true', decide_eq_true_eq] at h3
  rcases h3 with h3 | h3
  · rw [hb] at h3; cases h3
  · exact h3
def CE (P : Program) (T : Tab P) (C : Ctx) (n : Nat) (bx : List (Nat × List A)) (lv : List Nat) (gen r : Nat) (ops : Array Oper) (Q : St → Prop) (l : List Oper) (i : Nat) (f : List (Nat × A)) (bn : List (Nat × List A)) : Prop :=
  ceA P T C n bx lv gen r ops (fun σ => ∃ f' bn', (∀ t, look f' t = σ.1 t) ∧ (∀ g, look' bn' g = σ.2 g) ∧ Q ⟨f', bn' ++ bx, lv, gen + r⟩) l i (look f, look' bn)
def regionOKE (m r : Nat) (ops : Array Oper) : Bool :=
  Nat.ble m ops.size && oneStore (ops.toList.take m) && waitB .any ops m && foreB .any ops m && lexE .any ops m 0 (Array.replicate ops.size false) && Nat.beq (cntNew ops.toList m) r
theorem W.regionE {id : Nat} {l l1 l2 : List Oper} {f : List (Nat × A)} {Q : Exit → St → Prop} (m r : Nat) (hB : regionOKE m r l.toArray = true) (h1 : l.take m = l1) (h2 : l.drop m = l2)
    (h : CE P T C n bx lv gen r l.toArray (WO P C n l.toArray Q l2) l1 0 f []) : W P C n (.region id l.toArray true) Q ⟨f, bx, lv, gen⟩ := by
  subst h1; subst h2
  intro tmps w ⟨G, hs⟩
  simp only [regionOKE, Bool.and_eq_true] at hB
  obtain ⟨⟨⟨⟨⟨hm, hone⟩, hw⟩, hfore⟩, hlex⟩, hr⟩ := hB
  have hm : m ≤ l.length := by simpa using Nat.le_of_ble_eq_true hm
  have hb : Below w.heap.size w { w with drawn := w.drawn + 1 } := (Below.refl _ w).drew
  have hs' : SimE C n bx lv gen r (look f, fun _ => none) G tmps { w with drawn := w.drawn + 1 } := SimE.ofG (hs.evolve hb).2
  have hlen : (l.take m).length = m := by simp; omega
  refine wp_region_any T.mixed ?_
  have hsz : l.toArray.size = (l.take m).length + (l.drop m).length := by simp; omega
  rw [hsz]
  refine wpAny_of_E T (m := m) (Q := fun σ => ∃ f' bn', (∀ t, look f' t = σ.1 t) ∧ (∀ g, look' bn' g = σ.2 g) ∧ WO P C n l.toArray Q (l.drop m) ⟨f', bn' ++ bx, lv, gen + r⟩) (fun listed σ G tmps w hs hsp ⟨f', bn', e1, e2, hq⟩ => ?_) _ _ _ G _ _ hs' ?_
  · refine wpAny_tail hw (foreB_spec hfore) (l.drop m) m listed ⟨tmps, []⟩ w (Nat.le_refl _) (by simp; omega) (fun j => by simp [List.getElem?_drop]) hsp.1 hsp.2.1 hsp.2.2 ?_
    exact hq tmps w ⟨G, hs.toG (fun t a ha => by rw [← e1]; exact ha) (fun g c hc => by rw [← e2]; exact hc)⟩
  · refine wpE_lex T hone hw (l.take m) 0 _ _ (by rw [hlen]; omega) (fun j hj => ?_) (by simp; omega) (fun j hj => by omega) (fun j _ hj => ?_) (by rw [hlen]; rw [hsz, hlen] at hlex; exact hlex) h
    · rw [hlen] at hj
      rw [Nat.zero_add]
      simp [List.getElem?_take, hj]
    · have hj' : j < l.length := by simpa using hj
      have e : min m l.length + (l.length - m) = l.length := by omega
      simp [e, hj']
variable {T}
variable {op : Op} {ty : TypeId} {pos : String} {af : Array Edge} {a : A} {d i : Nat} {rest : List Oper} {f : List (Nat × A)} {bn : List (Nat × List A)} {Q : St → Prop}
theorem CE.nil (h : Q ⟨f, bn ++ bx, lv, gen + r⟩) : CE P T C n bx lv gen r ops Q [] i f bn := ⟨f, bn, fun _ => rfl, fun _ => rfl, h⟩
theorem cePu (hn : isNew ⟨some d, op, ty, pos, af, none⟩ = false) (hp : Pu P C n ⟨restr f (slotsOf op), bx, lv, gen + r⟩ ⟨some d, op, ty, pos, af, none⟩ a) (hd : Nat.blt d n = true) (h : CE P T C n bx lv gen r ops Q rest (i + 1) ((d, a) :: f) bn) :
    CE P T C n bx lv gen r ops Q (⟨some d, op, ty, pos, af, none⟩ :: rest) i f bn := by
  unfold CE at *
  rw [look_put] at h
  refine ⟨a, none, ⟨hd, .inl ⟨hn, rfl, hd, .inl ⟨rfl, _, fun t x hx => ?_, hp⟩⟩⟩, h⟩
  obtain ⟨h1, h2⟩ := restr_look hx
  exact ⟨h1, List.mem_append.2 (.inl h2)⟩
end
end Go.Ab
namespace Go.Ab
open Go.RowKit
section
variable {P : Program} (T : Tab P) {C : Ctx} {n : Nat} {ops : Array Oper} {Q : Exit → St → Prop} {rest : List Oper} {c : Code}
variable {f : List (Nat × A)} {bx : List (Nat × List A)} {lv : List Nat} {gen d : Nat} {ty : TypeId} {pos : String} {af : Array Edge} {a : A} {dst : Option Nat}
theorem remR {t t' : Nat} {x y : Operand} {k : IntKind} {p q : Int} (hx : av f x = some (.d (.v (.int k p)))) (hy : av f y = some (.d (.v (.int k q)))) (hq : q ≠ 0) (ho : okc (.int k (p.tmod q)) = true) :
    Pu P C n ⟨f, bx, lv, gen⟩ ⟨dst, .binOp .rem t x y t', ty, pos, af, none⟩ (.d (.v (.int k (p.tmod q)))) := by
  refine PuOK.pu fun G tmps w hs => ?_
  have hrx := hs.av hx
  have hry := hs.av hy
  generalize hvx : Act.eval ⟨tmps, []⟩ x = vx at hrx
  generalize hvy : Act.eval ⟨tmps, []⟩ y = vy at hry
  cases hrx with | d hrx => cases hrx with | v _ _ =>
  cases hry with | d hry => cases hry with | v _ _ =>
  refine ⟨_, ?_, .d (.v _ ho)⟩
  unfold execOp
  show Sem.run P _ w = _
  simp [hvx, hvy, eqGuard, binOp, Op.intDiv, hq]
  rfl
theorem quoR {t t' : Nat} {x y : Operand} {k : IntKind} {p q : Int} (hx : av f x = some (.d (.v (.int k p)))) (hy : av f y = some (.d (.v (.int k q)))) (hq : q ≠ 0) (ho : okc (.int k (k.wrap (p.tdiv q))) = true) :
    Pu P C n ⟨f, bx, lv, gen⟩ ⟨dst, .binOp .quo t x y t', ty, pos, af, none⟩ (.d (.v (.int k (k.wrap (p.tdiv q))))) := by
  refine PuOK.pu fun G tmps w hs => ?_
  have hrx := hs.av hx
  have hry := hs.av hy
  generalize hvx : Act.eval ⟨tmps, []⟩ x = vx at hrx
  generalize hvy : Act.eval ⟨tmps, []⟩ y = vy at hry
  cases hrx with | d hrx => cases hrx with | v _ _ =>
  cases hry with | d hry => cases hry with | v _ _ =>
  refine ⟨_, ?_, .d (.v _ ho)⟩
  unfold execOp
  show Sem.run P _ w = _
  simp [hvx, hvy, eqGuard, binOp, Op.intDiv, hq]
  rfl
theorem strAdd {t t' : Nat} {x y : Operand} {p q : ByteArray} (hx : av f x = some (.d (.v (.string p)))) (hy : av f y = some (.d (.v (.string q)))) (hb : p.size + q.size ≤ 9223372036854775807) :
    Pu P C n ⟨f, bx, lv, gen⟩ ⟨dst, .binOp .add t x y t', ty, pos, af, none⟩ (.d (.v (.string (p ++ q)))) := by
  refine PuOK.pu fun G tmps w hs => ?_
  have hrx := hs.av hx
  have hry := hs.av hy
  generalize hvx : Act.eval ⟨tmps, []⟩ x = vx at hrx
  generalize hvy : Act.eval ⟨tmps, []⟩ y = vy at hry
  cases hrx with | d hrx => cases hrx with | v _ _ =>
  cases hry with | d hry => cases hry with | v _ _ =>
  refine ⟨_, ?_, .d (.v _ ?_)⟩
  · unfold execOp
    show Sem.run P _ w = _
    have : ¬ ((p.size + q.size : Nat) : Int) > IntKind.i64.max := by simp [IntKind.max, IntKind.signed, IntKind.bits]; omega
    simp only [hvx, hvy, eqGuard, binOp, Op.stringOp, if_neg this]
    simp
    rfl
  · simp [okc, maxLen, ByteArray.size_append]
    omega
end
end Go.Ab
namespace Go.Tb
open Go.Ab
abbrev ci (n : Int) : D := .v (.int .i64 n)
abbrev cs (s : ByteArray) : D := .v (.string s)
structure Val where
  kind : Int
  n : Int
  s : ByteArray
  deriving DecidableEq
@[reducible] def Val.c (x : Val) : List D := [ci x.kind, ci x.n, cs x.s]
structure Col where
  name : ByteArray
  type : Int
  deriving DecidableEq
@[reducible] def Col.c (x : Col) : List D := [cs x.name, ci x.type]
inductive Ex where
  | mk (op : Int) (name : ByteArray) (v : Val) (kids : List Ex)
def Ex.op : Ex → Int | .mk a _ _ _ => a
def Ex.name : Ex → ByteArray | .mk _ a _ _ => a
def Ex.v : Ex → Val | .mk _ _ a _ => a
def Ex.kids : Ex → List Ex | .mk _ _ _ a => a
mutual
def Ex.kc : Ex → List (List D)
  | .mk _ _ _ kids => Ex.kcs kids
def Ex.kcs : List Ex → List (List D)
  | [] => []
  | e :: r => [ci e.op, cs e.name, ci e.v.kind, ci e.v.n, cs e.v.s, .sl (Ex.kc e)] :: Ex.kcs r
end
@[reducible] def Ex.c (e : Ex) : List D := [ci e.op, cs e.name, ci e.v.kind, ci e.v.n, cs e.v.s, .sl e.kc]
theorem Ex.kcs_eq : ∀ l, Ex.kcs l = l.map Ex.c
  | [] => rfl
  | e :: r => by simp [Ex.kcs, Ex.kcs_eq r]
theorem Ex.kc_eq (e : Ex) : e.kc = e.kids.map Ex.c := by cases e; simp [Ex.kc, Ex.kids, Ex.kcs_eq]
theorem Ex.kc_len (e : Ex) : e.kc.length = e.kids.length := by simp [Ex.kc_eq]
theorem Ex.kc_idx {e : Ex} {i : Nat} {k : Ex} (h : e.kids[i]? = some k) : e.kc[i]? = some k.c := by rw [Ex.kc_eq]; exact idx_map h
theorem Ex.ind {p : Ex → Prop} (h : ∀ e, (∀ k ∈ e.kids, p k) → p e) : ∀ e, p e := by
  intro e
  induction hn : _root_.SizeOf.sizeOf e using Nat.strongRecOn generalizing e with
  | _ m ih =>
    subst hn
    refine h e fun k hk => ih (_root_.SizeOf.sizeOf k) ?_ k rfl
    cases e with
    | mk op name v kids =>
      have := List.sizeOf_lt_of_mem (show k ∈ kids from hk)
      simp; omega
structure Itm where
  e : Ex
  name : ByteArray
@[reducible] def Itm.c (x : Itm) : List D := [ci x.e.op, cs x.e.name, ci x.e.v.kind, ci x.e.v.n, cs x.e.v.s, .sl x.e.kc, cs x.name]
structure Agr where
  fn : ByteArray
  col : ByteArray
  name : ByteArray
@[reducible] def Agr.c (x : Agr) : List D := [cs x.fn, cs x.col, cs x.name]
structure Srt where
  col : ByteArray
  desc : Bool
@[reducible] def Srt.c (x : Srt) : List D := [cs x.col, .v (.bool x.desc)]
@[reducible] def sc (s : ByteArray) : List D := [cs s]
structure Stp where
  op : Int
  cond : Ex
  items : List Itm
  cols : List ByteArray
  aggs : List Agr
  sorts : List Srt
  n : Int
  table : ByteArray
@[reducible] def Stp.c (x : Stp) : List D := [ci x.op, ci x.cond.op, cs x.cond.name, ci x.cond.v.kind, ci x.cond.v.n, cs x.cond.v.s, .sl x.cond.kc,
  .sl (x.items.map Itm.c), .sl (x.cols.map sc), .sl (x.aggs.map Agr.c), .sl (x.sorts.map Srt.c), ci x.n, cs x.table]
structure Tbl where
  cols : List Col
  rows : List (List Val)
@[reducible] def rc (r : List Val) : List D := [.sl (r.map Val.c)]
@[reducible] def Tbl.c (x : Tbl) : List D := [.sl (x.cols.map Col.c), .sl (x.rows.map rc)]
structure Nmd where
  name : ByteArray
  table : Tbl
@[reducible] def Nmd.c (x : Nmd) : List D := [cs x.name, .sl (x.table.cols.map Col.c), .sl (x.table.rows.map rc)]
structure Qry where
  from_ : ByteArray
  steps : List Stp
@[reducible] def Qry.c (x : Qry) : List D := [cs x.from_, .sl (x.steps.map Stp.c)]
@[reducible] def ic (k : Int) : List D := [ci k]
/- ### typed data out of a reading -/
section
variable {P : Program} {T : Tab P}
theorem conf_list {α : Type} {f : α → List D} {t : Nat} : ∀ {es : List (List D)}, (∀ x ∈ es, Conf T t x) → (∀ x, x ∈ es → Conf T t x → ∃ a, x = f a) → ∃ l : List α, es = l.map f
  | [], _, _ => ⟨[], rfl⟩
  | x :: r, h, hf => by
    obtain ⟨a, ha⟩ := hf x (by simp) (h x (by simp))
    obtain ⟨l, hl⟩ := conf_list (fun y hy => h y (by simp [hy])) (fun y hy => hf y (by simp [hy])) (es := r)
    exact ⟨a :: l, by rw [ha, hl]; rfl⟩
theorem conf_st2 {t a b : Nat} {oa ob : Nat} {na nb : String} {l : List D} (h : Conf T t l) (hk : kdAt T t = .st [(oa, a, na), (ob, b, nb)]) : ∃ p q, l = p ++ q ∧ Conf T a p ∧ Conf T b q := by
  obtain ⟨ps, rfl, hl, hc⟩ := h.toSt hk
  match ps, hl with
  | [p, q], _ => exact ⟨p, q, by simp, hc 0 _ _ _ p rfl rfl, hc 1 _ _ _ q rfl rfl⟩
theorem conf_st3 {t a b c : Nat} {oa ob oc : Nat} {na nb nc : String} {l : List D} (h : Conf T t l) (hk : kdAt T t = .st [(oa, a, na), (ob, b, nb), (oc, c, nc)]) : ∃ p q r, l = p ++ (q ++ r) ∧ Conf T a p ∧ Conf T b q ∧ Conf T c r := by
  obtain ⟨ps, rfl, hl, hc⟩ := h.toSt hk
  match ps, hl with
  | [p, q, r], _ => exact ⟨p, q, r, by simp, hc 0 _ _ _ p rfl rfl, hc 1 _ _ _ q rfl rfl, hc 2 _ _ _ r rfl rfl⟩
theorem conf_st4 {t a b c d : Nat} {oa ob oc od : Nat} {na nb nc nd : String} {l : List D} (h : Conf T t l) (hk : kdAt T t = .st [(oa, a, na), (ob, b, nb), (oc, c, nc), (od, d, nd)]) :
    ∃ p q r s, l = p ++ (q ++ (r ++ s)) ∧ Conf T a p ∧ Conf T b q ∧ Conf T c r ∧ Conf T d s := by
  obtain ⟨ps, rfl, hl, hc⟩ := h.toSt hk
  match ps, hl with
  | [p, q, r, s], _ => exact ⟨p, q, r, s, by simp, hc 0 _ _ _ p rfl rfl, hc 1 _ _ _ q rfl rfl, hc 2 _ _ _ r rfl rfl, hc 3 _ _ _ s rfl rfl⟩
theorem conf_st8 {t a b c d e g i j : Nat} {oa ob oc od oe og oi oj : Nat} {na nb nc nd ne ng ni nj : String} {l : List D} (h : Conf T t l) (hk : kdAt T t = .st [(oa, a, na), (ob, b, nb), (oc, c, nc), (od, d, nd), (oe, e, ne), (og, g, ng), (oi, i, ni), (oj, j, nj)]) :
    ∃ p q r s u v x y, l = p ++ (q ++ (r ++ (s ++ (u ++ (v ++ (x ++ y)))))) ∧ Conf T a p ∧ Conf T b q ∧ Conf T c r ∧ Conf T d s ∧ Conf T e u ∧ Conf T g v ∧ Conf T i x ∧ Conf T j y := by
  obtain ⟨ps, rfl, hl, hc⟩ := h.toSt hk
  match ps, hl with
  | [p, q, r, s, u, v, x, y], _ =>
    exact ⟨p, q, r, s, u, v, x, y, by simp, hc 0 _ _ _ p rfl rfl, hc 1 _ _ _ q rfl rfl, hc 2 _ _ _ r rfl rfl, hc 3 _ _ _ s rfl rfl, hc 4 _ _ _ u rfl rfl, hc 5 _ _ _ v rfl rfl, hc 6 _ _ _ x rfl rfl, hc 7 _ _ _ y rfl rfl⟩
variable {tv tk ti ts tc tcs te teo tes : Nat} {o1 o2 o3 o4 o5 o6 o7 o8 : Nat} {n1 n2 n3 n4 n5 n6 n7 n8 : String} {l : List D}
theorem conf_int (h : Conf T ti l) (hk : kdAt T ti = .int .i64) : ∃ n, l = [ci n] := let ⟨n, h, _⟩ := h.toInt hk; ⟨n, h⟩
theorem conf_str (h : Conf T ts l) (hk : kdAt T ts = .str) : ∃ n, l = [cs n] := let ⟨n, h, _⟩ := h.toStr hk; ⟨n, h⟩
theorem conf_val (h : Conf T tv l) (hv : kdAt T tv = .st [(o1, tk, n1), (o2, ti, n2), (o3, ts, n3)]) (hk : kdAt T tk = .int .i64) (hi : kdAt T ti = .int .i64) (hs : kdAt T ts = .str) : ∃ x : Val, l = x.c := by
  obtain ⟨p, q, r, rfl, h1, h2, h3⟩ := conf_st3 h hv
  obtain ⟨a, rfl⟩ := conf_int h1 hk
  obtain ⟨b, rfl⟩ := conf_int h2 hi
  obtain ⟨c, rfl⟩ := conf_str h3 hs
  exact ⟨⟨a, b, c⟩, rfl⟩
theorem conf_sl {α : Type} {f : α → List D} {t e : Nat} (h : Conf T t l) (hk : kdAt T t = .slice e) (hf : ∀ x, Conf T e x → ∃ a, x = f a) : ∃ r : List α, l = [.sl (r.map f)] := by
  obtain ⟨es, rfl, h1, _⟩ := h.toSlice hk
  obtain ⟨r, rfl⟩ := conf_list h1 (fun x _ hx => hf x hx)
  exact ⟨r, rfl⟩
theorem conf_expr (he : kdAt T te = .st [(o1, teo, n1), (o2, ts, n2), (o3, tv, n3), (o4, tes, n4)]) (heo : kdAt T teo = .int .i64) (hes : kdAt T tes = .slice te)
    (hv : kdAt T tv = .st [(o5, tk, n5), (o6, ti, n6), (o7, ts, n7)]) (hk : kdAt T tk = .int .i64) (hi : kdAt T ti = .int .i64) (hs : kdAt T ts = .str) : ∀ (l : List D), Conf T te l → ∃ x : Ex, l = x.c := by
  intro l
  induction hn : _root_.SizeOf.sizeOf l using Nat.strongRecOn generalizing l with
  | _ m ih =>
    intro h
    subst hn
    obtain ⟨p, q, r, s, rfl, h1, h2, h3, h4⟩ := conf_st4 h he
    obtain ⟨a, rfl⟩ := conf_int h1 heo
    obtain ⟨b, rfl⟩ := conf_str h2 hs
    obtain ⟨v, rfl⟩ := conf_val h3 hv hk hi hs
    obtain ⟨es, rfl, h5, _⟩ := h4.toSlice hes
    obtain ⟨kids, rfl⟩ := conf_list (f := Ex.c) h5 (fun x hx hc => ih (_root_.SizeOf.sizeOf x) (by
      have := List.sizeOf_lt_of_mem hx
      simp; omega) x rfl hc)
    exact ⟨.mk a b v kids, by simp [Ex.c, Ex.op, Ex.name, Ex.v, Ex.kc_eq, Ex.kids]⟩
end
end Go.Tb
namespace Go.Tb
open Go.Ab
def Still (caps : List A) : Prop := (∀ bx k, caps.map (conv bx (k + 2)) = caps) ∧ noIdL caps = true
def idx (o : Option Nat) : Int := match o with | some i => i | none => -1
theorem idx_nonneg {α : Type} {l : List α} {p : α → Bool} : decide (0 ≤ idx (l.findIdx? p)) = l.any p := by
  cases h : l.findIdx? p with
  | none =>
    have := List.findIdx?_eq_none_iff.1 h
    simp only [idx]
    rw [Bool.eq_iff_iff]
    simp only [decide_eq_true_eq, List.any_eq_true]
    constructor
    · intro h; exact absurd h (by decide)
    · rintro ⟨x, hx, hp⟩; rw [this x hx] at hp; cases hp
  | some i =>
    obtain ⟨hi, hp, _⟩ := List.findIdx?_eq_some_iff_getElem.1 h
    simp only [idx]
    rw [Bool.eq_iff_iff]
    simp only [decide_eq_true_eq, List.any_eq_true]
    exact ⟨fun _ => ⟨_, List.getElem_mem hi, hp⟩, fun _ => decide_eq_true (Int.natCast_nonneg i)⟩
def noneBefore {α : Type} (p : α → Bool) (l : List α) (k : Nat) : Prop := ∀ j x, j < k → l[j]? = some x → p x = false
theorem noneBefore.zero {α : Type} {p : α → Bool} {l : List α} : noneBefore p l 0 := fun _ _ h => by omega
theorem noneBefore.step {α : Type} {p : α → Bool} {l : List α} {k : Nat} {x : α} (h : noneBefore p l k) (hx : l[k]? = some x) (hp : p x = false) : noneBefore p l (k + 1) := by
  intro j y hj hy
  rcases Nat.lt_succ_iff_lt_or_eq.1 hj with hlt | rfl
  · exact h j y hlt hy
  · rw [hx] at hy; simp only [Option.some.injEq] at hy; subst hy; exact hp
theorem noneBefore.found {α : Type} {p : α → Bool} {l : List α} {k : Nat} {x : α} (h : noneBefore p l k) (hx : l[k]? = some x) (hp : p x = true) : l.findIdx? p = some k := by
  rw [List.findIdx?_eq_some_iff_getElem]
  obtain ⟨hk', hx'⟩ := List.getElem?_eq_some_iff.1 hx
  refine ⟨hk', by rw [hx']; exact hp, fun j hj => ?_⟩
  rw [h j (l[j]) hj (by simp)]
  simp
theorem noneBefore.end_ {α : Type} {p : α → Bool} {l : List α} {k : Nat} (h : noneBefore p l k) (hk : k = l.length) : l.findIdx? p = none := by
  rw [List.findIdx?_eq_none_iff]
  intro x hx
  obtain ⟨j, hj⟩ := List.mem_iff_getElem?.1 hx
  exact h j x (by rw [hk]; exact (List.getElem?_eq_some_iff.1 hj).1) hj
def fits (k w : Int) : Bool := decide (k = w) || decide (k = 0)
def inR (n : Int) : Bool := decide (-1000000000000000 ≤ n) && decide (n ≤ 1000000000000000)
abbrev B (l : Array UInt8) : ByteArray := ⟨l⟩
def wMin : ByteArray := B #[109, 105, 110]
def wMax : ByteArray := B #[109, 97, 120]
def wHas : ByteArray := B #[104, 97, 115]
def wStarts : ByteArray := B #[115, 116, 97, 114, 116, 115]
def wAbs : ByteArray := B #[97, 98, 115]
def wLen : ByteArray := B #[108, 101, 110]
def words : List ByteArray := [B #[97, 110, 100], B #[111, 114], B #[110, 111, 116], B #[110, 117, 108, 108], B #[116, 114, 117, 101], B #[102, 97, 108, 115, 101]]
def arity (s : ByteArray) : Int := if s = wMin ∨ s = wMax ∨ s = wHas ∨ s = wStarts then 2 else if s = wAbs ∨ s = wLen then 1 else 0
def kidsOf (op : Int) : Int := if op = 1 ∨ op = 2 then 0 else if op = 3 ∨ op = 4 then 1 else if op = 16 then -1 else 2
def valErr (k : Int) (v : Val) : Int :=
  if v.kind ≠ 0 ∧ (v.kind ≠ k ∨ k < 1 ∨ 3 < k) then 14
  else if (v.kind = 1 ∧ (v.n < 0 ∨ 1 < v.n)) ∨ (v.kind = 2 ∧ inR v.n = false) then 2
  else if v.kind = 3 ∧ 200 < v.s.size then 7
  else if (v.kind ≠ 3 ∧ v.s ≠ B #[]) ∨ ((v.kind = 0 ∨ v.kind = 3) ∧ v.n ≠ 0) then 1
  else 0
def lower (b : UInt8) : Bool := decide (97 ≤ b.toNat) && decide (b.toNat ≤ 122)
def idChar (b : UInt8) : Bool := lower b || (decide (48 ≤ b.toNat) && decide (b.toNat ≤ 57)) || decide (b.toNat = 95)
def bys (s : ByteArray) : List UInt8 := s.data.toList
def identB (s : ByteArray) : Bool := !decide (s = B #[]) && decide (s.size ≤ 40) && lower ((bys s).headD 0) && (bys s).all idChar && !(words.any fun w => decide (s = w))
def badChar (b : UInt8) : Bool := decide (b.toNat < 32) || decide (126 < b.toNat) || decide (b.toNat = 34)
def constErr (v : Val) : Int := if valErr v.kind v ≠ 0 then valErr v.kind v else if (bys v.s).any badChar then 10 else 0
end Go.Tb
namespace Go.Tb
open Go.Ab
theorem okc_size {s : ByteArray} (h : okc (.string s) = true) : (bys s).length ≤ maxLen := by simpa [okc, bys] using h
theorem bytes_len (s : ByteArray) : (bys s).length = s.size := by simp [bys]
theorem indexByte_ge0 (c : UInt8) : ∀ l : List UInt8, (0 ≤ Lib.indexByte l c) ↔ c ∈ l
  | [] => by simp [Lib.indexByte]
  | b :: l => by
    have ih := indexByte_ge0 c l
    have h1 := Lib.indexByte_ge l c
    simp only [Lib.indexByte, List.mem_cons]
    grind
theorem indexByte_len (c : UInt8) : ∀ l : List UInt8, Lib.indexByte l c ≤ l.length
  | [] => by simp [Lib.indexByte]
  | b :: l => by
    have ih := indexByte_len c l
    simp only [Lib.indexByte, List.length_cons]
    grind
theorem indexByte_ok {s : ByteArray} (h : okc (.string s) = true) (c : UInt8) : okc (.int .i64 (Lib.indexByte (bys s) c)) = true := by
  have h1 := Lib.indexByte_ge (bys s) c
  have h2 := indexByte_len c (bys s)
  have h3 := okc_size h
  have h4 : maxLen = 9223372036854775807 := rfl
  simp only [okc, Bool.and_eq_true, decide_eq_true_eq]
  refine ⟨?_, ?_⟩
  · show -9223372036854775808 ≤ _; omega
  · show _ ≤ 9223372036854775807; omega
theorem head_byte {s : ByteArray} (h : s ≠ B #[]) : s[((0 : Int)).toNat]? = some ((bys s).headD 0) := by
  refine byteList (k := 0) ?_
  have : bys s ≠ [] := by
    intro hb
    apply h
    have : s.data = #[] := by simpa [bys] using hb
    cases s; simp_all [B]
  show (bys s)[0]? = _
  cases hb : bys s with
  | nil => exact absurd hb this
  | cons b l => rfl
theorem empty_bytes {s : ByteArray} : s = B #[] ↔ bys s = [] := by
  constructor
  · rintro rfl; rfl
  · intro hb
    have : s.data = #[] := by simpa [bys] using hb
    cases s; simp_all [B]
end Go.Tb
namespace Go.Tb
open Go.Ab
theorem head_at {l : List UInt8} {k : Nat} {b : UInt8} (h : l[k]? = some b) : k = 0 → l.headD 0 = b := by
  rintro rfl; cases l <;> simp_all
theorem any_of_at {α : Type} {l : List α} {p : α → Bool} {k : Nat} {x : α} (h : l[k]? = some x) (hp : p x = true) : l.any p = true := List.any_eq_true.2 ⟨x, List.mem_of_getElem? h, hp⟩
theorem any_of_none {α : Type} {l : List α} {p : α → Bool} (h : l.findIdx? p = none) : l.any p = false := by
  rw [← idx_nonneg, h]; rfl
section
variable {P : Program} {C : Ctx} {n : Nat} {Q : Exit → St → Prop} {c : Code} {f : List (Nat × A)} {bx : List (Nat × List A)} {lv : List Nat} {gen : Nat}
theorem inBox {g j : Nat} {cells : List A} {v : Value} (hb : look' bx g = some cells) (hv : cells[j]? = some (.d (.v v))) (h : okc v = true → W P C n c Q ⟨f, bx, lv, gen⟩) : W P C n c Q ⟨f, bx, lv, gen⟩ := by
  intro tmps w ⟨G, hs⟩
  obtain ⟨b, cs, T, h1, h2, h3, h4, h5⟩ := hs.box g cells hb
  have hj : j < cs.size := by rw [h3]; exact (List.getElem?_eq_some_iff.1 hv).1
  have := h5 j cs[j] _ (by simp [hj]) hv
  generalize cs[j] = u at this
  cases this with | d hd => cases hd with | v _ hok => exact h hok tmps w ⟨G, hs⟩
end
end Go.Tb
namespace Go.Tb
open Go.Ab
theorem exAt {α : Type} {l : List α} {k : Nat} (h : k < l.length) : ∃ x, l[k]? = some x ∧ l.drop k = x :: l.drop (k + 1) := ⟨l[k], by simp [h], List.drop_eq_getElem_cons h⟩
theorem dropEnd {α : Type} {l : List α} {k : Nat} (h : l.length ≤ k) : l.drop k = [] := List.drop_eq_nil_of_le h
theorem puI {P : Program} {C : Ctx} {n : Nat} {st : St} {o : Oper} {k : IntKind} {x y : Int} (h : Pu P C n st o (.d (.v (.int k x)))) (e : x = y) : Pu P C n st o (.d (.v (.int k y))) := e ▸ h
end Go.Tb
namespace Go.Tb
open Go.Ab
section
variable {P : Program} {C : Ctx} {n : Nat} {Q : Exit → St → Prop} {c : Code} {f : List (Nat × A)} {bx : List (Nat × List A)} {lv : List Nat} {gen : Nat}
theorem lenBox {g j : Nat} {cells : List A} {es : List (List D)} (hb : look' bx g = some cells) (hv : cells[j]? = some (.d (.sl es))) (h : es.length ≤ maxLen → W P C n c Q ⟨f, bx, lv, gen⟩) : W P C n c Q ⟨f, bx, lv, gen⟩ := by
  intro tmps w ⟨G, hs⟩
  obtain ⟨b, cs, T, h1, h2, h3, h4, h5⟩ := hs.box g cells hb
  have hj : j < cs.size := by rw [h3]; exact (List.getElem?_eq_some_iff.1 hv).1
  have := h5 j cs[j] _ (by simp [hj]) hv
  generalize cs[j] = u at this
  cases this with | d hd => exact h hd.len.choose_spec.choose_spec.2 tmps w ⟨G, hs⟩
end
end Go.Tb
namespace Go.Tb
open Go.Ab
theorem Ex.kids_mk (op : Int) (name : ByteArray) (v : Val) (kids : List Ex) : (Ex.mk op name v kids).kids = kids := rfl
mutual
def msr : Ex → Int → Int × Int
  | .mk _ _ _ kids, n => ((msrL kids (n + 1) 0).1, (msrL kids (n + 1) 0).2 + 1)
def msrL : List Ex → Int → Int → Int × Int
  | [], n, d => (n, d)
  | k :: r, n, d => if 200 < n then (n, d) else msrL r (msr k n).1 (if d < (msr k n).2 then (msr k n).2 else d)
end
theorem msr_eq (e : Ex) (n : Int) : msr e n = ((msrL e.kids (n + 1) 0).1, (msrL e.kids (n + 1) 0).2 + 1) := by cases e; simp [msr, Ex.kids_mk]
mutual
def count : Ex → Int → Int
  | .mk _ _ _ kids, most => countL kids most 1
def countL : List Ex → Int → Int → Int
  | [], _, n => n
  | k :: r, most, n => if n ≤ most then countL r most (n + count k (most - n)) else n
end
theorem count_eq (e : Ex) (m : Int) : count e m = countL e.kids m 1 := by cases e; simp [count, Ex.kids_mk]
mutual
def lev : Ex → Int
  | .mk _ _ _ kids => levL kids 0 + 1
def levL : List Ex → Int → Int
  | [], d => d
  | k :: r, d => levL r (if d < lev k then lev k else d)
end
theorem lev_eq (e : Ex) : lev e = levL e.kids 0 + 1 := by cases e; simp [lev, Ex.kids_mk]
mutual
def cnt : Ex → Int
  | .mk _ _ _ kids => cntL kids + 1
def cntL : List Ex → Int
  | [] => 0
  | k :: r => cnt k + cntL r
end
theorem cnt_eq (e : Ex) : cnt e = cntL e.kids + 1 := by cases e; simp [cnt, Ex.kids_mk]
mutual
theorem cnt_pos : ∀ e : Ex, 1 ≤ cnt e
  | .mk _ _ _ kids => by have := cntL_pos kids; simp only [cnt]; omega
theorem cntL_pos : ∀ l : List Ex, 0 ≤ cntL l
  | [] => by simp [cntL]
  | k :: r => by have := cnt_pos k; have := cntL_pos r; simp only [cntL]; omega
end
mutual
theorem lev_le : ∀ e : Ex, 1 ≤ lev e ∧ lev e ≤ cnt e
  | .mk _ _ _ kids => by have := levL_le kids 0 (by omega); simp only [lev, cnt]; omega
theorem levL_le : ∀ (l : List Ex) (d : Int), 0 ≤ d → d ≤ levL l d ∧ levL l d ≤ d + cntL l
  | [], d, h => by simp [levL, cntL]
  | k :: r, d, h => by
    have h1 := lev_le k
    have h2 := cntL_pos r
    simp only [levL, cntL]
    split
    · have := levL_le r (lev k) (by omega); omega
    · have := levL_le r d h; omega
end
mutual
theorem msr_spec : ∀ (e : Ex) (n : Int), 0 ≤ n → n ≤ 200 → n < (msr e n).1 ∧ (msr e n).1 ≤ 201 ∧ 1 ≤ (msr e n).2 ∧ (msr e n).2 ≤ (msr e n).1 - n ∧
    (n + cnt e ≤ 200 → msr e n = (n + cnt e, lev e)) ∧ (200 < n + cnt e → 200 < (msr e n).1)
  | .mk op name v kids, n, h0, h1 => by
    have := msrL_spec kids (n + 1) 0 (by omega) (by omega) (by omega)
    simp only [msr, cnt, lev]
    refine ⟨by omega, by omega, by omega, by omega, fun h => ?_, fun h => ?_⟩
    · have := this.2.2.2.2.1 (by omega)
      rw [this]; simp; omega
    · have := this.2.2.2.2.2 (by omega)
      omega
theorem msrL_spec : ∀ (l : List Ex) (n d : Int), 0 ≤ n → n ≤ 201 → 0 ≤ d → n ≤ (msrL l n d).1 ∧ (msrL l n d).1 ≤ 201 ∧ d ≤ (msrL l n d).2 ∧ (msrL l n d).2 ≤ d + ((msrL l n d).1 - n) ∧
    (n + cntL l ≤ 200 → msrL l n d = (n + cntL l, levL l d)) ∧ (200 < n + cntL l → 200 < (msrL l n d).1)
  | [], n, d, h0, h1, h2 => by simp only [msrL, cntL, levL]; refine ⟨by omega, by omega, by omega, by omega, fun h => by simp, fun h => by omega⟩
  | k :: r, n, d, h0, h1, h2 => by
    simp only [msrL]
    have c1 := cnt_pos k
    have c2 := cntL_pos r
    split
    · simp only [cntL]; refine ⟨by omega, by omega, by omega, by omega, fun h => by omega, fun h => by omega⟩
    · rename_i hn
      obtain ⟨a1, a2, a3, a4, a5, a6⟩ := msr_spec k n h0 (by omega)
      generalize hd' : (if d < (msr k n).2 then (msr k n).2 else d) = d'
      have hd1 : d ≤ d' ∧ d' ≤ d + ((msr k n).1 - n) ∧ 0 ≤ d' := by rw [← hd']; split <;> omega
      obtain ⟨b1, b2, b3, b4, b5, b6⟩ := msrL_spec r (msr k n).1 d' (by omega) (by omega) (by omega)
      simp only [cntL, levL]
      refine ⟨by omega, by omega, by omega, by omega, fun h => ?_, fun h => ?_⟩
      · have e := a5 (by omega)
        rw [e] at b5 hd' ⊢
        simp only at b5 hd' ⊢
        rw [b5 (by omega), ← hd']
        simp; omega
      · by_cases hk : n + cnt k ≤ 200
        · have e := a5 hk
          rw [e] at b6 ⊢
          exact b6 (by simp only; omega)
        · have := a6 (by omega)
          omega
end
mutual
theorem count_spec : ∀ (e : Ex) (m : Int), 0 ≤ m → 1 ≤ count e m ∧ count e m ≤ m + 1 ∧ (cnt e ≤ m → count e m = cnt e) ∧ (m < cnt e → m < count e m)
  | .mk _ _ _ kids, m, h => by
    have := countL_spec kids m 1 (by omega) (by omega)
    simp only [count, cnt]
    omega
theorem countL_spec : ∀ (l : List Ex) (m n : Int), 0 ≤ n → n ≤ m + 1 → n ≤ countL l m n ∧ countL l m n ≤ m + 1 ∧ (n + cntL l ≤ m → countL l m n = n + cntL l) ∧ (m < n + cntL l → m < countL l m n)
  | [], m, n, h0, h1 => by simp only [countL, cntL]; omega
  | k :: r, m, n, h0, h1 => by
    simp only [countL, cntL]
    have c1 := cnt_pos k
    have c2 := cntL_pos r
    split
    · have a := count_spec k (m - n) (by omega)
      have b := countL_spec r m (n + count k (m - n)) (by omega) (by omega)
      omega
    · omega
end
mutual
def deep : Ex → Int → Int → Int
  | .mk op name v kids, level, left => if level < 1 ∨ left - 1 < 0 ∨ 300 < name.size ∨ 300 < v.s.size then -1 else deepL kids level (left - 1)
def deepL : List Ex → Int → Int → Int
  | [], _, left => left
  | k :: r, level, left => if deep k (level - 1) left < 0 then -1 else deepL r level (deep k (level - 1) left)
end
def small (e : Ex) : Bool := decide (0 ≤ deep e 40 300)
def zeroV (v : Val) : Bool := decide (v.kind = 0) && (decide (v.n = 0) && (decide (v.s = B #[]) && true))
def nodeErr (e : Ex) : Int :=
  if e.op < 1 ∨ 16 < e.op then 1
  else if (e.op ≠ 2 ∧ e.op ≠ 16 ∧ e.name ≠ B #[]) ∨ (e.op ≠ 1 ∧ zeroV e.v = false) ∨ (0 ≤ kidsOf e.op ∧ (e.kids.length : Int) ≠ kidsOf e.op) then 1
  else if e.op = 1 then constErr e.v
  else if e.op = 2 then if identB e.name then 0 else 3
  else if e.op = 16 then
    if identB e.name = false then 3 else if arity e.name = 0 then 5 else if (e.kids.length : Int) ≠ arity e.name then 1 else 0
  else 0
mutual
def nodesErr : Ex → Int
  | .mk op name v kids => if nodeErr (.mk op name v kids) ≠ 0 then nodeErr (.mk op name v kids) else nodesErrL kids
def nodesErrL : List Ex → Int
  | [] => 0
  | k :: r => if nodesErr k ≠ 0 then nodesErr k else nodesErrL r
end
theorem nodesErr_eq (e : Ex) : nodesErr e = if nodeErr e ≠ 0 then nodeErr e else nodesErrL e.kids := by cases e; simp [nodesErr, Ex.kids]
def exprErr (e : Ex) : Int := if 200 < cnt e then 7 else if 16 < lev e then 20 else nodesErr e
end Go.Tb
namespace Go.Tb
open Go.Ab
def both (a b w : Int) : Bool := fits a w && fits b w
def whenT (ok : Bool) (k : Int) : Int × Int := (if ok then k else 0, if ok then 0 else 14)
def callT (name : ByteArray) (a b : Int) : Int × Bool :=
  if name = wAbs then (2, fits a 2) else if name = wLen then (2, fits a 3)
  else if name = wHas ∨ name = wStarts then (1, both a b 3) else (if a < b then b else a, both a b 2 || both a b 3)
def opT (op : Int) (name : ByteArray) (a b : Int) : Int × Bool :=
  if op = 3 then (1, fits a 1) else if op = 14 ∨ op = 15 then (1, both a b 1) else if op = 4 then (2, fits a 2)
  else if op = 10 ∨ op = 11 then (1, fits a b || fits b a) else if op = 12 ∨ op = 13 then (1, both a b 2 || both a b 3)
  else if op = 16 then callT name a b else (2, both a b 2)
def findCol (cols : List Col) (name : ByteArray) : Option Col := cols.find? fun x => decide (x.name = name)
mutual
def typ (cols : List Col) : Ex → Int × Int
  | .mk op name v kids =>
    if op = 1 then (v.kind, 0)
    else if op = 2 then (match findCol cols name with | some c => (c.type, 0) | none => (0, 16))
    else if (typL cols kids []).1 ≠ 0 then (0, (typL cols kids []).1)
    else whenT (opT op name ((typL cols kids []).2.getD 0 0) ((typL cols kids []).2.getD 1 0)).2 (opT op name ((typL cols kids []).2.getD 0 0) ((typL cols kids []).2.getD 1 0)).1
def typL (cols : List Col) : List Ex → List Int → Int × List Int
  | [], ks => (0, ks)
  | k :: r, ks => if (typ cols k).2 ≠ 0 then ((typ cols k).2, []) else typL cols r (ks ++ [(typ cols k).1])
end
def exprT (cols : List Col) (e : Ex) : Int × Int := if exprErr e ≠ 0 then (0, exprErr e) else typ cols e
end Go.Tb
namespace Go.Tb
open Go.Ab
theorem len2 {α : Type} {l : List α} (h : l.length = 2) : ∃ a b, l = [a, b] := by
  match l, h with
  | [a, b], _ => exact ⟨a, b, rfl⟩
theorem find_some {α : Type} {l : List α} {p : α → Bool} (h : ¬ idx (l.findIdx? p) < 0) : ∃ i c, l.findIdx? p = some i ∧ l[i]? = some c ∧ l.find? p = some c ∧ p c = true := by
  cases hf : l.findIdx? p with
  | none => rw [hf] at h; exact absurd (by decide : idx none < 0) h
  | some i =>
    obtain ⟨hi, hp, hmin⟩ := List.findIdx?_eq_some_iff_getElem.1 hf
    refine ⟨i, l[i], rfl, by simp [hi], ?_, hp⟩
    rw [List.find?_eq_some_iff_getElem]
    exact ⟨hp, i, hi, rfl, fun j hj => by simpa using hmin j hj⟩
theorem find_none {α : Type} {l : List α} {p : α → Bool} (h : idx (l.findIdx? p) < 0) : l.find? p = none := by
  cases hf : l.findIdx? p with
  | some i => rw [hf] at h; exact absurd h (by simp [idx])
  | none => rw [List.findIdx?_eq_none_iff] at hf; rw [List.find?_eq_none]; intro x hx; simp [hf x hx]
end Go.Tb
namespace Go.Tb
open Go.Ab
end Go.Tb
namespace Go.Tb
end Go.Tb
namespace Go.Tb
open Go.Ab
theorem wrap_zero {x : Int} (h0 : 0 ≤ x) (h1 : x < 18446744073709551616) : (IntKind.i64.wrap x = 0) ↔ x = 0 := by
  simp only [IntKind.wrap, IntKind.signed, IntKind.bits]
  simp
  omega
def addErr (ks : List ByteArray) (s : ByteArray) : Int := if identB s = false then 3 else if ks.any (fun x => decide (s = x)) then 4 else 0
def addTo (ks : List ByteArray) (s : ByteArray) : List ByteArray := if addErr ks s = 0 then ks ++ [s] else ks
def allErr : List ByteArray → List ByteArray → Int
  | _, [] => 0
  | ks, s :: r => if addErr ks s ≠ 0 then addErr ks s else allErr (ks ++ [s]) r
def allTo : List ByteArray → List ByteArray → List ByteArray
  | ks, [] => ks
  | ks, s :: r => if addErr ks s ≠ 0 then ks else allTo (ks ++ [s]) r
theorem allErr_append : ∀ (ks l : List ByteArray) (x : ByteArray), allErr ks l = 0 → allErr ks (l ++ [x]) = addErr (ks ++ l) x
  | ks, [], x, _ => by simp only [List.nil_append, allErr, List.append_nil]; split <;> simp_all
  | ks, s :: r, x, h => by
    simp only [allErr] at h
    split at h
    · rename_i h1; exact absurd h h1
    · rename_i h1
      simp only [List.cons_append, allErr]
      rw [if_neg h1, allErr_append (ks ++ [s]) r x h]
      simp
theorem allTo_ok : ∀ (ks l : List ByteArray), allErr ks l = 0 → allTo ks l = ks ++ l
  | ks, [], _ => by simp [allTo]
  | ks, s :: r, h => by
    simp only [allErr] at h
    split at h
    · rename_i h1; exact absurd h h1
    · rename_i h1
      simp only [allTo]
      rw [if_neg h1, allTo_ok (ks ++ [s]) r h]
      simp
def sizeErr (n least : Int) : Int := if n < least then 8 else if 16 < n then 7 else 0
def columnsErr (l : List ByteArray) (least : Int) : Int := if sizeErr l.length least ≠ 0 then sizeErr l.length least else allErr [] l
def selErr : List ByteArray → List Itm → Int
  | _, [] => 0
  | ks, x :: r => if exprErr x.e ≠ 0 then exprErr x.e else if addErr ks x.name ≠ 0 then addErr ks x.name else selErr (ks ++ [x.name]) r
def wCount : ByteArray := B #[99, 111, 117, 110, 116]
def wSum : ByteArray := B #[115, 117, 109]
def wFirst : ByteArray := B #[102, 105, 114, 115, 116]
def knownAgg (a : Agr) : Bool := decide (a.fn = wSum) || decide (a.fn = wMin) || decide (a.fn = wMax) || decide (a.fn = wFirst)
def badAgg (a : Agr) : Bool := if a.fn = wCount then !decide (a.col = B #[]) else !knownAgg a || decide (a.col = B #[])
def aggErr : List ByteArray → List Agr → Int
  | _, [] => 0
  | ks, a :: r => if badAgg a = true then 5 else if a.col ≠ B #[] ∧ identB a.col = false then 3 else if addErr ks a.name ≠ 0 then addErr ks a.name else aggErr (ks ++ [a.name]) r
def groupErr (s : Stp) : Int :=
  if s.cols.length + s.aggs.length = 0 then 8 else if 16 < s.cols.length ∨ 16 < s.aggs.length then 7
  else if allErr [] s.cols ≠ 0 then allErr [] s.cols else aggErr s.cols s.aggs
def zeroE (e : Ex) : Bool := decide (e.op = 0) && decide (e.name = B #[]) && zeroV e.v && decide (e.kids.length = 0)
def tableOp (op : Int) : Bool := decide (op = 6) || decide (op = 7) || decide (op = 8)
def usesB (s : Stp) : Bool :=
  !(decide (s.op < 1) || decide (9 < s.op)) &&
  !(!decide (s.op = 1) && !zeroE s.cond) && !(!decide (s.op = 2) && decide (0 < s.items.length)) && !(!decide (s.op = 3) && decide (0 < s.aggs.length)) &&
  !(!decide (s.op = 4) && decide (0 < s.sorts.length)) && !(!decide (s.op = 5) && !decide (s.n = 0)) && !(!tableOp s.op && !decide (s.table = B #[])) &&
  (decide (s.op = 3) || tableOp s.op || decide (s.op = 9) || decide (s.cols.length = 0))
def stepErr (s : Stp) : Int :=
  if usesB s = false then 1
  else if s.op = 1 then exprErr s.cond
  else if s.op = 2 then (if sizeErr s.items.length 1 ≠ 0 then sizeErr s.items.length 1 else selErr [] s.items)
  else if s.op = 3 then groupErr s
  else if s.op = 4 then columnsErr (s.sorts.map Srt.col) 1
  else if s.op = 5 then (if s.n < 0 ∨ 20000 < s.n then 2 else 0)
  else if s.op = 9 then columnsErr s.cols 0
  else if identB s.table = false then 3
  else columnsErr s.cols (if s.op = 6 then 1 else 0)
def stepsErr : List Stp → Int
  | [] => 0
  | s :: r => if stepErr s ≠ 0 then stepErr s else stepsErr r
def queryErr (q : Qry) : Int := if identB q.from_ = false then 3 else if 16 < q.steps.length then 7 else stepsErr q.steps
/-! tables -/
end Go.Tb
namespace Go.Ab
open Go.RowKit
section
variable {P : Program} (T : Tab P) {C : Ctx} {n : Nat} {ops : Array Oper} {Q : Exit → St → Prop} {rest : List Oper} {c : Code}
variable {f : List (Nat × A)} {bx : List (Nat × List A)} {lv : List Nat} {gen d : Nat} {ty : TypeId} {pos : String} {af : Array Edge} {a : A} {dst : Option Nat}
end
end Go.Ab
namespace Go.Tb
open Go.Ab
end Go.Tb
namespace Go.Ab
open Go.RowKit
section
variable {P : Program} (T : Tab P) {C : Ctx} {n : Nat} {ops : Array Oper} {Q : Exit → St → Prop} {rest : List Oper} {c : Code}
variable {f : List (Nat × A)} {bx : List (Nat × List A)} {lv : List Nat} {gen d : Nat} {ty : TypeId} {pos : String} {af : Array Edge} {a : A} {dst : Option Nat}
theorem appendMs {α : Type} {fn : α → List D} {l l2 : List α} {x y : Operand} {t e : Nat} {td ed : TyD} {g : Nat} {b : A} (hx : av f x = some (.own g (l.map fn))) (hy : av f y = some b) (hb2 : slOf b = some (l2.map fn)) (ht : look' T.l t = some td) (hk : td.k = .slice e)
    (he : look' T.l e = some ed) (hgl : (lv.any fun h => Nat.beq h g) = true) (hz : Nat.blt 0 ed.n = true) (hb0 : Nat.blt 0 ed.b = true) (hd : Nat.blt d n = true) (hl : ∀ a, (fn a).length = ed.n) (hb : (l.length + l2.length) * ed.b ≤ 140737488355328)
    (h : WO P C n ops Q rest ⟨(d, .own gen ((l ++ l2).map fn)) :: f, bx, gen :: dropId lv g, gen + 1⟩) : WO P C n ops Q (⟨some d, .call ⟨.builtin .append, #[x, y], #[t, t]⟩, ty, pos, af, none⟩ :: rest) ⟨f, bx, lv, gen⟩ := by
  obtain ⟨g', hg1, hg2⟩ := List.any_eq_true.1 hgl
  have hgm : g ∈ lv := Nat.eq_of_beq_eq_true hg2 ▸ hg1
  refine appendR T hx hy hb2 ht hk he hgm hz hb0 hd (fun z hzm => ?_) (by simpa using hb) ?_
  · rcases List.mem_append.1 hzm with h | h <;> (obtain ⟨a', _, rfl⟩ := List.mem_map.1 h; exact hl a')
  · rw [List.map_append] at h
    exact h
theorem buildO {t e len : Nat} {parts : Array (Nat × Operand)} {td ed : TyD} {es : List (List D)} (ht : look' T.l t = some td) (hk : td.k = .slice e) (he : look' T.l e = some ed) (hes : elsA f 0 parts.toList = some es) (hlen : es.length = len)
    (hz : Nat.blt 0 ed.n = true) (hsm : Nat.ble (len * ed.n) 16777216 = true) (hl : lensB ed.n es = true) (hd : Nat.blt d n = true)
    (h : WO P C n ops Q rest ⟨(d, .own gen es) :: f, bx, gen :: lv, gen + 1⟩) : WO P C n ops Q (⟨some d, .buildSlice t len parts, ty, pos, af, none⟩ :: rest) ⟨f, bx, lv, gen⟩ :=
  WO.buildSlice (st := ⟨f, bx, lv, gen⟩) T rfl hd rfl ht hk he hes hlen hz hsm (lensB_mem hl) h
end
end Go.Ab
namespace Go.Ab
open Go.RowKit
def restrB (bx : List (Nat × List A)) : List Nat → List (Nat × List A)
  | [] => []
  | g :: r => match look' bx g with
    | some c => (g, c) :: restrB bx r
    | none => restrB bx r
section
variable {P : Program} {C : Ctx} {n : Nat} {Q : Exit → St → Prop} {c : Code} {st : St}
variable {f f' fi : List (Nat × A)} {bx bx' bi : List (Nat × List A)} {lv lv' : List Nat} {gen gen' : Nat}
def QC (C : Ctx) (n : Nat) (S : St) (Q : Exit → St → Prop) : Exit → St → Prop
  | .normal, st => ∀ (tmps : Array Value) (w : World), Sim C n st tmps w → Sim C n S tmps w
  | e, st => Q e st
theorem W.cutS (V : List (Nat × A)) (ts : List Nat) (B : List (Nat × List A)) (bs : List Nat) (lv' : List Nat) (gen' : Nat) (h : W P C n c (QC C n ⟨V ++ restr f ts, B ++ restrB bx bs, lv', gen'⟩ Q) ⟨f, bx, lv, gen⟩)
    (hq : Q .normal ⟨V ++ restr f ts, B ++ restrB bx bs, lv', gen'⟩) : W P C n c Q ⟨f, bx, lv, gen⟩ :=
  fun tmps w hs => wp_mono (h tmps w hs) fun e act w ⟨hd, st', hs, he⟩ => by
    cases e with
    | normal => exact ⟨hd, _, he _ _ hs, hq⟩
    | _ => exact ⟨hd, st', hs, he⟩
theorem cutEnd {nb : Nat} [hnb : NB C nb] (order : List Nat) (ho : orderB order gen' nb = true) (hf : SubR order f f') (hfi : SubC f fi) (hb : SubBR order bx bx') (hbi : SubBC order bx bi) (hl : lvR order lv lv' = true) :
    QC C n ⟨f' ++ fi, bx' ++ bi, lv', gen'⟩ Q .normal ⟨f, bx, lv, gen⟩ := fun _ _ h => Sim.ren order ho hf hfi hb hbi hl h
end
end Go.Ab
namespace Go.Tb
open Go.Ab
end Go.Tb
namespace Go.Ab
open Go.RowKit
mutual
def nilD : D → D
  | .v x => bif isNil (.d (.v x)) then .sl [] else .v x
  | .sl es => .sl (nilDss es)
def nilDs : List D → List D
  | [] => []
  | x :: r => nilD x :: nilDs r
def nilDss : List (List D) → List (List D)
  | [] => []
  | x :: r => nilDs x :: nilDss r
end
theorem nilDs_map : ∀ l, nilDs l = l.map nilD
  | [] => rfl
  | x :: r => by simp [nilDs, nilDs_map r]
theorem nilDss_map : ∀ l, nilDss l = l.map nilDs
  | [] => rfl
  | x :: r => by simp [nilDss, nilDss_map r]
theorem RepD.nilD {w : World} {pv : Nat → Nat → Prop} {v : Value} {d : D} (h : RepD w pv v d) : RepD w pv v (Ab.nilD d) := by
  induction h with
  | v x hx =>
    simp only [Ab.nilD]
    cases hn : isNil (.d (.v x)) with
    | true =>
      have := isNil_eq hn
      simp only [A.d.injEq, D.v.injEq] at this
      subst this
      exact .nil
    | false => exact .v x hx
  | nil => exact .nil
  | emp a cap hm => exact .emp a cap hm
  | sl b off len cap sz es u hl hc hm hs hu _ ih =>
    simp only [Ab.nilD, nilDss_map]
    refine .sl b off len cap sz _ u (by simpa using hl) hc hm (fun i e he => ?_) hu (fun i j e d he hd => ?_)
    · rw [List.getElem?_map, Option.map_eq_some_iff] at he
      obtain ⟨e0, he0, rfl⟩ := he
      rw [nilDs_map, List.length_map]
      exact hs i e0 he0
    · rw [List.getElem?_map, Option.map_eq_some_iff] at he
      obtain ⟨e0, he0, rfl⟩ := he
      rw [nilDs_map, List.getElem?_map, Option.map_eq_some_iff] at hd
      obtain ⟨d0, hd0, rfl⟩ := hd
      exact ih i j e0 d0 he0 hd0
def nilA : A → A
  | .d x => .d (nilD x)
  | .ag l => .ag (nilDs l)
  | a => a
theorem Rep.nilA {E : En} {v : Value} {a : A} (h : Rep E v a) : Rep E v (Ab.nilA a) := by
  cases h with
  | d hd => exact .d hd.nilD
  | ag vs l hs hd =>
    refine .ag vs _ (by rw [nilDs_map]; simpa using hs) (fun i u x hu hx => ?_)
    rw [nilDs_map, List.getElem?_map, Option.map_eq_some_iff] at hx
    obtain ⟨y, hy, rfl⟩ := hx
    exact (hd i u y hu hy).nilD
  | any => exact .any _
  | ni t x => exact .ni t x
  | fl _ es hd hfl => exact .fl _ es hd hfl
  | own _ g es hd hg hr => exact .own _ g es hd hg hr
  | agg vs l hs ho hd => exact .agg vs l hs ho hd
  | tup vs l hs hd => exact .tup vs l hs hd
  | rowd b off l u hc hd => exact .rowd b off l u hc hd
  | row b off l u hc hd => exact .row b off l u hc hd
  | ptr _ g off b hg hb hp => exact .ptr _ g off b hg hb hp
  | xs _ g es hg h1 hx => exact .xs _ g es hg h1 hx
  | xp _ g i off l hg h1 hx => exact .xp _ g i off l hg h1 hx
  | mp _ g es hg h1 hx => exact .mp _ g es hg h1 hx
  | clo f vs l hs hd => exact .clo f vs l hs hd
  | bnd f vs l hs hd => exact .bnd f vs l hs hd
theorem Does.nilA {P : Program} [Met P] {f : FuncId} {args : List A} {r : A} {k : Nat} (h : Does P f (args.map Ab.nilA) r k) : Does P f args r k :=
  ⟨h.ok, fun C vals w hG hw hp hx hsz hrep => h.calls C vals w hG hw hp hx (by simpa using hsz) (fun i u a hu ha => by
    rw [List.getElem?_map, Option.map_eq_some_iff] at ha
    obtain ⟨y, hy, rfl⟩ := ha
    exact (hrep i u y hu hy).nilA)⟩
section
variable {P : Program} {C : Ctx} {n : Nat} {ops : Array Oper} {Q : Exit → St → Prop} {rest : List Oper} {c : Code}
variable {f : List (Nat × A)} {bx : List (Nat × List A)} {lv : List Nat} {gen d : Nat} {ty : TypeId} {pos : String} {af : Array Edge} {a : A} {dst : Option Nat}
theorem puCallN [Met P] [GC P C] {x : Operand} {xs : Array Operand} {tys : Array TypeId} {fid : FuncId} {caps as' args : List A} (hx : av f x = some (.clo fid caps)) (hxs : avs f xs.toList = some as') (harg : ((as' ++ caps).map (conv bx 5)).map nilA = args) (hf : Does P fid args a 0) (hr : cleanA a = true) :
    Pu P C n ⟨f, bx, lv, gen⟩ ⟨dst, .call ⟨.value x, xs, tys⟩, ty, pos, af, none⟩ a := by
  subst harg
  exact Pu.call (st := ⟨f, bx, lv, gen⟩) rfl hx hxs hf.nilA hr
end
end Go.Ab
namespace Go.Tb
open Go.Ab
section
variable {P : Program} {T : Tab P} {l : List D}
variable {ts ti tk tc tcs tv tr trs tt tn te teo tes tit titl ttl tag tagl tso tsol tb top tst tstl tq : Nat}
variable {o1 o2 o3 o4 o5 o6 o7 o8 p1 p2 p3 p4 p5 p6 p7 p8 q1 q2 q3 q4 q5 q6 q7 q8 r1 r2 r3 r4 r5 : Nat}
variable {n1 n2 n3 n4 n5 n6 n7 n8 m1 m2 m3 m4 m5 m6 m7 m8 k1 k2 k3 k4 k5 k6 k7 k8 j1 j2 j3 j4 j5 : String}
theorem conf_step (h : Conf T tst l) (hst : kdAt T tst = .st [(o1, top, n1), (o2, te, n2), (o3, titl, n3), (o4, ttl, n4), (o5, tagl, n5), (o6, tsol, n6), (o7, ti, n7), (o8, ts, n8)]) (hop : kdAt T top = .int .i64)
    (he : kdAt T te = .st [(p1, teo, m1), (p2, ts, m2), (p3, tv, m3), (p4, tes, m4)]) (heo : kdAt T teo = .int .i64) (hes : kdAt T tes = .slice te) (hv : kdAt T tv = .st [(p5, tk, m5), (p6, ti, m6), (p7, ts, m7)]) (hk : kdAt T tk = .int .i64)
    (hi : kdAt T ti = .int .i64) (hs : kdAt T ts = .str) (hitl : kdAt T titl = .slice tit) (hit : kdAt T tit = .st [(q1, te, k1), (q2, ts, k2)]) (httl : kdAt T ttl = .slice ts) (hagl : kdAt T tagl = .slice tag)
    (hag : kdAt T tag = .st [(q3, ts, k3), (q4, ts, k4), (q5, ts, k5)]) (hsol : kdAt T tsol = .slice tso) (hso : kdAt T tso = .st [(q6, ts, k6), (q7, tb, k7)]) (hb : kdAt T tb = .bool) : ∃ x : Stp, l = x.c := by
  obtain ⟨a, b, c, d, e, f, g, i, rfl, h1, h2, h3, h4, h5, h6, h7, h8⟩ := conf_st8 h hst
  obtain ⟨op, rfl⟩ := conf_int h1 hop
  obtain ⟨cond, rfl⟩ := conf_expr he heo hes hv hk hi hs _ h2
  obtain ⟨items, rfl⟩ := conf_sl (f := Itm.c) h3 hitl (fun x hx => by
    obtain ⟨p, q, rfl, g1, g2⟩ := conf_st2 hx hit
    obtain ⟨e, rfl⟩ := conf_expr he heo hes hv hk hi hs _ g1
    obtain ⟨s, rfl⟩ := conf_str g2 hs
    exact ⟨⟨e, s⟩, rfl⟩)
  obtain ⟨cols, rfl⟩ := conf_sl (f := sc) h4 httl (fun x hx => conf_str hx hs)
  obtain ⟨aggs, rfl⟩ := conf_sl (f := Agr.c) h5 hagl (fun x hx => by
    obtain ⟨p, q, r, rfl, g1, g2, g3⟩ := conf_st3 hx hag
    obtain ⟨u, rfl⟩ := conf_str g1 hs
    obtain ⟨v, rfl⟩ := conf_str g2 hs
    obtain ⟨w, rfl⟩ := conf_str g3 hs
    exact ⟨⟨u, v, w⟩, rfl⟩)
  obtain ⟨sorts, rfl⟩ := conf_sl (f := Srt.c) h6 hsol (fun x hx => by
    obtain ⟨p, q, rfl, g1, g2⟩ := conf_st2 hx hso
    obtain ⟨u, rfl⟩ := conf_str g1 hs
    obtain ⟨v, rfl⟩ := g2.toBool hb
    exact ⟨⟨u, v⟩, rfl⟩)
  obtain ⟨n, rfl⟩ := conf_int h7 hi
  obtain ⟨t, rfl⟩ := conf_str h8 hs
  exact ⟨⟨op, cond, items, cols, aggs, sorts, n, t⟩, rfl⟩
theorem conf_query (h : Conf T tq l) (hq : kdAt T tq = .st [(r1, ts, j1), (r2, tstl, j2)]) (hstl : kdAt T tstl = .slice tst)
    (hst : kdAt T tst = .st [(o1, top, n1), (o2, te, n2), (o3, titl, n3), (o4, ttl, n4), (o5, tagl, n5), (o6, tsol, n6), (o7, ti, n7), (o8, ts, n8)]) (hop : kdAt T top = .int .i64)
    (he : kdAt T te = .st [(p1, teo, m1), (p2, ts, m2), (p3, tv, m3), (p4, tes, m4)]) (heo : kdAt T teo = .int .i64) (hes : kdAt T tes = .slice te) (hv : kdAt T tv = .st [(p5, tk, m5), (p6, ti, m6), (p7, ts, m7)]) (hk : kdAt T tk = .int .i64)
    (hi : kdAt T ti = .int .i64) (hs : kdAt T ts = .str) (hitl : kdAt T titl = .slice tit) (hit : kdAt T tit = .st [(q1, te, k1), (q2, ts, k2)]) (httl : kdAt T ttl = .slice ts) (hagl : kdAt T tagl = .slice tag)
    (hag : kdAt T tag = .st [(q3, ts, k3), (q4, ts, k4), (q5, ts, k5)]) (hsol : kdAt T tsol = .slice tso) (hso : kdAt T tso = .st [(q6, ts, k6), (q7, tb, k7)]) (hb : kdAt T tb = .bool) : ∃ x : Qry, l = x.c := by
  obtain ⟨p, q, rfl, h1, h2⟩ := conf_st2 h hq
  obtain ⟨f, rfl⟩ := conf_str h1 hs
  obtain ⟨steps, rfl⟩ := conf_sl h2 hstl (fun x hx => conf_step hx hst hop he heo hes hv hk hi hs hitl hit httl hagl hag hsol hso hb)
  exact ⟨⟨f, steps⟩, rfl⟩
end
end Go.Tb
namespace Go.Ab
open Go.RowKit
section
variable {P : Program} {C : Ctx} {n : Nat}
variable {f : List (Nat × A)} {bx : List (Nat × List A)} {lv : List Nat} {gen : Nat} {ty : TypeId} {pos : String} {af : Array Edge} {dst : Option Nat}
end
end Go.Ab
namespace Go.Ab
open Go.RowKit
def Under (P : Program) [Met P] (w : World) : Prop := ∃ W : World, (W.ShapedOpen P ∧ Met.met P W) ∧ W.heap.size ≤ w.heap.size ∧ ∀ b, b < W.heap.size → w.heap[b]? = W.heap[b]?
theorem Under.cell {P : Program} [Met P] {w : World} (h : Under P w) {b : Nat} (hc : ∀ W : World, W.ShapedOpen P → ∃ m, W.cell? ⟨b, 0, none⟩ = some (.int .i64 m)) : ∃ m, w.cell? ⟨b, 0, none⟩ = some (.int .i64 m) := by
  obtain ⟨W, h1, _, h3⟩ := h
  obtain ⟨m, hm⟩ := hc W h1.1
  have hlt : b < W.heap.size := cellAt_lt (o := 0) hm
  exact ⟨m, (cellAt_same (h3 b hlt) 0).trans hm⟩
end Go.Ab
namespace Go.Ab
open Go.RowKit
theorem Does.of_fresh {P : Program} [Met P] {f : FuncId} {args : List A} {r : A} (ok : FnOK P f)
    (h : ∀ (w : World) (vals : Array Value) (E : En), E.w = w → Under P w → vals.size = args.length → (∀ (i : Nat) (u : Value) (a : A), vals[i]? = some u → args[i]? = some a → Rep E u a) →
      Calls P f vals w fun e w' => ∃ v, e = .returned v ∧ Below w.heap.size w w' ∧ ∀ E' : En, E'.w = w' → (∀ b o, E'.pv b o → b < w.heap.size) → Rep E' v r) :
    Does P f args r 0 := by
  refine ⟨ok, fun C vals w hG hw hp hx hsz hrep => ?_⟩
  have hu : Under P w := by
    obtain ⟨W, h1, h2, h3⟩ := hG.h
    rw [hw] at h2 h3
    exact ⟨W, h1, h2, fun b hb => (h3 b hb).1⟩
  refine (h w vals (enOf C G0 0 w) rfl hu hsz hrep).mono fun e w' ⟨v, h1, hb, hr⟩ => ⟨v, G0, h1, ?_, hr _ rfl (fun b o hpv => hx b o ((pvOf_G0 C b o).1 hpv))⟩
  subst hw
  exact { size := rfl, frame := fun t a ha => by simp [look] at ha, box := fun g cells hc => by simp [look'] at hc, gbox := fun g b hb => by simp [G0] at hb, inj := fun g g' b hb => by simp [G0] at hb,
          live := fun g hg => by simp at hg, gown := fun g r hr => by simp [G0] at hr, row := fun g b len cap sz pub hr => by simp [G0] at hr, mrow := fun g b hr => by simp [G0] at hr, xold := fun b o hb => ⟨hx b o hb, hp.1 b⟩, kold := fun b o hb => absurd hb (hp.2.1 b o),
          lent := fun i b hb => by rw [hp.2.2] at hb; simp at hb, fr := ⟨hb.os, hb.tape, hb.output, hb.size, fun b h1 _ => hb.block b h1, fun _ _ _ hb => absurd hb (hp.2.1 _ _)⟩ }
theorem vals_of {E : En} {xs : List Value} {vals : Array Value} (hsz : vals.size = (xs.map fun x => A.d (.v x)).length)
    (hr : ∀ (i : Nat) (u : Value) (a : A), vals[i]? = some u → (xs.map fun x => A.d (.v x))[i]? = some a → Rep E u a) : vals = xs.toArray ∧ ∀ x ∈ xs, okc x = true := by
  have hv : ∀ (i : Nat) (u x : Value), vals[i]? = some u → xs[i]? = some x → u = x ∧ okc x = true := by
    intro i u x hu' hx'
    have := hr i u (.d (.v x)) hu' (by simp [hx'])
    cases this with | d hd => cases hd with | v _ ho => exact ⟨rfl, ho⟩
  have hsz' : vals.size = xs.length := by simpa using hsz
  refine ⟨Array.ext (by simpa using hsz') (fun i h1 h2 => ?_), fun x hx' => ?_⟩
  · have h2' : i < xs.length := by simpa using h2
    have := (hv i vals[i] xs[i] (by simp [h1]) (by simp [h2'])).1
    simpa using this
  · obtain ⟨i, hi, rfl⟩ := List.mem_iff_getElem.1 hx'
    exact (hv i (vals[i]'(by omega)) xs[i] (by simp [hsz', hi]) (by simp [hi])).2
theorem Does.of_freshV {P : Program} [Met P] {f : FuncId} {xs : List Value} {r : A} (ok : FnOK P f)
    (h : ∀ (w : World), Under P w → (∀ x ∈ xs, okc x = true) → Calls P f xs.toArray w fun e w' => ∃ v, e = .returned v ∧ Below w.heap.size w w' ∧ ∀ E' : En, E'.w = w' → (∀ b o, E'.pv b o → b < w.heap.size) → Rep E' v r) :
    Does P f (xs.map fun x => .d (.v x)) r 0 := by
  refine Does.of_fresh ok fun w vals E _ hu hsz hr => ?_
  obtain ⟨e, ho⟩ := vals_of hsz hr
  rw [e]
  exact h w hu ho
theorem Under.var {P : Program} [Met P] {w : World} (h : Under P w) : ∃ W : World, Met.met P W ∧ ∀ name cs, W.var? P name = some cs → w.var? P name = some cs := by
  obtain ⟨W, h1, _, h3⟩ := h
  refine ⟨W, h1.2, fun name cs hc => ?_⟩
  unfold World.var? at hc ⊢
  cases hg : P.globalNamed name with
  | none => rw [hg] at hc; simp at hc
  | some g =>
    rw [hg] at hc
    simp only [Option.bind_some] at hc ⊢
    rcases Nat.lt_or_ge g W.heap.size with hlt | hge
    · rw [h3 g hlt]; exact hc
    · rw [Array.getElem?_eq_none hge] at hc; simp at hc
def MetNum (P : Program) (W : World) : Prop :=
  W.var? P "internal/strconv.uint64pow10" = some (Lib.pow10Tab.map fun z => Value.int .u64 z).toArray ∧ (∃ t p, W.var? P "strconv.ErrSyntax" = some #[.iface t p]) ∧ ∃ t p, W.var? P "strconv.ErrRange" = some #[.iface t p]
theorem Under.num {P : Program} [Met P] (hm : ∀ W, Met.met P W → MetNum P W) {w : World} (h : Under P w) : MetNum P w := by
  obtain ⟨W, h1, h2⟩ := h.var
  obtain ⟨h3, ⟨t, p, h4⟩, t', p', h5⟩ := hm W h1
  exact ⟨h2 _ _ h3, ⟨t, p, h2 _ _ h4⟩, t', p', h2 _ _ h5⟩
theorem pairRep {E : En} {x y : Value} {a b : A} (ha : Rep E x a) (hb : Rep E y b) : Rep E (.tuple #[x, y]) (.tup [a, b]) :=
  .tup _ _ rfl (fun i u z hu hz => by
    match i, hu, hz with
    | 0, hu, hz =>
      simp only [List.getElem?_toArray, List.getElem?_cons_zero, Option.some.injEq] at hu hz
      subst hu; subst hz
      exact ha
    | 1, hu, hz =>
      simp only [List.getElem?_toArray, List.getElem?_cons_succ, List.getElem?_cons_zero, Option.some.injEq] at hu hz
      subst hu; subst hz
      exact hb
    | i + 2, hu, hz => simp at hz)
section
variable {P : Program} {C : Ctx} {n : Nat}
variable {f : List (Nat × A)} {bx : List (Nat × List A)} {lv : List Nat} {gen : Nat} {ty : TypeId} {pos : String} {af : Array Edge} {dst : Option Nat}
theorem equal_nil (w : World) {t : TypeId} {ms : Array (String × TypeId)} (hu : P.underlying t = some (.interface ms)) : (Op.equal t .nilIface .nilIface).run P w = .ok true w := by
  have h : ∀ d : Nat, (Op.equalIn (d + 1) t .nilIface .nilIface).run P w = .ok true w := fun d => by simp [Op.equalIn, run_underlying hu]
  exact h 9999
theorem equal_ni (w : World) {t u : TypeId} {v : Value} {ms : Array (String × TypeId)} (hu : P.underlying t = some (.interface ms)) : (Op.equal t (.iface u v) .nilIface).run P w = .ok false w := by
  have h : ∀ d : Nat, (Op.equalIn (d + 1) t (.iface u v) .nilIface).run P w = .ok false w := fun d => by simp [Op.equalIn, run_underlying hu]
  exact h 9999
def ifaceB (P : Program) (t : TypeId) : Bool := match P.underlying t with | some (.interface _) => true | _ => false
theorem ifaceB_of {t : TypeId} (h : ifaceB P t = true) : ∃ ms, P.underlying t = some (.interface ms) := by
  unfold ifaceB at h
  split at h
  · rename_i ms hu; exact ⟨ms, hu⟩
  · cases h
theorem nilEq {t t' : Nat} {x : Operand} (hx : av f x = some (.d (.v .nilIface))) (hB : ifaceB P t = true) :
    Pu P C n ⟨f, bx, lv, gen⟩ ⟨dst, .binOp .eql t x (.const .nilIface) t', ty, pos, af, none⟩ (.d (.v (.bool true))) := by
  obtain ⟨ms, hu⟩ := ifaceB_of hB
  refine PuOK.pu fun G tmps w hs => ?_
  have hrx := hs.av hx
  generalize hvx : Act.eval ⟨tmps, []⟩ x = vx at hrx
  cases hrx with | d hrx => cases hrx with | v _ _ =>
  refine ⟨.bool true, ?_, .d (.v _ rfl)⟩
  unfold execOp
  show Sem.run P _ w = _
  have he : (Act.eval ⟨tmps, []⟩ (Operand.const Value.nilIface)) = Value.nilIface := rfl
  simp only [hvx, he, eqGuard, binOp]
  simp [equal_nil w hu]
  rfl
theorem niEq {t t' : Nat} {x : Operand} (hx : av f x = some .ni) (hB : ifaceB P t = true) :
    Pu P C n ⟨f, bx, lv, gen⟩ ⟨dst, .binOp .eql t x (.const .nilIface) t', ty, pos, af, none⟩ (.d (.v (.bool false))) := by
  obtain ⟨ms, hu⟩ := ifaceB_of hB
  refine PuOK.pu fun G tmps w hs => ?_
  have hrx := hs.av hx
  generalize hvx : Act.eval ⟨tmps, []⟩ x = vx at hrx
  cases hrx with | ni t2 x2 =>
  refine ⟨.bool false, ?_, .d (.v _ rfl)⟩
  unfold execOp
  show Sem.run P _ w = _
  have he : (Act.eval ⟨tmps, []⟩ (Operand.const Value.nilIface)) = Value.nilIface := rfl
  simp only [hvx, he, eqGuard, binOp]
  simp [equal_ni w hu]
  rfl
end
end Go.Ab
namespace Go.Ab
open Go
variable {H : Type} {enc : TypeId × Value → H}
theorem returnsInHanded_of_laid {a : Assume} {C : Checked} {os : Os} {f : FuncId} {fn : Func} {s : ChangeSpec} {conds : List PathCond} {apart fresh handsOn again : Bool} {X : World → Array Value → Prop}
    (hX : ∀ (w w' : World) (args : Array Value), w.heap = w'.heap → X w args → X w' args)
    (own : ownKnob C.prog.godebug = none) (started : os.Started) (noInit : C.prog.inits.idxOf? f = none) (hfn : C.prog.funcs[f]? = some fn)
    (witness : ∃ (w : World) (tape : Tape) (i : Input), w.os = os ∧ (w.forCall tape i).Shaped C.prog ∧ i.vars = [] ∧ Input.okWide C.prog (w.forCall tape i) .any w.heap.size f i ∧
      ((s.pre enc C.prog fn conds apart (w.forCall tape i).memory i.args ∧ X (w.forCall tape i).memory i.args) ∧ sizedMet enc C.prog fn (OpenSpec.ofChange s) apart (w.forCall tape i).memory i.args) ∧ a.holds C.prog (lone (Frame.enter C.prog f i.args .normal) [] (w.forCall tape i)))
    (contract : ∀ (W : World) (base : Nat) (args : Array Value) (ds gs : List (DataW H)) (before : List MemPlace),
      (∀ (j : Nat) t v, fn.params[j]? = some t → args[j]? = some v → Value.okWide C.prog W .any base t v) →
      DataW.Whole enc C.prog fn.params.toList s.vars apart W args.toList ds gs before →
      W.ShapedOpen C.prog → X W args →
      Calls C.prog f args W fun e W' => ∃ v, e = .returned v ∧ s.post enc C.prog fn apart fresh handsOn again W args v W') :
    ReturnsInHanded a C os f .any (fun w args => (s.pre enc C.prog fn conds apart w args ∧ X w args) ∧ sizedMet enc C.prog fn (OpenSpec.ofChange s) apart w args) (s.post enc C.prog fn apart fresh handsOn again) := by
  refine returnsInHanded_of_calls own started noInit witness ?_
  intro w tape i _ hsh _ hok hpre hholds
  obtain ⟨_, _, _, fn', hfn', _, _, _, _, hval⟩ := hok
  have e : fn' = fn := Option.some.inj (hfn'.symm.trans hfn)
  subst e
  obtain ⟨⟨⟨ds, gs, before, hw, hc⟩, hx⟩, hz⟩ := hpre
  have hw' := DataW.Whole.of_heap (w' := w.forCall tape i) (by rfl) hw
  refine (contract (w.forCall tape i) w.heap.size i.args ds gs before hval hw' hsh (hX _ _ _ (by rfl) hx)).mono fun e W' ⟨v, he, hp⟩ => ?_
  subst he
  exact ChangeSpec.post_blind hp
theorem witness_laid {C : Checked} {os : Os} {f : FuncId} {fn : Func} {s : ChangeSpec} {conds : List PathCond} {apart : Bool} {laid : List (String × DataW Unit)} (modest : Bool) (args : Array Value) (fuel : Nat)
    (hv : ((World.laidAll C.prog os laid).forCall (fun _ _ => 0) ⟨#[], args, []⟩).variablesZipB C.prog = true)
    (hr : (((World.laidAll C.prog os laid).forCall (fun _ _ => 0) ⟨#[], args, []⟩).heap.toList.drop C.prog.globals.size).take ((begin C.prog (fun _ _ => 0) default).world.heap.size - C.prog.globals.size) =
      (begin C.prog (fun _ _ => 0) default).world.heap.toList.drop C.prog.globals.size)
    (hf : (World.holding C.prog os ⟨#[], #[], []⟩).layFits C.prog laid [] = true)
    (hi : (World.holding C.prog os ⟨#[], #[], []⟩).layIfaces C.prog laid (World.laidAll C.prog os laid) = true)
    (hok : Input.okWideB C.prog ((World.laidAll C.prog os laid).forCall (fun _ _ => 0) ⟨#[], args, []⟩) f ⟨#[], args, []⟩ = true)
    (hpre : s.preB enc C.prog fn conds apart ((World.laidAll C.prog os laid).forCall (fun _ _ => 0) ⟨#[], args, []⟩).memory args fuel = true)
    (hsz : s.sizedB enc C.prog fn apart ((World.laidAll C.prog os laid).forCall (fun _ _ => 0) ⟨#[], args, []⟩).memory args fuel = true) :
    ∃ (w : World) (tape : Tape) (i : Input), w.os = os ∧ (w.forCall tape i).Shaped C.prog ∧ i.vars = [] ∧ Input.okWide C.prog (w.forCall tape i) .any w.heap.size f i ∧
      ((s.pre enc C.prog fn conds apart (w.forCall tape i).memory i.args ∧ laidMet C.prog laid (w.forCall tape i).memory) ∧ sizedMet enc C.prog fn (OpenSpec.ofChange s) apart (w.forCall tape i).memory i.args) ∧ ({ modest := modest } : Assume).holds C.prog (lone (Frame.enter C.prog f i.args .normal) [] (w.forCall tape i)) :=
  ⟨World.laidAll C.prog os laid, fun _ _ => 0, ⟨#[], args, []⟩, World.laidAll_os _ _ _, World.shaped_of_ZipB hv hr, (Input.okWide_of_okWideB (base := 0) hok).1, (Input.okWide_of_okWideB hok).2, ⟨⟨ChangeSpec.pre_of_preB hpre, laidMet_laidAll args hf hi⟩, sizedMet_of_sizedB hsz⟩, by
    simp only [Assume.holds]
    exact ⟨by simp, by simp, fun _ => Modest.zero, by simp, by simp⟩⟩
theorem iface_var {P : Program} {W : World} {l : List (String × DataW Unit)} (h : laidMet P l W) {n nm : String} {d : DataW Unit} (hm : (n, .iface nm d) ∈ l) {ti : TypeId}
    (hg : ((P.globalNamed n).bind fun g => (P.globals[g]?).map (·.type)) = some ti) (hi : ifaceB P ti = true) : ∃ t p, W.var? P n = some #[.iface t p] := by
  obtain ⟨ms, hi⟩ := ifaceB_of hi
  obtain ⟨g, t, cs, fuel, p, h1, h2, h3, h4⟩ := Lib.laidMet.reads h hm
  rw [h1] at hg
  simp only [Option.bind_some] at hg
  rw [h2] at hg
  simp only [Option.some.injEq] at hg
  subst hg
  obtain ⟨f1, u, v, hcs, _⟩ := iface_of_trod hi h4
  refine ⟨u, v, h3.trans ?_⟩
  rw [show cs = #[.iface u v] from by rw [← Array.toArray_toList (xs := cs), hcs]]
theorem tab_var {P : Program} {W : World} {l : List (String × DataW Unit)} (h : laidMet P l W) {n : String} {k : IntKind} {zs : List Int} {d : DataW Unit} (hm : (n, d) ∈ l) (hd : d = Lib.tabData k zs) {t e : TypeId} {m : Nat}
    (hg : ((P.globalNamed n).bind fun g => (P.globals[g]?).map (·.type)) = some t) (ht : P.underlying t = some (.array m e)) (he : P.underlying e = some (.int k)) (hce : P.cellsOf e = 1) (hct : P.cellsOf t = m) :
    W.var? P n = some (zs.map fun z => Value.int k z).toArray := by
  subst hd
  obtain ⟨g, t', cs, fuel, p, h1, h2, h3, h4⟩ := Lib.laidMet.reads h hm
  rw [h1] at hg
  simp only [Option.bind_some] at hg
  rw [h2] at hg
  simp only [Option.some.injEq] at hg
  subst hg
  rw [h3, ← Lib.cells_of_tab ht he hce hct h4]
theorem metNum_of {P : Program} {W : World} {l : List (String × DataW Unit)} (h : laidMet P l W) {d : DataW Unit} (h1 : ("internal/strconv.uint64pow10", d) ∈ l) (hd : d = Lib.tabData .u64 Lib.pow10Tab) {t e : TypeId} {m : Nat}
    (hg : ((P.globalNamed "internal/strconv.uint64pow10").bind fun g => (P.globals[g]?).map (·.type)) = some t) (ht : P.underlying t = some (.array m e)) (he : P.underlying e = some (.int .u64)) (hce : P.cellsOf e = 1) (hct : P.cellsOf t = m)
    {nm nm' : String} {d1 d2 : DataW Unit} (h2 : ("strconv.ErrSyntax", .iface nm d1) ∈ l) (h3 : ("strconv.ErrRange", .iface nm' d2) ∈ l) {ti : TypeId}
    (hg1 : ((P.globalNamed "strconv.ErrSyntax").bind fun g => (P.globals[g]?).map (·.type)) = some ti) (hg2 : ((P.globalNamed "strconv.ErrRange").bind fun g => (P.globals[g]?).map (·.type)) = some ti) (hi : ifaceB P ti = true) : MetNum P W :=
  ⟨tab_var h h1 hd hg ht he hce hct, iface_var h h2 hg1 hi, iface_var h h3 hg2 hi⟩
end Go.Ab
namespace Go.Tb
open Go.Ab
theorem puS {P : Program} {C : Ctx} {n : Nat} {st : St} {o : Oper} {x y : ByteArray} (h : Pu P C n st o (.d (.v (.string x)))) (e : x = y) : Pu P C n st o (.d (.v (.string y))) := e ▸ h
def digB (u : Nat) : List UInt8 := Lib.decDigits u
theorem digB_small {u : Nat} (h : u < 10) : digB u = [UInt8.ofNat (48 + u)] := by unfold digB; rw [Lib.decDigits, dif_pos h]
theorem digB_big {u : Nat} (h : ¬ u < 10) : digB u = digB (u / 10) ++ [UInt8.ofNat (48 + u % 10)] := by unfold digB; rw [Lib.decDigits, dif_neg h]
theorem digB_ind {p : Nat → Prop} (h1 : ∀ u, u < 10 → p u) (h2 : ∀ u, ¬ u < 10 → p (u / 10) → p u) : ∀ u, p u := by
  intro u
  induction u using Nat.strongRecOn with
  | _ u ih =>
    by_cases h : u < 10
    · exact h1 u h
    · exact h2 u h (ih _ (by omega))
theorem dig_nat {d : Nat} (h : d < 10) : (UInt8.ofNat (48 + d)).toNat = 48 + d := by
  rw [UInt8.toNat_ofNat']
  omega
def isDig (b : UInt8) : Bool := decide (48 ≤ b.toNat) && decide (b.toNat ≤ 57)
theorem digB_dig : ∀ u, ∀ b ∈ digB u, isDig b = true := by
  refine digB_ind (fun u h b hb => ?_) (fun u h ih b hb => ?_)
  · rw [digB_small h] at hb
    simp only [List.mem_singleton] at hb
    subst hb
    simp only [isDig, dig_nat h, Bool.and_eq_true, decide_eq_true_eq]
    omega
  · rw [digB_big h] at hb
    rcases List.mem_append.1 hb with hb | hb
    · exact ih b hb
    · simp only [List.mem_singleton] at hb
      subst hb
      simp only [isDig, dig_nat (Nat.mod_lt u (show 0 < 10 by decide)), Bool.and_eq_true, decide_eq_true_eq]
      omega
theorem digB_ne (u : Nat) : digB u ≠ [] := by
  by_cases h : u < 10
  · rw [digB_small h]; simp
  · rw [digB_big h]; simp
theorem digB_len : ∀ u k, u < 10 ^ (k + 1) → (digB u).length ≤ k + 1 := by
  refine digB_ind (fun u h k _ => ?_) (fun u h ih k hk => ?_)
  · rw [digB_small h]; simp
  · rw [digB_big h]
    simp only [List.length_append, List.length_singleton]
    match k, hk with
    | 0, hk => simp at hk; omega
    | k + 1, hk =>
      have := ih k (by rw [Nat.pow_succ] at hk; omega)
      omega
def numB (n : Int) : ByteArray := ⟨(Lib.itoa n).toArray⟩
theorem numB_neg {n : Int} (h : n < 0) : Lib.itoa n = 45 :: digB n.natAbs := by unfold Lib.itoa digB; rw [if_pos h]
theorem numB_pos {n : Int} (h : 0 ≤ n) : Lib.itoa n = digB n.toNat := by unfold Lib.itoa digB; rw [if_neg (by omega)]
theorem numB_data (n : Int) : (numB n).data.toList = Lib.itoa n := rfl
/-! what strconv.Atoi says of a numeral -/
theorem parse_digits : ∀ (u : Nat), u < 18446744073709551616 → ∀ (l : List UInt8), Lib.parseUint10 0 (digB u ++ l) = Lib.parseUint10 u l := by
  refine digB_ind (fun u h hu l => ?_) (fun u h ih hu l => ?_)
  · rw [digB_small h]
    have h1 := dig_nat h
    simp only [List.singleton_append, Lib.parseUint10, h1]
    rw [if_pos (by omega), if_neg (by omega), if_neg (by omega)]
    congr 1
    omega
  · rw [digB_big h, List.append_assoc, ih (by omega)]
    have h1 := dig_nat (Nat.mod_lt u (show 0 < 10 by decide))
    simp only [List.singleton_append, Lib.parseUint10, h1]
    rw [if_pos (by omega), if_neg (by omega), if_neg (by omega)]
    congr 1
    omega
theorem parseMag_digits {u : Nat} (h : u < 18446744073709551616) : Lib.parseMag (digB u) = .ok u := by
  unfold Lib.parseMag
  rw [if_neg (digB_ne u)]
  have := parse_digits u h []
  rw [List.append_nil] at this
  exact this
theorem atoi_itoa {n : Int} (h0 : -9223372036854775808 ≤ n) (h1 : n ≤ 9223372036854775807) : Lib.atoiAll (Lib.itoa n) = .ok n := by
  rcases Int.lt_or_le n 0 with hn | hn
  · rw [numB_neg hn, Lib.atoiAll_minus, parseMag_digits (by omega)]
    simp only [Lib.signed]
    rw [if_neg (by omega)]
    congr 1
    omega
  · rw [numB_pos hn]
    obtain ⟨c, r, hc⟩ : ∃ c r, digB n.toNat = c :: r := by
      cases hd : digB n.toNat with
      | nil => exact absurd hd (digB_ne _)
      | cons c r => exact ⟨c, r, rfl⟩
    have hdig := digB_dig n.toNat c (by rw [hc]; simp)
    simp only [isDig, Bool.and_eq_true, decide_eq_true_eq] at hdig
    have hm := parseMag_digits (u := n.toNat) (by omega)
    rw [hc] at hm ⊢
    rw [Lib.atoiAll_plain c r (by omega) (by omega), hm]
    simp only [Lib.signless]
    rw [if_neg (by omega)]
    congr 1
    omega
def numP (s : ByteArray) : Int × Bool :=
  match Lib.atoiAll s.data.toList with
  | .ok v => if inR v = true ∧ numB v = s then (v, true) else (0, false)
  | _ => (0, false)
theorem numP_num {n : Int} (h : inR n = true) : numP (numB n) = (n, true) := by
  have h' := h
  simp only [inR, Bool.and_eq_true, decide_eq_true_eq] at h'
  unfold numP
  rw [numB_data, atoi_itoa (by omega) (by omega)]
  simp only [h, true_and, if_true]
theorem numP_some {s : ByteArray} {v : Int} (h : numP s = (v, true)) : inR v = true ∧ s = numB v := by
  unfold numP at h
  split at h
  · split at h
    · rename_i hc
      simp only [Prod.mk.injEq, and_true] at h
      subst h
      exact ⟨hc.1, hc.2.symm⟩
    · simp at h
  · simp at h
end Go.Tb
namespace Go.Tb
open Go.Ab
def ofL (l : List UInt8) : ByteArray := ⟨l.toArray⟩
theorem ofL_bys (s : ByteArray) : ofL s.data.toList = s := by cases s; rfl
theorem data_inj {a b : ByteArray} (h : a.data.toList = b.data.toList) : a = b := by rw [← ofL_bys a, ← ofL_bys b, h]
theorem ofL_size (l : List UInt8) : (ofL l).size = l.length := (Array.length_toList (xs := (ofL l).data)).symm
theorem ofL_append (a b : List UInt8) : ofL a ++ ofL b = ofL (a ++ b) := data_inj (by simp [ofL])
end Go.Tb
namespace Go.Tb
open Go.Ab
structure Ev where
  time : Int
  kind : Int
  name : ByteArray
  n : Int
  m : Int
  stack : List ByteArray
@[reducible] def txs (l : List ByteArray) : List (List D) := l.map sc
@[reducible] def Ev.c (e : Ev) : List D := [ci e.time, ci e.kind, cs e.name, ci e.n, ci e.m, .sl (txs e.stack)]
structure Frm where
  word : ByteArray
  name : Bool
  n : Bool
  m : Bool
  stack : Bool
  least : Int
  most : Int
  mLeast : Int
  mMost : Int
@[reducible] def Frm.c (f : Frm) : List D := [cs f.word, .v (.bool f.name), .v (.bool f.n), .v (.bool f.m), .v (.bool f.stack), ci f.least, ci f.most, ci f.mLeast, ci f.mMost]
/-! the reference's way -/
theorem kinds {k : Int} (h1 : 1 ≤ k) (h2 : k < 13) : k = 1 ∨ k = 2 ∨ k = 3 ∨ k = 4 ∨ k = 5 ∨ k = 6 ∨ k = 7 ∨ k = 8 ∨ k = 9 ∨ k = 10 ∨ k = 11 ∨ k = 12 := by omega
end Go.Tb
namespace Go.Tb
open Go.Ab
section
variable {P : Program} {T : Tab P} {l : List D}
variable {te ti tk ts tsl o1 o2 o3 o4 o5 o6 : Nat} {n1 n2 n3 n4 n5 n6 : String}
end
end Go.Tb
namespace Go.Ab
open Go.RowKit
theorem set_same {tmps : Array Value} {d : Nat} {v : Value} (h : tmps[d]? = some v) : tmps.setIfInBounds d v = tmps := by
  apply Array.ext_getElem?
  intro i
  rw [Array.getElem?_setIfInBounds]
  split
  · rename_i e
    subst e
    split
    · exact h.symm
    · rename_i hlt; exact absurd (Array.getElem?_eq_some_iff.1 h).1 hlt
  · rfl
section
variable {C : Ctx} {n : Nat} {st : St} {G : Gh} {tmps : Array Value} {w : World}
theorem RowX.len (hs : SimG C n st G tmps w) {g : Nat} {r : Row} (hg : G.own g = some r) {pv : Nat → Nat → Prop} {v : Value} {es : List (List D)} (h : RowX w pv r v es) :
    ∃ a cap, v = .slice a es.length cap ∧ es.length ≤ cap ∧ es.length ≤ maxLen := by
  cases r with
  | nil => obtain ⟨rfl, rfl⟩ := h; exact ⟨none, 0, rfl, Nat.le_refl _, by simp⟩
  | zero b => obtain ⟨rfl, rfl⟩ := h; exact ⟨_, 0, rfl, Nat.le_refl _, by simp⟩
  | mp b => exact h.elim
  | blk b len cap sz pub =>
    obtain ⟨rfl, h2, _⟩ := h
    obtain ⟨_, _, _, _, _, _, _, h3, h4, _⟩ := hs.row g b len cap sz pub hg
    exact ⟨_, cap, by rw [h2], by omega, by omega⟩
end
section
variable {P : Program} (T : Tab P) {C : Ctx} {n : Nat} {tmps : Array Value} {w : World} {G : Gh} {ops : Array Oper} {Q : Exit → St → Prop} {st : St} {o : Oper} {rest : List Oper}
end
end Go.Ab
namespace Go.Ab
section
variable {P : Program} {C : Ctx} {n : Nat} {Q : Exit → St → Prop} {c : Code} {f : List (Nat × A)} {bx : List (Nat × List A)} {lv : List Nat} {gen : Nat}
theorem RepD.elem {w : World} {pv : Nat → Nat → Prop} {v : Value} {es : List (List D)} (h : RepD w pv v (.sl es)) {k j : Nat} {e : List D} {x : Value} (he : es[k]? = some e) (hx : e[j]? = some (.v x)) : okc x = true := by
  cases h with
  | nil => simp at he
  | emp => simp at he
  | sl b off len cap sz es u hl hc hm hs hu hr =>
    have := hr k j e _ he hx
    generalize u k j = y at this
    cases this with | v _ ho => exact ho
theorem W.elem (t : Nat) {a : A} {es : List (List D)} {k j : Nat} {e : List D} {x : Value} (hl : look f t = some a) (hes : slOf a = some es) (he : es[k]? = some e) (hx : e[j]? = some (.v x)) (h : okc x = true → W P C n c Q ⟨f, bx, lv, gen⟩) : W P C n c Q ⟨f, bx, lv, gen⟩ := by
  intro tmps w ⟨G, hs⟩
  obtain ⟨v, hv, hr⟩ := hs.frame t a hl
  exact h ((slOf_rep hes hr).elem he hx) tmps w ⟨G, hs⟩
theorem W.elems {α : Type} {fn : α → List D} {p : α → Value} (t j : Nat) {a : A} {l : List α} (hl : look f t = some a) (hes : slOf a = some (l.map fn)) (hx : ∀ a, (fn a)[j]? = some (.v (p a))) (h : (∀ a ∈ l, okc (p a) = true) → W P C n c Q ⟨f, bx, lv, gen⟩) : W P C n c Q ⟨f, bx, lv, gen⟩ := by
  intro tmps w ⟨G, hs⟩
  obtain ⟨v, hv, hr⟩ := hs.frame t a hl
  refine h (fun a ha => ?_) tmps w ⟨G, hs⟩
  obtain ⟨i, hi⟩ := List.mem_iff_getElem?.1 ha
  exact (slOf_rep hes hr).elem (idx_map hi) (hx a)
theorem nilBox (g j : Nat) {cells cells' : List A} (hb : look' bx g = some cells) (hj : cells[j]? = some (.d (.v (.slice none 0 0)))) (hc : cells.set j (.d (.sl [])) = cells') (h : W P C n c Q ⟨f, (g, cells') :: bx, lv, gen⟩) : W P C n c Q ⟨f, bx, lv, gen⟩ := by
  subst hc
  intro tmps w ⟨G, hs⟩
  refine h tmps w ⟨G, SimG.reBox hs hb (by simp) (fun i u a a' ha ha' hr => ?_)⟩
  rw [List.getElem?_set] at ha'
  split at ha'
  · rename_i e
    subst e
    rw [hj] at ha
    simp only [Option.some.injEq] at ha
    subst ha
    split at ha'
    · simp only [Option.some.injEq] at ha'
      subst ha'
      cases hr with | d hr => cases hr with | v _ _ => exact .d .nil
    · cases ha'
  · rw [ha] at ha'
    simp only [Option.some.injEq] at ha'
    subst ha'
    exact hr
end
end Go.Ab
namespace Go.Ab
open Go.RowKit
section
variable {P : Program} (T : Tab P) {C : Ctx} {n : Nat} {ops : Array Oper} {Q : Exit → St → Prop} {rest : List Oper}
variable {f : List (Nat × A)} {bx : List (Nat × List A)} {lv : List Nat} {gen : Nat} {d : Nat} {op : Op} {ty : TypeId} {pos : String} {af : Array Edge} {a : A} {dst : Option Nat} {c : Code}
theorem nilO (s : Nat) {a a' : A} {l : List Oper} (hl : look f s = some a) (hsn : Nat.blt s n = true) (ha : Ab.nilA a = a') (h : WO P C n ops Q l ⟨(s, a') :: f, bx, lv, gen⟩) : WO P C n ops Q l ⟨f, bx, lv, gen⟩ := by
  subst ha
  intro tmps w ⟨G, hs⟩
  obtain ⟨v, hv, hr⟩ := hs.frame s _ hl
  refine h tmps w ⟨G, ?_⟩
  have := hs.set (d := s) (Nat.le_of_ble_eq_true hsn) hr.nilA
  rwa [set_same hv] at this
theorem SimG.cellAt {st : St} {G : Gh} {tmps : Array Value} {w : World} (hs : SimG C n st G tmps w) {g0 i : Nat} {cells : List A} (hb : look' st.bx g0 = some cells) {x : A} (hi : cells[i]? = some x) :
    ∃ v, Rep (enOf C G st.gen w) v x ∧ ∀ b cs T', G.box g0 = some b → w.heap[b]? = some (.cells cs T' (0, 0)) → cs[i]? = some v := by
  obtain ⟨b, cs, T', h1, h2, h3, _, h5⟩ := hs.box g0 cells hb
  have hlt : i < cs.size := by rw [h3]; exact (List.getElem?_eq_some_iff.1 hi).1
  have hv : cs[i]? = some cs[i] := by simp [hlt]
  refine ⟨cs[i], h5 i _ x hv hi, fun b' cs' T2 h1' h2' => ?_⟩
  have e : b' = b := Option.some.inj (h1'.symm.trans h1)
  subst e
  have e2 := Option.some.inj (h2'.symm.trans h2)
  injection e2 with e3 _ _
  rw [e3]
  exact hv
end
end Go.Ab
namespace Go.Ab
open Go.RowKit
def loA (f : List (Nat × A)) : Option Operand → Option Int
  | none => some 0
  | some x => match av f x with | some (.d (.v (.int _ v))) => some v | _ => none
def hiA (f : List (Nat × A)) (len : Nat) : Option Operand → Option Int
  | none => some (len : Int)
  | some x => match av f x with | some (.d (.v (.int _ v))) => some v | _ => none
theorem RepD.sub {w : World} {pv : Nat → Nat → Prop} {v : Value} {es : List (List D)} (h : RepD w pv v (.sl es)) {i j sz : Nat} (hij : i ≤ j) (hj : j ≤ es.length) (hsz : ∀ e ∈ es, e.length = sz) :
    ∃ a cap, v = .slice a es.length cap ∧ es.length ≤ cap ∧ RepD w pv (sliced a i j cap sz) (.sl ((es.take j).drop i)) := by
  cases h with
  | nil =>
    have e1 : j = 0 := by simpa using hj
    subst e1
    have e2 : i = 0 := by omega
    subst e2
    exact ⟨none, 0, rfl, Nat.le_refl _, .nil⟩
  | emp a cap hm =>
    have e1 : j = 0 := by simpa using hj
    subst e1
    have e2 : i = 0 := by omega
    subst e2
    refine ⟨some a, cap, rfl, Nat.zero_le _, ?_⟩
    simp only [sliced, List.take_zero, List.drop_zero, Nat.sub_zero]
    split
    · exact .emp a cap hm
    · exact .emp _ cap hm
  | sl b off len cap sz' es u hl hc hm hs hu hr =>
    refine ⟨_, cap, by rw [hl], by omega, ?_⟩
    rcases Nat.eq_or_lt_of_le hij with e | hlt
    · subst e
      rw [show (es.take i).drop i = [] from List.drop_eq_nil_of_le (List.length_take_le _ _)]
      simp only [sliced, Nat.sub_self]
      split
      · exact .emp _ _ (by omega)
      · exact .emp _ _ (by omega)
    · have e : sz' = sz := by
        obtain ⟨x, hx⟩ : ∃ x, es[0]? = some x := ⟨es[0]'(by omega), by simp⟩
        rw [← hs 0 x hx, hsz x (List.mem_of_getElem? hx)]
      subst e
      have hne : cap ≠ i := by omega
      have ha : ∀ (k : Nat) (x : List D), ((es.take j).drop i)[k]? = some x → es[i + k]? = some x ∧ k < j - i := fun k x hk => by
        have hk' := hk
        rw [List.getElem?_drop] at hk
        have h1 := (List.getElem?_eq_some_iff.1 hk).1
        rw [List.length_take] at h1
        rw [List.getElem?_take, if_pos (by omega)] at hk
        exact ⟨hk, by omega⟩
      simp only [sliced, if_neg hne, Option.map_some]
      rw [show (Addr.add ⟨b, off, none⟩ (i * sz')) = ⟨b, off + i * sz', none⟩ from by simp [Addr.add]]
      refine .sl b (off + i * sz') (j - i) (cap - i) sz' _ (fun k c => u (i + k) c) ?_ (by omega) (by omega) (fun k x hk => hs _ x (ha k x hk).1) (fun k c hk hc' => ?_) (fun k c x d hk hd => hr _ c x d (ha k x hk).1 hd)
      · rw [List.length_drop, List.length_take]; omega
      · have := hu (i + k) c (by omega) hc'
        rw [show off + (i + k) * sz' + c = off + i * sz' + k * sz' + c from by rw [Nat.add_mul]; omega] at this
        exact this
section
variable {P : Program} (T : Tab P) {C : Ctx} {n : Nat}
variable {f : List (Nat × A)} {bx : List (Nat × List A)} {lv : List Nat} {gen : Nat} {ty : TypeId} {pos : String} {af : Array Edge} {dst : Option Nat} {G : Gh} {tmps : Array Value} {w : World}
theorem bounds_run (b : Bool) {lo hi : Option Operand} {len cap : Nat} {i j : Int} (hs : SimG C n ⟨f, bx, lv, gen⟩ G tmps w) (hlo : loA f lo = some i) (hhi : hiA f len hi = some j) (h0 : 0 ≤ i) (hij : i ≤ j) (hj : j ≤ len) (hc : len ≤ cap) :
    (Instr.sliceBounds b len cap (lo.map (Act.eval ⟨tmps, []⟩)) (hi.map (Act.eval ⟨tmps, []⟩)) none).run P w = .ok (i.toNat, j.toNat, cap) w := by
  have ev : ∀ (x : Operand) (v : Int), (match av f x with | some (.d (.v (.int _ v))) => some v | _ => none) = some v → ∃ k, Act.eval ⟨tmps, []⟩ x = .int k v := fun x v h => by
    split at h
    · rename_i k v' hav
      simp only [Option.some.injEq] at h
      subst h
      have hr := hs.av hav
      generalize Act.eval ⟨tmps, []⟩ x = y at hr
      cases hr with | d hr => cases hr with | v _ _ => exact ⟨k, rfl⟩
    · cases h
  have ehj : (j.toNat : Int) = j := Int.toNat_of_nonneg (by omega)
  have hh : ((match hi.map (Act.eval ⟨tmps, []⟩) with | some v => Instr.sliceBound v cap (if b then .sliceAcap else .sliceAlen) | none => pure len : Sem Nat)).run P w = .ok j.toNat w := by
    cases hi with
    | none =>
      simp only [hiA, Option.some.injEq] at hhi
      subst hhi
      simp
    | some x =>
      obtain ⟨k, e⟩ := ev x j hhi
      simp only [Option.map_some, e]
      exact run_sliceBound w k j cap _ (by omega) (by omega)
  have hl : ((match lo.map (Act.eval ⟨tmps, []⟩) with | some v => Instr.sliceBound v j.toNat (if (none : Option Value).isSome then .slice3C else .sliceB) | none => pure 0 : Sem Nat)).run P w = .ok i.toNat w := by
    cases lo with
    | none =>
      simp only [loA, Option.some.injEq] at hlo
      subst hlo
      simp
    | some x =>
      obtain ⟨k, e⟩ := ev x i hlo
      simp only [Option.map_some, e]
      exact run_sliceBound w k i j.toNat _ (by omega) (by omega)
  unfold Instr.sliceBounds
  cases hi with
  | none =>
    cases lo with
    | none =>
      simp only [Option.map_none, Sem.run_bind, Sem.run_pure, Result.andThen_ok] at hh hl ⊢
      simp_all
    | some x =>
      simp only [Option.map_none, Option.map_some, Sem.run_bind, Sem.run_pure, Result.andThen_ok] at hh hl ⊢
      simp only [Result.ok.injEq, and_true] at hh
      rw [← hh] at hl ⊢
      simp_all
  | some y =>
    cases lo with
    | none =>
      simp only [Option.map_none, Option.map_some, Sem.run_bind, Sem.run_pure, Result.andThen_ok] at hh hl ⊢
      rw [hh]
      simp_all
    | some x =>
      simp only [Option.map_some, Sem.run_bind, Sem.run_pure, Result.andThen_ok] at hh hl ⊢
      rw [hh]
      simp_all
theorem sliceV {α : Type} {fn : α → List D} {t e : Nat} {x : Operand} {lo hi : Option Operand} {td ed : TyD} {a : A} {l r : List α} {i j : Int} (hx : av f x = some a) (hes : slOf a = some (l.map fn)) (ht : look' T.l t = some td) (hk : td.k = .slice e) (he : look' T.l e = some ed)
    (hn : ∀ x, (fn x).length = ed.n) (hlo : loA f lo = some i) (hhi : hiA f l.length hi = some j) (h0 : 0 ≤ i) (hij : i ≤ j) (hj : j ≤ (l.length : Int)) (hr : (l.take j.toNat).drop i.toNat = r) :
    Pu P C n ⟨f, bx, lv, gen⟩ ⟨dst, .slice t x lo hi none, ty, pos, af, none⟩ (.d (.sl (r.map fn))) := by
  subst hr
  refine PuOK.pu fun G tmps w hs => ?_
  have hrx := slOf_rep hes (hs.av hx)
  obtain ⟨a', cap, hv, hcap, hrep⟩ := hrx.sub (i := i.toNat) (j := j.toNat) (sz := ed.n) (by omega) (by rw [List.length_map]; omega) (fun y hy => by obtain ⟨z, _, rfl⟩ := List.mem_map.1 hy; exact hn z)
  rw [List.length_map] at hv hcap
  have hu := T.u_slice ht hk
  have hpe : P.elem t = e := by simp [Program.elem, hu]
  have hu' : P.underlying t = some (.slice (P.elem t)) := by rw [hpe]; exact hu
  refine ⟨sliced a' i.toNat j.toNat cap ed.n, ?_, .d (by rw [← List.map_take, ← List.map_drop] at hrep; exact hrep)⟩
  unfold execOp
  show Sem.run P _ w = _
  simp only [Sem.run_bind, run_sliceAt_slice w t _ _ _ _ hu', hv, run_slice_any w t a' l.length cap hu', Option.map_none, bounds_run (P := P) true hs hlo hhi h0 hij hj hcap, Result.andThen_ok, hpe, T.sizeOf he]
  rfl
theorem sliceS {t : Nat} {x : Operand} {lo hi : Option Operand} {td : TyD} {s r : ByteArray} {i j : Int} (hx : av f x = some (.d (.v (.string s)))) (ht : look' T.l t = some td) (hk : td.k = .str)
    (hlo : loA f lo = some i) (hhi : hiA f s.size hi = some j) (h0 : 0 ≤ i) (hij : i ≤ j) (hj : j ≤ (s.size : Int)) (hr : s.extract i.toNat j.toNat = r) :
    Pu P C n ⟨f, bx, lv, gen⟩ ⟨dst, .slice t x lo hi none, ty, pos, af, none⟩ (.d (.v (.string r))) := by
  subst hr
  refine PuOK.pu fun G tmps w hs => ?_
  have hrx := hs.av hx
  generalize hvx : Act.eval ⟨tmps, []⟩ x = vx at hrx
  cases hrx with | d hrx => cases hrx with | v _ hok =>
  have hu := T.u_str ht hk
  have hm : s.size ≤ maxLen := by simpa [okc] using hok
  refine ⟨.string (s.extract i.toNat j.toNat), ?_, .d (.v _ (by simp only [okc, decide_eq_true_eq, ByteArray.size_extract]; omega))⟩
  unfold execOp
  show Sem.run P _ w = _
  have hb := bounds_run (P := P) false hs hlo hhi h0 hij hj (Nat.le_refl _)
  simp only [Sem.run_bind, run_sliceAt_string w t _ _ _ _ hu, hvx, Option.map_none, Instr.slice, run_underlying hu, Result.andThen_ok, Option.isSome_none, Bool.false_eq_true, if_false, Sem.run_pure]
  rw [hb]
  rfl
end
end Go.Ab
namespace Go.Tb
open Go.Ab
structure Tk where
  kind : Int
  s : ByteArray
  n : Int
  at_ : Nat
  nx : Nat
abbrev E0 : ByteArray := B #[]
@[reducible] def Tk.c (t : Tk) : List D := [ci t.kind, cs (if t.kind = 3 then E0 else t.s), ci t.n, ci (t.at_ : Int)]
def kindR (k : Int) : Int := if k = 0 then 0 else if k = 1 then 5 else k - 1
@[reducible] def Tk.r (t : Tk) : List D := [ci (kindR t.kind), cs t.s, ci (t.at_ : Int), ci (t.nx : Int)]
def letB (b : UInt8) : Bool := decide (97 ≤ b.toNat) && decide (b.toNat ≤ 122)
def wrdB (b : UInt8) : Bool := letB b || isDig b || decide (b = 95)
def txtB (b : UInt8) : Bool := decide (32 ≤ b.toNat) && decide (b.toNat ≤ 126) && !decide (b = 34)
def whiB (b : UInt8) : Bool := decide (b = 32) || decide (b = 9) || decide (b = 10) || decide (b = 13)
def sgn2 (b : UInt8) : Bool := decide (b = 33) || decide (b = 60) || decide (b = 62)
def sgn1 (b : UInt8) : Bool := [124, 44, 58, 40, 41, 61, 60, 62, 43, 45, 42, 47, 37].contains b
def runP (p : UInt8 → Bool) (s : ByteArray) (k : Nat) : Nat := k + (((bys s).drop k).takeWhile p).length
theorem bys_len' (s : ByteArray) : (bys s).length = s.size := by unfold bys; rw [Array.length_toList]; rfl
theorem runP_ge (p : UInt8 → Bool) (s : ByteArray) (k : Nat) : k ≤ runP p s k := Nat.le_add_right _ _
theorem runP_le (p : UInt8 → Bool) (s : ByteArray) {k : Nat} (h : k ≤ s.size) : runP p s k ≤ s.size := by
  have h1 := (List.takeWhile_sublist p (l := (bys s).drop k)).length_le
  rw [List.length_drop, bys_len'] at h1
  unfold runP
  omega
theorem runP_step {p : UInt8 → Bool} {s : ByteArray} {k : Nat} {b : UInt8} (h : (bys s)[k]? = some b) (hp : p b = true) : runP p s k = runP p s (k + 1) := by
  have hlt := (List.getElem?_eq_some_iff.1 h).1
  unfold runP
  rw [List.drop_eq_getElem_cons hlt, (List.getElem?_eq_some_iff.1 h).2, List.takeWhile_cons, if_pos hp, List.length_cons]
  omega
theorem runP_stop {p : UInt8 → Bool} {s : ByteArray} {k : Nat} {b : UInt8} (h : (bys s)[k]? = some b) (hp : p b = false) : runP p s k = k := by
  have hlt := (List.getElem?_eq_some_iff.1 h).1
  unfold runP
  rw [List.drop_eq_getElem_cons hlt, (List.getElem?_eq_some_iff.1 h).2, List.takeWhile_cons, if_neg (by simp [hp])]
  rfl
theorem runP_end {p : UInt8 → Bool} {s : ByteArray} {k : Nat} (h : s.size ≤ k) : runP p s k = k := by
  unfold runP
  rw [List.drop_eq_nil_of_le (by rw [bys_len']; exact h)]
  rfl
abbrev tkBad (k : Nat) : Tk := ⟨1, E0, 0, k, 0⟩
abbrev tkEnd (k : Nat) : Tk := ⟨0, E0, 0, k, 0⟩
def tokAt (s : ByteArray) (k : Nat) (c : UInt8) : Tk :=
  if letB c then ⟨2, s.extract k (runP wrdB s k), 0, k, runP wrdB s k⟩
  else if isDig c then (if (numP (s.extract k (runP isDig s k))).2 then ⟨3, s.extract k (runP isDig s k), (numP (s.extract k (runP isDig s k))).1, k, runP isDig s k⟩ else tkBad k)
  else if c = 34 then (if (bys s)[runP txtB s (k + 1)]? = some 34 then ⟨4, s.extract (k + 1) (runP txtB s (k + 1)), 0, k, runP txtB s (k + 1) + 1⟩ else tkBad k)
  else if (bys s)[k + 1]? = some 61 ∧ sgn2 c = true then ⟨5, s.extract k (k + 2), 0, k, k + 2⟩
  else if sgn1 c then ⟨5, s.extract k (k + 1), 0, k, k + 1⟩
  else tkBad k
def toAt (s : ByteArray) (k : Nat) (c : UInt8) : Nat :=
  if letB c then runP wrdB s k
  else if isDig c then runP isDig s k
  else if c = 34 then runP txtB s (k + 1) + 1
  else if (bys s)[k + 1]? = some 61 ∧ sgn2 c = true then k + 2
  else k + 1
def tokF (s : ByteArray) (k : Nat) : Tk :=
  match (bys s)[runP whiB s k]? with
  | none => tkEnd s.size
  | some c => tokAt s (runP whiB s k) c
def Tk.stops (t : Tk) : Bool := decide (t.kind = 0) || decide (t.kind = 1)
def toksN (s : ByteArray) : Nat → Nat → List Tk
  | 0, k => [tokF s k]
  | n + 1, k => if (tokF s k).stops then [tokF s k] else tokF s k :: toksN s n (tokF s k).nx
def toks (s : ByteArray) (k : Nat) : List Tk := toksN s (s.size - k) k
theorem tokAt_kind (s : ByteArray) (k : Nat) (c : UInt8) : 1 ≤ (tokAt s k c).kind ∧ (tokAt s k c).kind ≤ 5 := by
  unfold tokAt
  repeat' split
  all_goals (refine ⟨?_, ?_⟩ <;> dsimp only <;> omega)
theorem tokAt_at (s : ByteArray) (k : Nat) (c : UInt8) : (tokAt s k c).at_ = k := by
  unfold tokAt
  repeat' split
  all_goals rfl
theorem tokAt_nx {s : ByteArray} {k : Nat} {c : UInt8} (hc : (bys s)[k]? = some c) (h : (tokAt s k c).kind ≠ 1) : (tokAt s k c).nx = toAt s k c ∧ k < toAt s k c ∧ toAt s k c ≤ s.size := by
  have hk : k < s.size := by rw [← bys_len']; exact (List.getElem?_eq_some_iff.1 hc).1
  unfold tokAt toAt at *
  by_cases h1 : letB c = true
  · rw [if_pos h1] at h ⊢
    rw [if_pos h1]
    refine ⟨rfl, ?_, runP_le _ _ (by omega)⟩
    rw [runP_step hc (by simp [wrdB, h1])]
    exact runP_ge _ _ _
  · rw [if_neg h1] at h ⊢
    rw [if_neg h1]
    by_cases h2 : isDig c = true
    · rw [if_pos h2] at h ⊢
      rw [if_pos h2]
      split at h
      · rename_i h3
        rw [if_pos h3]
        refine ⟨rfl, ?_, runP_le _ _ (by omega)⟩
        rw [runP_step hc h2]
        exact runP_ge _ _ _
      · exact absurd rfl h
    · rw [if_neg h2] at h ⊢
      rw [if_neg h2]
      by_cases h3 : c = 34
      · rw [if_pos h3] at h ⊢
        rw [if_pos h3]
        split at h
        · rename_i h4
          rw [if_pos h4]
          have := runP_ge txtB s (k + 1)
          have h5 := (List.getElem?_eq_some_iff.1 h4).1
          rw [bys_len'] at h5
          exact ⟨rfl, by omega, by omega⟩
        · exact absurd rfl h
      · rw [if_neg h3] at h ⊢
        rw [if_neg h3]
        by_cases h4 : (bys s)[k + 1]? = some 61 ∧ sgn2 c = true
        · rw [if_pos h4] at h ⊢
          rw [if_pos h4]
          have h5 := (List.getElem?_eq_some_iff.1 h4.1).1
          rw [bys_len'] at h5
          exact ⟨rfl, by omega, by omega⟩
        · rw [if_neg h4] at h ⊢
          rw [if_neg h4]
          split at h
          · rename_i h5
            rw [if_pos h5]
            exact ⟨rfl, by omega, by omega⟩
          · exact absurd rfl h
theorem tokF_none {s : ByteArray} {k : Nat} (h : (bys s)[runP whiB s k]? = none) : tokF s k = tkEnd s.size := by unfold tokF; rw [h]
theorem tokF_some {s : ByteArray} {k : Nat} {c : UInt8} (h : (bys s)[runP whiB s k]? = some c) : tokF s k = tokAt s (runP whiB s k) c := by unfold tokF; rw [h]
theorem tokF_nx {s : ByteArray} {k : Nat} (h : (tokF s k).stops = false) : k < (tokF s k).nx ∧ (tokF s k).nx ≤ s.size := by
  have hge := runP_ge whiB s k
  cases q : (bys s)[runP whiB s k]? with
  | none => rw [tokF_none q] at h; cases h
  | some c =>
    rw [tokF_some q] at h ⊢
    simp only [Tk.stops, Bool.or_eq_false_iff, decide_eq_false_iff_not] at h
    have := tokAt_nx q h.2
    omega
theorem toksN_more (s : ByteArray) : ∀ (n k : Nat), s.size - k ≤ n → toksN s n k = toks s k := by
  intro n
  induction n using Nat.strongRecOn with
  | _ n ih =>
    intro k hn
    unfold toks
    cases n with
    | zero => rw [show s.size - k = 0 from by omega]
    | succ n =>
      cases hm : s.size - k with
      | zero =>
        have hst : (tokF s k).stops = true := by
          cases q : (tokF s k).stops
          · have := tokF_nx q; omega
          · rfl
        simp only [toksN, hst, if_true]
      | succ m =>
        simp only [toksN]
        by_cases q : (tokF s k).stops = true
        · rw [if_pos q, if_pos q]
        · rw [if_neg q, if_neg q]
          have := tokF_nx (by simpa using q)
          rw [ih n (by omega) _ (by omega), ih m (by omega) _ (by omega)]
theorem toks_eq (s : ByteArray) (k : Nat) : toks s k = if (tokF s k).stops then [tokF s k] else tokF s k :: toks s (tokF s k).nx := by
  have h := toksN_more s (s.size - k + 1) k (by omega)
  rw [← h]
  simp only [toksN]
  by_cases q : (tokF s k).stops = true
  · rw [if_pos q, if_pos q]
  · rw [if_neg q, if_neg q]
    have := tokF_nx (by simpa using q)
    rw [toksN_more s _ _ (by omega)]
theorem toks_white {s : ByteArray} {k : Nat} {c : UInt8} (hc : (bys s)[k]? = some c) (hw : whiB c = true) : toks s k = toks s (k + 1) := by
  have h : tokF s k = tokF s (k + 1) := by unfold tokF; rw [runP_step hc hw]
  rw [toks_eq s k, toks_eq s (k + 1), h]
theorem toks_at {s : ByteArray} {k : Nat} {c : UInt8} (hc : (bys s)[k]? = some c) (hw : whiB c = false) : toks s k = if (tokAt s k c).kind = 1 then [tokAt s k c] else tokAt s k c :: toks s (toAt s k c) := by
  have h : tokF s k = tokAt s k c := by rw [tokF_some (by rw [runP_stop hc hw]; exact hc), runP_stop hc hw]
  rw [toks_eq, h]
  have h1 := (tokAt_kind s k c).1
  by_cases q : (tokAt s k c).kind = 1
  · rw [if_pos (by simp [Tk.stops, q]), if_pos q]
  · rw [if_neg (by simp [Tk.stops, q]; omega), if_neg q, (tokAt_nx hc q).1]
theorem toks_end {s : ByteArray} {k : Nat} (h : s.size ≤ k) : toks s k = [tkEnd s.size] := by
  have h1 : tokF s k = tkEnd s.size := by
    exact tokF_none (by rw [runP_end h]; exact List.getElem?_eq_none (by rw [bys_len']; exact h))
  rw [toks_eq, h1]
  rfl
def Tk.ok (t : Tk) : Bool :=
  (!decide (t.kind = 2) || (match bys t.s with | c :: _ => letB c | [] => false)) && (!decide (t.kind = 5) || (match bys t.s with | c :: _ => !letB c | [] => false)) &&
  (!decide (t.kind = 3) || decide ((numP t.s).2 = true ∧ t.n = (numP t.s).1)) && decide (0 ≤ t.kind) && decide (t.kind ≤ 5)
structure Wf (l : List Tk) : Prop where
  ne : l ≠ []
  last : ∀ (i : Nat) t, l[i]? = some t → (t.stops = true ↔ i + 1 = l.length)
  ok : ∀ t ∈ l, t.ok = true
end Go.Tb
namespace Go.Tb
open Go.Ab
abbrev kwAnd : ByteArray := B #[97, 110, 100]
abbrev kwOr : ByteArray := B #[111, 114]
abbrev kwNot : ByteArray := B #[110, 111, 116]
abbrev kwNull : ByteArray := B #[110, 117, 108, 108]
abbrev kwTrue : ByteArray := B #[116, 114, 117, 101]
abbrev kwFalse : ByteArray := B #[102, 97, 108, 115, 101]
abbrev kwWhere : ByteArray := B #[119, 104, 101, 114, 101]
abbrev kwSelect : ByteArray := B #[115, 101, 108, 101, 99, 116]
abbrev kwGroup : ByteArray := B #[103, 114, 111, 117, 112]
abbrev kwSort : ByteArray := B #[115, 111, 114, 116]
abbrev kwLimit : ByteArray := B #[108, 105, 109, 105, 116]
abbrev kwJoin : ByteArray := B #[106, 111, 105, 110]
abbrev kwOverlap : ByteArray := B #[111, 118, 101, 114, 108, 97, 112]
abbrev kwNearest : ByteArray := B #[110, 101, 97, 114, 101, 115, 116]
abbrev kwCoal : ByteArray := B #[99, 111, 97, 108, 101, 115, 99, 101]
abbrev kwAs : ByteArray := B #[97, 115]
abbrev kwOn : ByteArray := B #[111, 110]
abbrev kwDesc : ByteArray := B #[100, 101, 115, 99]
abbrev kwFrom : ByteArray := B #[102, 114, 111, 109]
abbrev gBar : ByteArray := B #[124]
abbrev gCom : ByteArray := B #[44]
abbrev gCol : ByteArray := B #[58]
abbrev gOpen : ByteArray := B #[40]
abbrev gShut : ByteArray := B #[41]
abbrev gEq : ByteArray := B #[61]
abbrev gNe : ByteArray := B #[33, 61]
abbrev gLt : ByteArray := B #[60]
abbrev gLe : ByteArray := B #[60, 61]
abbrev gGt : ByteArray := B #[62]
abbrev gGe : ByteArray := B #[62, 61]
abbrev gAdd : ByteArray := B #[43]
abbrev gSub : ByteArray := B #[45]
abbrev gMul : ByteArray := B #[42]
abbrev gDiv : ByteArray := B #[47]
abbrev gMod : ByteArray := B #[37]
abbrev PS := Nat × Bool
abbrev Pr (α : Type) := PS → α × PS
abbrev dflT : Tk := tkEnd 0
abbrev v0 : Val := ⟨0, 0, E0⟩
abbrev exZ : Ex := .mk 0 E0 v0 []
abbrev exK (v : Val) : Ex := .mk 1 E0 v []
abbrev exF (s : ByteArray) : Ex := .mk 2 s v0 []
abbrev exC (s : ByteArray) (l : List Ex) : Ex := .mk 16 s v0 l
abbrev mk1 (op : Int) (a : Ex) : Ex := .mk op E0 v0 [a]
abbrev mk2 (op : Int) (a b : Ex) : Ex := .mk op E0 v0 [a, b]
abbrev stp0 (op : Int) : Stp := ⟨op, exZ, [], [], [], [], 0, E0⟩
def isT (t : Tk) (x : ByteArray) : Bool := (decide (t.kind = 5) || decide (t.kind = 2)) && decide (t.s = x)
def resvd (s : ByteArray) : Bool := words.any fun w => decide (s = w)
section
variable (L : List Tk)
def tk0 (st : PS) : Tk := (L[st.1]?).getD dflT
def pkT (k i : Nat) : Tk := (L[min (k + i) (L.length - 1)]?).getD dflT
def skB (x : ByteArray) (st : PS) : Bool := !st.2 && isT (tk0 L st) x
abbrev adv (st : PS) : PS := (st.1 + 1, st.2)
abbrev failS (st : PS) : PS := (st.1, true)
def skS (x : ByteArray) (st : PS) : PS := if skB L x st then adv st else st
def needP (x : ByteArray) (st : PS) : PS := if skB L x st then adv st else failS st
def nameB (st : PS) : Bool := !st.2 && (decide ((tk0 L st).kind = 2) && !resvd (tk0 L st).s)
def nameP (st : PS) : ByteArray × PS := if nameB L st then ((tk0 L st).s, adv st) else (E0, failS st)
def listGo {α : Type} (x : ByteArray) (one : Pr α) : Nat → PS → List α × PS
  | 0, st => ([], st)
  | n + 1, st => if skB L x st then ((one (adv st)).1 :: (listGo x one n (one (adv st)).2).1, (listGo x one n (one (adv st)).2).2) else ([], st)
def listP {α : Type} (one : Pr α) (st : PS) : List α × PS := ((one st).1 :: (listGo L gCom one L.length (one st).2).1, (listGo L gCom one L.length (one st).2).2)
def findOp (ops : List (ByteArray × Int)) (st : PS) : Option Int := (ops.find? fun o => skB L o.1 st).map (·.2)
def leftGo (one : Pr Ex) (ops : List (ByteArray × Int)) : Nat → Ex → PS → Ex × PS
  | 0, e, st => (e, st)
  | n + 1, e, st => match findOp L ops st with
    | none => (e, st)
    | some op => leftGo one ops n (mk2 op e (one (adv st)).1) (one (adv st)).2
def leftP (one : Pr Ex) (ops : List (ByteArray × Int)) (st : PS) : Ex × PS := leftGo L one ops L.length (one st).1 (one st).2
abbrev opsOr : List (ByteArray × Int) := [(kwOr, 15)]
abbrev opsAnd : List (ByteArray × Int) := [(kwAnd, 14)]
abbrev opsSum : List (ByteArray × Int) := [(gAdd, 5), (gSub, 6)]
abbrev opsMul : List (ByteArray × Int) := [(gMul, 7), (gDiv, 8), (gMod, 9)]
abbrev opsCmp : List (ByteArray × Int) := [(gEq, 10), (gNe, 11), (gLt, 12), (gLe, 13)]
abbrev opsRev : List (ByteArray × Int) := [(gGt, 12), (gGe, 13)]
def compP (sum : Pr Ex) (st : PS) : Ex × PS :=
  match findOp L opsCmp (sum st).2 with
  | some op => (mk2 op (sum st).1 (sum (adv (sum st).2)).1, (sum (adv (sum st).2)).2)
  | none => match findOp L opsRev (sum st).2 with
    | some op => (mk2 op (sum (adv (sum st).2)).1 (sum st).1, (sum (adv (sum st).2)).2)
    | none => sum st
def notP (comp : Pr Ex) : Nat → PS → Ex × PS
  | 0, st => comp st
  | n + 1, st => if skB L kwNot st then (mk1 3 (notP comp n (adv st)).1, (notP comp n (adv st)).2) else comp st
def unaryP (prim : Pr Ex) : Nat → PS → Ex × PS
  | 0, st => prim st
  | n + 1, st => if skB L gSub st then (mk1 4 (unaryP prim n (adv st)).1, (unaryP prim n (adv st)).2) else prim st
def negB (st : PS) : Bool := isT (tk0 L st) gOpen && (isT (pkT L st.1 1) gSub && (decide ((pkT L st.1 2).kind = 3) && isT (pkT L st.1 3) gShut))
def callP (orF : Pr Ex) (s : ByteArray) (st : PS) : Ex × PS :=
  if skB L gShut st then (exC s [], adv st) else (exC s (listP L orF st).1, needP L gShut (listP L orF st).2)
def primP (g : Bool) (orF : Pr Ex) (st : PS) : Ex × PS :=
  if st.2 then (exZ, st)
  else if (tk0 L st).kind = 3 then (exK ⟨2, (tk0 L st).n, E0⟩, adv st)
  else if (tk0 L st).kind = 4 then (exK ⟨3, 0, (tk0 L st).s⟩, adv st)
  else if skB L kwNull st then (exK v0, adv st)
  else if skB L kwTrue st then (exK ⟨1, 1, E0⟩, adv st)
  else if skB L kwFalse st then (exK ⟨1, 0, E0⟩, adv st)
  else if negB L st then (exK ⟨2, -(pkT L st.1 2).n, E0⟩, (st.1 + 4, st.2))
  else if skB L gOpen st then ((orF (adv st)).1, needP L gShut (orF (adv st)).2)
  else if nameB L st then (if skB L gOpen (adv st) then callP L orF (tk0 L st).s (adv (adv st)) else (exF (tk0 L st).s, adv st))
  else (if g then exF E0 else exZ, failS st)
abbrev prodP (g : Bool) (orF : Pr Ex) : Pr Ex := leftP L (unaryP L (primP L g orF) L.length) opsMul
abbrev sumP (g : Bool) (orF : Pr Ex) : Pr Ex := leftP L (prodP L g orF) opsSum
abbrev notsP (g : Bool) (orF : Pr Ex) : Pr Ex := notP L (compP L (sumP L g orF)) L.length
abbrev andP (g : Bool) (orF : Pr Ex) : Pr Ex := leftP L (notsP L g orF) opsAnd
abbrev orBP (g : Bool) (orF : Pr Ex) : Pr Ex := leftP L (andP L g orF) opsOr
def orP (g : Bool) : Nat → Pr Ex
  | 0 => fun st => (exZ, st)
  | n + 1 => orBP L g (orP g n)
def aggP (st : PS) : Agr × PS :=
  let f := nameP L st
  let s1 := needP L gOpen f.2
  let c := if nameB L s1 then nameP L s1 else (E0, s1)
  let a := nameP L (needP L kwAs (needP L gShut c.2))
  (⟨f.1, c.1, a.1⟩, a.2)
def itemP (orF : Pr Ex) (st : PS) : Itm × PS :=
  (⟨(orF st).1, (nameP L (needP L kwAs (orF st).2)).1⟩, (nameP L (needP L kwAs (orF st).2)).2)
def sortP (st : PS) : Srt × PS := (⟨(nameP L st).1, skB L kwDesc (nameP L st).2⟩, skS L kwDesc (nameP L st).2)
def limP (st : PS) : Int × PS := if st.2 || !decide ((tk0 L st).kind = 3) then (0, failS st) else ((tk0 L st).n, adv st)
def groupP (st : PS) : Stp × PS :=
  if !st.2 && !isT (tk0 L st) gCol then
    (if skB L gCol (listP L (nameP L) st).2 then
      ({ stp0 3 with cols := (listP L (nameP L) st).1, aggs := (listP L (aggP L) (adv (listP L (nameP L) st).2)).1 }, (listP L (aggP L) (adv (listP L (nameP L) st).2)).2)
    else ({ stp0 3 with cols := (listP L (nameP L) st).1 }, (listP L (nameP L) st).2))
  else ({ stp0 3 with aggs := (listP L (aggP L) (needP L gCol st)).1 }, (listP L (aggP L) (needP L gCol st)).2)
def withP (g : Bool) (op : Int) (must : Bool) (st : PS) : Stp × PS :=
  if must then
    (if (needP L kwOn (nameP L st).2).2 then ({ stp0 op with table := (nameP L st).1, cols := if g then [E0] else [] }, needP L kwOn (nameP L st).2)
    else ({ stp0 op with table := (nameP L st).1, cols := (listP L (nameP L) (needP L kwOn (nameP L st).2)).1 }, (listP L (nameP L) (needP L kwOn (nameP L st).2)).2))
  else if skB L kwOn (nameP L st).2 then ({ stp0 op with table := (nameP L st).1, cols := (listP L (nameP L) (adv (nameP L st).2)).1 }, (listP L (nameP L) (adv (nameP L st).2)).2)
  else ({ stp0 op with table := (nameP L st).1 }, (nameP L st).2)
def coalP (st : PS) : Stp × PS := if nameB L st then ({ stp0 9 with cols := (listP L (nameP L) st).1 }, (listP L (nameP L) st).2) else (stp0 9, st)
def stepP (g : Bool) (orF : Pr Ex) (st : PS) : Stp × PS :=
  if skB L kwWhere st then ({ stp0 1 with cond := (orF (adv st)).1 }, (orF (adv st)).2)
  else if skB L kwSelect st then ({ stp0 2 with items := (listP L (itemP L orF) (adv st)).1 }, (listP L (itemP L orF) (adv st)).2)
  else if skB L kwGroup st then groupP L (adv st)
  else if skB L kwSort st then ({ stp0 4 with sorts := (listP L (sortP L) (adv st)).1 }, (listP L (sortP L) (adv st)).2)
  else if skB L kwLimit st then ({ stp0 5 with n := (limP L (adv st)).1 }, (limP L (adv st)).2)
  else if skB L kwJoin st then withP L g 6 true (adv st)
  else if skB L kwOverlap st then withP L g 7 false (adv st)
  else if skB L kwNearest st then withP L g 8 false (adv st)
  else if skB L kwCoal st then coalP L (adv st)
  else (stp0 0, failS st)
def queryP (g : Bool) (orF : Pr Ex) (st : PS) : Qry × PS :=
  let f := nameP L (needP L kwFrom st)
  (⟨f.1, (listGo L gBar (stepP L g orF) L.length f.2).1⟩, (listGo L gBar (stepP L g orF) L.length f.2).2)
def badB (st : PS) : Bool := st.2 || !decide ((tk0 L st).kind = 0)
/-! ### what readers do -/
structure Goes {α : Type} (f : Pr α) : Prop where
  mono : ∀ st, st.1 ≤ (f st).2.1
  lt : ∀ st, st.1 < L.length → (f st).2.1 < L.length
  bad : ∀ st, st.2 = true → (f st).2 = st
variable {L}
theorem at_get {st : PS} {t : Tk} (h : L[st.1]? = some t) : tk0 L st = t := by unfold tk0; rw [h]; rfl
theorem Wf.more (hw : Wf L) {st : PS} (h : st.1 < L.length) (hs : (tk0 L st).stops = false) : st.1 + 1 < L.length := by
  have e : L[st.1]? = some (L[st.1]'h) := by simp
  rw [at_get e] at hs
  have := hw.last _ _ e
  rcases Nat.lt_or_ge (st.1 + 1) L.length with h' | h'
  · exact h'
  · have h2 := this.2 (by omega)
    rw [h2] at hs
    cases hs
theorem isT_go {t : Tk} {x : ByteArray} (h : isT t x = true) : t.stops = false := by
  simp only [isT, Bool.and_eq_true, Bool.or_eq_true, decide_eq_true_eq] at h
  unfold Tk.stops
  rcases h.1 with e | e <;> rw [e] <;> decide
theorem skB_more (hw : Wf L) {x : ByteArray} {st : PS} (h : skB L x st = true) (hl : st.1 < L.length) : st.1 + 1 < L.length := by
  simp only [skB, Bool.and_eq_true] at h
  exact hw.more hl (isT_go h.2)
theorem nameB_more (hw : Wf L) {st : PS} (h : nameB L st = true) (hl : st.1 < L.length) : st.1 + 1 < L.length := by
  simp only [nameB, Bool.and_eq_true, decide_eq_true_eq] at h
  exact hw.more hl (by unfold Tk.stops; rw [h.2.1]; decide)
theorem skB_bad {x : ByteArray} {st : PS} (h : st.2 = true) : skB L x st = false := by simp [skB, h]
theorem nameB_bad {st : PS} (h : st.2 = true) : nameB L st = false := by simp [nameB, h]
theorem fail_bad {st : PS} (h : st.2 = true) : failS st = st := by obtain ⟨k, b⟩ := st; simp only at h; rw [h]
theorem needP_goes (hw : Wf L) (x : ByteArray) : Goes L (fun st => ((), needP L x st)) where
  mono st := by simp only [needP]; split <;> simp
  lt st h := by
    simp only [needP]
    split
    · rename_i q; exact skB_more hw q h
    · exact h
  bad st h := by simp only [needP, skB_bad h, Bool.false_eq_true, if_false]; exact fail_bad h
theorem nameP_goes (hw : Wf L) : Goes L (nameP L) where
  mono st := by unfold nameP; split <;> simp
  lt st h := by
    unfold nameP
    split
    · rename_i q; exact nameB_more hw q h
    · exact h
  bad st h := by unfold nameP; rw [nameB_bad h, if_neg (by decide)]; exact fail_bad h
theorem listGo_goes (hw : Wf L) {α : Type} {one : Pr α} (ho : Goes L one) (x : ByteArray) : ∀ n, Goes L (listGo L x one n)
  | 0 => ⟨fun _ => Nat.le_refl _, fun _ h => h, fun _ _ => rfl⟩
  | n + 1 => by
    have ih := listGo_goes hw ho x n
    refine ⟨fun st => ?_, fun st h => ?_, fun st h => ?_⟩
    · simp only [listGo]
      split
      · have h1 := ho.mono (adv st)
        have h2 := ih.mono (one (adv st)).2
        simp only [adv] at h1 h2 ⊢
        omega
      · exact Nat.le_refl _
    · simp only [listGo]
      split
      · rename_i q; exact ih.lt _ (ho.lt _ (skB_more hw q h))
      · exact h
    · simp only [listGo, skB_bad h, Bool.false_eq_true, if_false]
theorem listP_goes (hw : Wf L) {α : Type} {one : Pr α} (ho : Goes L one) : Goes L (listP L one) where
  mono st := Nat.le_trans (ho.mono st) ((listGo_goes hw ho gCom L.length).mono _)
  lt st h := (listGo_goes hw ho gCom L.length).lt _ (ho.lt st h)
  bad st h := by
    have h1 := ho.bad st h
    have h2 := (listGo_goes hw ho gCom L.length).bad (one st).2 (by rw [h1]; exact h)
    simp only [listP]
    rw [h2, h1]
theorem findOp_sk {ops : List (ByteArray × Int)} {st : PS} {op : Int} (h : findOp L ops st = some op) : ∃ x, skB L x st = true := by
  simp only [findOp, Option.map_eq_some_iff] at h
  obtain ⟨o, ho, _⟩ := h
  have h1 := List.find?_some ho
  exact ⟨o.1, h1⟩
theorem findOp_bad {ops : List (ByteArray × Int)} {st : PS} (h : st.2 = true) : findOp L ops st = none := by
  simp only [findOp, Option.map_eq_none_iff, List.find?_eq_none]
  intro o _
  simp [skB_bad h]
theorem leftGo_goes (hw : Wf L) {one : Pr Ex} (ho : Goes L one) (ops : List (ByteArray × Int)) : ∀ n e, Goes L (leftGo L one ops n e)
  | 0, e => ⟨fun _ => Nat.le_refl _, fun _ h => h, fun _ _ => rfl⟩
  | n + 1, e => by
    refine ⟨fun st => ?_, fun st h => ?_, fun st h => ?_⟩
    · simp only [leftGo]
      split
      · exact Nat.le_refl _
      · rename_i op _
        have h1 := ho.mono (adv st)
        have h2 := (leftGo_goes hw ho ops n (mk2 op e (one (adv st)).1)).mono (one (adv st)).2
        simp only [adv] at h1 h2 ⊢
        omega
    · simp only [leftGo]
      split
      · exact h
      · rename_i op q
        obtain ⟨x, hx⟩ := findOp_sk q
        exact (leftGo_goes hw ho ops n _).lt _ (ho.lt _ (skB_more hw hx h))
    · simp only [leftGo, findOp_bad h]
theorem leftP_goes (hw : Wf L) {one : Pr Ex} (ho : Goes L one) (ops : List (ByteArray × Int)) : Goes L (leftP L one ops) where
  mono st := Nat.le_trans (ho.mono st) ((leftGo_goes hw ho ops L.length _).mono _)
  lt st h := (leftGo_goes hw ho ops L.length _).lt _ (ho.lt st h)
  bad st h := by
    have h1 := ho.bad st h
    have h2 := (leftGo_goes hw ho ops L.length (one st).1).bad (one st).2 (by rw [h1]; exact h)
    simp only [leftP]
    rw [h2, h1]
theorem compP_goes (hw : Wf L) {sum : Pr Ex} (ho : Goes L sum) : Goes L (compP L sum) := by
  refine ⟨fun st => ?_, fun st h => ?_, fun st h => ?_⟩
  · have h1 := ho.mono st
    have h2 : (sum st).2.1 + 1 ≤ (sum (adv (sum st).2)).2.1 := ho.mono (adv (sum st).2)
    simp only [compP]
    split
    · show st.1 ≤ (sum (adv (sum st).2)).2.1
      omega
    · split
      · show st.1 ≤ (sum (adv (sum st).2)).2.1
        omega
      · exact h1
  · have h1 := ho.lt st h
    simp only [compP]
    split
    · rename_i op q
      obtain ⟨x, hx⟩ := findOp_sk q
      exact ho.lt _ (skB_more hw hx h1)
    · split
      · rename_i op q
        obtain ⟨x, hx⟩ := findOp_sk q
        exact ho.lt _ (skB_more hw hx h1)
      · exact h1
  · have h1 := ho.bad st h
    have h2 : (sum st).2.2 = true := by rw [h1]; exact h
    simp only [compP, findOp_bad h2]
    exact h1
theorem notP_goes (hw : Wf L) {comp : Pr Ex} (ho : Goes L comp) : ∀ n, Goes L (notP L comp n)
  | 0 => ho
  | n + 1 => by
    have ih := notP_goes hw ho n
    refine ⟨fun st => ?_, fun st h => ?_, fun st h => ?_⟩
    · simp only [notP]
      split
      · have := ih.mono (adv st); simp only [adv] at this ⊢; omega
      · exact ho.mono st
    · simp only [notP]
      split
      · rename_i q; exact ih.lt _ (skB_more hw q h)
      · exact ho.lt st h
    · simp only [notP, skB_bad h, Bool.false_eq_true, if_false]; exact ho.bad st h
theorem unaryP_goes (hw : Wf L) {prim : Pr Ex} (ho : Goes L prim) : ∀ n, Goes L (unaryP L prim n)
  | 0 => ho
  | n + 1 => by
    have ih := unaryP_goes hw ho n
    refine ⟨fun st => ?_, fun st h => ?_, fun st h => ?_⟩
    · simp only [unaryP]
      split
      · have := ih.mono (adv st); simp only [adv] at this ⊢; omega
      · exact ho.mono st
    · simp only [unaryP]
      split
      · rename_i q; exact ih.lt _ (skB_more hw q h)
      · exact ho.lt st h
    · simp only [unaryP, skB_bad h, Bool.false_eq_true, if_false]; exact ho.bad st h
theorem pkT_at {k i : Nat} (h : k + i < L.length) : L[k + i]? = some (pkT L k i) := by
  unfold pkT
  rw [Nat.min_eq_left (by omega)]
  simp [h]
theorem pkT_go (hw : Wf L) {k i : Nat} (h : (pkT L k i).stops = false) : k + i + 1 < L.length := by
  have hne : 0 < L.length := List.length_pos_iff.2 hw.ne
  rcases Nat.lt_or_ge (k + i) (L.length - 1) with h1 | h1
  · omega
  · exfalso
    unfold pkT at h
    rw [Nat.min_eq_right h1] at h
    have e : L[L.length - 1]? = some (L[L.length - 1]'(by omega)) := by simp
    rw [e] at h
    have := (hw.last _ _ e).2 (by omega)
    simp only [Option.getD_some] at h
    rw [this] at h
    cases h
theorem negB_more (hw : Wf L) {st : PS} (h : negB L st = true) : st.1 + 4 < L.length := by
  simp only [negB, Bool.and_eq_true] at h
  exact pkT_go hw (isT_go h.2.2.2)
theorem callP_goes (hw : Wf L) {orF : Pr Ex} (ho : Goes L orF) (s : ByteArray) : Goes L (callP L orF s) := by
  have hl := listP_goes hw ho
  have hn := needP_goes hw gShut
  refine ⟨fun st => ?_, fun st h => ?_, fun st h => ?_⟩
  · simp only [callP]
    split
    · simp
    · exact Nat.le_trans (hl.mono st) (hn.mono _)
  · simp only [callP]
    split
    · rename_i q; exact skB_more hw q h
    · exact hn.lt _ (hl.lt st h)
  · simp only [callP, skB_bad h, Bool.false_eq_true, if_false]
    have h1 := hl.bad st h
    have h2 := hn.bad (listP L orF st).2 (by rw [h1]; exact h)
    simp only at h2
    rw [h2, h1]
theorem primP_goes (hw : Wf L) {orF : Pr Ex} (ho : Goes L orF) (g : Bool) : Goes L (primP L g orF) := by
  have hn := needP_goes hw gShut
  refine ⟨fun st => ?_, fun st h => ?_, fun st h => ?_⟩
  · unfold primP
    repeat' split
    all_goals first | exact Nat.le_refl _ | exact Nat.le_succ _ | (simp only []; omega) | skip
    · exact Nat.le_trans (Nat.le_succ _) (Nat.le_trans (ho.mono (adv st)) (hn.mono _))
    · exact Nat.le_trans (Nat.le_add_right _ 2) ((callP_goes hw ho (tk0 L st).s).mono (adv (adv st)))
  · unfold primP
    have hk : ∀ k : Int, (k = 3 ∨ k = 4) → (tk0 L st).kind = k → st.1 + 1 < L.length := fun k hk e => hw.more h (by unfold Tk.stops; rw [e]; rcases hk with rfl | rfl <;> decide)
    by_cases h0 : st.2 = true
    · rw [if_pos h0]; exact h
    rw [if_neg h0]
    by_cases h1 : (tk0 L st).kind = 3
    · rw [if_pos h1]; exact hk 3 (.inl rfl) h1
    rw [if_neg h1]
    by_cases h2 : (tk0 L st).kind = 4
    · rw [if_pos h2]; exact hk 4 (.inr rfl) h2
    rw [if_neg h2]
    by_cases h3 : skB L kwNull st = true
    · rw [if_pos h3]; exact skB_more hw h3 h
    rw [if_neg h3]
    by_cases h4 : skB L kwTrue st = true
    · rw [if_pos h4]; exact skB_more hw h4 h
    rw [if_neg h4]
    by_cases h5 : skB L kwFalse st = true
    · rw [if_pos h5]; exact skB_more hw h5 h
    rw [if_neg h5]
    by_cases h6 : negB L st = true
    · rw [if_pos h6]; exact negB_more hw h6
    rw [if_neg h6]
    by_cases h7 : skB L gOpen st = true
    · rw [if_pos h7]; exact hn.lt _ (ho.lt _ (skB_more hw h7 h))
    rw [if_neg h7]
    by_cases h8 : nameB L st = true
    · rw [if_pos h8]
      have h9 := nameB_more hw h8 h
      by_cases h10 : skB L gOpen (adv st) = true
      · rw [if_pos h10]; exact (callP_goes hw ho _).lt _ (skB_more hw h10 h9)
      · rw [if_neg h10]; exact h9
    · rw [if_neg h8]; exact h
  · unfold primP
    rw [if_pos h]
theorem orP_goes (hw : Wf L) (g : Bool) : ∀ n, Goes L (orP L g n)
  | 0 => ⟨fun _ => Nat.le_refl _, fun _ h => h, fun _ _ => rfl⟩
  | n + 1 => leftP_goes hw (leftP_goes hw (notP_goes hw (compP_goes hw (leftP_goes hw (leftP_goes hw (unaryP_goes hw (primP_goes hw (orP_goes hw g n) g) _) _) _)) _) _) _
end
end Go.Tb
namespace Go.Tb
open Go.Ab
section
variable (L : List Tk)
def Agree {α : Type} (f h : Pr α) : Prop := ∀ st, (f st).2 = (h st).2 ∧ ((f st).2.2 = false → (f st).1 = (h st).1)
variable {L}
theorem Agree.refl {α : Type} (f : Pr α) : Agree f f := fun _ => ⟨rfl, fun _ => rfl⟩
/-! ### steps and queries -/
theorem skS_goes (hw : Wf L) (x : ByteArray) : Goes L (fun st => ((), skS L x st)) where
  mono st := by simp only [skS]; split <;> simp
  lt st h := by
    simp only [skS]
    split
    · rename_i q; exact skB_more hw q h
    · exact h
  bad st h := by simp only [skS, skB_bad h, Bool.false_eq_true, if_false]
theorem Goes.seq {α β : Type} {f : Pr α} {h : Pr β} (hf : Goes L f) (hh : Goes L h) : Goes L (fun st => h (f st).2) where
  mono st := Nat.le_trans (hf.mono st) (hh.mono _)
  lt st hl := hh.lt _ (hf.lt st hl)
  bad st hb := by
    have h1 := hf.bad st hb
    have h2 := hh.bad (f st).2 (by rw [h1]; exact hb)
    rw [h2, h1]
theorem Goes.map {α β : Type} {f : Pr α} {h : Pr β} (hf : Goes L f) (e : ∀ st, (h st).2 = (f st).2) : Goes L h where
  mono st := by rw [e]; exact hf.mono st
  lt st hl := by rw [e]; exact hf.lt st hl
  bad st hb := by rw [e]; exact hf.bad st hb
theorem aggP_goes (hw : Wf L) : Goes L (aggP L) := by
  have n := nameP_goes hw
  have c : Goes L (fun st => if nameB L st then nameP L st else (E0, st)) := by
    refine ⟨fun st => ?_, fun st h => ?_, fun st h => ?_⟩
    · split
      · exact n.mono st
      · exact Nat.le_refl _
    · split
      · exact n.lt st h
      · exact h
    · rw [nameB_bad h, if_neg (by decide)]
  exact (((((n.seq (needP_goes hw gOpen)).seq c).seq (needP_goes hw gShut)).seq (needP_goes hw kwAs)).seq n).map fun _ => rfl
theorem itemP_goes (hw : Wf L) {o : Pr Ex} (ho : Goes L o) : Goes L (itemP L o) := ((ho.seq (needP_goes hw kwAs)).seq (nameP_goes hw)).map fun _ => rfl
theorem sortP_goes (hw : Wf L) : Goes L (sortP L) := ((nameP_goes hw).seq (skS_goes hw kwDesc)).map fun _ => rfl
theorem limP_goes (hw : Wf L) : Goes L (limP L) where
  mono st := by unfold limP; split <;> simp
  lt st h := by
    unfold limP
    split
    · exact h
    · rename_i q
      simp only [Bool.or_eq_true, Bool.not_eq_true', decide_eq_false_iff_not, not_or, Decidable.not_not] at q
      exact hw.more h (by unfold Tk.stops; rw [q.2]; decide)
  bad st h := by unfold limP; rw [h]; exact fail_bad h
theorem groupP_goes (hw : Wf L) : Goes L (groupP L) := by
  have n := listP_goes hw (nameP_goes hw)
  have a := listP_goes hw (aggP_goes hw)
  have c := needP_goes hw gCol
  refine ⟨fun st => ?_, fun st h => ?_, fun st h => ?_⟩
  · unfold groupP
    split
    · split
      · have h1 := n.mono st
        have h2 := a.mono (adv (listP L (nameP L) st).2)
        simp only [adv] at h1 h2 ⊢
        omega
      · exact n.mono st
    · exact Nat.le_trans (c.mono st) (a.mono _)
  · unfold groupP
    split
    · split
      · rename_i q; exact a.lt _ (skB_more hw q (n.lt st h))
      · exact n.lt st h
    · exact a.lt _ (c.lt st h)
  · unfold groupP
    rw [if_neg (by simp [h])]
    exact (c.seq a).bad st h
theorem withP_goes (hw : Wf L) (g : Bool) (op : Int) (must : Bool) : Goes L (withP L g op must) := by
  have n := nameP_goes hw
  have l := listP_goes hw n
  have c := needP_goes hw kwOn
  refine ⟨fun st => ?_, fun st h => ?_, fun st h => ?_⟩
  · unfold withP
    split
    · split
      · exact (n.seq c).mono st
      · exact ((n.seq c).seq l).mono st
    · split
      · have h1 := n.mono st
        have h2 := l.mono (adv (nameP L st).2)
        simp only [adv] at h1 h2 ⊢
        omega
      · exact n.mono st
  · unfold withP
    split
    · split
      · exact (n.seq c).lt st h
      · exact ((n.seq c).seq l).lt st h
    · split
      · rename_i q; exact l.lt _ (skB_more hw q (n.lt st h))
      · exact n.lt st h
  · have h1 := n.bad st h
    have h2 := (n.seq c).bad st h
    simp only at h2
    unfold withP
    split
    · rw [if_pos (by rw [h2]; exact h)]; exact h2
    · rw [skB_bad (by rw [h1]; exact h), if_neg (by decide)]; exact h1
theorem coalP_goes (hw : Wf L) : Goes L (coalP L) := by
  have l := listP_goes hw (nameP_goes hw)
  refine ⟨fun st => ?_, fun st h => ?_, fun st h => ?_⟩
  · unfold coalP
    split
    · exact l.mono st
    · exact Nat.le_refl _
  · unfold coalP
    split
    · exact l.lt st h
    · exact h
  · unfold coalP
    rw [nameB_bad h, if_neg (by decide)]
theorem step_goes {α : Type} (hw : Wf L) {f : Pr α} (hf : Goes L f) {x : ByteArray} {st : PS} (h : skB L x st = true) : st.1 ≤ (f (adv st)).2.1 ∧ (st.1 < L.length → (f (adv st)).2.1 < L.length) :=
  ⟨Nat.le_trans (Nat.le_succ _) (hf.mono (adv st)), fun hl => hf.lt _ (skB_more hw h hl)⟩
theorem stepP_both (hw : Wf L) {o : Pr Ex} (ho : Goes L o) (g : Bool) (st : PS) : (st.1 ≤ (stepP L g o st).2.1 ∧ (st.1 < L.length → (stepP L g o st).2.1 < L.length)) ∧ (st.2 = true → (stepP L g o st).2 = st) := by
  refine ⟨?_, fun h => ?_⟩
  · unfold stepP
    split
    · rename_i q; exact step_goes hw ho q
    · split
      · rename_i q; exact step_goes hw (listP_goes hw (itemP_goes hw ho)) q
      · split
        · rename_i q; exact step_goes hw (groupP_goes hw) q
        · split
          · rename_i q; exact step_goes hw (listP_goes hw (sortP_goes hw)) q
          · split
            · rename_i q; exact step_goes hw (limP_goes hw) q
            · split
              · rename_i q; exact step_goes hw (withP_goes hw g 6 true) q
              · split
                · rename_i q; exact step_goes hw (withP_goes hw g 7 false) q
                · split
                  · rename_i q; exact step_goes hw (withP_goes hw g 8 false) q
                  · split
                    · rename_i q; exact step_goes hw (coalP_goes hw) q
                    · exact ⟨Nat.le_refl _, fun h => h⟩
  · unfold stepP
    simp only [skB_bad h, Bool.false_eq_true, if_false]
    exact fail_bad h
theorem stepP_goes (hw : Wf L) {o : Pr Ex} (ho : Goes L o) (g : Bool) : Goes L (stepP L g o) := ⟨fun st => (stepP_both hw ho g st).1.1, fun st h => (stepP_both hw ho g st).1.2 h, fun st h => (stepP_both hw ho g st).2 h⟩
theorem queryP_goes (hw : Wf L) {o : Pr Ex} (ho : Goes L o) (g : Bool) : Goes L (queryP L g o) := (((needP_goes hw kwFrom).seq (nameP_goes hw)).seq (listGo_goes hw (stepP_goes hw ho g) gBar L.length)).map fun _ => rfl
end
end Go.Tb
namespace Go.Tb
open Go.Ab
theorem bys_extract (s : ByteArray) (i j : Nat) : bys (s.extract i j) = ((bys s).take j).drop i := by
  unfold bys
  rw [ByteArray.data_extract, Array.toList_extract, List.extract_eq_drop_take', List.drop_take]
theorem bys_head {s : ByteArray} {i j : Nat} {c : UInt8} (h : (bys s)[i]? = some c) (hj : i < j) : ∃ r, bys (s.extract i j) = c :: r := by
  have hlt := (List.getElem?_eq_some_iff.1 h).1
  rw [bys_extract, List.drop_take, List.drop_eq_getElem_cons hlt, (List.getElem?_eq_some_iff.1 h).2]
  cases hm : j - i with
  | zero => omega
  | succ m => exact ⟨_, List.take_succ_cons⟩
theorem tokAt_ok {s : ByteArray} {k : Nat} {c : UInt8} (hc : (bys s)[k]? = some c) : (tokAt s k c).ok = true := by
  by_cases h1 : letB c = true
  · have e : tokAt s k c = ⟨2, s.extract k (runP wrdB s k), 0, k, runP wrdB s k⟩ := by unfold tokAt; rw [if_pos h1]
    obtain ⟨r, hr⟩ := bys_head (j := runP wrdB s k) hc (by rw [runP_step hc (by simp [wrdB, h1])]; exact runP_ge _ _ _)
    rw [e]
    simp [Tk.ok, hr, h1]
  by_cases h2 : isDig c = true
  · by_cases h3 : (numP (s.extract k (runP isDig s k))).2 = true
    · have e : tokAt s k c = ⟨3, s.extract k (runP isDig s k), (numP (s.extract k (runP isDig s k))).1, k, runP isDig s k⟩ := by unfold tokAt; rw [if_neg h1, if_pos h2, if_pos h3]
      rw [e]
      simp [Tk.ok, h3]
    · have e : tokAt s k c = tkBad k := by unfold tokAt; rw [if_neg h1, if_pos h2, if_neg h3]
      rw [e]
      rfl
  by_cases h3 : c = 34
  · by_cases h4 : (bys s)[runP txtB s (k + 1)]? = some 34
    · have e : tokAt s k c = ⟨4, s.extract (k + 1) (runP txtB s (k + 1)), 0, k, runP txtB s (k + 1) + 1⟩ := by unfold tokAt; rw [if_neg h1, if_neg h2, if_pos h3, if_pos h4]
      rw [e]
      simp [Tk.ok]
    · have e : tokAt s k c = tkBad k := by unfold tokAt; rw [if_neg h1, if_neg h2, if_pos h3, if_neg h4]
      rw [e]
      rfl
  by_cases h4 : (bys s)[k + 1]? = some 61 ∧ sgn2 c = true
  · have e : tokAt s k c = ⟨5, s.extract k (k + 2), 0, k, k + 2⟩ := by unfold tokAt; rw [if_neg h1, if_neg h2, if_neg h3, if_pos h4]
    obtain ⟨r, hr⟩ := bys_head (j := k + 2) hc (by omega)
    rw [e]
    simp [Tk.ok, hr, h1]
  by_cases h5 : sgn1 c = true
  · have e : tokAt s k c = ⟨5, s.extract k (k + 1), 0, k, k + 1⟩ := by unfold tokAt; rw [if_neg h1, if_neg h2, if_neg h3, if_neg h4, if_pos h5]
    obtain ⟨r, hr⟩ := bys_head (j := k + 1) hc (by omega)
    rw [e]
    simp [Tk.ok, hr, h1]
  · have e : tokAt s k c = tkBad k := by unfold tokAt; rw [if_neg h1, if_neg h2, if_neg h3, if_neg h4, if_neg h5]
    rw [e]
    rfl
theorem tokF_ok (s : ByteArray) (k : Nat) : (tokF s k).ok = true := by
  cases q : (bys s)[runP whiB s k]? with
  | none => rw [tokF_none q]; rfl
  | some c => rw [tokF_some q]; exact tokAt_ok q
theorem toks_wf (s : ByteArray) : ∀ k, Wf (toks s k) := by
  intro k
  induction hm : s.size - k using Nat.strongRecOn generalizing k with
  | _ m ih =>
    subst hm
    have hok := tokF_ok s k
    rw [toks_eq]
    by_cases q : (tokF s k).stops = true
    · rw [if_pos q]
      refine ⟨by simp, fun i t h => ?_, fun t h => ?_⟩
      · rcases i with _ | i
        · simp only [List.getElem?_cons_zero, Option.some.injEq] at h
          subst h
          simp [q]
        · simp at h
      · simp only [List.mem_singleton] at h
        subst h
        exact hok
    · rw [if_neg q]
      have hn := tokF_nx (by simpa using q)
      have w := ih (s.size - (tokF s k).nx) (by omega) (tokF s k).nx rfl
      refine ⟨by simp, fun i t h => ?_, fun t h => ?_⟩
      · rcases i with _ | i
        · simp only [List.getElem?_cons_zero, Option.some.injEq] at h
          subst h
          have := List.length_pos_iff.2 w.ne
          simp only [List.length_cons]
          constructor
          · intro h; exact absurd h q
          · intro h; omega
        · have := w.last i t (by simpa using h)
          simp only [List.length_cons]
          rw [this]
          omega
      · rcases List.mem_cons.1 h with e | e
        · rw [e]; exact hok
        · exact w.ok t e
/-! ### the functions -/
def readP {α : Type} (d : α) (one : List Tk → Pr α) (s : ByteArray) : α × Int × Int :=
  if 2000 < s.size then (d, 0, 7)
  else if badB (toks s 0) (one (toks s 0) (0, false)).2 then (d, (tk0 (toks s 0) (one (toks s 0) (0, false)).2).at_, 15)
  else ((one (toks s 0) (0, false)).1, 0, 0)
abbrev qry0 : Qry := ⟨E0, []⟩
def checkP {α : Type} (d : α) (err : α → Int) (r : α × Int × Int) : α × Int × Int :=
  if (if r.2.2 = 0 then err r.1 else r.2.2) ≠ 0 then (d, r.2.1, if r.2.2 = 0 then err r.1 else r.2.2) else (r.1, 0, 0)
abbrev orT (g : Bool) (L : List Tk) : Pr Ex := orP L g L.length
abbrev queryT (g : Bool) (L : List Tk) : Pr Qry := queryP L g (orT g L)
def queryF (g : Bool) (s : ByteArray) : Qry × Int × Int := checkP qry0 queryErr (readP qry0 (queryT g) s)
def exprF (g : Bool) (s : ByteArray) : Ex × Int × Int := checkP exZ exprErr (readP exZ (orT g) s)
end Go.Tb
namespace Go.Tb
open Go.Ab
abbrev Tk.core (t : Tk) : Tk := ⟨t.kind, t.s, t.n, 0, 0⟩
abbrev mkT (kind : Int) (s : ByteArray) (n : Int) (rem : Nat) : Tk := ⟨kind, s, n, rem, 0⟩
def lexA (c : UInt8) (r : List UInt8) : Tk × List UInt8 :=
  if letB c then (mkT 2 (ofL ((c :: r).takeWhile wrdB)) 0 (r.length + 1), (c :: r).dropWhile wrdB)
  else if isDig c then
    (if (numP (ofL ((c :: r).takeWhile isDig))).2 then (mkT 3 (ofL ((c :: r).takeWhile isDig)) (numP (ofL ((c :: r).takeWhile isDig))).1 (r.length + 1), (c :: r).dropWhile isDig)
    else (mkT 1 E0 0 (r.length + 1), []))
  else if c = 34 then
    (if (r.dropWhile txtB).head? = some 34 then (mkT 4 (ofL (r.takeWhile txtB)) 0 (r.length + 1), (r.dropWhile txtB).tail)
    else (mkT 1 E0 0 (r.length + 1), []))
  else if r.head? = some 61 ∧ sgn2 c = true then (mkT 5 (ofL [c, 61]) 0 (r.length + 1), r.tail)
  else if sgn1 c then (mkT 5 (ofL [c]) 0 (r.length + 1), r)
  else (mkT 1 E0 0 (r.length + 1), [])
def lexN : Nat → List UInt8 → List Tk
  | 0, _ => [mkT 0 E0 0 0]
  | n + 1, l => match l.dropWhile whiB with
    | [] => [mkT 0 E0 0 0]
    | c :: r => if (lexA c r).1.kind = 1 then [(lexA c r).1] else (lexA c r).1 :: lexN n (lexA c r).2
def lex (l : List UInt8) : List Tk := lexN (l.length + 1) l
theorem dropWhile_len {α : Type} (p : α → Bool) (l : List α) : (l.dropWhile p).length ≤ l.length := (List.dropWhile_sublist p).length_le
theorem dropWhile_lt {α : Type} {p : α → Bool} {a : α} {l : List α} (h : p a = true) : ((a :: l).dropWhile p).length ≤ l.length := by
  rw [List.dropWhile_cons, if_pos h]
  exact dropWhile_len p l
theorem lexA_len (c : UInt8) (r : List UInt8) : (lexA c r).2.length ≤ r.length := by
  unfold lexA
  split
  · rename_i h; exact dropWhile_lt (by simp [wrdB, h])
  · split
    · rename_i h
      split
      · exact dropWhile_lt h
      · exact Nat.zero_le _
    · split
      · split
        · simp only [List.length_tail]
          have := dropWhile_len txtB r
          omega
        · exact Nat.zero_le _
      · split
        · simp only [List.length_tail]; omega
        · split
          · exact Nat.le_refl _
          · exact Nat.zero_le _
theorem lexN_more : ∀ (n : Nat) (l : List UInt8), l.length < n → lexN n l = lex l := by
  intro n
  induction n using Nat.strongRecOn with
  | _ n ih =>
    intro l hn
    cases n with
    | zero => omega
    | succ n =>
      unfold lex
      simp only [lexN]
      cases q : l.dropWhile whiB with
      | nil => rfl
      | cons c r =>
        have h1 := dropWhile_len whiB l
        rw [q] at h1
        have h2 := lexA_len c r
        simp only [List.length_cons] at h1
        simp only []
        by_cases h : (lexA c r).1.kind = 1
        · rw [if_pos h, if_pos h]
        · rw [if_neg h, if_neg h, ih n (by omega) _ (by omega)]
          rcases Nat.lt_or_ge l.length (n + 1) with h3 | h3
          · rcases Nat.lt_or_ge l.length n with h4 | h4
            · rw [ih l.length (by omega) _ (by omega)]
            · rw [show l.length = n from by omega, ih n (by omega) _ (by omega)]
          · omega
theorem lex_eq (l : List UInt8) : lex l = match l.dropWhile whiB with
    | [] => [mkT 0 E0 0 0]
    | c :: r => if (lexA c r).1.kind = 1 then [(lexA c r).1] else (lexA c r).1 :: lex (lexA c r).2 := by
  conv => lhs; unfold lex
  simp only [lexN]
  cases q : l.dropWhile whiB with
  | nil => rfl
  | cons c r =>
    have h1 := dropWhile_len whiB l
    rw [q] at h1
    have h2 := lexA_len c r
    simp only [List.length_cons] at h1
    simp only []
    rw [lexN_more l.length _ (by omega)]
theorem lex_nil {l : List UInt8} (h : l.dropWhile whiB = []) : lex l = [mkT 0 E0 0 0] := by rw [lex_eq, h]
theorem lex_cons {l : List UInt8} {c : UInt8} {r : List UInt8} (h : l.dropWhile whiB = c :: r) : lex l = if (lexA c r).1.kind = 1 then [(lexA c r).1] else (lexA c r).1 :: lex (lexA c r).2 := by rw [lex_eq, h]
/-! ### the same as by places -/
theorem drop_runP (p : UInt8 → Bool) (s : ByteArray) (k : Nat) : (bys s).drop (runP p s k) = ((bys s).drop k).dropWhile p := by
  unfold runP
  rw [← List.drop_drop]
  generalize (bys s).drop k = l
  induction l with
  | nil => rfl
  | cons a l ih =>
    rw [List.takeWhile_cons, List.dropWhile_cons]
    split
    · simpa using ih
    · rfl
theorem ofL_of {b : ByteArray} {l : List UInt8} (h : bys b = l) : b = ofL l := by subst h; unfold ofL bys; simp
theorem ext_runP (p : UInt8 → Bool) (s : ByteArray) (k : Nat) : s.extract k (runP p s k) = ofL (((bys s).drop k).takeWhile p) := by
  refine ofL_of ?_
  rw [bys_extract, List.drop_take]
  unfold runP
  rw [Nat.add_sub_cancel_left]
  generalize (bys s).drop k = l
  induction l with
  | nil => rfl
  | cons a l ih =>
    rw [List.takeWhile_cons]
    split
    · simpa using ih
    · rfl
theorem ext_take (s : ByteArray) (k j : Nat) : s.extract k (k + j) = ofL (((bys s).drop k).take j) := by
  refine ofL_of ?_
  rw [bys_extract, List.drop_take, Nat.add_sub_cancel_left]
theorem get_drop {s : ByteArray} {k : Nat} : (bys s)[k]? = ((bys s).drop k).head? := by rw [List.head?_drop]
theorem tokAt_lex {s : ByteArray} {k : Nat} {c : UInt8} {r : List UInt8} (h : (bys s).drop k = c :: r) : (tokAt s k c).core = (lexA c r).1.core ∧ k + (lexA c r).1.at_ = s.size ∧ ((tokAt s k c).kind ≠ 1 → (bys s).drop (toAt s k c) = (lexA c r).2) := by
  have hl : k + (r.length + 1) = s.size := by
    have h1 := congrArg List.length h
    rw [List.length_drop, bys_len', List.length_cons] at h1
    omega
  have hd1 : (bys s).drop (k + 1) = r := by rw [← List.drop_drop, h]; rfl
  unfold tokAt toAt lexA
  by_cases h1 : letB c = true
  · simp only [h1, if_true]
    refine ⟨?_, hl, fun _ => by rw [drop_runP, h]⟩
    rw [ext_runP, h]
  simp only [h1, if_false, Bool.false_eq_true]
  by_cases h2 : isDig c = true
  · simp only [h2, if_true]
    rw [ext_runP, h]
    by_cases h3 : (numP (ofL ((c :: r).takeWhile isDig))).2 = true
    · simp only [h3, if_true]
      exact ⟨by first | rfl | trivial, hl, fun _ => by rw [drop_runP, h]⟩
    · simp only [h3, if_false, Bool.false_eq_true]
      exact ⟨by first | rfl | trivial, hl, fun e => absurd rfl e⟩
  simp only [h2, if_false, Bool.false_eq_true]
  by_cases h3 : c = 34
  · simp only [h3, if_true]
    have e : (bys s)[runP txtB s (k + 1)]? = (r.dropWhile txtB).head? := by rw [get_drop, drop_runP, hd1]
    rw [e]
    by_cases h4 : (r.dropWhile txtB).head? = some 34
    · simp only [h4, if_true]
      refine ⟨?_, hl, fun _ => ?_⟩
      · rw [ext_runP, hd1]
      · rw [← List.drop_drop, drop_runP, hd1, List.drop_one]
    · simp only [h4, if_false]
      exact ⟨by first | rfl | trivial, hl, fun e => absurd rfl e⟩
  simp only [h3, if_false]
  have e : (bys s)[k + 1]? = r.head? := by rw [get_drop, hd1]
  rw [e]
  by_cases h4 : r.head? = some 61 ∧ sgn2 c = true
  · simp only [h4, if_true, and_self]
    obtain ⟨r', rfl⟩ : ∃ r', r = 61 :: r' := by
      cases r with
      | nil => simp at h4
      | cons a r' => simp at h4; exact ⟨r', by rw [h4.1]⟩
    refine ⟨?_, hl, fun _ => ?_⟩
    · rw [ext_take, h]; rfl
    · rw [← List.drop_drop, h]; rfl
  simp only [h4, if_false]
  by_cases h5 : sgn1 c = true
  · simp only [h5, if_true]
    refine ⟨?_, hl, fun _ => hd1⟩
    rw [ext_take, h]
    rfl
  · simp only [h5, if_false, Bool.false_eq_true]
    exact ⟨by first | rfl | trivial, hl, fun e => absurd rfl e⟩
theorem toks_lex (s : ByteArray) : ∀ k, k ≤ s.size → (toks s k).map Tk.core = (lex ((bys s).drop k)).map Tk.core ∧ (toks s k).map (fun t => t.at_) = (lex ((bys s).drop k)).map (fun t => s.size - t.at_) := by
  intro k
  induction hm : s.size - k using Nat.strongRecOn generalizing k with
  | _ m ih =>
    subst hm
    intro hk
    have hge := runP_ge whiB s k
    have hle := runP_le whiB s hk
    rw [toks_eq]
    cases q : (bys s)[runP whiB s k]? with
    | none =>
      have e : ((bys s).drop k).dropWhile whiB = [] := by
        rw [← drop_runP]
        exact List.drop_eq_nil_of_le (List.getElem?_eq_none_iff.1 q)
      rw [tokF_none q, lex_nil e]
      exact ⟨rfl, rfl⟩
    | some c =>
      have hlt := (List.getElem?_eq_some_iff.1 q).1
      have e0 : (bys s).drop (runP whiB s k) = c :: (bys s).drop (runP whiB s k + 1) := by rw [List.drop_eq_getElem_cons hlt, (List.getElem?_eq_some_iff.1 q).2]
      have e : ((bys s).drop k).dropWhile whiB = c :: (bys s).drop (runP whiB s k + 1) := by rw [← drop_runP, e0]
      obtain ⟨h1, h2, h3⟩ := tokAt_lex e0
      have hk1 : (tokAt s (runP whiB s k) c).kind = (lexA c ((bys s).drop (runP whiB s k + 1))).1.kind := by
        have := congrArg Tk.kind h1
        exact this
      have hat := tokAt_at s (runP whiB s k) c
      rw [tokF_some q, lex_cons e]
      by_cases h4 : (tokAt s (runP whiB s k) c).kind = 1
      · rw [if_pos (by simp [Tk.stops, h4]), if_pos (by rw [← hk1]; exact h4)]
        refine ⟨by simp only [List.map_cons, List.map_nil]; rw [h1], ?_⟩
        simp only [List.map_cons, List.map_nil, hat]
        rw [← h2, Nat.add_sub_cancel]
      · have hkd := (tokAt_kind s (runP whiB s k) c).1
        obtain ⟨h5, h6, h7⟩ := tokAt_nx q h4
        rw [if_neg (by simp [Tk.stops, h4]; omega), if_neg (by rw [← hk1]; exact h4), h5]
        obtain ⟨i1, i2⟩ := ih (s.size - toAt s (runP whiB s k) c) (by omega) _ rfl h7
        rw [h3 h4] at i1 i2
        refine ⟨by simp only [List.map_cons]; rw [h1, i1], ?_⟩
        simp only [List.map_cons, hat, i2]
        rw [← h2, Nat.add_sub_cancel]
end Go.Tb
namespace Go.Tb
open Go.Ab
section
variable {L L' : List Tk} (h : L.map Tk.core = L'.map Tk.core)
include h
end
/-! ### something behind the end -/
structure Tail (L L' : List Tk) (m : Nat) : Prop where
  wf : Wf L
  wf' : Wf L'
  len : L.length = m + 1
  len' : m + 1 ≤ L'.length
  same : ∀ k, k < m → L'[k]? = L[k]?
  fin : ∃ t, L[m]? = some t ∧ t.kind = 0
  bar : ∃ b, L'[m]? = some b ∧ b.kind = 5 ∧ b.s = gBar
section
variable {L L' : List Tk} {m : Nat} (ht : Tail L L' m)
include ht
theorem Tail.tk (st : PS) (h : st.1 < m) : tk0 L' st = tk0 L st := by unfold tk0; rw [ht.same _ h]
theorem Tail.sk (st : PS) (h : st.1 ≤ m) {x : ByteArray} (hx : x ≠ gBar) : skB L' x st = skB L x st := by
  rcases Nat.lt_or_eq_of_le h with h1 | h1
  · unfold skB; rw [ht.tk st h1]
  · obtain ⟨t, e1, e2⟩ := ht.fin
    obtain ⟨b, e3, e4, e5⟩ := ht.bar
    have f1 : tk0 L st = t := at_get (by rw [h1]; exact e1)
    have f2 : tk0 L' st = b := at_get (by rw [h1]; exact e3)
    unfold skB isT
    rw [f1, f2, e2, e4, e5]
    simp [Ne.symm hx]
theorem Tail.name (st : PS) (h : st.1 ≤ m) : nameP L' st = nameP L st ∧ nameB L' st = nameB L st := by
  rcases Nat.lt_or_eq_of_le h with h1 | h1
  · unfold nameP nameB; rw [ht.tk st h1]; exact ⟨rfl, rfl⟩
  · obtain ⟨t, e1, e2⟩ := ht.fin
    obtain ⟨b, e3, e4, e5⟩ := ht.bar
    have f1 : tk0 L st = t := at_get (by rw [h1]; exact e1)
    have f2 : tk0 L' st = b := at_get (by rw [h1]; exact e3)
    have g1 : nameB L st = false := by unfold nameB; rw [f1, e2]; simp
    have g2 : nameB L' st = false := by unfold nameB; rw [f2, e4]; simp
    unfold nameP
    rw [g1, g2]
    exact ⟨rfl, rfl⟩
theorem Tail.need (st : PS) (h : st.1 ≤ m) {x : ByteArray} (hx : x ≠ gBar) : needP L' x st = needP L x st := by unfold needP; rw [ht.sk st h hx]
theorem Tail.kind (st : PS) (h : st.1 ≤ m) (k : Int) (hk : k = 3 ∨ k = 4) : ((tk0 L' st).kind = k ↔ (tk0 L st).kind = k) := by
  rcases Nat.lt_or_eq_of_le h with h1 | h1
  · rw [ht.tk st h1]
  · obtain ⟨t, e1, e2⟩ := ht.fin
    obtain ⟨b, e3, e4, e5⟩ := ht.bar
    have f1 : tk0 L st = t := at_get (by rw [h1]; exact e1)
    have f2 : tk0 L' st = b := at_get (by rw [h1]; exact e3)
    rw [f1, f2, e2, e4]
    omega
theorem Tail.neg (st : PS) (h : st.1 ≤ m) : negB L' st = negB L st ∧ (negB L st = true → pkT L' st.1 2 = pkT L st.1 2) := by
  have pk : ∀ i, st.1 + i < m → pkT L' st.1 i = pkT L st.1 i := fun i hi => by
    have h1 := pkT_at (L := L) (k := st.1) (i := i) (by rw [ht.len]; omega)
    have h2 := pkT_at (L := L') (k := st.1) (i := i) (by have := ht.len'; omega)
    rw [ht.same _ hi, h1] at h2
    exact (Option.some.inj h2).symm
  have yes : ∀ (K : List Tk), Wf K → negB K st = true → ∀ b, K[m]? = some b → m < K.length → b.kind = 5 → b.s = gBar → st.1 + 3 < m ∨ m < st.1 := fun K hw hn b e1 hl e2 e3 => by
    simp only [negB, Bool.and_eq_true, decide_eq_true_eq] at hn
    obtain ⟨n0, n1, n2, n3⟩ := hn
    have no : ∀ x, isT b x = true → x = gBar := fun x hx => by simp only [isT, Bool.and_eq_true, decide_eq_true_eq] at hx; rw [← hx.2, e3]
    have at_ : ∀ i, st.1 + i = m → pkT K st.1 i = b := fun i hi => by
      have := pkT_at (L := K) (k := st.1) (i := i) (by omega)
      rw [hi, e1] at this
      exact (Option.some.inj this).symm
    rcases Nat.lt_or_ge m st.1 with h1 | h1
    · exact .inr h1
    · refine .inl ?_
      rcases Nat.lt_or_ge (st.1 + 3) m with h2 | h2
      · exact h2
      · exfalso
        have h3 : m = st.1 ∨ m = st.1 + 1 ∨ m = st.1 + 2 ∨ m = st.1 + 3 := by omega
        rcases h3 with h3 | h3 | h3 | h3
        · have : tk0 K st = b := at_get (by rw [← h3]; exact e1)
          rw [this] at n0
          exact absurd (no _ n0) (by decide)
        · rw [at_ 1 h3.symm] at n1
          exact absurd (no _ n1) (by decide)
        · rw [at_ 2 h3.symm, e2] at n2
          cases n2
        · rw [at_ 3 h3.symm] at n3
          exact absurd (no _ n3) (by decide)
  obtain ⟨b, e3, e4, e5⟩ := ht.bar
  cases q : negB L st with
  | true =>
    have h1 := negB_more ht.wf q
    rw [ht.len] at h1
    refine ⟨?_, fun _ => pk 2 (by omega)⟩
    unfold negB at q ⊢
    rw [ht.tk st (by omega), pk 1 (by omega), pk 2 (by omega), pk 3 (by omega)]
    exact q
  | false =>
    refine ⟨?_, fun h => by cases h⟩
    cases q' : negB L' st with
    | false => rfl
    | true =>
      exfalso
      rcases yes L' ht.wf' q' b e3 (by have := ht.len'; omega) e4 e5 with h1 | h1
      · unfold negB at q q'
        rw [ht.tk st (by omega), pk 1 (by omega), pk 2 (by omega), pk 3 (by omega), q] at q'
        cases q'
      · omega
def Ext (L : List Tk) (m : Nat) {α : Type} (f f' : Pr α) (d : Nat) : Prop := ∀ st, st.1 ≤ m → L.length - st.1 ≤ d → (f st).2.2 = false → f' st = f st
omit ht in
theorem Ext.less {α : Type} {f f' : Pr α} {d e : Nat} (h : Ext L m f f' d) (he : e ≤ d) : Ext L m f f' e := fun st h1 h2 => h st h1 (by omega)
theorem Tail.le {st : PS} (h : st.1 < L.length) : st.1 ≤ m := by have := ht.len; omega
theorem Tail.lt {st : PS} (h : st.1 ≤ m) : st.1 < L.length := by have := ht.len; omega
end
end Go.Tb
namespace Go.Tb
open Go.Ab
section
variable {L L' : List Tk} {m : Nat} (ht : Tail L L' m)
include ht
theorem Tail.isT (st : PS) (h : st.1 ≤ m) {x : ByteArray} (hx : x ≠ gBar) : Tb.isT (tk0 L' st) x = Tb.isT (tk0 L st) x := by
  have := ht.sk (st.1, false) h hx
  simp only [skB, Bool.not_false, Bool.true_and] at this
  exact this
end
structure TailLim (L L' : List Tk) (m : Nat) : Prop extends Tail L L' m where
  len4 : L'.length = m + 4
  lim : ∃ b, L'[m + 1]? = some b ∧ b.kind = 2 ∧ b.s = kwLimit
  num : ∃ b, L'[m + 2]? = some b ∧ b.kind = 3 ∧ b.n = 7
  fin' : ∃ b, L'[m + 3]? = some b ∧ b.kind = 0
section
variable {L L' : List Tk} {m : Nat} (ht : TailLim L L' m)
include ht
end
end Go.Tb
namespace Go.Tb
open Go.Ab
theorem lex_white {c : UInt8} (h : whiB c = true) (l : List UInt8) : lex (c :: l) = lex l := by
  rw [lex_eq (c :: l), lex_eq l, List.dropWhile_cons, if_pos h]
/-! ### wider white space -/
def wideL (l : List UInt8) : List UInt8 := l.flatMap fun b => if b = 32 then [32, 9, 13, 10] else [b]
inductive Wider : List UInt8 → List Tk → List Tk → Prop
  | nil (l : List UInt8) : Wider l [] []
  | cons {l : List UInt8} {t t' : Tk} {a b : List Tk} (u : List UInt8) (hc : t'.core = t.core) (hu : u <:+ l) (hl : u.length = t.at_) (hl' : t'.at_ ≤ (wideL u).length + 2) (r : Wider l a b) : Wider l (t :: a) (t' :: b)
theorem Wider.up {l l' : List UInt8} {a b : List Tk} (h : Wider l a b) (hs : l <:+ l') : Wider l' a b := by
  induction h with
  | nil => exact .nil _
  | cons u hc hu hl hl' _ ih => exact .cons u hc (hu.trans hs) hl hl' ih
theorem Wider.get {l : List UInt8} {a b : List Tk} (h : Wider l a b) : b.map Tk.core = a.map Tk.core ∧ ∀ (i : Nat) t, a[i]? = some t → ∃ t', b[i]? = some t' ∧ t'.core = t.core ∧ ∃ u, u <:+ l ∧ u.length = t.at_ ∧ t'.at_ ≤ (wideL u).length + 2 := by
  induction h with
  | nil => exact ⟨rfl, fun i t h => by simp at h⟩
  | cons u hc hu hl hl' _ ih =>
    refine ⟨by rw [List.map_cons, List.map_cons, hc, ih.1], fun i t h => ?_⟩
    cases i with
    | zero =>
      simp only [List.getElem?_cons_zero, Option.some.injEq] at h
      subst h
      exact ⟨_, rfl, hc, u, hu, hl, hl'⟩
    | succ i => exact ih.2 i t (by simpa using h)
end Go.Tb
