import Derived.Test.YtllkpgnpioojjaaDoorQ1
import Derived.Laws.Cover3
import Derived.Lib.Bytealg
import Derived.Laws.Externs
import Derived.Lib.LaidTab
import Derived.Lib.SmallJoins
import Derived.Lib.AppendIntMem
import Derived.Lib.LaidU8
import Derived.LaidLaws
import Derived.HandedShaped
import Derived.Lay
import Derived.Lib.AtoiAllCases
import Derived.Lib.ItoaNum
import Derived.Lib.SplitLaws
import Derived.Lib.Join
import Derived.MapKept
import Derived.Lib.AppendStr
import Derived.Lib.Builder
import Derived.Lib.UnsafeStr
namespace Go.Ab
open Go.RowKit
inductive RV where
  | tmp (t : Nat)
  | cell (t ty : Nat)
def RV.var : RV → ResultVar
  | .tmp t => .tmp t
  | .cell t ty => .cell t ty
def rvRun (tmps : Array Value) : ResultVar → Sem Value
  | .tmp t => pure (tmps.getD t undef)
  | .cell a t => do loadVar t (← asAddr (tmps.getD a undef))
section
variable {P : Program} (T : Tab P)
def resV (f : List (Nat × A)) (bx : List (Nat × List A)) : List RV → Option (List A)
  | [] => some []
  | .tmp t :: r => match look f t, resV f bx r with
    | some a, some l => some (a :: l)
    | _, _ => none
  | .cell t ty :: r => match look f t with
    | some (.ptr g off) => (match look' bx g with
      | some cells => (match partA T ty (cells.drop off), resV f bx r with
        | some a, some l => some (a :: l)
        | _, _ => none)
      | none => none)
    | _ => none
def QV (rs : List RV) (r : A) (k : Nat) : Exit → St → Prop := fun e st =>
  (match e with | .normal => True | .ret => True | _ => False) ∧ ∃ l order, resV T st.f st.bx rs = some l ∧ norm order (oneA l) = r ∧ order.length = k ∧ order.Nodup ∧ ∀ g ∈ order, g ∈ st.lv
theorem run_resV {C : Ctx} {n : Nat} {st : St} {G : Gh} {tmps : Array Value} {w : World} (hs : SimG C n st G tmps w) : ∀ (rs : List RV) (l : List A), resV T st.f st.bx rs = some l →
    ∃ vs : List Value, ((rs.map RV.var).mapM (rvRun tmps)).run P w = .ok vs w ∧ vs.length = l.length ∧
      ∀ (i : Nat) (u : Value) (a : A), vs[i]? = some u → l[i]? = some a → Rep (enOf C G st.gen w) u a
  | [], l, h => by simp only [resV, Option.some.injEq] at h; subst h; exact ⟨[], by simp, rfl, by simp⟩
  | .tmp t :: r, l, h => by
    simp only [resV] at h
    split at h
    · rename_i a l' ha hl'
      simp only [Option.some.injEq] at h
      subst h
      obtain ⟨vs, h1, h2, h3⟩ := run_resV hs r l' hl'
      obtain ⟨v, hv, hr⟩ := hs.frame _ _ ha
      refine ⟨v :: vs, ?_, by simp [h2], fun i u a hu ha => ?_⟩
      · simp only [List.map_cons, RV.var, List.mapM_cons, Sem.run_bind, rvRun, Sem.run_pure, Result.andThen_ok, h1]
        simp [hv]
      · cases i with
        | zero => simp at hu ha; subst hu; subst ha; exact hr
        | succ i => exact h3 i u a (by simpa using hu) (by simpa using ha)
    · cases h
  | .cell t ty :: r, l, h => by
    simp only [resV] at h
    split at h
    · rename_i g off ht
      split at h
      · rename_i cells hb
        split at h
        · rename_i a l' ha hl'
          simp only [Option.some.injEq] at h
          subst h
          obtain ⟨vs, h1, h2, h3⟩ := run_resV hs r l' hl'
          obtain ⟨v, hv, hr⟩ := hs.frame _ _ ht
          obtain ⟨b, cs, T', h4, h5, h6, h7, h8⟩ := box_cells hs hb hr
          subst h4
          obtain ⟨u, hu1, hu2⟩ := load_partA (E := enOf C G st.gen w) T (t := ty) (b := b) (off := off) (u := fun j => cs[off + j]?.getD default) (l := cells.drop off) (fun j hj => by
              have hj' : off + j < cs.size := by simp at hj; omega
              have e : cs[off + j]? = some cs[off + j] := by simp [hj']
              exact ⟨by show cellAt w b (off + j) = _; rw [cellAt_row h5, e]; rfl, by rw [e]; exact h7 _ _ e⟩) (fun j y hy => by
              have hy' : cells[off + j]? = some y := by simpa using hy
              have hj' : off + j < cs.size := by rw [h6]; exact (List.getElem?_eq_some_iff.1 hy').1
              have e : cs[off + j]? = some cs[off + j] := by simp [hj']
              rw [e]
              exact h8 _ _ _ e hy') ha
          have hu1' : (loadVar ty ⟨b, off, none⟩).run P w = .ok u w := hu1
          refine ⟨u :: vs, ?_, by simp [h2], fun i x a hx ha => ?_⟩
          · have hg : tmps.getD t undef = .pointer (some ⟨b, off, none⟩) := by simp [hv]
            simp only [List.map_cons, RV.var, List.mapM_cons, rvRun, Sem.run_bind, Sem.run_pure, Result.andThen_ok, h1, hg, asAddr, hu1']
          · cases i with
            | zero => simp at hx ha; subst hx; subst ha; exact hu2
            | succ i => exact h3 i x a (by simpa using hx) (by simpa using ha)
        · cases h
      · cases h
    · cases h
theorem run_resultsV {fn : Func} {rs : List RV} (h : fn.results = (rs.map RV.var).toArray) {tmps : Array Value} {w : World} {vs : List Value}
    (hr : ((rs.map RV.var).mapM (rvRun tmps)).run P w = .ok vs w) :
    (results fn tmps).run P w = .ok (oneV vs) w := by
  have e : results fn tmps = (do
      let vs ← fn.results.mapM (rvRun tmps)
      pure (if h : vs.size = 1 then vs[0] else .tuple vs)) := by
    unfold results
    congr 2
    first | done | (congr 2; funext x; cases x <;> rfl)
  rw [e, h, Array.mapM_eq_mapM_toList]
  simp only [Sem.run_bind, Sem.run_map, hr, Result.andThen_ok, Sem.run_pure]
  match vs with
  | [] => simp [oneV]
  | [v] => simp [oneV]
  | v :: v2 :: vs => simp [oneV]
theorem Does.of_V [Met P] {f : FuncId} {fn : Func} {c : Code} {rs : List RV} {n : Nat} {args : List A} {r : A} {k : Nat} (hf : P.funcs[f]? = some fn) (hname : (fn.name == "runtime.NumGoroutine") = false) (hb : fn.body = some c) (hn : fn.ntmps = n)
    (hr : fn.results = (rs.map RV.var).toArray) (hlen : Nat.ble args.length n = true) (h : ∀ C, NB C 0 → GC P C → W P C n c (QV T rs r k) ⟨args0 0 args, [], [], 0⟩) : Does P f args r k := by
  have hlen := Nat.le_of_ble_eq_true hlen
  refine ⟨⟨fn, hf, hname, by rw [hb]; rfl⟩, fun C vals w hG hw hp hx hsz hrep => ?_⟩
  subst hw
  refine calls_of_wp hf hb (wp_mono (wp_ds hp.2.2.2 (h C ⟨by rw [hp.2.2.1]; rfl⟩ hG (vals ++ Array.replicate (fn.ntmps - vals.size) undef) C.w0 ⟨G0, ?_⟩)) ?_)
  · refine { size := by simp [hn]; omega, frame := fun t a ha => ?_, box := fun g cells hc => by simp [look'] at hc, gbox := fun g b hb => by simp [G0] at hb, inj := fun g g' b hb => by simp [G0] at hb,
             live := fun g hg => by simp at hg, gown := fun g r hr => by simp [G0] at hr, row := fun g b len cap sz pub hr => by simp [G0] at hr, mrow := fun g b hr => by simp [G0] at hr, xold := fun b o hb => ⟨hx b o hb, hp.1 b⟩, kold := fun b o hb => absurd hb (hp.2.1 b o), lent := fun i b hb => by rw [hp.2.2.1] at hb; simp at hb,
             fr := ⟨rfl, rfl, rfl, Nat.le_refl _, fun _ _ _ => rfl, fun _ _ _ hb => absurd hb (hp.2.1 _ _), TyKept.refl _⟩ }
    obtain ⟨_, h1⟩ := args0_look args 0 t a ha
    have h2 : t < args.length := (List.getElem?_eq_some_iff.1 (by simpa using h1)).1
    have h3 : t < vals.size := by omega
    have h4 : vals[t]? = some vals[t] := by simp [h3]
    exact ⟨vals[t], by rw [Array.getElem?_append_left h3]; exact h4, hrep t _ a h4 (by simpa using h1)⟩
  · rintro e ⟨tmps, df⟩ w' ⟨hd, st, ⟨G, hs⟩, he, l, order, hl, hno, hol, hnd, hov⟩
    have hmain : ∃ v, (results fn tmps).run P w' = .ok v w' ∧ ∃ v_1 G', Ending.returned v = .returned v_1 ∧ SimG C 0 ⟨[], [], List.range k, k⟩ G' #[] w' ∧ Rep (enOf C G' k w') v_1 r := by
      obtain ⟨vs, hvs, hvl, hvr⟩ := run_resV T hs rs l hl
      refine ⟨_, run_resultsV hr hvs, _, ⟨fun _ => none, fun i => if i < k then (order[i]?).bind G.own else none⟩, rfl, ?_, ?_⟩
      · refine { size := rfl, frame := fun t a ha => by simp [look] at ha, box := fun g cells hc => by simp [look'] at hc, gbox := fun g b hb => by simp at hb, inj := fun g g' b hb => by simp at hb,
                 live := fun g hg => ?_, gown := fun g r hr => ?_, row := fun g b len cap sz pub hr => ?_, mrow := fun g b hr => ?_, xold := hs.xold, kold := hs.kold, lent := fun i b hb => by rw [hp.2.2.1] at hb; simp at hb, fr := hs.fr }
        · have hg' : g < k := by simpa using hg
          have hg2 : g < order.length := by omega
          obtain ⟨r', hr'⟩ := hs.live order[g] (hov _ (List.getElem_mem hg2))
          exact ⟨r', by simp [hg', hg2, hr']⟩
        · dsimp only at hr
          split at hr
          · assumption
          · cases hr
        · dsimp only at hr
          split at hr
          · rename_i hgk
            obtain ⟨g0, hg0, hr0⟩ := Option.bind_eq_some_iff.1 hr
            obtain ⟨h1, h2, h3, h4⟩ := hs.row g0 b len cap sz pub hr0
            refine ⟨h1, fun g' => by simp, fun g' len' cap' sz' pub' hr' => ?_, h4⟩
            dsimp only at hr'
            split at hr'
            · obtain ⟨g1, hg1, hr1⟩ := Option.bind_eq_some_iff.1 hr'
              have e := h3 g1 len' cap' sz' pub' hr1
              subst e
              obtain ⟨i1, e1⟩ := List.getElem?_eq_some_iff.1 hg0
              obtain ⟨i2, e2⟩ := List.getElem?_eq_some_iff.1 hg1
              have hpw := List.pairwise_iff_getElem.1 hnd
              rcases Nat.lt_trichotomy g' g with hlt | heq | hgt
              · exact absurd (e2.trans e1.symm) (hpw g' g i2 i1 hlt)
              · exact heq
              · exact absurd (e1.trans e2.symm) (hpw g g' i1 i2 hgt)
            · cases hr'
          · cases hr
        · dsimp only at hr
          split at hr
          · rename_i hgk
            obtain ⟨g0, hg0, hr0⟩ := Option.bind_eq_some_iff.1 hr
            obtain ⟨h1, _, h3, h4⟩ := hs.mrow g0 b hr0
            refine ⟨h1, fun g' => by simp, fun g' hr' => ?_, h4⟩
            dsimp only at hr'
            split at hr'
            · obtain ⟨g1, hg1, hr1⟩ := Option.bind_eq_some_iff.1 hr'
              have e := h3 g1 hr1
              subst e
              obtain ⟨i1, e1⟩ := List.getElem?_eq_some_iff.1 hg0
              obtain ⟨i2, e2⟩ := List.getElem?_eq_some_iff.1 hg1
              have hpw := List.pairwise_iff_getElem.1 hnd
              rcases Nat.lt_trichotomy g' g with hlt | heq | hgt
              · exact absurd (e2.trans e1.symm) (hpw g' g i2 i1 hlt)
              · exact heq
              · exact absurd (e1.trans e2.symm) (hpw g g' i1 i2 hgt)
            · cases hr'
          · cases hr
      · rw [← hno]
        refine Rep.norm (order := order) (E := enOf C G st.gen w') (E2 := enOf C ⟨fun _ => none, fun i => if i < k then (order[i]?).bind G.own else none⟩ k w') (fun b o u hu hn => ⟨hu, fun hp => hn ?_⟩) (fun g r' hg hr' => ?_) (by simp [enOf, hol]) (oneA_rep hvl hvr)
        · rcases (hp : pvOf C ⟨fun _ => none, fun i => if i < k then (order[i]?).bind G.own else none⟩ b o) with hp | ⟨g, hp⟩ | ⟨g, len, cap, sz, pub, hp, hle⟩
          · exact Or.inl hp
          · cases hp
          · simp only at hp
            split at hp
            · obtain ⟨g0, _, hr0⟩ := Option.bind_eq_some_iff.1 hp
              exact Or.inr (Or.inr ⟨g0, len, cap, sz, pub, hr0, hle⟩)
            · cases hp
        · have hr2 : (if order.idxOf g < k then (order[order.idxOf g]?).bind G.own else none) = some r' := hr'
          rw [if_pos (by rw [← hol]; exact idxOf_lt' hg)] at hr2
          have : order[order.idxOf g]? = some g := by
            rw [List.getElem?_eq_some_iff]
            exact ⟨idxOf_lt' hg, List.getElem_idxOf (idxOf_lt' hg)⟩
          rw [this] at hr2
          exact hr2
    cases e with
    | normal => exact ⟨hd.trans hp.2.2.2, hmain⟩
    | ret => exact ⟨hd.trans hp.2.2.2, hmain⟩
    | exit _ => exact he.elim
    | goto _ => exact he.elim
    | panic _ => exact he.elim
    | outgrown => exact he.elim
theorem QV.ret0 {rs : List RV} {r : A} {e : Exit} {st : St} {l : List A} (he : match e with | .normal => True | .ret => True | _ => False) (hl : resV T st.f st.bx rs = some l) (hr : norm [] (oneA l) = r) : QV T rs r 0 e st :=
  ⟨he, l, [], hl, hr, rfl, List.nodup_nil, by simp⟩
variable {C : Ctx} {n : Nat} {ops : Array Oper} {Q : Exit → St → Prop} {rest l : List Oper} {c : Code}
variable {f f' : List (Nat × A)} {bx bx' : List (Nat × List A)} {lv lv' : List Nat} {gen gen' d : Nat} {op : Op} {ty : TypeId} {pos : String} {af : Array Edge} {a : A} {dst : Option Nat}
def QE (f : List (Nat × A)) (bx : List (Nat × List A)) (lv : List Nat) (gen : Nat) : Exit → St → Prop := fun e st => e = .normal ∧ Sub st.f f ∧ SubB st.bx bx ∧ (∀ g ∈ lv, g ∈ st.lv) ∧ st.gen ≤ gen
theorem WO.cut (f') (bx') (lv') (gen') {st : St} (h : WO P C n ops (QE f' bx' lv' gen') l st) (hq : Q .normal ⟨f', bx', lv', gen'⟩) : WO P C n ops Q l st := by
  have key : ∀ (l : List Oper) (act : Act) (w : World), wpL P ops (lift C n (QE f' bx' lv' gen')) l act w → wpL P ops (lift C n Q) l act w := by
    intro l
    induction l with
    | nil =>
      rintro act w ⟨hd, st', ⟨G, hs⟩, _, h1, h2, h3, h4⟩
      exact ⟨hd, _, ⟨G, SimG.weak (f := st'.f) (bx := st'.bx) (lv := st'.lv) (gen := st'.gen) hs h1 h2 h3 h4⟩, hq⟩
    | cons o l ih =>
      intro act w h
      simp only [wpL] at h ⊢
      split
      · rename_i hw
        rw [if_pos hw] at h
        refine Oper.wp_mono ?_ (Q := lift C n Q) (K := wpL P ops (lift C n (QE f' bx' lv' gen')) l) ?_
        · exact ih
        · unfold Oper.wp at h ⊢
          generalize (execOp act.eval o).run P w = r at *
          cases r with
          | ok x w' =>
            cases x <;> simp only [Oper.upon] at h ⊢
            case enter f args =>
              refine h.mono fun e w'' he => ?_
              cases e with
              | returned v => exact he
              | panicked chain => exact absurd he.2.choose_spec.2.1 (by simp)
              | outgrown => obtain ⟨_, _, he⟩ := he; exact absurd he.2.choose_spec.2.1 (by simp)
            all_goals exact h
          | halt x w' =>
            cases x <;> simp only [Oper.upon] at h ⊢
            exact absurd h.2.choose_spec.2.1 (by simp)
      · rename_i hw
        rw [if_neg hw] at h
        exact ih _ _ h
  exact fun tmps w hs => key l _ w (h tmps w hs)
theorem QE.mk {st : St} (h1 : Sub st.f f) (h2 : SubB st.bx bx) (h3 : ∀ g ∈ lv, g ∈ st.lv) (h4 : st.gen ≤ gen) : QE f bx lv gen .normal st := ⟨rfl, h1, h2, h3, h4⟩
theorem W.cut (f') (bx') (lv') (gen') {st : St} (h : W P C n c (fun e st => match e with | .normal => QE f' bx' lv' gen' .normal st | e => Q e st) st) (hq : Q .normal ⟨f', bx', lv', gen'⟩) : W P C n c Q st :=
  fun tmps w hs => wp_mono (h tmps w hs) fun e act w ⟨hd, st', ⟨G, hs⟩, he⟩ => by
    cases e with
    | normal => exact ⟨hd, _, ⟨G, SimG.weak (f := st'.f) (bx := st'.bx) (lv := st'.lv) (gen := st'.gen) hs he.2.1 he.2.2.1 he.2.2.2.1 he.2.2.2.2⟩, hq⟩
    | _ => exact ⟨hd, st', ⟨G, hs⟩, he⟩
theorem puExt {x : Operand} {xs : Array Operand} {tys : Array TypeId} {fid : FuncId} {vs : List Value} {r : Value} (hx : av f x = some (.clo fid [])) (hxs : avs f xs.toList = some (vs.map fun v => A.d (.v v))) (hrun : ∀ w, (callFunc fid vs.toArray).run P w = .ok (.value r) w) (hr : okc r = true) :
    Pu P C n ⟨f, bx, lv, gen⟩ ⟨dst, .call ⟨.value x, xs, tys⟩, ty, pos, af, none⟩ (.d (.v r)) := by
  intro G tmps w hs
  have hrx := hs.av hx
  generalize hv : Act.eval ⟨tmps, []⟩ x = v at hrx
  cases hrx with
  | clo _ cs _ hsz hd =>
  have hcs : cs = #[] := Array.eq_empty_of_size_eq_zero (by simpa using hsz)
  subst hcs
  obtain ⟨h1, h2⟩ := avs_rep hs xs.toList _ hxs
  have hargs : xs.map (Act.eval ⟨tmps, []⟩) = vs.toArray := by
    apply Array.ext_getElem?
    intro i
    simp only [Array.getElem?_map, List.getElem?_toArray]
    cases hvi : vs[i]? with
    | none =>
      have : xs.size ≤ i := by have := List.getElem?_eq_none_iff.1 hvi; simp at h1; omega
      simp [this]
    | some u =>
      obtain ⟨y, hy, hr⟩ := h2 i (.d (.v u)) (by rw [List.getElem?_map, hvi]; rfl)
      have hy' : xs[i]? = some y := by simpa using hy
      rw [hy']
      simp only [Option.map_some, Option.some.injEq]
      generalize Act.eval ⟨tmps, []⟩ y = z at hr ⊢
      cases hr with | d hr => cases hr; rfl
  refine gives_value (v := r) (w' := w) ?_ ⟨Below.refl _ _, .d (.v _ hr)⟩
  unfold execOp
  show Sem.run P (do let d ← resolve (Act.eval ⟨tmps, []⟩) ⟨.value x, xs, tys⟩ ty; invoke d.target d.args) w = _
  simp only [resolve, hv, Deferred.ofValue, Sem.run_bind, Sem.run_pure, Result.andThen_ok, invoke, Array.empty_append, hargs, Array.append_empty]
  exact hrun w
end
end Go.Ab
namespace Go.Ab
open Go.RowKit
def boolD : Bool → List Oper → Option Nat
  | _, [] => none
  | g, o :: r => match o.op, r with
    | .pick _ _ _, [] => bif g then o.dst else none
    | .pick _ _ _, [o'] => match o'.op with
      | .assign _ => bif g then o'.dst else none
      | _ => boolD (g || o.guard.isSome) r
    | .assign _, _ => none
    | _, _ => boolD (g || o.guard.isSome) r
abbrev boolA (b : Bool) : A := .d (.v (.bool b))
def apartB (d : Nat) : List (Nat × A) → List (Nat × A) → Bool
  | [], _ => true
  | (s, _) :: r, f0 => (Nat.beq s d || f0.all fun x => !Nat.beq x.1 s) && apartB d r f0
section
variable {P : Program} {C : Ctx} {n : Nat} {ops : Array Oper} {Q : Exit → St → Prop} {rest l : List Oper} {c : Code}
variable {f f0 f' : List (Nat × A)} {bx bx0 bx' : List (Nat × List A)} {lv lv0 lv' : List Nat} {gen gen0 gen' d : Nat} {op : Op} {ty : TypeId} {pos : String} {af : Array Edge} {a : A} {dst : Option Nat}
def QV1 (d : Nat) (y : Bool) (f : List (Nat × A)) (bx : List (Nat × List A)) (lv : List Nat) (gen : Nat) : Exit → St → Prop := fun e st =>
  e = .normal ∧ (∀ t a, look ((d, boolA y) :: f) t = some a → look st.f t = some a) ∧ st.bx = bx ∧ st.lv = lv ∧ st.gen = gen
theorem WO.cut1 {y : Bool} {st : St} (h : WO P C n ops (QV1 d y f bx lv gen) l st) (hq : Q .normal ⟨(d, boolA y) :: f, bx, lv, gen⟩) : WO P C n ops Q l st := by
  have key : ∀ (l : List Oper) (act : Act) (w : World), wpL P ops (lift C n (QV1 d y f bx lv gen)) l act w → wpL P ops (lift C n Q) l act w := by
    intro l
    induction l with
    | nil =>
      rintro act w ⟨hd, st', ⟨G, hs⟩, _, h1, h2, h3, h4⟩
      exact ⟨hd, _, ⟨G, hs.weaken (st' := ⟨(d, boolA y) :: f, bx, lv, gen⟩) ⟨h1, by rw [← h2]; exact fun _ _ h => h, by rw [← h3]; exact fun _ h => h, h4.symm⟩⟩, hq⟩
    | cons o l ih =>
      intro act w h
      simp only [wpL] at h ⊢
      split
      · rename_i hw
        rw [if_pos hw] at h
        refine Oper.wp_mono ?_ (Q := lift C n Q) (K := wpL P ops (lift C n (QV1 d y f bx lv gen)) l) ?_
        · exact ih
        · unfold Oper.wp at h ⊢
          generalize (execOp act.eval o).run P w = r at *
          cases r with
          | ok x w' =>
            cases x <;> simp only [Oper.upon] at h ⊢
            case enter f args =>
              refine h.mono fun e w'' he => ?_
              cases e with
              | returned v => exact he
              | panicked chain => exact absurd he.2.choose_spec.2.1 (by simp)
              | outgrown => obtain ⟨_, _, he⟩ := he; exact absurd he.2.choose_spec.2.1 (by simp)
            all_goals exact h
          | halt x w' =>
            cases x <;> simp only [Oper.upon] at h ⊢
            exact absurd h.2.choose_spec.2.1 (by simp)
      · rename_i hw
        rw [if_neg hw] at h
        exact ih _ _ h
  exact fun tmps w hs => key l _ w (h tmps w hs)
theorem regionB {id : Nat} {y : Bool} (hb : boolD false l = some d) (h : WO P C n l.toArray (QV1 d y f bx lv gen) l ⟨f, bx, lv, gen⟩) (hq : Q .normal ⟨(d, boolA y) :: f, bx, lv, gen⟩) : W P C n (.region id l.toArray false) Q ⟨f, bx, lv, gen⟩ :=
  W.region (WO.cut1 h hq)
theorem qv1 {y : Bool} (hl : look f d = some (boolA y)) (hd : f.drop (f.length - f0.length) = f0) (hj : apartB d (f.take (f.length - f0.length)) f0 = true) : QV1 d y f0 bx lv gen .normal ⟨f, bx, lv, gen⟩ := by
  refine ⟨rfl, fun t a ha => ?_, rfl, rfl, rfl⟩
  rw [look_cons] at ha
  split at ha
  · rename_i e; subst e; rw [← ha]; exact hl
  · rename_i hne
    dsimp only
    rw [← List.take_append_drop (f.length - f0.length) f, hd]
    generalize f.take (f.length - f0.length) = p at hj
    clear hd hl
    induction p with
    | nil => exact ha
    | cons x p ih =>
      obtain ⟨s, b⟩ := x
      simp only [apartB, Bool.and_eq_true, Bool.or_eq_true, List.all_eq_true] at hj
      rw [List.cons_append, look_cons, if_neg]
      · exact ih hj.2
      · rintro rfl
        rcases hj.1 with h | h
        · exact hne (Nat.eq_of_beq_eq_true h).symm
        · clear ih
          have : ∀ (l : List (Nat × A)), (∀ x ∈ l, (!Nat.beq x.1 s) = true) → look l s = none := by
            intro l
            induction l with
            | nil => intro _; rfl
            | cons y l ih =>
              intro h
              obtain ⟨u, v⟩ := y
              rw [look_cons, if_neg]
              · exact ih fun x hx => h x (by simp [hx])
              · rintro rfl
                have := h (u, v) (by simp)
                simp at this
          rw [this f0 h] at ha
          cases ha
theorem splitJ {y1 y2 : Bool} {d0 : Nat} {j e : Nat} {want b : Bool} (hj : gslot ops j = some e) (hl : look f e = some (.d (.v (.bool b))))
    (ht : WO P C n ops (QV1 d0 y1 f0 bx0 lv0 gen0) (⟨dst, op, ty, pos, af, some (j, want)⟩ :: rest) ⟨(e, .d (.v (.bool true))) :: f, bx, lv, gen⟩)
    (hf : WO P C n ops (QV1 d0 y2 f0 bx0 lv0 gen0) (⟨dst, op, ty, pos, af, some (j, want)⟩ :: rest) ⟨(e, .d (.v (.bool false))) :: f, bx, lv, gen⟩) :
    WO P C n ops (QV1 d0 (bif b then y1 else y2) f0 bx0 lv0 gen0) (⟨dst, op, ty, pos, af, some (j, want)⟩ :: rest) ⟨f, bx, lv, gen⟩ := by
  refine WO.split (st := ⟨f, bx, lv, gen⟩) hl (fun h => ?_) (fun h => ?_)
  · subst h; exact ht
  · subst h; exact hf
end
end Go.Ab
namespace Go.Ab
open Go.RowKit
def pos : List Nat → Nat → Option Nat
  | [], _ => none
  | g :: r, h => bif Nat.beq g h then some 0 else match pos r h with
    | some i => some (i + 1)
    | none => none
theorem pos_some : ∀ {order : List Nat} {g i : Nat}, pos order g = some i → order[i]? = some g
  | [], g, i, h => by simp [pos] at h
  | g' :: r, g, i, h => by
    simp only [pos] at h
    cases e : Nat.beq g' g with
    | true =>
      rw [e] at h
      simp only [cond_true, Option.some.injEq] at h
      subst h
      simp [Nat.eq_of_beq_eq_true e]
    | false =>
      rw [e] at h
      simp only [cond_false] at h
      split at h
      · rename_i j hj
        simp only [Option.some.injEq] at h
        subst h
        simpa using pos_some hj
      · cases h
mutual
def ren (order : List Nat) : A → A
  | .own g es => match pos order g with
    | some i => .own i es
    | none => .d (.sl es)
  | .ptr g off => match pos order g with
    | some i => .ptr i off
    | none => .any
  | .xs g es => match pos order g with
    | some i => .xs i es
    | none => .any
  | .xp g i off l => match pos order g with
    | some j => .xp j i off l
    | none => .any
  | .mp g es => match pos order g with
    | some i => .mp i es
    | none => .any
  | .bf g T s => match pos order g with
    | some i => .bf i T s
    | none => .any
  | .np g T u => match pos order g with
    | some i => .np i T u
    | none => .any
  | .sb g n c => match pos order g with
    | some i => .sb i n c
    | none => .any
  | .agg l => .agg (renL order l)
  | .tup l => .tup (renL order l)
  | .row l => .row (renL order l)
  | .clo f l => .clo f (renL order l)
  | .bnd f l => .bnd f (renL order l)
  | a => a
def renL (order : List Nat) : List A → List A
  | [] => []
  | a :: l => ren order a :: renL order l
end
theorem renL_map (order : List Nat) : ∀ l, renL order l = l.map (ren order)
  | [] => rfl
  | a :: l => by simp [renL, renL_map order l]
mutual
def noId : A → Bool
  | .own _ _ => false
  | .ptr _ _ => false
  | .xs _ _ => false
  | .xp _ _ _ _ => false
  | .mp _ _ => false
  | .bf _ _ _ => false
  | .np _ _ _ => false
  | .sb _ _ _ => false
  | .agg l => noIdL l
  | .tup l => noIdL l
  | .row l => noIdL l
  | .clo _ l => noIdL l
  | .bnd _ l => noIdL l
  | _ => true
def noIdL : List A → Bool
  | [] => true
  | a :: l => noId a && noIdL l
end
mutual
theorem ren_noId (order : List Nat) : ∀ a, noId a = true → ren order a = a
  | .own _ _, h => by simp [noId] at h
  | .ptr _ _, h => by simp [noId] at h
  | .xs _ _, h => by simp [noId] at h
  | .xp _ _ _ _, h => by simp [noId] at h
  | .mp _ _, h => by simp [noId] at h
  | .bf _ _ _, h => by simp [noId] at h
  | .np _ _ _, h => by simp [noId] at h
  | .sb _ _ _, h => by simp [noId] at h
  | .agg l, h => by simp only [noId] at h; simp [ren, renL_noId order l h]
  | .tup l, h => by simp only [noId] at h; simp [ren, renL_noId order l h]
  | .row l, h => by simp only [noId] at h; simp [ren, renL_noId order l h]
  | .clo _ l, h => by simp only [noId] at h; simp [ren, renL_noId order l h]
  | .bnd _ l, h => by simp only [noId] at h; simp [ren, renL_noId order l h]
  | .d _, _ => rfl
  | .ag _, _ => rfl
  | .rowd _, _ => rfl
  | .ni, _ => rfl
  | .fl _, _ => rfl
  | .any, _ => rfl
theorem renL_noId (order : List Nat) : ∀ l, noIdL l = true → renL order l = l
  | [], _ => rfl
  | a :: l, h => by
    simp only [noIdL, Bool.and_eq_true] at h
    simp [renL, ren_noId order a h.1, renL_noId order l h.2]
end
def renG (order : List Nat) (G : Gh) : Gh := ⟨fun i => (order[i]?).bind G.box, fun i => (order[i]?).bind G.own⟩
theorem pvOf_ren {C : Ctx} {G : Gh} {order : List Nat} {b o : Nat} (h : pvOf C (renG order G) b o) : pvOf C G b o := by
  rcases h with h | ⟨g, h⟩ | ⟨g, len, cap, sz, pub, h, hle⟩
  · exact Or.inl h
  · obtain ⟨g0, _, h0⟩ := Option.bind_eq_some_iff.1 h
    exact Or.inr (Or.inl ⟨g0, h0⟩)
  · obtain ⟨g0, _, h0⟩ := Option.bind_eq_some_iff.1 h
    exact Or.inr (Or.inr ⟨g0, len, cap, sz, pub, h0, hle⟩)
theorem Rep.ren {C : Ctx} {G : Gh} {gen gen' : Nat} {w : World} {order : List Nat} (hg : order.length ≤ gen') {v : Value} {a : A} (h : Rep (enOf C G gen w) v a) : Rep (enOf C (renG order G) gen' w) v (ren order a) := by
  have hc : ∀ b o u, cellAt w b o = some u → ¬ pvOf C G b o → cellAt w b o = some u ∧ ¬ pvOf C (renG order G) b o := fun b o u h hn => ⟨h, fun hp => hn (pvOf_ren hp)⟩
  have hlt : ∀ {g i : Nat}, pos order g = some i → i < gen' := fun hp => Nat.lt_of_lt_of_le (List.getElem?_eq_some_iff.1 (pos_some hp)).1 hg
  generalize hE : enOf C G gen w = E at h
  induction h with
  | any x => exact .any x
  | d hd => subst hE; exact .d (hd.mono hc)
  | ag vs l hs hd => subst hE; exact .ag vs l hs (fun i u x h1 h2 => (hd i u x h1 h2).mono hc)
  | own x g es hd hgg hr =>
    subst hE
    simp only [Ab.ren]
    split
    · rename_i i hp
      refine .own x i es (hd.mono hc) (hlt hp) (fun r hr' => hr r ?_)
      have : (order[i]?).bind G.own = some r := hr'
      rw [pos_some hp] at this
      exact this
    · exact .d (hd.mono hc)
  | agg vs l hs hone _ ih =>
    simp only [Ab.ren, renL_map]
    refine .agg vs _ (by simp [hs]) hone (fun i u x hu hx => ?_)
    simp only [List.getElem?_map, Option.map_eq_some_iff] at hx
    obtain ⟨y, hy, rfl⟩ := hx
    exact ih i u y hu hy
  | tup vs l hs _ ih =>
    simp only [Ab.ren, renL_map]
    refine .tup vs _ (by simp [hs]) (fun i u x hu hx => ?_)
    simp only [List.getElem?_map, Option.map_eq_some_iff] at hx
    obtain ⟨y, hy, rfl⟩ := hx
    exact ih i u y hu hy
  | rowd b off l u hcc hd => subst hE; exact .rowd b off l u (fun j hj => hc _ _ _ (hcc j hj).1 (hcc j hj).2) (fun j x hx => (hd j x hx).mono hc)
  | row b off l u hcc _ ih =>
    simp only [Ab.ren, renL_map]
    subst hE
    refine .row b off _ u (fun j hj => hcc j (by simpa using hj)) (fun j x hx => ?_)
    simp only [List.getElem?_map, Option.map_eq_some_iff] at hx
    obtain ⟨y, hy, rfl⟩ := hx
    exact ih j y hy
  | np x g T b0 hgg hb0 hT u hp =>
    subst hE
    simp only [Ab.ren]
    split
    · rename_i i hpp
      refine .np x i T b0 (hlt hpp) ?_ (by exact hT) u hp
      show (order[i]?).bind G.box = some b0
      rw [pos_some hpp]
      exact hb0
    · exact .any _
  | sb x g n c b0 hgg hb0 hn hp =>
    subst hE
    simp only [Ab.ren]
    split
    · rename_i i hpp
      refine .sb x i n c b0 (hlt hpp) ?_ hn hp
      show (order[i]?).bind G.box = some b0
      rw [pos_some hpp]
      exact hb0
    · exact .any _
  | ptr x g off b0 hgg hb0 hp =>
    subst hE
    simp only [Ab.ren]
    split
    · rename_i i hpp
      refine .ptr x i off b0 (hlt hpp) ?_ hp
      show (order[i]?).bind G.box = some b0
      rw [pos_some hpp]
      exact hb0
    · exact .any _
  | xs x g es hgg h1 hx =>
    subst hE
    simp only [Ab.ren]
    split
    · rename_i i hpp
      refine .xs x i es (hlt hpp) h1 (fun r hr' => ?_)
      have hr : (order[i]?).bind G.own = some r := hr'
      rw [pos_some hpp] at hr
      exact (hx r hr).weak hc
    · exact .any _
  | xp x g i off l hgg h1 hx =>
    subst hE
    simp only [Ab.ren]
    split
    · rename_i j hpp
      refine .xp x j i off l (hlt hpp) h1 (fun r hr' => ?_)
      have hr : (order[j]?).bind G.own = some r := hr'
      rw [pos_some hpp] at hr
      exact (hx r hr).weak hc
    · exact .any _
  | ni t x => exact .ni t x
  | fl x es hd hfl => subst hE; exact .fl x es (hd.mono hc) hfl
  | bf x g T s hgg h1 hx =>
    subst hE
    simp only [Ab.ren]
    split
    · rename_i i hpp
      refine .bf x i T s (hlt hpp) h1 (fun r hr' => ?_)
      have hr : (order[i]?).bind G.own = some r := hr'
      rw [pos_some hpp] at hr
      exact hx r hr
    · exact .any _
  | mp x g es hgg h1 hx =>
    subst hE
    simp only [Ab.ren]
    split
    · rename_i i hpp
      refine .mp x i es (hlt hpp) h1 (fun r hr' => ?_)
      have hr : (order[i]?).bind G.own = some r := hr'
      rw [pos_some hpp] at hr
      exact (hx r hr).weak hc
    · exact .any _
  | clo f vs l hs _ ih =>
    simp only [Ab.ren, renL_map]
    refine .clo f vs _ (by simp [hs]) (fun i u x hu hx => ?_)
    simp only [List.getElem?_map, Option.map_eq_some_iff] at hx
    obtain ⟨y, hy, rfl⟩ := hx
    exact ih i u y hu hy
  | bnd f vs l hs _ ih =>
    simp only [Ab.ren, renL_map]
    refine .bnd f vs _ (by simp [hs]) (fun i u x hu hx => ?_)
    simp only [List.getElem?_map, Option.map_eq_some_iff] at hx
    obtain ⟨y, hy, rfl⟩ := hx
    exact ih i u y hu hy
def nodupB : List Nat → Bool
  | [] => true
  | a :: l => (l.all fun b => !Nat.beq a b) && nodupB l
theorem nodup_of : ∀ {l : List Nat}, nodupB l = true → l.Nodup
  | [], _ => List.nodup_nil
  | a :: l, h => by
    simp only [nodupB, Bool.and_eq_true, List.all_eq_true] at h
    refine List.nodup_cons.2 ⟨fun hm => ?_, nodup_of h.2⟩
    have := h.1 a hm
    simp at this
def SubR (order : List Nat) (f : List (Nat × A)) : List (Nat × A) → Prop
  | [] => True
  | (t, a) :: r => (match look f t with | some x => some (ren order x) | none => none) = some a ∧ SubR order f r
def SubC (f : List (Nat × A)) : List (Nat × A) → Prop
  | [] => True
  | (t, a) :: r => look f t = some a ∧ noId a = true ∧ SubC f r
def SubBR (order : List Nat) (bx : List (Nat × List A)) : List (Nat × List A) → Prop
  | [] => True
  | (i, l) :: r => (match order[i]? with | some g => (match look' bx g with | some x => some (renL order x) | none => none) | none => none) = some l ∧ SubBR order bx r
def SubBC (order : List Nat) (bx : List (Nat × List A)) : List (Nat × List A) → Prop
  | [] => True
  | (i, l) :: r => (match order[i]? with | some g => look' bx g | none => none) = some l ∧ noIdL l = true ∧ SubBC order bx r
def lvR (order lv : List Nat) : List Nat → Bool
  | [] => true
  | i :: r => (match order[i]? with | some g => lv.any fun h => Nat.beq h g | none => false) && lvR order lv r
theorem SubR.le {order : List Nat} {f : List (Nat × A)} : ∀ {f' : List (Nat × A)}, SubR order f f' → ∀ t a', look f' t = some a' → ∃ a, look f t = some a ∧ ren order a = a'
  | [], _, t, a, h => by simp [look] at h
  | (s, b) :: r, hs, t, a, h => by
    rw [look_cons] at h
    split at h
    · rename_i e
      subst e
      simp only [Option.some.injEq] at h
      subst h
      have := hs.1
      split at this
      · rename_i x hx
        simp only [Option.some.injEq] at this
        exact ⟨x, hx, this⟩
      · cases this
    · exact SubR.le hs.2 t a h
theorem SubC.le {order : List Nat} {f : List (Nat × A)} : ∀ {f' : List (Nat × A)}, SubC f f' → ∀ t a', look f' t = some a' → ∃ a, look f t = some a ∧ ren order a = a'
  | [], _, t, a, h => by simp [look] at h
  | (s, b) :: r, hs, t, a, h => by
    rw [look_cons] at h
    split at h
    · rename_i e
      subst e
      simp only [Option.some.injEq] at h
      subst h
      exact ⟨b, hs.1, ren_noId order b hs.2.1⟩
    · exact SubC.le hs.2.2 t a h
theorem SubBR.le {order : List Nat} {f : List (Nat × List A)} : ∀ {f' : List (Nat × List A)}, SubBR order f f' → ∀ i l', look' f' i = some l' → ∃ g l, order[i]? = some g ∧ look' f g = some l ∧ l.map (ren order) = l'
  | [], _, t, a, h => by simp [look'] at h
  | (s, b) :: r, hs, t, a, h => by
    rw [look'_cons] at h
    split at h
    · rename_i e
      subst e
      simp only [Option.some.injEq] at h
      subst h
      have := hs.1
      split at this
      · rename_i g hg
        split at this
        · rename_i x hx
          simp only [Option.some.injEq] at this
          exact ⟨g, x, hg, hx, by rw [← this, renL_map]⟩
        · cases this
      · cases this
    · exact SubBR.le hs.2 t a h
theorem SubBC.le {order : List Nat} {f : List (Nat × List A)} : ∀ {f' : List (Nat × List A)}, SubBC order f f' → ∀ i l', look' f' i = some l' → ∃ g l, order[i]? = some g ∧ look' f g = some l ∧ l.map (ren order) = l'
  | [], _, t, a, h => by simp [look'] at h
  | (s, b) :: r, hs, t, a, h => by
    rw [look'_cons] at h
    split at h
    · rename_i e
      subst e
      simp only [Option.some.injEq] at h
      subst h
      have := hs.1
      split at this
      · rename_i g hg
        exact ⟨g, b, hg, this, by rw [← renL_map]; exact renL_noId order b hs.2.1⟩
      · cases this
    · exact SubBC.le hs.2.2 t a h
theorem lvR_mem {order lv : List Nat} : ∀ {lv' : List Nat}, lvR order lv lv' = true → ∀ i ∈ lv', ∃ g, order[i]? = some g ∧ g ∈ lv
  | [], _, i, h => by simp at h
  | j :: r, h, i, hi => by
    simp only [lvR, Bool.and_eq_true] at h
    rcases List.mem_cons.1 hi with rfl | hi
    · have := h.1
      split at this
      · rename_i g hg
        obtain ⟨x, hx, he⟩ := List.any_eq_true.1 this
        exact ⟨g, hg, Nat.eq_of_beq_eq_true he ▸ hx⟩
      · cases this
    · exact lvR_mem h.2 i hi
theorem look_append {f f2 : List (Nat × A)} {t : Nat} {a : A} : look (f ++ f2) t = some a → look f t = some a ∨ look f2 t = some a := by
  induction f with
  | nil => exact Or.inr
  | cons x f ih =>
    obtain ⟨s, b⟩ := x
    rw [List.cons_append, look_cons, look_cons]
    split
    · exact Or.inl
    · exact ih
theorem look'_append {f f2 : List (Nat × List A)} {t : Nat} {a : List A} : look' (f ++ f2) t = some a → look' f t = some a ∨ look' f2 t = some a := by
  induction f with
  | nil => exact Or.inr
  | cons x f ih =>
    obtain ⟨s, b⟩ := x
    rw [List.cons_append, look'_cons, look'_cons]
    split
    · exact Or.inl
    · exact ih
section
variable {P : Program} {C : Ctx} {n : Nat} {ops : Array Oper} {Q : Exit → St → Prop} {rest l : List Oper} {c : Code}
variable {f f0 f' : List (Nat × A)} {bx bx0 bx' : List (Nat × List A)} {lv lv0 lv' : List Nat} {gen gen0 gen' d : Nat}
theorem SimG.ren {st : St} {G : Gh} {tmps : Array Value} {w : World} (h : SimG C n st G tmps w) (order : List Nat) (hnd : order.Nodup) (hg : order.length ≤ gen') (hlt : ∀ i, i < C.bx.length → order[i]? = some i)
    (hf : ∀ t a', look f' t = some a' → ∃ a, look st.f t = some a ∧ Ab.ren order a = a')
    (hb : ∀ i l', look' bx' i = some l' → ∃ g l, order[i]? = some g ∧ look' st.bx g = some l ∧ l.map (Ab.ren order) = l')
    (hl : ∀ i ∈ lv', ∃ g, order[i]? = some g ∧ g ∈ st.lv) : SimG C n ⟨f', bx', lv', gen'⟩ (renG order G) tmps w := by
  have inj' : ∀ {i j g : Nat}, order[i]? = some g → order[j]? = some g → i = j := by
    intro i j g h1 h2
    obtain ⟨i1, e1⟩ := List.getElem?_eq_some_iff.1 h1
    obtain ⟨i2, e2⟩ := List.getElem?_eq_some_iff.1 h2
    have hpw := List.pairwise_iff_getElem.1 hnd
    rcases Nat.lt_trichotomy i j with hlt | heq | hgt
    · exact absurd (e1.trans e2.symm) (hpw i j i1 i2 hlt)
    · exact heq
    · exact absurd (e2.trans e1.symm) (hpw j i i2 i1 hgt)
  have hlg : ∀ {i g : Nat}, order[i]? = some g → i < gen' := fun h => Nat.lt_of_lt_of_le (List.getElem?_eq_some_iff.1 h).1 hg
  refine { size := h.size, frame := fun t a' ha => ?_, box := fun i l' hc => ?_, gbox := fun i b hb' => ?_, inj := fun i j b h1 h2 => ?_, live := fun i hi => ?_, gown := fun i r hr => ?_,
           row := fun i b len cap sz pub hr => ?_, mrow := fun i b hr => ?_, xold := h.xold, kold := h.kold, lent := fun i b hb => ?_, fr := h.fr }
  · obtain ⟨a, h1, h2⟩ := hf t a' ha
    obtain ⟨v, hv, hr⟩ := h.frame t a h1
    exact ⟨v, hv, by rw [← h2]; exact hr.ren hg⟩
  · obtain ⟨g, l, h1, h2, h3⟩ := hb i l' hc
    obtain ⟨b, cs, T, h4, h5, h6, h7, h8⟩ := h.box g l h2
    refine ⟨b, cs, T, by simp [renG, h1, h4], h5, by rw [← h3]; simpa using h6, h7, fun j u a hu ha => ?_⟩
    rw [← h3, List.getElem?_map, Option.map_eq_some_iff] at ha
    obtain ⟨y, hy, rfl⟩ := ha
    exact (h8 j u y hu hy).ren hg
  · obtain ⟨g, h1, h2⟩ := Option.bind_eq_some_iff.1 hb'
    exact ⟨hlg h1, (h.gbox g b h2).2⟩
  · obtain ⟨g1, h3, h4⟩ := Option.bind_eq_some_iff.1 h1
    obtain ⟨g2, h5, h6⟩ := Option.bind_eq_some_iff.1 h2
    have e := h.inj g1 g2 b h4 h6
    subst e
    exact inj' h3 h5
  · obtain ⟨g, h1, h2⟩ := hl i hi
    obtain ⟨r, hr⟩ := h.live g h2
    exact ⟨r, by simp [renG, h1, hr]⟩
  · obtain ⟨g, h1, h2⟩ := Option.bind_eq_some_iff.1 hr
    exact hlg h1
  · obtain ⟨g, h1, h2⟩ := Option.bind_eq_some_iff.1 hr
    obtain ⟨h3, h4, h5, h6⟩ := h.row g b len cap sz pub h2
    refine ⟨h3, fun j hj => ?_, fun j len' cap' sz' pub' hj => ?_, h6⟩
    · obtain ⟨g2, _, h8⟩ := Option.bind_eq_some_iff.1 hj
      exact h4 g2 h8
    · obtain ⟨g2, h7, h8⟩ := Option.bind_eq_some_iff.1 hj
      have e := h5 g2 len' cap' sz' pub' h8
      subst e
      exact inj' h7 h1
  · obtain ⟨g, h1, h2⟩ := Option.bind_eq_some_iff.1 hr
    obtain ⟨h3, h4, h5, h6⟩ := h.mrow g b h2
    refine ⟨h3, fun j hj => ?_, fun j hj => ?_, h6⟩
    · obtain ⟨g2, _, h8⟩ := Option.bind_eq_some_iff.1 hj
      exact h4 g2 h8
    · obtain ⟨g2, h7, h8⟩ := Option.bind_eq_some_iff.1 hj
      have e := h5 g2 h8
      subst e
      exact inj' h7 h1
  · have h1 := h.lent i b hb
    have h2 := hlt i (List.getElem?_eq_some_iff.1 hb).1
    show (order[i]?).bind G.box = some b
    rw [h2]; exact h1
def LR (C : Ctx) (n : Nat) {ι : Type} (S : ι → St) (μ : ι → Nat) : Nat → St → Prop := fun m st => ∃ i, μ i = m ∧ ∀ (tmps : Array Value) (w : World), Sim C n st tmps w → Sim C n (S i) tmps w
def headB : Nat → List Nat → Nat → Bool
  | 0, _, _ => true
  | _ + 1, [], _ => false
  | m + 1, g :: r, i => Nat.beq g i && headB m r (i + 1)
theorem headB_get : ∀ {m : Nat} {l : List Nat} {i : Nat}, headB m l i = true → ∀ j, j < m → l[j]? = some (i + j)
  | 0, _, _, _, j, h => absurd h (Nat.not_lt_zero _)
  | m + 1, [], _, h, _, _ => by simp [headB] at h
  | m + 1, g :: r, i, h, j, hj => by
    simp only [headB, Bool.and_eq_true] at h
    cases j with
    | zero => simpa using Nat.eq_of_beq_eq_true h.1
    | succ j => have := headB_get h.2 j (by omega); simpa [Nat.add_assoc, Nat.add_comm 1 j] using this
def orderB (order : List Nat) (gen nb : Nat) : Bool := nodupB order && Nat.ble order.length gen && headB nb order 0
theorem Sim.ren {nb : Nat} [hnb : NB C nb] {fi : List (Nat × A)} {bi : List (Nat × List A)} (order : List Nat) (ho : orderB order gen' nb = true) (hf : SubR order f f') (hfi : SubC f fi) (hb : SubBR order bx bx') (hbi : SubBC order bx bi) (hl : lvR order lv lv' = true)
    {tmps : Array Value} {w : World} (h : Sim C n ⟨f, bx, lv, gen⟩ tmps w) : Sim C n ⟨f' ++ fi, bx' ++ bi, lv', gen'⟩ tmps w := by
  obtain ⟨G, h⟩ := h
  simp only [orderB, Bool.and_eq_true] at ho
  exact ⟨_, h.ren order (nodup_of ho.1.1) (Nat.le_of_ble_eq_true ho.1.2) (fun i hi => by have := headB_get ho.2 i (by rw [← hnb.h]; exact hi); simpa using this) (fun t a ha => (look_append ha).elim (hf.le t a) (hfi.le t a)) (fun t a ha => (look'_append ha).elim (hb.le t a) (hbi.le t a)) (lvR_mem hl)⟩
theorem W.loopR {nb : Nat} [hnb : NB C nb] {ι : Type} (V : ι → List (Nat × A)) (fi : List (Nat × A)) (B : ι → List (Nat × List A)) (bi : List (Nat × List A)) (lv' : List Nat) (gen' : Nat) (μ : ι → Nat) (order : List Nat) (i : ι) (ho : orderB order gen' nb = true)
    (hf : SubR order f (V i)) (hfi : SubC f fi) (hb : SubBR order bx (B i)) (hbi : SubBC order bx bi) (hl : lvR order lv lv' = true)
    (hr : ∀ i, W P C n c (QL (LR C n (fun i => ⟨V i ++ fi, B i ++ bi, lv', gen'⟩) μ) (μ i) Q) ⟨V i ++ fi, B i ++ bi, lv', gen'⟩) : W P C n (.loop c) Q ⟨f, bx, lv, gen⟩ := by
  refine W.loop (LR C n (fun i => ⟨V i ++ fi, B i ++ bi, lv', gen'⟩) μ) (fun m st ⟨i, hm, hle⟩ => ?_) (m := μ i) ⟨i, rfl, fun tmps w h => Sim.ren order ho hf hfi hb hbi hl h⟩
  subst hm
  exact fun tmps w hs => hr i tmps w (hle tmps w hs)
theorem W.endR {nb : Nat} [hnb : NB C nb] {ι : Type} {V : ι → List (Nat × A)} {fi : List (Nat × A)} {B : ι → List (Nat × List A)} {bi : List (Nat × List A)} {μ : ι → Nat} {m : Nat} (order : List Nat) (i : ι) (hm : μ i < m) (ho : orderB order gen' nb = true)
    (hf : SubR order f (V i)) (hfi : SubC f fi) (hb : SubBR order bx (B i)) (hbi : SubBC order bx bi) (hl : lvR order lv lv' = true) :
    QL (LR C n (fun i => ⟨V i ++ fi, B i ++ bi, lv', gen'⟩) μ) m Q .normal ⟨f, bx, lv, gen⟩ :=
  ⟨μ i, hm, i, rfl, fun _ _ h => Sim.ren order ho hf hfi hb hbi hl h⟩
end
end Go.Ab
namespace Go.Ab
open Go.RowKit
section
variable {P : Program} {C : Ctx} {n : Nat} {Q : Exit → St → Prop} {x y : Code} {st : St} {α : Type}
theorem eachR {l : List α} {k : Nat} {c : Operand} {b : Bool} (hc : av st.f c = some (.d (.v (.bool b)))) (hb : b = decide ((k : Int) < (l.length : Int))) (hk : k ≤ l.length)
    (ht : ∀ a, l[k]? = some a → l.drop k = a :: l.drop (k + 1) → k < l.length → W P C n x Q st) (hf : k = l.length → l.drop k = [] → W P C n y Q st) : W P C n (.cond c x y) Q st := by
  refine W.cond hc (fun h => ?_) (fun h => ?_)
  · subst hb
    have h : k < l.length := by simpa using h
    exact ht l[k] (by simp [h]) (List.drop_eq_getElem_cons h) h
  · subst hb
    have h : k = l.length := by
      have : ¬ (k : Int) < l.length := by simpa using h
      omega
    exact hf h (by rw [h]; simp)
theorem byteList {s : ByteArray} {k : Nat} {b : UInt8} (h : s.data.toList[k]? = some b) : s[((k : Int)).toNat]? = some b := by
  have : s[k]? = s.data.toList[k]? := by
    rcases Nat.lt_or_ge k s.size with hk | hk
    · rw [getElem?_pos s k hk, List.getElem?_eq_getElem (by simpa using hk)]; rfl
    · rw [getElem?_neg s k (by simpa using hk), List.getElem?_eq_none (by simpa using hk)]
  simpa [this] using h
end
end Go.Ab
namespace Go.Ab
open Go.RowKit
def lensB (m : Nat) : List (List D) → Bool
  | [] => true
  | x :: r => Nat.beq x.length m && lensB m r
theorem lensB_mem {m : Nat} : ∀ {l : List (List D)}, lensB m l = true → ∀ x ∈ l, x.length = m
  | [], _, x, h => by simp at h
  | y :: r, h, x, hx => by
    simp only [lensB, Bool.and_eq_true] at h
    rcases List.mem_cons.1 hx with rfl | hx
    · exact Nat.eq_of_beq_eq_true h.1
    · exact lensB_mem h.2 x hx
section
variable {P : Program} (T : Tab P) {C : Ctx} {n : Nat} {ops : Array Oper} {Q : Exit → St → Prop} {rest : List Oper} {c : Code}
variable {f : List (Nat × A)} {bx : List (Nat × List A)} {lv : List Nat} {gen d : Nat} {ty : TypeId} {pos : String} {af : Array Edge} {a : A} {dst : Option Nat}
theorem buildV {t e len : Nat} {parts : Array (Nat × Operand)} {td ed : TyD} {es : List (List D)} (ht : look' T.l t = some td) (hk : td.k = .slice e) (he : look' T.l e = some ed) (hes : elsA f 0 parts.toList = some es) (hlen : es.length = len)
    (hz : Nat.blt 0 ed.n = true) (hsm : Nat.ble (len * ed.n) 16777216 = true) (hl : lensB ed.n es = true) (hpos : Nat.blt 0 len = true) : Pu P C n ⟨f, bx, lv, gen⟩ ⟨dst, .buildSlice t len parts, ty, pos, af, none⟩ (.d (.sl es)) :=
  Pu.buildSl (st := ⟨f, bx, lv, gen⟩) T rfl ht hk he hes hlen hz hsm (lensB_mem hl) hpos
theorem strPart {t : Nat} {x lo hi : Operand} {td : TyD} {s : ByteArray} {l h : Int} {kl kh : IntKind} (hx : av f x = some (.d (.v (.string s)))) (hlo : av f lo = some (.d (.v (.int kl l)))) (hhi : av f hi = some (.d (.v (.int kh h)))) (ht : look' T.l t = some td) (hk : td.k = .str)
    (h0 : 0 ≤ l) (h1 : l ≤ h) (h2 : h ≤ s.size) : Pu P C n ⟨f, bx, lv, gen⟩ ⟨dst, .slice t x (some lo) (some hi) none, ty, pos, af, none⟩ (.d (.v (.string (s.extract l.toNat h.toNat)))) :=
  Pu.sliceStr (st := ⟨f, bx, lv, gen⟩) T (lo := some lo) (hi := some hi) rfl ht hk hx (l := l) (h := h) ⟨kl, hlo⟩ ⟨kh, hhi⟩ h0 h1 h2
end
end Go.Ab
namespace Go.Ab
open Go.RowKit
section
variable {P : Program} {C : Ctx} {n : Nat} {ops : Array Oper} {Q : Exit → St → Prop} {rest : List Oper} {st : St} {o : Oper}
variable {f : List (Nat × A)} {bx : List (Nat × List A)} {lv : List Nat} {gen d : Nat} {op : Op} {ty : TypeId} {pos : String} {af : Array Edge} {dst : Option Nat}
theorem Rep.undef {E : En} : Rep E undef (.tup []) := .tup #[] [] rfl (by simp)
theorem WO.skipT {j d : Nat} {want b : Bool} (hg : o.guard = some (j, want)) (hj : gslot ops j = some d) (hl : look st.f d = some (.d (.v (.bool b)))) (hb : (b == want) = false) (hd : dstOK n o.dst = true)
    (h : WO P C n ops Q rest (st.put o.dst (.tup []))) : WO P C n ops Q (o :: rest) st := by
  intro tmps w ⟨G, hs⟩
  simp only [wpL, Region.wanted, hg]
  rw [yielded_of hj (look_bool hs hl)]
  have hbw : (some b == some want) = false := by simpa using hb
  simp only [hbw, Bool.false_eq_true, if_false]
  rw [Act.put_ds]
  exact h _ _ ⟨G, hs.put (dstOK_lt hd) Rep.undef⟩
theorem WO.skipU {j d : Nat} {want : Bool} (hg : o.guard = some (j, want)) (hj : gslot ops j = some d) (hl : look st.f d = some (.tup [])) (hd : dstOK n o.dst = true)
    (h : WO P C n ops Q rest (st.put o.dst (.tup []))) : WO P C n ops Q (o :: rest) st := by
  intro tmps w ⟨G, hs⟩
  obtain ⟨v, hv, hr⟩ := hs.frame _ _ hl
  have hy : yielded ops tmps j = none := by
    unfold yielded
    unfold gslot at hj
    rw [hj]
    simp only [Option.bind_some, hv]
    cases hr; rfl
  simp only [wpL, Region.wanted, hg, hy]
  have hbw : ((none : Option Bool) == some want) = false := rfl
  simp only [hbw, Bool.false_eq_true, if_false]
  rw [Act.put_ds]
  exact h _ _ ⟨G, hs.put (dstOK_lt hd) Rep.undef⟩
theorem skipT {j e : Nat} {want b : Bool} (hj : gslot ops j = some e) (hl : look f e = some (.d (.v (.bool b)))) (hb : (b == want) = false) (hd : Nat.blt d n = true) (h : WO P C n ops Q rest ⟨(d, .tup []) :: f, bx, lv, gen⟩) :
    WO P C n ops Q (⟨some d, op, ty, pos, af, some (j, want)⟩ :: rest) ⟨f, bx, lv, gen⟩ :=
  WO.skipT (st := ⟨f, bx, lv, gen⟩) rfl hj hl hb hd h
theorem skipU {j e : Nat} {want : Bool} (hj : gslot ops j = some e) (hl : look f e = some (.tup [])) (hd : Nat.blt d n = true) (h : WO P C n ops Q rest ⟨(d, .tup []) :: f, bx, lv, gen⟩) :
    WO P C n ops Q (⟨some d, op, ty, pos, af, some (j, want)⟩ :: rest) ⟨f, bx, lv, gen⟩ :=
  WO.skipU (st := ⟨f, bx, lv, gen⟩) rfl hj hl hd h
theorem splitH {f0 : List (Nat × A)} {bx0 : List (Nat × List A)} {lv0 : List Nat} {gen0 : Nat} {y1 y2 : Bool} {d0 : Nat} {j e : Nat} {want b : Bool} (hj : gslot ops j = some e) (hl : look f e = some (.d (.v (.bool b))))
    (ht : b = true → WO P C n ops (QV1 d0 y1 f0 bx0 lv0 gen0) (⟨dst, op, ty, pos, af, some (j, want)⟩ :: rest) ⟨(e, .d (.v (.bool true))) :: f, bx, lv, gen⟩)
    (hf : b = false → WO P C n ops (QV1 d0 y2 f0 bx0 lv0 gen0) (⟨dst, op, ty, pos, af, some (j, want)⟩ :: rest) ⟨(e, .d (.v (.bool false))) :: f, bx, lv, gen⟩) :
    WO P C n ops (QV1 d0 (bif b then y1 else y2) f0 bx0 lv0 gen0) (⟨dst, op, ty, pos, af, some (j, want)⟩ :: rest) ⟨f, bx, lv, gen⟩ := by
  refine WO.split (st := ⟨f, bx, lv, gen⟩) hl (fun h => ?_) (fun h => ?_)
  · subst h; exact ht rfl
  · subst h; exact hf rfl
end
end Go.Ab
namespace Go.Ab
open Go.RowKit
section
variable {P : Program} {C : Ctx} {n : Nat} {ops : Array Oper} {Q : Exit → St → Prop} {rest l : List Oper} {c : Code}
variable {f f0 : List (Nat × A)} {bx bx0 : List (Nat × List A)} {lv lv0 : List Nat} {gen gen0 d : Nat} {op : Op} {ty : TypeId} {pos : String} {af : Array Edge} {dst : Option Nat} {a : A}
theorem condK {s : Nat} {x y : Code} {b : Bool} (hl : look f s = some (.d (.v (.bool b)))) (ht : b = true → W P C n x Q ⟨(s, .d (.v (.bool true))) :: f, bx, lv, gen⟩) (hf : b = false → W P C n y Q ⟨(s, .d (.v (.bool false))) :: f, bx, lv, gen⟩) :
    W P C n (.cond (.tmp s) x y) Q ⟨f, bx, lv, gen⟩ := by
  refine W.cond (b := b) hl (fun h => ?_) (fun h => ?_)
  · exact fun tmps w ⟨G, hs⟩ => ht h tmps w ⟨G, hs.known hl (by rw [h])⟩
  · exact fun tmps w ⟨G, hs⟩ => hf h tmps w ⟨G, hs.known hl (by rw [h])⟩
theorem W.cut1 {y : Bool} {st : St} (h : W P C n c (QV1 d y f bx lv gen) st) (hq : Q .normal ⟨(d, boolA y) :: f, bx, lv, gen⟩) : W P C n c Q st :=
  fun tmps w hs => wp_mono (h tmps w hs) fun e act w ⟨hd, st', ⟨G, hs⟩, he, h1, h2, h3, h4⟩ => by
    subst he
    exact ⟨hd, _, ⟨G, hs.weaken (st' := ⟨(d, boolA y) :: f, bx, lv, gen⟩) ⟨h1, by rw [← h2]; exact fun _ _ h => h, by rw [← h3]; exact fun _ h => h, h4.symm⟩⟩, hq⟩
theorem regionDB (T : Tab P) {id : Nat} {y : Bool} (hb : boolD false l = some d) (hB : Region.lexB .any l.toArray = true) (h : CH P C n bx lv gen l.toArray (QV1 d y f bx lv gen .normal) l f) (hq : Q .normal ⟨(d, boolA y) :: f, bx, lv, gen⟩) :
    W P C n (.region id l.toArray true) Q ⟨f, bx, lv, gen⟩ := W.cut1 (W.regionD T (Q := QV1 d y f bx lv gen) hB h) hq
theorem chSplitH {y1 y2 : Bool} {d0 : Nat} {j e : Nat} {want b : Bool} (hj : gslot ops j = some e) (hl : look f e = some (.d (.v (.bool b))))
    (ht : b = true → CH P C n bx lv gen ops (QV1 d0 y1 f0 bx0 lv0 gen0 .normal) (⟨dst, op, ty, pos, af, some (j, want)⟩ :: rest) ((e, .d (.v (.bool true))) :: f))
    (hf : b = false → CH P C n bx lv gen ops (QV1 d0 y2 f0 bx0 lv0 gen0 .normal) (⟨dst, op, ty, pos, af, some (j, want)⟩ :: rest) ((e, .d (.v (.bool false))) :: f)) :
    CH P C n bx lv gen ops (QV1 d0 (bif b then y1 else y2) f0 bx0 lv0 gen0 .normal) (⟨dst, op, ty, pos, af, some (j, want)⟩ :: rest) f := by
  refine chSplit hl (fun h => ?_) (fun h => ?_)
  · subst h; exact ht rfl
  · subst h; exact hf rfl
end
end Go.Ab
namespace Go.Ab
open Go.RowKit
section
variable {P : Program} (T : Tab P) {C : Ctx} {n : Nat} {ops : Array Oper} {Q : Exit → St → Prop} {rest : List Oper} {c : Code}
variable {f : List (Nat × A)} {bx : List (Nat × List A)} {lv : List Nat} {gen d : Nat} {ty : TypeId} {pos : String} {af : Array Edge}
theorem appendM {α : Type} {fn : α → List D} {l : List α} {a : α} {x y : Operand} {t e : Nat} {td ed : TyD} {g : Nat} {b : A} (hx : av f x = some (.own g (l.map fn))) (hy : av f y = some b) (hb2 : slOf b = some [fn a]) (ht : look' T.l t = some td) (hk : td.k = .slice e)
    (he : look' T.l e = some ed) (hgl : (lv.any fun h => Nat.beq h g) = true) (hz : Nat.blt 0 ed.n = true) (hb0 : Nat.blt 0 ed.b = true) (hd : Nat.blt d n = true) (hl : ∀ a, (fn a).length = ed.n) (hb : (l.length + 1) * ed.b ≤ 140737488355328)
    (h : WO P C n ops Q rest ⟨(d, .own gen ((l ++ [a]).map fn)) :: f, bx, gen :: dropId lv g, gen + 1⟩) : WO P C n ops Q (⟨some d, .call ⟨.builtin .append, #[x, y], #[t, t]⟩, ty, pos, af, none⟩ :: rest) ⟨f, bx, lv, gen⟩ := by
  obtain ⟨g', hg1, hg2⟩ := List.any_eq_true.1 hgl
  have hgm : g ∈ lv := Nat.eq_of_beq_eq_true hg2 ▸ hg1
  refine appendR T hx hy hb2 ht hk he hgm hz hb0 hd (fun z hzm => ?_) (by simpa using hb) ?_
  · rcases List.mem_append.1 hzm with h | h
    · obtain ⟨a', _, rfl⟩ := List.mem_map.1 h; exact hl a'
    · simp only [List.mem_singleton] at h; subst h; exact hl a
  · rw [List.map_append] at h
    exact h
end
end Go.Ab
namespace Go.Ab
open Go.RowKit
def bxs : Nat → List (List A) → List (Nat × List A)
  | _, [] => []
  | k, c :: r => (k, c) :: bxs (k + 1) r
theorem bxs_look : ∀ (l : List (List A)) (k g : Nat) (c : List A), look' (bxs k l) g = some c → k ≤ g ∧ l[g - k]? = some c
  | [], _, _, _, h => by simp [bxs, look'] at h
  | b :: l, k, g, c, h => by
    simp only [bxs, look'_cons] at h
    split at h
    · rename_i e
      subst e
      simp only [Option.some.injEq] at h
      subst h
      exact ⟨Nat.le_refl _, by simp⟩
    · rename_i e
      obtain ⟨h1, h2⟩ := bxs_look l (k + 1) g c h
      refine ⟨by omega, ?_⟩
      have : g - k = (g - (k + 1)) + 1 := by omega
      rw [this]
      simpa using h2
theorem look_bxs : ∀ (l : List (List A)) (k i : Nat) (c : List A), l[i]? = some c → look' (bxs k l) (k + i) = some c
  | [], _, _, _, h => by simp at h
  | b :: l, k, i, c, h => by
    simp only [bxs, look'_cons]
    cases i with
    | zero => simpa using h
    | succ i =>
      rw [if_neg (by omega)]
      have := look_bxs l (k + 1) i c (by simpa using h)
      rw [← this]
      congr 1
      omega
structure DoesB (P : Program) [Met P] (f : FuncId) (args : List A) (b0 : List (List A)) (m : Nat) (r : A) (b1 : List (List A)) (k : Nat) : Prop where
  ok : FnOK P f
  len : b1.length = b0.length
  calls : ∀ (C : Ctx) (G : Gh) (vals : Array Value) (w : World), GC P C → C.w0 = w → C.bx.length = b0.length → C.ds = [] → (m = 0 → ∀ b, C.fp b → ∃ i : Nat, C.bx[i]? = some b) →
    SimG C 0 ⟨[], bxs 0 b0, (List.range m).map (b0.length + ·), b0.length + m⟩ G #[] w → vals.size = args.length →
    (∀ (i : Nat) (u : Value) (a : A), vals[i]? = some u → args[i]? = some a → Rep (enOf C G (b0.length + m) w) u a) →
    Calls P f vals w fun e w' => ∃ v G', e = .returned v ∧ SimG C 0 ⟨[], bxs 0 b1, (List.range k).map (b0.length + ·), b0.length + k⟩ G' #[] w' ∧ Rep (enOf C G' (b0.length + k) w') v r
theorem SimG.noFrame {C : Ctx} {n n' : Nat} {bx : List (Nat × List A)} {lv : List Nat} {gen : Nat} {G : Gh} {tmps tmps' : Array Value} {w : World} (h : SimG C n ⟨[], bx, lv, gen⟩ G tmps w) (hs : tmps'.size = n') :
    SimG C n' ⟨[], bx, lv, gen⟩ G tmps' w :=
  { h with size := hs, frame := fun t a ha => by simp [look] at ha }
section
variable {P : Program} (T : Tab P)
def ordB (nb : Nat) (order : List Nat) : List Nat := List.range nb ++ order
def QB1 (rs : List RV) (r : A) (b1 : List (List A)) (k : Nat) : Exit → St → Prop := fun e st =>
  (match e with | .normal => True | .ret => True | _ => False) ∧ ∃ l order, resV T st.f st.bx rs = some l ∧ ren (ordB b1.length order) (oneA l) = r ∧ order.length = k ∧ nodupB (ordB b1.length order) = true ∧ (∀ g ∈ order, g ∈ st.lv) ∧
    ∀ (i : Nat) (c : List A), b1[i]? = some c → ∃ c0, look' st.bx i = some c0 ∧ renL (ordB b1.length order) c0 = c
theorem DoesB.of_VF [Met P] {f : FuncId} {fn : Func} {c : Code} {rs : List RV} {n : Nat} {args : List A} {b0 : List (List A)} {m : Nat} {r : A} {b1 : List (List A)} {k : Nat} (hf : P.funcs[f]? = some fn) (hname : (fn.name == "runtime.NumGoroutine") = false)
    (hb : fn.body = some c) (hn : fn.ntmps = n) (hr : fn.results = (rs.map RV.var).toArray) (hlen : Nat.ble args.length n = true) (hbl : b1.length = b0.length)
    (h : ∀ C, NB C b0.length → GC P C → (m = 0 → ∀ b, C.fp b → ∃ i : Nat, C.bx[i]? = some b) → (∀ i b : Nat, C.bx[i]? = some b → b < C.w0.heap.size) → W P C n c (QB1 T rs r b1 k) ⟨args0 0 args, bxs 0 b0, (List.range m).map (b0.length + ·), b0.length + m⟩) : DoesB P f args b0 m r b1 k := by
  have hlen := Nat.le_of_ble_eq_true hlen
  refine ⟨⟨fn, hf, hname, by rw [hb]; rfl⟩, hbl, fun C G vals w hG hw hnb hdn hfe hs hsz hrep => ?_⟩
  subst hw
  refine calls_of_wp hf hb (wp_mono (wp_ds hdn (h C ⟨hnb⟩ hG hfe (fun i b hb => (hs.gbox i b (hs.lent i b hb)).2.1) (vals ++ Array.replicate (fn.ntmps - vals.size) undef) C.w0 ⟨G, ?_⟩)) ?_)
  · refine { hs with size := by simp [hn]; omega, frame := fun t a ha => ?_ }
    obtain ⟨_, h1⟩ := args0_look args 0 t a ha
    have h2 : t < args.length := (List.getElem?_eq_some_iff.1 (by simpa using h1)).1
    have h3 : t < vals.size := by omega
    have h4 : vals[t]? = some vals[t] := by simp [h3]
    exact ⟨vals[t], by rw [Array.getElem?_append_left h3]; exact h4, hrep t _ a h4 (by simpa using h1)⟩
  · rintro e ⟨tmps, df⟩ w' ⟨hd, st, ⟨G, hs⟩, he, l, order, hl, hno, hol, hnd, hov, hbx⟩
    have holen : (ordB b1.length order).length = b0.length + k := by simp [ordB, hol, hbl]
    have hget : ∀ i, i < C.bx.length → (ordB b1.length order)[i]? = some i := fun i hi => by
      unfold ordB
      rw [List.getElem?_append_left (by simp; omega), List.getElem?_range (by omega)]
    have hmain : ∃ v, (results fn tmps).run P w' = .ok v w' ∧ ∃ v_1 G', Ending.returned v = .returned v_1 ∧ SimG C 0 ⟨[], bxs 0 b1, (List.range k).map (b0.length + ·), b0.length + k⟩ G' #[] w' ∧ Rep (enOf C G' (b0.length + k) w') v_1 r := by
      obtain ⟨vs, hv1, hv2, hv3⟩ := run_resV T hs rs l hl
      refine ⟨_, run_resultsV hr hv1, _, renG (ordB b1.length order) G, rfl, ?_, ?_⟩
      · refine SimG.noFrame (hs.ren (f' := []) (bx' := bxs 0 b1) (lv' := (List.range k).map (b0.length + ·)) (gen' := b0.length + k) (ordB b1.length order) (nodup_of hnd) (by omega) hget (fun t a ha => by simp [look] at ha) (fun i c hc => ?_) (fun i hi => ?_)) rfl
        · obtain ⟨_, h1⟩ := bxs_look b1 0 i c hc
          simp only [Nat.sub_zero] at h1
          obtain ⟨c0, h2, h3⟩ := hbx i c h1
          have hlt : i < b1.length := (List.getElem?_eq_some_iff.1 h1).1
          exact ⟨i, c0, hget i (by rw [hnb, ← hbl]; exact hlt), h2, by rw [← renL_map]; exact h3⟩
        · obtain ⟨j, hj, rfl⟩ := List.mem_map.1 hi
          have hj : j < k := by simpa using hj
          have hj2 : j < order.length := by omega
          refine ⟨order[j], ?_, hov _ (List.getElem_mem hj2)⟩
          unfold ordB
          rw [List.getElem?_append_right (by simp; omega)]
          simp [hbl, hj2]
      · rw [← hno]
        refine Rep.ren (gen := st.gen) (by omega) (oneA_rep hv2 hv3)
    cases e with
    | normal => exact ⟨hd.trans hdn, hmain⟩
    | ret => exact ⟨hd.trans hdn, hmain⟩
    | exit _ => exact he.elim
    | goto _ => exact he.elim
    | panic _ => exact he.elim
    | outgrown => exact he.elim
theorem DoesB.of_V [Met P] {f : FuncId} {fn : Func} {c : Code} {rs : List RV} {n : Nat} {args : List A} {b0 : List (List A)} {m : Nat} {r : A} {b1 : List (List A)} {k : Nat} (hf : P.funcs[f]? = some fn) (hname : (fn.name == "runtime.NumGoroutine") = false)
    (hb : fn.body = some c) (hn : fn.ntmps = n) (hr : fn.results = (rs.map RV.var).toArray) (hlen : Nat.ble args.length n = true) (hbl : b1.length = b0.length)
    (h : ∀ C, NB C b0.length → GC P C → W P C n c (QB1 T rs r b1 k) ⟨args0 0 args, bxs 0 b0, (List.range m).map (b0.length + ·), b0.length + m⟩) : DoesB P f args b0 m r b1 k :=
  DoesB.of_VF T hf hname hb hn hr hlen hbl fun C hC hG _ _ => h C hC hG
theorem QB1.ret {rs : List RV} {r : A} {b1 : List (List A)} {k : Nat} {e : Exit} {st : St} {l : List A} (order : List Nat) (he : match e with | .normal => True | .ret => True | _ => False) (hl : resV T st.f st.bx rs = some l)
    (hk : order.length = k) (hnd : nodupB (ordB b1.length order) = true) (hov : (order.all fun g => st.lv.any fun h => Nat.beq h g) = true) (hb : ∀ (i : Nat) (c : List A), b1[i]? = some c → ∃ c0, look' st.bx i = some c0 ∧ renL (ordB b1.length order) c0 = c)
    (hr : ren (ordB b1.length order) (oneA l) = r) : QB1 T rs r b1 k e st :=
  ⟨he, l, order, hl, hr, hk, hnd, fun g hg => by
    obtain ⟨x, hx, he⟩ := List.any_eq_true.1 (List.all_eq_true.1 hov g hg)
    exact Nat.eq_of_beq_eq_true he ▸ hx, hb⟩
end
/-! the caller's side -/
def lendA (bx : List (Nat × List A)) (gs os : List Nat) : Nat → A → A
  | 0, _ => .any
  | _ + 1, .d x => .d x
  | _ + 1, .ag l => .ag l
  | _ + 1, .own g es => match pos os g with
    | some i => .own (gs.length + i) es
    | none => .d (.sl es)
  | k + 1, .agg l => mkAgg (l.map (lendA bx gs os k))
  | _ + 1, .tup _ => .any
  | _ + 1, .rowd l => .rowd l
  | k + 1, .row l => .row (l.map (lendA bx gs os k))
  | k + 1, .ptr g off => match pos gs g with
    | some i => .ptr i off
    | none => match look' bx g with
      | some cells => .row ((cells.drop off).map (lendA bx gs os k))
      | none => .any
  | _ + 1, .xs g es => match pos os g with
    | some i => .xs (gs.length + i) es
    | none => .any
  | _ + 1, .xp _ _ _ _ => .any
  | _ + 1, .mp g es => match pos os g with
    | some i => .mp (gs.length + i) es
    | none => .any
  | k + 1, .clo f l => .clo f (l.map (lendA bx gs os k))
  | k + 1, .bnd f l => .bnd f (l.map (lendA bx gs os k))
  | _ + 1, .ni => .ni
  | _ + 1, .fl es => .fl es
  | _ + 1, .bf g T s => match pos os g with
    | some i => .bf (gs.length + i) T s
    | none => .any
  | _ + 1, .np g T u => match pos gs g with
    | some i => .np i T u
    | none => .any
  | _ + 1, .sb g n c => match pos gs g with
    | some i => .sb i n c
    | none => .any
  | _ + 1, .any => .any
def lendBx (bx : List (Nat × List A)) (gs os : List Nat) : List Nat → Option (List (List A))
  | [] => some []
  | g :: r => match look' bx g, lendBx bx gs os r with
    | some c, some l => some (c.map (lendA bx gs os 5) :: l)
    | _, _ => none
mutual
def back (gs : List Nat) (m : Nat) : A → A
  | .own g es => .own (g + m) es
  | .agg l => .agg (backL gs m l)
  | .tup l => .tup (backL gs m l)
  | .clo f l => .clo f (backL gs m l)
  | .bnd f l => .bnd f (backL gs m l)
  | .ptr i off => match gs[i]? with
    | some g => .ptr g off
    | none => .any
  | .xs g es => .xs (g + m) es
  | .xp g i off l => .xp (g + m) i off l
  | .mp g es => .mp (g + m) es
  | .row _ => .any
  | .d x => .d x
  | .ag l => .ag l
  | .rowd l => .rowd l
  | .fl es => .fl es
  | .bf g T s => .bf (g + m) T s
  | .np i T u => match gs[i]? with
    | some g => .np g T u
    | none => .any
  | .sb i n c => match gs[i]? with
    | some g => .sb g n c
    | none => .any
  | .ni => .ni
  | .any => .any
def backL (gs : List Nat) (m : Nat) : List A → List A
  | [] => []
  | a :: l => back gs m a :: backL gs m l
end
theorem backL_map (gs : List Nat) (m : Nat) : ∀ l : List A, backL gs m l = l.map (back gs m)
  | [] => rfl
  | a :: l => by simp [backL, backL_map gs m l]
def zipB (gs : List Nat) (m : Nat) : List Nat → List (List A) → List (Nat × List A)
  | g :: r, c :: l => (g, backL gs m c) :: zipB gs m r l
  | _, _ => []
theorem zipB_look {gs : List Nat} {m : Nat} : ∀ {r : List Nat} {l : List (List A)} {g : Nat} {c : List A}, look' (zipB gs m r l) g = some c → ∃ (i : Nat) (c0 : List A), r[i]? = some g ∧ l[i]? = some c0 ∧ backL gs m c0 = c
  | [], _, g, c, h => by simp [zipB, look'] at h
  | _ :: _, [], g, c, h => by simp [zipB, look'] at h
  | g0 :: r, c0 :: l, g, c, h => by
    simp only [zipB, look'_cons] at h
    split at h
    · rename_i e
      subst e
      simp only [Option.some.injEq] at h
      exact ⟨0, c0, rfl, rfl, h⟩
    · obtain ⟨i, c1, h1, h2, h3⟩ := zipB_look h
      exact ⟨i + 1, c1, by simpa using h1, by simpa using h2, h3⟩
section
variable {P : Program} {C : Ctx} {n : Nat} {ops : Array Oper} {Q : Exit → St → Prop} {st : St} {o : Oper} {rest : List Oper}
def lentBox (G : Gh) (gs : List Nat) (b : Nat) : Prop := ∃ g ∈ gs, G.box g = some b
def lentRow (G : Gh) (os : List Nat) (b lim : Nat) : Prop := ∃ g ∈ os, ∃ r, G.own g = some r ∧ r.isAt b lim
theorem SimG.rowAt {C : Ctx} {n : Nat} {st : St} {G : Gh} {tmps : Array Value} {w : World} (h : SimG C n st G tmps w) {g b lim : Nat} {r : Row} (hg : G.own g = some r) (hr : r.isAt b lim) :
    C.mine b lim ∧ (∀ g', G.box g' ≠ some b) ∧ b < w.heap.size ∧
      (∀ g' r' lim', G.own g' = some r' → r'.isAt b lim' → g' = g ∧ lim' = lim) := by
  have key : ∀ g' r' lim', G.own g' = some r' → r'.isAt b lim' → g' = g := by
    intro g' r' lim' hg' hr'
    cases r with
    | nil => exact hr.elim
    | zero _ => exact hr.elim
    | blk b1 len cap sz pub =>
      obtain ⟨rfl, rfl⟩ := hr
      obtain ⟨_, _, h3, cur, T, h4, _⟩ := h.row g b1 len cap sz lim hg
      cases r' with
      | nil => exact hr'.elim
      | zero _ => exact hr'.elim
      | blk b2 len2 cap2 sz2 pub2 => obtain ⟨rfl, rfl⟩ := hr'; exact h3 g' _ _ _ _ hg'
      | mp b2 =>
        obtain ⟨rfl, rfl⟩ := hr'
        obtain ⟨_, _, _, me, clock, h5⟩ := h.mrow g' b2 hg'
        rw [h4] at h5
        cases h5
    | mp b1 =>
      obtain ⟨rfl, rfl⟩ := hr
      obtain ⟨_, _, h3, me, clock, h4⟩ := h.mrow g b1 hg
      cases r' with
      | nil => exact hr'.elim
      | zero _ => exact hr'.elim
      | blk b2 len2 cap2 sz2 pub2 =>
        obtain ⟨rfl, rfl⟩ := hr'
        obtain ⟨_, _, _, cur, T, h5, _⟩ := h.row g' b2 _ _ _ _ hg'
        rw [h4] at h5
        cases h5
      | mp b2 => obtain ⟨rfl, rfl⟩ := hr'; exact h3 g' hg'
  refine (fun hk => ?_ : (∀ g' r' lim', G.own g' = some r' → r'.isAt b lim' → g' = g ∧ lim' = lim) → _) (fun g' r' lim' hg' hr' => ?_)
  · cases r with
    | nil => exact hr.elim
    | zero _ => exact hr.elim
    | blk b1 len cap sz pub =>
      obtain ⟨rfl, rfl⟩ := hr
      obtain ⟨h1, h2, h3, cur, T, h4, _⟩ := h.row g b1 len cap sz lim hg
      exact ⟨h1, h2, (Array.getElem?_eq_some_iff.1 h4).1, hk⟩
    | mp b1 =>
      obtain ⟨rfl, rfl⟩ := hr
      obtain ⟨h1, h2, h3, me, clock, h4⟩ := h.mrow g b1 hg
      exact ⟨h1, h2, (Array.getElem?_eq_some_iff.1 h4).1, hk⟩
  · have e := key g' r' lim' hg' hr'
    subst e
    rw [hg] at hg'
    simp only [Option.some.injEq] at hg'
    subst hg'
    refine ⟨rfl, ?_⟩
    cases r with
    | nil => exact hr.elim
    | zero _ => exact hr.elim
    | blk b1 len cap sz pub => exact hr'.2.trans hr.2.symm
    | mp b1 => exact hr'.2.trans hr.2.symm
theorem SimG.pvAt {C : Ctx} {n : Nat} {st : St} {G : Gh} {tmps : Array Value} {w : World} (h : SimG C n st G tmps w) {g b lim o : Nat} {r : Row} {u : Value} (hg : G.own g = some r) (hr : r.isAt b lim)
    (hu : cellAt w b o = some u) (hle : lim ≤ o) : pvOf C G b o := by
  cases r with
  | nil => exact hr.elim
  | zero _ => exact hr.elim
  | blk b1 len cap sz pub => obtain ⟨rfl, rfl⟩ := hr; exact .inr (.inr ⟨g, len, cap, sz, lim, hg, hle⟩)
  | mp b1 =>
    obtain ⟨rfl, rfl⟩ := hr
    obtain ⟨_, _, _, me, clock, h4⟩ := h.mrow g b1 hg
    simp [cellAt, World.cell?, h4] at hu
def lendC (C : Ctx) (G : Gh) (w : World) (gs os : List Nat) : Ctx :=
  { w0 := w, fp := fun b => lentBox G gs b ∨ ∃ lim, lentRow G os b lim, x := fun b o => pvOf C G b o ∧ ¬ (lentBox G gs b ∨ ∃ lim, lentRow G os b lim),
    keep := fun b o => ∃ lim, lentRow G os b lim ∧ o < lim, bx := gs.map fun g => (G.box g).getD 0 }
theorem lendC_fp {C : Ctx} {G : Gh} {w : World} {gs os : List Nat} {m : Nat} (hm : os.length = m) : m = 0 → ∀ b, (lendC C G w gs os).fp b → ∃ i : Nat, (lendC C G w gs os).bx[i]? = some b := by
  rintro rfl b (⟨g, hg, hb⟩ | ⟨lim, g, hg, _⟩)
  · obtain ⟨i, hi⟩ := List.mem_iff_getElem?.1 hg
    exact ⟨i, by show (gs.map _)[i]? = _; rw [List.getElem?_map, hi]; simp [hb]⟩
  · have := List.length_eq_zero_iff.1 hm; subst this; cases hg
def lendG (G : Gh) (gs os : List Nat) : Gh := ⟨fun i => (gs[i]?).bind G.box, fun i => if i < gs.length then none else (os[i - gs.length]?).bind G.own⟩
theorem GC.inLend {P : Program} [Met P] {C : Ctx} [hC : GC P C] {n : Nat} {st : St} {G : Gh} {tmps : Array Value} {w : World} (hs : SimG C n st G tmps w) {gs os : List Nat} : GC P (lendC C G w gs os) := by
  obtain ⟨W', h1', h2', h3'⟩ := hC.h
  refine ⟨W', h1', Nat.le_trans h2' hs.fr.size, fun b hb => ⟨(hs.fr.block b (Nat.lt_of_lt_of_le hb h2') (h3' b hb).2).trans (h3' b hb).1, ?_⟩⟩
  rintro (⟨g, _, hg⟩ | ⟨_, g, _, r, hg, hr⟩)
  · rcases (hs.gbox g b hg).2.2.1 with h | h
    · omega
    · exact (h3' b hb).2 h
  · rcases (hs.rowAt hg hr).1.1 with h | h
    · omega
    · exact (h3' b hb).2 h
theorem lend_pv {C : Ctx} {G : Gh} {w : World} {gs os : List Nat} {b o : Nat} (h : pvOf (lendC C G w gs os) (lendG G gs os) b o) : pvOf C G b o := by
  rcases h with h | ⟨g, h⟩ | ⟨g, len, cap, sz, pub, h, hle⟩
  · exact h.1
  · obtain ⟨g0, _, h0⟩ := Option.bind_eq_some_iff.1 h
    exact Or.inr (Or.inl ⟨g0, h0⟩)
  · simp only [lendG] at h
    split at h
    · cases h
    · obtain ⟨g0, _, h0⟩ := Option.bind_eq_some_iff.1 h
      exact Or.inr (Or.inr ⟨g0, len, cap, sz, pub, h0, hle⟩)
theorem pv_lend {C : Ctx} {G : Gh} {w : World} {gs os : List Nat} {b o : Nat} (h : pvOf C G b o) (hn : ¬ (lentBox G gs b ∨ ∃ lim, lentRow G os b lim)) {G1 : Gh} : pvOf (lendC C G w gs os) G1 b o := Or.inl ⟨h, hn⟩
theorem Rep.lend {G : Gh} {tmps : Array Value} {w : World} (h : SimG C n st G tmps w) (gs os : List Nat) {gen' : Nat} (hgen : gs.length + os.length ≤ gen') :
    ∀ (k : Nat) (v : Value) (a : A), Rep (enOf C G st.gen w) v a → Rep (enOf (lendC C G w gs os) (lendG G gs os) gen' w) v (lendA st.bx gs os k a) := by
  have hc : ∀ b o u, cellAt w b o = some u → ¬ pvOf C G b o → cellAt w b o = some u ∧ ¬ pvOf (lendC C G w gs os) (lendG G gs os) b o := fun b o u h1 h2 => ⟨h1, fun hp => h2 (lend_pv hp)⟩
  have hold : ∀ b, (∃ g ∈ gs, G.box g = some b) ∨ (∃ lim, lentRow G os b lim) → C.w0.heap.size ≤ b ∨ C.fp b := by
    rintro b (⟨g, _, hg⟩ | ⟨lim, g, _, r, hg, hr⟩)
    · exact (h.gbox g b hg).2.2.1
    · exact (h.rowAt hg hr).1.1
  intro k
  induction k with
  | zero => intro v a _; exact .any v
  | succ k ih =>
    intro v a hr
    have lst : ∀ (l : List A) (vs : Array Value), (∀ (i : Nat) (u : Value) (x : A), vs[i]? = some u → l[i]? = some x → Rep (enOf C G st.gen w) u x) →
        ∀ (i : Nat) (u : Value) (x : A), vs[i]? = some u → (l.map (lendA st.bx gs os k))[i]? = some x → Rep (enOf (lendC C G w gs os) (lendG G gs os) gen' w) u x := by
      intro l vs hl i u x hu hx
      simp only [List.getElem?_map, Option.map_eq_some_iff] at hx
      obtain ⟨y, hy, rfl⟩ := hx
      exact ih u y (hl i u y hu hy)
    cases hr with
    | any => exact .any _
    | d hd => exact .d (hd.mono hc)
    | ag vs l hs hd => exact .ag vs l hs (fun i u x h1 h2 => (hd i u x h1 h2).mono hc)
    | own _ g es hd _ hx =>
      simp only [lendA]
      split
      · rename_i i hp
        have hi := pos_some hp
        have hil := (List.getElem?_eq_some_iff.1 hi).1
        refine .own _ _ es (hd.mono hc) (by simp only [enOf]; omega) (fun r hr' => hx r ?_)
        have hr2 : (if gs.length + i < gs.length then none else (os[gs.length + i - gs.length]?).bind G.own) = some r := hr'
        rw [if_neg (by omega), Nat.add_sub_cancel_left, hi] at hr2
        exact hr2
      · exact .d (hd.mono hc)
    | agg vs l hs hone hd => exact mkAgg_rep (by simp [hs]) hone (lst l vs hd)
    | tup vs l hs hd => exact .any _
    | rowd b off l u hcc hd => exact .rowd b off l u (fun j hj => hc _ _ _ (hcc j hj).1 (hcc j hj).2) (fun j x hx => (hd j x hx).mono hc)
    | row b off l u hcc hd =>
      refine .row b off _ u (fun j hj => ?_) (fun j x hx => ?_)
      · have := hcc j (by simpa using hj)
        refine ⟨this.1, ⟨cellAt_lt this.1, fun hl => ?_⟩, this.2.2⟩
        have h1 := hold b hl
        have h2 := this.2.1
        simp only [enOf] at h2
        rcases h1 with h1 | h1
        · omega
        · exact h2.2 h1
      · simp only [List.getElem?_map, Option.map_eq_some_iff] at hx
        obtain ⟨y, hy, rfl⟩ := hx
        exact ih _ y (hd j y hy)
    | xs _ g es hgg h1 hx =>
      simp only [lendA]
      split
      · rename_i i hp
        have hi := pos_some hp
        have hil := (List.getElem?_eq_some_iff.1 hi).1
        refine .xs _ _ es (by simp only [enOf]; omega) h1 (fun r hr' => ?_)
        have hr2 : (if gs.length + i < gs.length then none else (os[gs.length + i - gs.length]?).bind G.own) = some r := hr'
        rw [if_neg (by omega), Nat.add_sub_cancel_left, hi] at hr2
        exact (hx r hr2).weak hc
      · exact .any _
    | xp => exact .any _
    | ni t x => exact .ni t x
    | fl _ es hd hfl => exact .fl _ es (hd.mono hc) hfl
    | bf _ g T s hgg h1 hx =>
      simp only [lendA]
      split
      · rename_i i hp
        have hi := pos_some hp
        have hil := (List.getElem?_eq_some_iff.1 hi).1
        refine .bf _ _ T s (by simp only [enOf]; omega) h1 (fun r hr' => ?_)
        have hr2 : (if gs.length + i < gs.length then none else (os[gs.length + i - gs.length]?).bind G.own) = some r := hr'
        rw [if_neg (by omega), Nat.add_sub_cancel_left, hi] at hr2
        exact hx r hr2
      · exact .any _
    | mp _ g es hgg h1 hx =>
      simp only [lendA]
      split
      · rename_i i hp
        have hi := pos_some hp
        have hil := (List.getElem?_eq_some_iff.1 hi).1
        refine .mp _ _ es (by simp only [enOf]; omega) h1 (fun r hr' => ?_)
        have hr2 : (if gs.length + i < gs.length then none else (os[gs.length + i - gs.length]?).bind G.own) = some r := hr'
        rw [if_neg (by omega), Nat.add_sub_cancel_left, hi] at hr2
        exact (hx r hr2).weak hc
      · exact .any _
    | np _ g T b0 hg hb0 hT u hx0 =>
      simp only [lendA]
      split
      · rename_i i hpp
        have hi := pos_some hpp
        have hil := (List.getElem?_eq_some_iff.1 hi).1
        refine .np _ i T b0 (by simp only [enOf]; omega) ?_ (by exact hT) u hx0
        show (gs[i]?).bind G.box = some b0
        rw [hi]
        exact hb0
      · exact .any _
    | sb _ g n c b0 hg hb0 hn hx0 =>
      simp only [lendA]
      split
      · rename_i i hpp
        have hi := pos_some hpp
        have hil := (List.getElem?_eq_some_iff.1 hi).1
        refine .sb _ i n c b0 (by simp only [enOf]; omega) ?_ hn hx0
        show (gs[i]?).bind G.box = some b0
        rw [hi]
        exact hb0
      · exact .any _
    | ptr _ g off b0 hg hb0 hx0 =>
      have hp := ptr_at hb0 hx0
      simp only [lendA]
      split
      · rename_i i hpp
        have hi := pos_some hpp
        have hil := (List.getElem?_eq_some_iff.1 hi).1
        refine .ptr _ i off b0 (by simp only [enOf]; omega) ?_ hx0
        show (gs[i]?).bind G.box = some b0
        rw [hi]
        exact hb0
      · rename_i hpn
        split
        · rename_i cells hb
          obtain ⟨b, cs, T', h1, h2, h3, h4, h5⟩ := h.box g cells hb
          rw [hp b h1]
          refine .row b off _ (fun j => cs[off + j]?.getD default) (fun j hj => ?_) (fun j x hx => ?_)
          · have hj' : off + j < cs.size := by simp at hj; omega
            have e : cs[off + j]? = some cs[off + j] := by simp [hj']
            refine ⟨by show cellAt w b (off + j) = _; rw [cellAt_row h2, e]; rfl, ⟨(Array.getElem?_eq_some_iff.1 h2).1, ?_⟩, by rw [e]; exact h4 _ _ e⟩
            rintro (⟨g', hg', hb'⟩ | ⟨lim, g', hg', r, hr', hra⟩)
            · have e := h.inj g g' b h1 hb'
              subst e
              have : ∀ {l : List Nat}, pos l g = none → g ∉ l := by
                intro l
                induction l with
                | nil => intro _ hm; cases hm
                | cons y l ihl =>
                  intro hpos hm
                  simp only [pos] at hpos
                  cases e : Nat.beq y g with
                  | true => rw [e] at hpos; simp at hpos
                  | false =>
                    rw [e] at hpos
                    simp only [cond_false] at hpos
                    split at hpos
                    · cases hpos
                    · rename_i hno
                      rcases List.mem_cons.1 hm with rfl | hm
                      · simp at e
                      · exact ihl hno hm
              exact this hpn hg'
            · exact (h.rowAt hr' hra).2.1 g h1
          · simp only [List.getElem?_map, Option.map_eq_some_iff] at hx
            obtain ⟨y, hy, rfl⟩ := hx
            have hy' : cells[off + j]? = some y := by simpa using hy
            have hj' : off + j < cs.size := by rw [h3]; exact (List.getElem?_eq_some_iff.1 hy').1
            have e : cs[off + j]? = some cs[off + j] := by simp [hj']
            rw [e]
            exact ih _ y (h5 _ _ _ e hy')
        · exact .any _
    | clo f vs l hs hd => exact .clo f vs _ (by simp [hs]) (lst l vs hd)
    | bnd f vs l hs hd => exact .bnd f vs _ (by simp [hs]) (lst l vs hd)
theorem lendBx_get {bx : List (Nat × List A)} {gs os : List Nat} : ∀ {r : List Nat} {l : List (List A)}, lendBx bx gs os r = some l → l.length = r.length ∧ ∀ (i g : Nat), r[i]? = some g → ∃ c, look' bx g = some c ∧ l[i]? = some (c.map (lendA bx gs os 5))
  | [], l, h => by simp only [lendBx, Option.some.injEq] at h; subst h; simp
  | g0 :: r, l, h => by
    simp only [lendBx] at h
    split at h
    · rename_i c l' hc hl
      simp only [Option.some.injEq] at h
      subst h
      obtain ⟨h1, h2⟩ := lendBx_get hl
      refine ⟨by simp [h1], fun i g hi => ?_⟩
      cases i with
      | zero => simp at hi; subst hi; exact ⟨c, hc, rfl⟩
      | succ i => simpa using h2 i g (by simpa using hi)
    · cases h
theorem nodup_inj {l : List Nat} (hnd : l.Nodup) {i j g : Nat} (h1 : l[i]? = some g) (h2 : l[j]? = some g) : i = j := by
  obtain ⟨i1, e1⟩ := List.getElem?_eq_some_iff.1 h1
  obtain ⟨i2, e2⟩ := List.getElem?_eq_some_iff.1 h2
  have hpw := List.pairwise_iff_getElem.1 hnd
  rcases Nat.lt_trichotomy i j with hlt | heq | hgt
  · exact absurd (e1.trans e2.symm) (hpw i j i1 i2 hlt)
  · exact heq
  · exact absurd (e2.trans e1.symm) (hpw j i i2 i1 hgt)
theorem SimG.lend {G : Gh} {tmps : Array Value} {w : World} (h : SimG C n st G tmps w) {gs os : List Nat} {b0 : List (List A)} (hgs : gs.Nodup) (hos : os.Nodup) (hov : ∀ g ∈ os, g ∈ st.lv) (hb : lendBx st.bx gs os gs = some b0) :
    (lendC C G w gs os).bx.length = b0.length ∧ SimG (lendC C G w gs os) 0 ⟨[], bxs 0 b0, (List.range os.length).map (b0.length + ·), b0.length + os.length⟩ (lendG G gs os) #[] w := by
  obtain ⟨hl, hget⟩ := lendBx_get hb
  refine ⟨by simp [lendC, hl], ?_⟩
  have hown : ∀ {g r}, (lendG G gs os).own g = some r → gs.length ≤ g ∧ ∃ g0, os[g - gs.length]? = some g0 ∧ G.own g0 = some r := by
    intro g r hr
    simp only [lendG] at hr
    split at hr
    · cases hr
    · exact ⟨by omega, Option.bind_eq_some_iff.1 hr⟩
  refine { size := rfl, frame := fun t a ha => by simp [look] at ha, box := fun i l' hc => ?_, gbox := fun i b hb' => ?_, inj := fun i j b h1 h2 => ?_, live := fun i hi => ?_, gown := fun i r hr => ?_,
           row := fun i b len cap sz pub hr => ?_, mrow := fun i b hr => ?_, xold := fun b o hx => ⟨pv_old h hx.1, hx.2⟩, kold := fun b o hk => ?_, lent := fun i b hi => ?_, fr := ⟨rfl, rfl, rfl, Nat.le_refl _, fun _ _ _ => rfl, fun _ _ _ _ h => h, .refl w⟩ }
  · obtain ⟨_, h1⟩ := bxs_look b0 0 i l' hc
    simp only [Nat.sub_zero] at h1
    have hlt : i < gs.length := by rw [← hl]; exact (List.getElem?_eq_some_iff.1 h1).1
    have hgi : gs[i]? = some gs[i] := by simp [hlt]
    obtain ⟨c, h2, h3⟩ := hget i _ hgi
    rw [h1] at h3
    simp only [Option.some.injEq] at h3
    subst h3
    obtain ⟨b, cs, T, h4, h5, h6, h7, h8⟩ := h.box _ c h2
    refine ⟨b, cs, T, by simp [lendG, hgi, h4], h5, by simpa using h6, h7, fun j u a hu ha => ?_⟩
    rw [List.getElem?_map, Option.map_eq_some_iff] at ha
    obtain ⟨y, hy, rfl⟩ := ha
    exact Rep.lend h gs os (gen' := b0.length + os.length) (by omega) 5 u y (h8 j u y hu hy)
  · obtain ⟨g, h1, h2⟩ := Option.bind_eq_some_iff.1 hb'
    have hlt : i < gs.length := (List.getElem?_eq_some_iff.1 h1).1
    refine ⟨by show i < b0.length + os.length; omega, (h.gbox g b h2).2.1, .inr (.inl ⟨g, List.mem_of_getElem? h1, h2⟩), ?_⟩
    rintro o ⟨lim, ⟨g', _, r, hr', hra⟩, _⟩
    exact absurd h2 ((h.rowAt hr' hra).2.1 g)
  · obtain ⟨g1, h3, h4⟩ := Option.bind_eq_some_iff.1 h1
    obtain ⟨g2, h5, h6⟩ := Option.bind_eq_some_iff.1 h2
    have e := h.inj g1 g2 b h4 h6
    subst e
    exact nodup_inj hgs h3 h5
  · obtain ⟨j, hj, rfl⟩ := List.mem_map.1 hi
    have hj : j < os.length := by simpa using hj
    obtain ⟨r, hr⟩ := h.live _ (hov _ (List.getElem_mem hj))
    refine ⟨r, ?_⟩
    simp only [lendG]
    rw [if_neg (by omega), hl, Nat.add_sub_cancel_left]
    simp [hj, hr]
  · obtain ⟨h1, g0, h2, h3⟩ := hown hr
    have := (List.getElem?_eq_some_iff.1 h2).1
    simp only
    omega
  · obtain ⟨h1, g0, h2, h3⟩ := hown hr
    obtain ⟨h4, h5, h6, h7⟩ := h.row g0 b len cap sz pub h3
    have hm := List.mem_of_getElem? h2
    refine ⟨⟨.inr (.inr ⟨_, g0, hm, _, h3, rfl, rfl⟩), ?_⟩, fun j hj => ?_, fun j len' cap' sz' pub' hj => ?_, h7⟩
    · rintro o ⟨lim, ⟨g', _, r', hr', hra⟩, hlt⟩
      have e := (h.rowAt h3 ⟨rfl, rfl⟩).2.2.2 g' r' lim hr' hra
      rw [e.2] at hlt
      exact hlt
    · obtain ⟨g2, _, h8⟩ := Option.bind_eq_some_iff.1 hj
      exact h5 g2 h8
    · obtain ⟨h9, g2, h10, h11⟩ := hown hj
      have e := h6 g2 len' cap' sz' pub' h11
      subst e
      have := nodup_inj hos h10 h2
      omega
  · obtain ⟨h1, g0, h2, h3⟩ := hown hr
    obtain ⟨h4, h5, h6, h7⟩ := h.mrow g0 b h3
    have hm := List.mem_of_getElem? h2
    refine ⟨⟨.inr (.inr ⟨_, g0, hm, _, h3, rfl, rfl⟩), ?_⟩, fun j hj => ?_, fun j hj => ?_, h7⟩
    · rintro o ⟨lim, ⟨g', _, r', hr', hra⟩, hlt⟩
      have e := (h.rowAt h3 ⟨rfl, rfl⟩).2.2.2 g' r' lim hr' hra
      rw [e.2] at hlt
      exact hlt
    · obtain ⟨g2, _, h8⟩ := Option.bind_eq_some_iff.1 hj
      exact h5 g2 h8
    · obtain ⟨h9, g2, h10, h11⟩ := hown hj
      have e := h6 g2 h11
      subst e
      have := nodup_inj hos h10 h2
      omega
  · obtain ⟨lim, ⟨g', _, r', hr', hra⟩, _⟩ := hk
    exact (h.rowAt hr' hra).2.2.1
  · simp only [lendC, List.getElem?_map, Option.map_eq_some_iff] at hi
    obtain ⟨g, hg, rfl⟩ := hi
    obtain ⟨c, h2, _⟩ := hget i g hg
    obtain ⟨b, _, _, h4, _⟩ := h.box _ c h2
    simp [lendG, hg, h4]
theorem Rep.back {E E2 : En} {gs : List Nat} {m : Nat} (hc : ∀ b o u, cellAt E.w b o = some u → ¬ E.pv b o → cellAt E2.w b o = some u ∧ ¬ E2.pv b o) (ho : ∀ g r, g < E.gen → E2.own (g + m) = some r → E.own g = some r)
    (hg : E.gen + m ≤ E2.gen) (hb : ∀ (i g b : Nat), gs[i]? = some g → E.box i = some b → g < E2.gen ∧ E2.box g = some b) (hw : E2.w = E.w) {v : Value} {a : A} (h : Rep E v a) : Rep E2 v (back gs m a) := by
  have hc' : ∀ b o u, cellAt E.w b o = some u → ¬ E.pv b o → cellAt E.w b o = some u ∧ ¬ E2.pv b o := fun b o u h1 h2 => ⟨h1, (hc b o u h1 h2).2⟩
  induction h with
  | any x => exact .any x
  | d hd => exact .d (hd.mono hc)
  | ag vs l hs hd => exact .ag vs l hs (fun i u x h1 h2 => (hd i u x h1 h2).mono hc)
  | own x g es hd hgg hr => exact .own x _ es (hd.mono hc) (by omega) (fun r hr' => hr r (ho g r hgg hr'))
  | agg vs l hs hone _ ih =>
    simp only [Ab.back, backL_map]
    refine .agg vs _ (by simp [hs]) hone (fun i u x hu hx => ?_)
    simp only [List.getElem?_map, Option.map_eq_some_iff] at hx
    obtain ⟨y, hy, rfl⟩ := hx
    exact ih i u y hu hy
  | tup vs l hs _ ih =>
    simp only [Ab.back, backL_map]
    refine .tup vs _ (by simp [hs]) (fun i u x hu hx => ?_)
    simp only [List.getElem?_map, Option.map_eq_some_iff] at hx
    obtain ⟨y, hy, rfl⟩ := hx
    exact ih i u y hu hy
  | rowd b off l u hcc hd => exact .rowd b off l u (fun j hj => hc _ _ _ (hcc j hj).1 (hcc j hj).2) (fun j x hx => (hd j x hx).mono hc)
  | row b off l u hcc _ _ => exact .any _
  | np x i T b0 hgg hb0 hT u hp =>
    simp only [Ab.back]
    split
    · rename_i g hgi
      exact .np x g T b0 (hb i g b0 hgi hb0).1 (hb i g b0 hgi hb0).2 (hw ▸ hT) u hp
    · exact .any _
  | sb x i n c b0 hgg hb0 hn hp =>
    simp only [Ab.back]
    split
    · rename_i g hgi
      exact .sb x g n c b0 (hb i g b0 hgi hb0).1 (hb i g b0 hgi hb0).2 hn hp
    · exact .any _
  | ptr x i off b0 hgg hb0 hp =>
    simp only [Ab.back]
    split
    · rename_i g hgi
      exact .ptr x g off b0 (hb i g b0 hgi hb0).1 (hb i g b0 hgi hb0).2 hp
    · exact .any _
  | xs x g es hgg h1 hx => exact .xs x _ es (by omega) h1 (fun r hr' => hw ▸ (hx r (ho g r hgg hr')).weak hc')
  | xp x g i off l hgg h1 hx => exact .xp x _ i off l (by omega) h1 (fun r hr' => hw ▸ (hx r (ho g r hgg hr')).weak hc')
  | ni t x => exact .ni t x
  | fl x es hd hfl => exact .fl x es (hd.mono hc) hfl
  | bf x g T s hgg h1 hx => exact .bf x _ T s (by omega) h1 (fun r hr' => hw ▸ hx r (ho g r hgg hr'))
  | mp x g es hgg h1 hx => exact .mp x _ es (by omega) h1 (fun r hr' => hw ▸ (hx r (ho g r hgg hr')).weak hc')
  | clo f vs l hs _ ih =>
    simp only [Ab.back, backL_map]
    refine .clo f vs _ (by simp [hs]) (fun i u x hu hx => ?_)
    simp only [List.getElem?_map, Option.map_eq_some_iff] at hx
    obtain ⟨y, hy, rfl⟩ := hx
    exact ih i u y hu hy
  | bnd f vs l hs _ ih =>
    simp only [Ab.back, backL_map]
    refine .bnd f vs _ (by simp [hs]) (fun i u x hu hx => ?_)
    simp only [List.getElem?_map, Option.map_eq_some_iff] at hx
    obtain ⟨y, hy, rfl⟩ := hx
    exact ih i u y hu hy
theorem SimG.unlend {G : Gh} {tmps : Array Value} {w w' : World} (h : SimG C n st G tmps w) {gs os : List Nat} {b0 b1 : List (List A)} (hb : lendBx st.bx gs os gs = some b0) (hl1 : b1.length = b0.length) {k : Nat} {G1 : Gh}
    (h1 : SimG (lendC C G w gs os) 0 ⟨[], bxs 0 b1, (List.range k).map (b0.length + ·), b0.length + k⟩ G1 #[] w') :
    ∃ G2, (∀ v a, Rep (enOf (lendC C G w gs os) G1 (b0.length + k) w') v a → Rep (enOf C G2 (b0.length + k + st.gen) w') v (back gs st.gen a)) ∧
      SimG C n ⟨st.f, zipB gs st.gen gs b1 ++ st.bx, (List.range k).map (b0.length + · + st.gen) ++ st.lv.filter (fun g => !os.any (Nat.beq g)), b0.length + k + st.gen⟩ G2 tmps w' := by
  obtain ⟨hl, hget⟩ := lendBx_get hb
  have memos : ∀ g, os.any (Nat.beq g) = true ↔ g ∈ os := by
    intro g
    rw [List.any_eq_true]
    exact ⟨fun ⟨x, hx, he⟩ => Nat.eq_of_beq_eq_true he ▸ hx, fun hg => ⟨g, hg, Nat.beq_refl g⟩⟩
  let own2 : Nat → Option Row := fun g => if g < st.gen then (if os.any (Nat.beq g) then none else G.own g) else G1.own (g - st.gen)
  let G2 : Gh := ⟨G.box, own2⟩
  have hLb : ∀ {b}, lentBox G gs b → C.mine b 0 ∧ b < w.heap.size := by
    rintro b ⟨g, _, hg⟩
    exact ⟨(h.gbox g b hg).2.2, (h.gbox g b hg).2.1⟩
  have hLr : ∀ {b lim}, lentRow G os b lim → C.mine b lim ∧ b < w.heap.size ∧ (∀ g', G.box g' ≠ some b) := by
    rintro b lim ⟨g, _, r, hg, hra⟩
    obtain ⟨h1, h2, h3, _⟩ := h.rowAt hg hra
    exact ⟨h1, h3, h2⟩
  have hLm : ∀ {b}, (lentBox G gs b ∨ ∃ lim, lentRow G os b lim) → C.w0.heap.size ≤ b ∨ C.fp b := by
    rintro b (hl | ⟨lim, hl⟩)
    · exact (hLb hl).1.1
    · exact (hLr hl).1.1
  have hG1 : ∀ {i g : Nat} {b : Nat}, gs[i]? = some g → G.box g = some b → G1.box i = some b := by
    intro i g b hi hg
    refine h1.lent i b ?_
    simp [lendC, hi, hg]
  have old2 : ∀ {g r}, own2 g = some r → (g < st.gen ∧ g ∉ os ∧ G.own g = some r) ∨ (st.gen ≤ g ∧ G1.own (g - st.gen) = some r) := by
    intro g r hr
    simp only [own2] at hr
    split at hr
    · rename_i hlt
      split at hr
      · cases hr
      · rename_i hno
        exact .inl ⟨hlt, fun hm => hno ((memos g).2 hm), hr⟩
    · exact .inr ⟨by omega, hr⟩
  have hstay : ∀ {b}, b < w.heap.size → ¬ (lentBox G gs b ∨ ∃ lim, lentRow G os b lim) → w'.heap[b]? = w.heap[b]? := fun hlt hn => h1.fr.block _ hlt hn
  have hnotrow : ∀ {g b lim r}, G.own g = some r → r.isAt b lim → g ∉ os → ¬ (lentBox G gs b ∨ ∃ lim, lentRow G os b lim) := by
    rintro g b lim r hg hra hno (⟨g', _, hb'⟩ | ⟨lim', g', hg', r', hr', hra'⟩)
    · exact (h.rowAt hg hra).2.1 g' hb'
    · have e := (h.rowAt hg hra).2.2.2 g' r' lim' hr' hra'
      exact hno (e.1 ▸ hg')
  have hnotbox : ∀ {g b}, G.box g = some b → g ∉ gs → ¬ (lentBox G gs b ∨ ∃ lim, lentRow G os b lim) := by
    rintro g b hg hno (⟨g', hg', hb'⟩ | ⟨lim, hl⟩)
    · have e := h.inj g g' b hg hb'
      subst e
      exact hno hg'
    · exact (hLr hl).2.2 g hg
  have hnew : ∀ {g b lim r}, G1.own g = some r → r.isAt b lim → C.mine b lim ∧ (∀ g', G.box g' ≠ some b) ∧ (w.heap.size ≤ b ∨ ∃ lim', lentRow G os b lim' ∧ lim' ≤ lim) := by
    intro g b lim r hg hra
    obtain ⟨⟨hm, hk⟩, hnb, _⟩ := h1.rowAt hg hra
    have hm' : w.heap.size ≤ b ∨ (lentBox G gs b ∨ ∃ lim, lentRow G os b lim) := hm
    rcases hm' with hm | hm | ⟨lim', hm⟩
    · refine ⟨⟨.inl (Nat.le_trans h.fr.size hm), fun o ho => ?_⟩, fun g' hg' => ?_, .inl hm⟩
      · have := h.kold b o ho
        have := h.fr.size
        omega
      · have := (h.gbox g' b hg').2.1
        omega
    · obtain ⟨g0, hg0, hb0⟩ := hm
      obtain ⟨i, hi⟩ := List.mem_iff_getElem?.1 hg0
      exact absurd (hG1 hi hb0) (hnb i)
    · have hlim : lim' ≤ lim := by
        rcases Nat.lt_or_ge lim lim' with hlt | hge
        · exact absurd (hk lim ⟨lim', hm, hlt⟩) (Nat.lt_irrefl _)
        · exact hge
      obtain ⟨q1, q2, q3⟩ := hLr hm
      exact ⟨⟨q1.1, fun o ho => Nat.lt_of_lt_of_le (q1.2 o ho) hlim⟩, q3, .inr ⟨lim', hm, hlim⟩⟩
  have hfr : Fr C w' := by
    refine ⟨h1.fr.os.trans h.fr.os, h1.fr.tape.trans h.fr.tape, h1.fr.output.trans h.fr.output, Nat.le_trans h.fr.size h1.fr.size, fun b hlt hn => ?_, fun b o u hk hu => ?_, h.fr.ty.trans h1.fr.ty⟩
    · rw [hstay (Nat.lt_of_lt_of_le hlt h.fr.size) (fun hl => (hLm hl).elim (fun h => by omega) hn)]
      exact h.fr.block b hlt hn
    · have hu' := h.fr.cells b o u hk hu
      by_cases hl : lentBox G gs b ∨ ∃ lim, lentRow G os b lim
      · rcases hl with hl | ⟨lim, hl⟩
        · exact absurd ((hLb hl).1.2 o hk) (Nat.not_lt_zero _)
        · exact h1.fr.cells b o u ⟨lim, hl, (hLr hl).1.2 o hk⟩ hu'
      · rw [cellAt_same (hstay (cellAt_lt hu') hl)]
        exact hu'
  have hpv2 : ∀ {b o}, pvOf C G2 b o → pvOf (lendC C G w gs os) G1 b o := by
    rintro b o (hp | ⟨g, hp⟩ | ⟨g, len, cap, sz, pub, hp, hle⟩)
    · refine pv_lend (.inl hp) (fun hl => ?_)
      obtain ⟨h2, h3⟩ := h.xold b o hp
      exact (hLm hl).elim (fun h => by omega) h3
    · by_cases hg : g ∈ gs
      · obtain ⟨i, hi⟩ := List.mem_iff_getElem?.1 hg
        exact .inr (.inl ⟨i, hG1 hi hp⟩)
      · exact pv_lend (G := G) (.inr (.inl ⟨g, hp⟩)) (hnotbox hp hg)
    · rcases old2 hp with ⟨_, h3, h4⟩ | ⟨_, h3⟩
      · exact pv_lend (.inr (.inr ⟨g, len, cap, sz, pub, h4, hle⟩)) (hnotrow h4 ⟨rfl, rfl⟩ h3)
      · exact .inr (.inr ⟨_, len, cap, sz, pub, h3, hle⟩)
  have hback : ∀ v a, Rep (enOf (lendC C G w gs os) G1 (b0.length + k) w') v a → Rep (enOf C G2 (b0.length + k + st.gen) w') v (back gs st.gen a) := by
    intro v a hr
    refine Rep.back (E := enOf (lendC C G w gs os) G1 (b0.length + k) w') (E2 := enOf C G2 (b0.length + k + st.gen) w') (fun b o u hu hn => ⟨hu, fun hp => hn (hpv2 hp)⟩) (fun g r hg hr' => ?_) (by simp [enOf]) (fun i g b hi hb1 => ?_) rfl hr
    · have hr2 : own2 (g + st.gen) = some r := hr'
      rcases old2 hr2 with ⟨h3, _⟩ | ⟨_, h3⟩
      · omega
      · rw [Nat.add_sub_cancel] at h3
        exact h3
    · obtain ⟨c, h2, _⟩ := hget i g hi
      obtain ⟨b', _, _, h4, _⟩ := h.box _ c h2
      have h5 := hG1 hi h4
      have h6 : G1.box i = some b := hb1
      rw [h5] at h6
      simp only [Option.some.injEq] at h6
      subst h6
      have := (h.gbox g b' h4).1
      exact ⟨by simp only [enOf]; omega, h4⟩
  have hle : (enOf C G st.gen w).le (enOf C G2 (b0.length + k + st.gen) w') := by
    refine leOf h.fr hfr (fun b o u hu hn => ⟨?_, fun hp => ?_⟩) (fun _ _ h => h) (fun g r hg hr => ?_) (by omega) (fun g b len cap sz pub hg hr => ?_) (fun g b hg hr => ?_) h1.fr.ty
    · by_cases hl : lentBox G gs b ∨ ∃ lim, lentRow G os b lim
      · rcases hl with ⟨g, _, hg⟩ | ⟨lim, hl⟩
        · exact absurd (.inr (.inl ⟨g, hg⟩)) hn
        · refine h1.fr.cells b o u ⟨lim, hl, ?_⟩ hu
          obtain ⟨g, _, r, hg, hra⟩ := hl
          exact Nat.lt_of_not_le fun hle => hn (h.pvAt hg hra hu hle)
      · rw [cellAt_same (hstay (cellAt_lt hu) hl)]
        exact hu
    · rcases hp with hp | ⟨g, hp⟩ | ⟨g, len, cap, sz, pub, hp, hle⟩
      · exact hn (.inl hp)
      · exact hn (.inr (.inl ⟨g, hp⟩))
      · rcases old2 hp with ⟨_, _, h4⟩ | ⟨_, h3⟩
        · exact hn (.inr (.inr ⟨g, len, cap, sz, pub, h4, hle⟩))
        · have hlt := cellAt_lt hu
          rcases (hnew h3 ⟨rfl, rfl⟩).2.2 with h5 | ⟨lim, hl, hlim⟩
          · omega
          · obtain ⟨g0, _, r0, hg0, hra⟩ := hl
            exact hn (h.pvAt hg0 hra hu (by omega))
    · have hr2 : own2 g = some r := hr
      rcases old2 hr2 with ⟨_, _, h3⟩ | ⟨h3, _⟩
      · exact h3
      · omega
    · have hr2 : own2 g = some (.blk b len cap sz pub) := hr
      rcases old2 hr2 with ⟨_, h3, h4⟩ | ⟨h3, _⟩
      · exact hstay (h.rowAt h4 ⟨rfl, rfl⟩).2.2.1 (hnotrow h4 ⟨rfl, rfl⟩ h3)
      · omega
    · have hr2 : own2 g = some (.mp b) := hr
      rcases old2 hr2 with ⟨_, h3, h4⟩ | ⟨h3, _⟩
      · exact hstay (h.rowAt h4 ⟨rfl, rfl⟩).2.2.1 (hnotrow h4 ⟨rfl, rfl⟩ h3)
      · omega
  refine ⟨G2, hback, { size := h.size, frame := h.frame_mono hle, inj := h.inj, xold := h.xold, kold := h.kold, lent := h.lent, fr := hfr, box := ?_, gbox := ?_, live := ?_, gown := ?_, row := ?_, mrow := ?_ }⟩
  · intro g cells hc
    by_cases hg : g ∈ gs
    · have hz : ∃ c, look' (zipB gs st.gen gs b1) g = some c := by
        clear hback hle hpv2
        have : ∀ (r : List Nat) (l : List (List A)), l.length = r.length → g ∈ r → ∃ c, look' (zipB gs st.gen r l) g = some c := by
          intro r
          induction r with
          | nil => intro l _ hm; cases hm
          | cons x r ih =>
            intro l hl hm
            cases l with
            | nil => simp at hl
            | cons c l =>
              simp only [zipB, look'_cons]
              by_cases e : x = g
              · rw [if_pos e]; exact ⟨_, rfl⟩
              · rw [if_neg e]
                exact ih l (by simpa using hl) ((List.mem_cons.1 hm).resolve_left (fun h => e h.symm))
        exact this gs b1 (by omega) hg
      obtain ⟨c, hz⟩ := hz
      have hcc : c = cells := by
        rcases look'_append hc with h2 | h2
        · rw [h2] at hz; exact (Option.some.inj hz).symm
        · have : look' (zipB gs st.gen gs b1 ++ st.bx) g = some c := by
            clear hc hback hle
            revert hz
            generalize zipB gs st.gen gs b1 = z
            intro hz
            induction z with
            | nil => simp [look'] at hz
            | cons x z ih =>
              obtain ⟨s, y⟩ := x
              rw [look'_cons] at hz
              rw [List.cons_append, look'_cons]
              split
              · rename_i e; rw [if_pos e] at hz; exact hz
              · rename_i e; rw [if_neg e] at hz; exact ih hz
          rw [this] at hc
          exact Option.some.inj hc
      subst hcc
      obtain ⟨i, c0, h2, h3, rfl⟩ := zipB_look hz
      obtain ⟨b, cs, T, h4, h5, h6, h7, h8⟩ := h1.box i c0 (by have := look_bxs b1 0 i c0 h3; simpa using this)
      obtain ⟨c2, h9, _⟩ := hget i g h2
      obtain ⟨b', _, _, h10, _⟩ := h.box g c2 h9
      have e : b' = b := by
        have := hG1 h2 h10
        rw [h4] at this
        exact (Option.some.inj this).symm
      subst e
      refine ⟨b', cs, T, h10, h5, by rw [backL_map, List.length_map]; exact h6, h7, fun j u a hu ha => ?_⟩
      rw [backL_map, List.getElem?_map, Option.map_eq_some_iff] at ha
      obtain ⟨y, hy, rfl⟩ := ha
      exact hback u y (h8 j u y hu hy)
    · have hc2 : look' st.bx g = some cells := by
        rcases look'_append hc with h2 | h2
        · obtain ⟨i, c0, h3, _⟩ := zipB_look h2
          exact absurd (List.mem_of_getElem? h3) hg
        · exact h2
      obtain ⟨b, cs, T, h4, h5, h6, h7, h8⟩ := h.box g cells hc2
      refine ⟨b, cs, T, h4, by rw [hstay (Array.getElem?_eq_some_iff.1 h5).1 (hnotbox h4 hg)]; exact h5, h6, h7, fun j u a hu ha => (h8 j u a hu ha).mono hle⟩
  · intro g b hgb
    obtain ⟨h2, h3, h4⟩ := h.gbox g b hgb
    exact ⟨by simp only; omega, Nat.lt_of_lt_of_le h3 h1.fr.size, h4⟩
  · intro g hg
    rcases List.mem_append.1 hg with hg | hg
    · obtain ⟨j, hj, rfl⟩ := List.mem_map.1 hg
      obtain ⟨r, hr⟩ := h1.live (b0.length + j) (List.mem_map.2 ⟨j, hj, rfl⟩)
      refine ⟨r, ?_⟩
      simp only [G2, own2]
      rw [if_neg (by omega), Nat.add_sub_cancel]
      exact hr
    · obtain ⟨h2, h3⟩ := List.mem_filter.1 hg
      obtain ⟨r, hr⟩ := h.live g h2
      refine ⟨r, ?_⟩
      simp only [G2, own2]
      rw [if_pos (h.gown g r hr), if_neg (by cases e : os.any (Nat.beq g) with | true => rw [e] at h3; cases h3 | false => simp)]
      exact hr
  · intro g r hr
    rcases old2 hr with ⟨h2, _⟩ | ⟨h2, h3⟩
    · simp only; omega
    · have := h1.gown _ r h3
      simp only at this ⊢
      omega
  · intro g b len cap sz pub hr
    rcases old2 hr with ⟨h2, h3, h4⟩ | ⟨h2, h3⟩
    · obtain ⟨h5, h6, h7, cur, T, h8, h9⟩ := h.row g b len cap sz pub h4
      refine ⟨h5, h6, fun g' len' cap' sz' pub' hr' => ?_, cur, T, by rw [hstay (Array.getElem?_eq_some_iff.1 h8).1 (hnotrow h4 ⟨rfl, rfl⟩ h3)]; exact h8, h9⟩
      rcases old2 hr' with ⟨_, _, h10⟩ | ⟨_, h10⟩
      · exact h7 g' len' cap' sz' pub' h10
      · rcases (hnew h10 ⟨rfl, rfl⟩).2.2 with h11 | ⟨lim, h11, _⟩
        · have := (Array.getElem?_eq_some_iff.1 h8).1
          omega
        · exact absurd (.inr ⟨lim, h11⟩) (hnotrow h4 ⟨rfl, rfl⟩ h3)
    · obtain ⟨h5, h6, h7, h8⟩ := h1.row _ b len cap sz pub h3
      refine ⟨(hnew h3 ⟨rfl, rfl⟩).1, (hnew h3 ⟨rfl, rfl⟩).2.1, fun g' len' cap' sz' pub' hr' => ?_, h8⟩
      rcases old2 hr' with ⟨_, h10, h12⟩ | ⟨_, h10⟩
      · rcases (hnew h3 ⟨rfl, rfl⟩).2.2 with h11 | ⟨lim, h11, _⟩
        · have := (h.rowAt h12 ⟨rfl, rfl⟩).2.2.1
          omega
        · exact absurd (.inr ⟨lim, h11⟩) (hnotrow h12 ⟨rfl, rfl⟩ h10)
      · have := h7 _ len' cap' sz' pub' h10
        omega
  · intro g b hr
    rcases old2 hr with ⟨h2, h3, h4⟩ | ⟨h2, h3⟩
    · obtain ⟨h5, h6, h7, me, clock, h8⟩ := h.mrow g b h4
      refine ⟨h5, h6, fun g' hr' => ?_, me, clock, by rw [hstay (Array.getElem?_eq_some_iff.1 h8).1 (hnotrow h4 ⟨rfl, rfl⟩ h3)]; exact h8⟩
      rcases old2 hr' with ⟨_, _, h10⟩ | ⟨_, h10⟩
      · exact h7 g' h10
      · rcases (hnew h10 ⟨rfl, rfl⟩).2.2 with h11 | ⟨lim, h11, _⟩
        · have := (Array.getElem?_eq_some_iff.1 h8).1
          omega
        · exact absurd (.inr ⟨lim, h11⟩) (hnotrow h4 ⟨rfl, rfl⟩ h3)
    · obtain ⟨h5, h6, h7, h8⟩ := h1.mrow _ b h3
      refine ⟨(hnew h3 ⟨rfl, rfl⟩).1, (hnew h3 ⟨rfl, rfl⟩).2.1, fun g' hr' => ?_, h8⟩
      rcases old2 hr' with ⟨_, h10, h12⟩ | ⟨_, h10⟩
      · rcases (hnew h3 ⟨rfl, rfl⟩).2.2 with h11 | ⟨lim, h11, _⟩
        · have := (h.rowAt h12 ⟨rfl, rfl⟩).2.2.1
          omega
        · exact absurd (.inr ⟨lim, h11⟩) (hnotrow h12 ⟨rfl, rfl⟩ h10)
      · have := h7 _ h10
        omega
theorem WO.callB [Met P] [GC P C] (hg : o.guard = none) (hd : dstOK n o.dst = true) {x : Operand} {xs : Array Operand} {tys : Array TypeId} (ho : o.op = .call ⟨.value x, xs, tys⟩) {fid : FuncId} {caps as' : List A} (hx : av st.f x = some (.clo fid caps))
    (hxs : avs st.f xs.toList = some as') (gs os : List Nat) (hgs : nodupB gs = true) (hos : nodupB os = true) (hov : (os.all fun g => st.lv.any fun h => Nat.beq h g) = true) {args : List A} {b0 b1 : List (List A)} {r : A} {m k : Nat}
    (hf : DoesB P fid args b0 m r b1 k) (harg : (as' ++ caps).map (lendA st.bx gs os 5) = args) (hb : lendBx st.bx gs os gs = some b0) (hm : os.length = m)
    (h : WO P C n ops Q rest (St.put ⟨st.f, zipB gs st.gen gs b1 ++ st.bx, (List.range k).map (b0.length + · + st.gen) ++ st.lv.filter (fun g => !os.any (Nat.beq g)), b0.length + k + st.gen⟩ o.dst (back gs st.gen r))) : WO P C n ops Q (o :: rest) st := by
  subst hm
  subst harg
  refine WO.step hg fun tmps w ⟨G, hs⟩ => ?_
  obtain ⟨fn, hfn, hname, hbody⟩ := hf.ok
  have hr := hs.av hx
  generalize hv : Act.eval ⟨tmps, []⟩ x = v at hr
  cases hr with
  | clo _ vs _ hsz hcd =>
  obtain ⟨h1, h2⟩ := avs_rep hs xs.toList as' hxs
  have hrun : (execOp (Act.eval ⟨tmps, []⟩) o).run P w = .ok (.enter fid (xs.map (Act.eval ⟨tmps, []⟩) ++ vs)) w := by
    unfold execOp
    rw [ho]
    show Sem.run P (do let d ← resolve (Act.eval ⟨tmps, []⟩) ⟨.value x, xs, tys⟩ o.type; invoke d.target d.args) w = _
    simp only [resolve, hv, Deferred.ofValue, Sem.run_bind, Sem.run_pure, Result.andThen_ok, invoke, callFunc, run_program, hfn, hname, hbody, Bool.false_eq_true, if_false, Array.empty_append]
  obtain ⟨hlen, hent⟩ := hs.lend (gs := gs) (os := os) (nodup_of hgs) (nodup_of hos) (fun g hg => by
    obtain ⟨y, hy, he⟩ := List.any_eq_true.1 (List.all_eq_true.1 hov g hg)
    exact Nat.eq_of_beq_eq_true he ▸ hy) hb
  have hbl := (lendBx_get hb).1
  unfold Gives
  have hrun' : (execOp (Act.eval { tmps := tmps, defers := [] }) o).run P w = .ok (.enter fid (xs.map (Act.eval ⟨tmps, []⟩) ++ vs)) w := hrun
  rw [hrun']
  refine (hf.calls (lendC C G w gs os) (lendG G gs os) _ w (GC.inLend hs) rfl hlen rfl (lendC_fp rfl) hent (by simp at h1; simp [hsz, h1]) (fun i u a hu ha => ?_)).mono fun e w' ⟨v, G', he, h3, h4⟩ => ?_
  · simp only [List.getElem?_map, Option.map_eq_some_iff] at ha
    obtain ⟨y, hy, rfl⟩ := ha
    refine Rep.lend hs gs os (by omega) 5 u y ?_
    simp only [Array.getElem?_append] at hu
    split at hu
    · rename_i hlt
      simp only [Array.size_map] at hlt
      have hlt' : i < as'.length := by simp at h1; omega
      rw [List.getElem?_append_left hlt'] at hy
      obtain ⟨z, hz, hzr⟩ := h2 i y hy
      simp only [Array.getElem?_map, Option.map_eq_some_iff] at hu
      obtain ⟨z', hz', rfl⟩ := hu
      have : z = z' := by simp at hz; rw [hz'] at hz; exact (Option.some.inj hz).symm
      subst this
      exact hzr
    · rename_i hge
      simp only [Array.size_map] at hge hu
      have hge' : as'.length ≤ i := by simp at h1; omega
      rw [List.getElem?_append_right hge'] at hy
      refine hcd (i - xs.size) u y hu ?_
      have : xs.size = as'.length := by simpa using h1
      rw [this]
      exact hy
  · obtain ⟨G2, hbk, hs2⟩ := hs.unlend hb hf.len h3
    exact ⟨v, he, _, ⟨G2, hs2.put (dstOK_lt hd) (hbk v r h4)⟩, h⟩
end
end Go.Ab
namespace Go.Ab
open Go.RowKit
section
variable {P : Program} {C : Ctx} {n : Nat} {ops : Array Oper} {Q : Exit → St → Prop} {rest : List Oper} {c : Code}
variable {f : List (Nat × A)} {bx : List (Nat × List A)} {lv : List Nat} {gen : Nat} {d : Nat} {op : Op} {ty : TypeId} {pos : String} {af : Array Edge} {a : A} {dst : Option Nat}
theorem SimG.reBox {st : St} {G : Gh} {tmps : Array Value} {w : World} (h : SimG C n st G tmps w) {g : Nat} {cells cells' : List A} (hb : look' st.bx g = some cells) (hl : cells'.length = cells.length)
    (hr : ∀ (i : Nat) (u : Value) (a a' : A), cells[i]? = some a → cells'[i]? = some a' → Rep (enOf C G st.gen w) u a → Rep (enOf C G st.gen w) u a') : SimG C n { st with bx := (g, cells') :: st.bx } G tmps w := by
  refine { h with box := fun g' c hc => ?_ }
  simp only [look'_cons] at hc
  split at hc
  · rename_i e
    subst e
    simp only [Option.some.injEq] at hc
    subst hc
    obtain ⟨b, cs, T, h1, h2, h3, h4, h5⟩ := h.box g cells hb
    refine ⟨b, cs, T, h1, h2, by omega, h4, fun i u a hu ha => ?_⟩
    have hlt : i < cells.length := by rw [← hl]; exact (List.getElem?_eq_some_iff.1 ha).1
    exact hr i u cells[i] a (by simp [hlt]) ha (h5 i u cells[i] hu (by simp [hlt]))
  · exact h.box g' c hc
def isNil : A → Bool
  | .d (.v (.slice none 0 0)) => true
  | _ => false
theorem isNil_eq {a : A} (h : isNil a = true) : a = .d (.v (.slice none 0 0)) := by
  unfold isNil at h
  split at h
  · rfl
  · cases h
theorem Sim.ownNilBox {st : St} {tmps : Array Value} {w : World} (h : Sim C n st tmps w) {g j : Nat} {cells : List A} (hb : look' st.bx g = some cells) (hj : cells[j]? = some (.d (.v (.slice none 0 0)))) :
    Sim C n ⟨st.f, (g, cells.set j (.own st.gen [])) :: st.bx, st.gen :: st.lv, st.gen + 1⟩ tmps w := by
  obtain ⟨G, h⟩ := h
  obtain ⟨⟨G', _, hs, hv⟩⟩ := h.nameNil false st.lv (fun _ h => h)
  refine ⟨G', SimG.reBox (st := { st with lv := st.gen :: st.lv, gen := st.gen + 1 }) hs hb (by simp) (fun i u a a' ha ha' hr => ?_)⟩
  rw [List.getElem?_set] at ha'
  split at ha'
  · rename_i e
    subst e
    rw [hj] at ha
    simp only [Option.some.injEq] at ha
    subst ha
    split at ha'
    · simp only [Option.some.injEq] at ha'
      subst ha'
      cases hr with | d hr => cases hr; exact hv
    · cases ha'
  · rw [ha] at ha'
    simp only [Option.some.injEq] at ha'
    subst ha'
    exact hr
theorem ownNilBox (g j : Nat) {cells cells' : List A} (hb : look' bx g = some cells) (hj : cells[j]? = some (.d (.v (.slice none 0 0)))) (hc : cells.set j (.own gen []) = cells') (h : W P C n c Q ⟨f, (g, cells') :: bx, gen :: lv, gen + 1⟩) : W P C n c Q ⟨f, bx, lv, gen⟩ := by
  subst hc
  exact fun tmps w hs => h tmps w (hs.ownNilBox hb hj)
theorem callB [Met P] [GC P C] {x : Operand} {xs : Array Operand} {tys : Array TypeId} {fid : FuncId} {caps as' args : List A} {b0 b1 : List (List A)} {r : A} {m k : Nat} {r' : A} {bx' : List (Nat × List A)} {lv' : List Nat} {gen' : Nat} (gs os : List Nat) (hx : av f x = some (.clo fid caps)) (hxs : avs f xs.toList = some as')
    (harg : (as' ++ caps).map (lendA bx gs os 5) = args) (hb : lendBx bx gs os gs = some b0) (hm : os.length = m) (hf : DoesB P fid args b0 m r b1 k)
    (hgs : nodupB gs = true) (hos : nodupB os = true) (hov : (os.all fun g => lv.any fun h => Nat.beq h g) = true) (hd : Nat.blt d n = true)
    (hr : back gs gen r = r') (hbx : zipB gs gen gs b1 ++ bx = bx') (hlv : (List.range k).map (b0.length + · + gen) ++ lv.filter (fun g => !os.any (Nat.beq g)) = lv') (hgen : b0.length + k + gen = gen')
    (h : WO P C n ops Q rest ⟨(d, r') :: f, bx', lv', gen'⟩) :
    WO P C n ops Q (⟨some d, .call ⟨.value x, xs, tys⟩, ty, pos, af, none⟩ :: rest) ⟨f, bx, lv, gen⟩ := by
  subst hr; subst hbx; subst hlv; subst hgen
  exact WO.callB (st := ⟨f, bx, lv, gen⟩) rfl hd rfl hx hxs gs os hgs hos hov hf harg hb hm h
def BoxR (order : List Nat) (bx : List (Nat × List A)) : Nat → List (List A) → Prop
  | _, [] => True
  | i, c :: r => (match look' bx i with | some c0 => some (renL order c0) | none => none) = some c ∧ BoxR order bx (i + 1) r
theorem BoxR.get {order : List Nat} {bx : List (Nat × List A)} : ∀ {l : List (List A)} {k : Nat}, BoxR order bx k l → ∀ (i : Nat) (c : List A), l[i]? = some c → ∃ c0, look' bx (k + i) = some c0 ∧ renL order c0 = c
  | [], _, _, i, c, h => by simp at h
  | b :: l, k, hh, i, c, h => by
    cases i with
    | zero =>
      simp at h
      subst h
      have := hh.1
      split at this
      · rename_i c0 hc0
        exact ⟨c0, hc0, Option.some.inj this⟩
      · cases this
    | succ i =>
      have := BoxR.get hh.2 i c (by simpa using h)
      rwa [Nat.add_assoc, Nat.add_comm 1 i] at this
theorem QB1.end (T : Tab P) {rs : List RV} {r : A} {b1 : List (List A)} {k : Nat} {e : Exit} {l : List A} (order : List Nat) (he : match e with | .normal => True | .ret => True | _ => False) (hl : resV T f bx rs = some l)
    (hk : order.length = k) (hnd : nodupB (ordB b1.length order) = true) (hov : (order.all fun g => lv.any fun h => Nat.beq h g) = true) (hb : BoxR (ordB b1.length order) bx 0 b1)
    (hr : ren (ordB b1.length order) (oneA l) = r) : QB1 T rs r b1 k e ⟨f, bx, lv, gen⟩ :=
  QB1.ret (st := ⟨f, bx, lv, gen⟩) T order he hl hk hnd hov (fun i c hc => by have := hb.get i c hc; simpa using this) hr
end
end Go.Ab
namespace Go.Ab
open Go.RowKit
abbrev Bt := Nat → Option (List A)
def putB (β : Bt) : Option (Nat × List A) → Bt
  | some (g, c) => fun h => if h = g then some c else β h
  | none => β
def isNew (o : Oper) : Bool := match o.op with | .alloc _ => true | .box _ _ => true | _ => false
def isSt (o : Oper) : Bool := match o.op with | .store _ _ _ => true | _ => false
def stTo (o : Oper) : Option Nat := match o.op with | .store _ (.tmp d) _ => some d | _ => none
def cntNew : List Oper → Nat → Nat
  | [], _ => 0
  | _ :: _, 0 => 0
  | o :: r, i + 1 => (bif isNew o then 1 else 0) + cntNew r i
section
variable {P : Program} (T : Tab P) {C : Ctx} {n : Nat} {bx : List (Nat × List A)} {lv : List Nat} {gen r : Nat} {ops : Array Oper} {md : Region.Mode} {m : Nat}
abbrev Sg := Fr' × Bt
structure SimE (C : Ctx) (n : Nat) (bx : List (Nat × List A)) (lv : List Nat) (gen r : Nat) (σ : Sg) (G : Gh) (tmps : Array Value) (w : World) : Prop where
  s : SimG C n ⟨[], bx, lv, gen + r⟩ G tmps w
  f : ∀ t a, σ.1 t = some a → ∃ v, tmps[t]? = some v ∧ Rep (enOf C G (gen + r) w) v a
  b : ∀ g cells, σ.2 g = some cells → gen ≤ g ∧ ∃ b cs T, G.box g = some b ∧ w.heap[b]? = some (.cells cs T (0, 0)) ∧ cs.size = cells.length ∧
    (∀ (i : Nat) (u : Value), cs[i]? = some u → u.oneCell' = true) ∧ ∀ (i : Nat) (u : Value) (a : A), cs[i]? = some u → cells[i]? = some a → Rep (enOf C G (gen + r) w) u a
  n : ∀ g, gen ≤ g → σ.2 g = none → G.box g = none
  o : ∀ g, gen ≤ g → ∀ c, look' bx g ≠ some c
theorem SimE.toG {σ : Sg} {G : Gh} {tmps : Array Value} {w : World} (h : SimE C n bx lv gen r σ G tmps w) {f : List (Nat × A)} {bn : List (Nat × List A)} (hf : ∀ t a, look f t = some a → σ.1 t = some a) (hb : ∀ g c, look' bn g = some c → σ.2 g = some c) :
    SimG C n ⟨f, bn ++ bx, lv, gen + r⟩ G tmps w :=
  { h.s with frame := fun t a ha => h.f t a (hf t a ha), box := fun g c hc => (look'_append hc).elim (fun h1 => (h.b g c (hb g c h1)).2) (h.s.box g c) }
theorem SimE.ofG {f : List (Nat × A)} {G : Gh} {tmps : Array Value} {w : World} (h : SimG C n ⟨f, bx, lv, gen⟩ G tmps w) : SimE C n bx lv gen r (look f, fun _ => none) G tmps w := by
  have h2 : SimG C n ⟨f, bx, lv, gen + r⟩ G tmps w := SimG.later (st := ⟨f, bx, lv, gen⟩) h (Nat.le_add_right _ _)
  refine ⟨{ h2 with frame := fun t a ha => by simp [look] at ha }, h2.frame, (fun g c hc => nomatch hc), fun g hg _ => ?_, fun g hg c hc => ?_⟩
  rotate_left
  · obtain ⟨b, _, _, h1, _⟩ := h.box g c hc
    have := (h.gbox g b h1).1
    simp only at this
    omega
  cases hb : G.box g with
  | none => rfl
  | some b => have := (h.gbox g b hb).1; simp only at this; omega
theorem SimE.step {σ : Sg} {G : Gh} {tmps : Array Value} {w w' : World} (h : SimE C n bx lv gen r σ G tmps w) (hb : Below w.heap.size w w') {dst : Option Nat} (hd : dstOK n dst = true) {v : Value} {a : A} (hr : Rep (enOf C G (gen + r) w') v a) :
    SimE C n bx lv gen r (putF σ.1 dst a, σ.2) G (Act.put ⟨tmps, []⟩ dst v).tmps w' := by
  obtain ⟨hle, hs⟩ := h.s.evolve hb
  have hbx : ∀ g cells, σ.2 g = some cells → gen ≤ g ∧ ∃ b cs T, G.box g = some b ∧ w'.heap[b]? = some (.cells cs T (0, 0)) ∧ cs.size = cells.length ∧
    (∀ (i : Nat) (u : Value), cs[i]? = some u → u.oneCell' = true) ∧ ∀ (i : Nat) (u : Value) (a : A), cs[i]? = some u → cells[i]? = some a → Rep (enOf C G (gen + r) w') u a := by
    intro g cells hg
    obtain ⟨h0, b, cs, T, h1, h2, h3, h4, h5⟩ := h.b g cells hg
    exact ⟨h0, b, cs, T, h1, by rw [hb.block b (h.s.gbox g b h1).2.1]; exact h2, h3, h4, fun i u a hu ha => (h5 i u a hu ha).mono hle⟩
  cases dst with
  | none => exact ⟨hs, fun t a ha => let ⟨v, h1, h2⟩ := h.f t a ha; ⟨v, h1, h2.mono hle⟩, hbx, h.n, h.o⟩
  | some d =>
    refine ⟨{ hs with size := by have := hs.size; simpa [Act.put] using this, frame := fun t a ha => by simp [look] at ha }, fun t b hb' => ?_, hbx, h.n, h.o⟩
    simp only [putF] at hb'
    split at hb'
    · rename_i e
      subst e
      simp only [Option.some.injEq] at hb'
      subst hb'
      exact ⟨v, by simp [Act.put, Array.getElem?_setIfInBounds, hs.size, dstOK_lt hd], hr⟩
    · rename_i e
      obtain ⟨u, h1, h2⟩ := h.f t b hb'
      exact ⟨u, by simp only [Act.put]; rw [Array.getElem?_setIfInBounds_ne (Ne.symm e)]; exact h1, h2.mono hle⟩
theorem SimE.mkBox {σ : Sg} {G : Gh} {tmps : Array Value} {w : World} (h : SimE C n bx lv gen r σ G tmps w) {g : Nat} (hg : gen ≤ g) (hgr : g < gen + r) (hn : σ.2 g = none) (cs : Array Value) (T : TypeId) (cells : List A) (hrc : RepC (enOf C G (gen + r) w) cs cells)
    {d : Nat} (hd : d < n) : ∃ G', SimE C n bx lv gen r (putF σ.1 (some d) (.ptr g 0), putB σ.2 (some (g, cells))) G' (tmps.setIfInBounds d (.pointer (some ⟨w.heap.size, 0, none⟩))) (w.alloc (.cells cs T)) := by
  obtain ⟨hs, h1, hc'⟩ := hrc
  have hgn := h.n g hg hn
  have hb : Below w.heap.size w (w.alloc (.cells cs T)) := (Below.refl _ w).alloc (Nat.le_refl _) _
  let G' : Gh := ⟨fun g' => if g' = g then some w.heap.size else G.box g', G.own⟩
  have hsz : w.heap.size < (w.alloc (.cells cs T)).heap.size := by simp
  have hGe : ∀ {g' b}, G.box g' = some b → G'.box g' = some b := by
    intro g' b hb'
    simp only [G']
    rw [if_neg (by rintro rfl; rw [hgn] at hb'; cases hb')]
    exact hb'
  have hle : (enOf C G (gen + r) w).le (enOf C G' (gen + r) (w.alloc (.cells cs T))) := by
    refine ⟨fun b o u hu hn' => ?_, fun b o u hu ho => ?_, fun g' b hb' => hGe hb', fun _ _ _ h => h, Nat.le_refl _, fun g b len cap sz pub _ hr => hb.block b (by obtain ⟨_, _, _, cur, T, h3, _⟩ := h.s.row g b len cap sz pub hr; exact (Array.getElem?_eq_some_iff.1 h3).1), fun g' b _ hr => ?_, .below hb⟩
    · have hlt := cellAt_lt hu
      refine ⟨by show cellAt (w.alloc _) b o = _; rw [cellAt_same (hb.block b hlt)]; exact hu, fun hp => hn' ?_⟩
      rcases hp with hp | ⟨g', hp⟩ | hp
      · exact .inl hp
      · simp only [G'] at hp
        split at hp
        · simp only [Option.some.injEq] at hp
          have : b < w.heap.size := hlt
          omega
        · exact .inr (.inl ⟨g', hp⟩)
      · exact .inr (.inr hp)
    · have hlt := cellAt_lt hu
      exact ⟨by show cellAt (w.alloc _) b o = _; rw [cellAt_same (hb.block b hlt)]; exact hu, ho⟩
    · obtain ⟨_, _, _, me, clock, h3⟩ := h.s.mrow g' b hr
      exact hb.block b (Array.getElem?_eq_some_iff.1 h3).1
  have hrow0 : ∀ g' b len cap sz pub, G.own g' = some (.blk b len cap sz pub) → b < w.heap.size := fun g' b len cap sz pub hr => by
    obtain ⟨_, _, _, cur, T', h4, _⟩ := h.s.row g' b len cap sz pub hr
    exact (Array.getElem?_eq_some_iff.1 h4).1
  refine ⟨G', { s := { size := (by have := h.s.size; simpa using this), frame := (fun t a ha => by simp [look] at ha), xold := h.s.xold, kold := h.s.kold, lent := (fun i b hb => hGe (h.s.lent i b hb)), fr := h.s.fr.below hb, live := h.s.live, gown := h.s.gown, box := fun g' c hc => ?_, gbox := fun g' b hb' => ?_, inj := fun g1 g2 b hb1 hb2 => ?_, row := fun g' b len cap sz pub hr => ?_, mrow := fun g' b hr => ?_ }, f := fun t a ha => ?_, b := fun g' c hc => ?_, n := fun g' hg' hn' => ?_, o := h.o }⟩
  · obtain ⟨b, cs', T', h1', h2, h3, h4, h5⟩ := h.s.box g' c hc
    exact ⟨b, cs', T', hGe h1', by rw [hb.block b (h.s.gbox g' b h1').2.1]; exact h2, h3, h4, fun i u a hu ha => (h5 i u a hu ha).mono hle⟩
  · simp only [G'] at hb'
    split at hb'
    · rename_i e
      subst e
      simp only [Option.some.injEq] at hb'
      subst hb'
      exact ⟨hgr, hsz, .inl h.s.fr.size, fun o ho => absurd (h.s.kold _ o ho) (by have := h.s.fr.size; omega)⟩
    · obtain ⟨h6, h7, h8⟩ := h.s.gbox g' b hb'
      exact ⟨h6, by simp; omega, h8⟩
  · simp only [G'] at hb1 hb2
    split at hb1 <;> split at hb2
    · simp_all
    · simp only [Option.some.injEq] at hb1; have := (h.s.gbox g2 b hb2).2.1; omega
    · simp only [Option.some.injEq] at hb2; have := (h.s.gbox g1 b hb1).2.1; omega
    · exact h.s.inj g1 g2 b hb1 hb2
  · obtain ⟨h1', h2, h3, cur, T', h4, h5⟩ := h.s.row g' b len cap sz pub hr
    refine ⟨h1', fun g2 hg2 => ?_, h3, cur, T', by rw [hb.block b (hrow0 g' b len cap sz pub hr)]; exact h4, h5⟩
    simp only [G'] at hg2
    split at hg2
    · simp only [Option.some.injEq] at hg2; have := hrow0 g' b len cap sz pub hr; omega
    · exact h2 g2 hg2
  · obtain ⟨h1', h2, h3, me, clock, h4⟩ := h.s.mrow g' b hr
    have hlt := (Array.getElem?_eq_some_iff.1 h4).1
    refine ⟨h1', fun g2 hg2 => ?_, h3, me, clock, by rw [hb.block b hlt]; exact h4⟩
    simp only [G'] at hg2
    split at hg2
    · simp only [Option.some.injEq] at hg2; omega
    · exact h2 g2 hg2
  · simp only [putF] at ha
    split at ha
    · rename_i e
      subst e
      simp only [Option.some.injEq] at ha
      subst ha
      exact ⟨_, by have := h.s.size; simp [Array.getElem?_setIfInBounds, this, hd], .ptr _ g 0 w.heap.size (by simp [enOf]; omega) (by simp [enOf, G']) rfl⟩
    · rename_i e
      obtain ⟨u, h6, h7⟩ := h.f t a ha
      exact ⟨u, by rw [Array.getElem?_setIfInBounds_ne (Ne.symm e)]; exact h6, h7.mono hle⟩
  · simp only [putB] at hc
    split at hc
    · rename_i e
      subst e
      simp only [Option.some.injEq] at hc
      subst hc
      exact ⟨hg, w.heap.size, cs, T, by simp [G'], heap_alloc_new w _, hs, h1, fun i u a hu ha => (hc' i u a hu ha).mono hle⟩
    · obtain ⟨h0, b, cs', T', h1', h2, h3, h4, h5⟩ := h.b g' c hc
      exact ⟨h0, b, cs', T', hGe h1', by rw [hb.block b (h.s.gbox g' b h1').2.1]; exact h2, h3, h4, fun i u a hu ha => (h5 i u a hu ha).mono hle⟩
  · simp only [putB] at hn'
    split at hn'
    · cases hn'
    · rename_i e
      simp only [G']
      rw [if_neg e]
      exact h.n g' hg' hn'
theorem SimE.store {σ : Sg} {G : Gh} {tmps : Array Value} {w : World} (h : SimE C n bx lv gen r σ G tmps w) {g b : Nat} {cs cs' : Array Value} {T : TypeId} {cells cells' : List A} (hb : σ.2 g = some cells) (hg : G.box g = some b) (hw : w.heap[b]? = some (.cells cs T (0, 0)))
    (hr : RepC (enOf C G (gen + r) w) cs' cells') : SimE C n bx lv gen r (σ.1, putB σ.2 (some (g, cells'))) G tmps (w.setRow b cs') := by
  have hgg := (h.b g cells hb).1
  have hb' : w.heap[b]? ≠ none := by rw [hw]; simp
  have hm := (h.s.gbox g b hg).2.2
  have hfr : Fr C (w.setRow b cs') := ⟨h.s.fr.os, h.s.fr.tape, h.s.fr.output, by rw [size_setRow]; exact h.s.fr.size, fun b' h1 h2 => by
    rw [setRow_other w b b' cs' (fun e => by subst e; exact hm.1.elim (fun hm => by omega) h2)]; exact h.s.fr.block b' h1 h2, fun b' o u hk hu => by
    rw [cellAt_same (setRow_other w b b' cs' (fun e => by subst e; exact absurd (hm.2 o hk) (Nat.not_lt_zero _)))]; exact h.s.fr.cells b' o u hk hu, h.s.fr.ty.trans (.setRow w b cs')⟩
  have hle : (enOf C G (gen + r) w).le (enOf C G (gen + r) (w.setRow b cs')) := by
    refine leOf (st := ⟨[], bx, lv, gen + r⟩) h.s.fr hfr (fun b' o u hu hn => ⟨?_, hn⟩) (fun _ _ h => h) (fun _ _ _ h => h) (Nat.le_refl _) (fun g' b' len cap sz pub _ hr => ?_) (fun g' b' _ hr => ?_) (.setRow w b cs')
    · have : b' ≠ b := fun e => hn (.inr (.inl ⟨g, by rw [e]; exact hg⟩))
      rw [cellAt_same (setRow_other w b b' cs' this)]
      exact hu
    · have : b' ≠ b := fun e => (h.s.row g' b' len cap sz pub hr).2.1 g (by rw [e]; exact hg)
      exact setRow_other w b b' cs' this
    · exact setRow_other w b b' cs' (fun e => (h.s.mrow g' b' hr).2.1 g (by rw [e]; exact hg))
  refine { s := { size := h.s.size, frame := fun t a ha => by simp [look] at ha, inj := h.s.inj, xold := h.s.xold, kold := h.s.kold, lent := h.s.lent, fr := hfr, live := h.s.live, gown := h.s.gown, box := fun g' c hc => ?_, gbox := fun g' b' hgb => ?_, row := fun g' b' len cap sz pub hgb => ?_, mrow := fun g' b' hr => ?_ }, f := fun t a ha => let ⟨v, h1, h2⟩ := h.f t a ha; ⟨v, h1, h2.mono hle⟩, b := fun g' c hc => ?_, n := fun g' hg' hn' => ?_, o := h.o }
  · obtain ⟨b', cs2, T', h1, h2, h3, h4, h5⟩ := h.s.box g' c hc
    by_cases e : b' = b
    · subst e
      have e2 := h.s.inj g' g b' h1 hg
      subst e2
      exact absurd hc (h.o g' hgg c)
    · exact ⟨b', cs2, T', h1, by rw [setRow_other w b b' cs' e]; exact h2, h3, h4, fun i u a hu ha => (h5 i u a hu ha).mono hle⟩
  · obtain ⟨h1, h2, h3⟩ := h.s.gbox g' b' hgb
    exact ⟨h1, by rw [size_setRow]; exact h2, h3⟩
  · obtain ⟨h1, h2, h3, cur, T', h4, h5⟩ := h.s.row g' b' len cap sz pub hgb
    have hne : b' ≠ b := fun e => h2 g (by rw [e]; exact hg)
    exact ⟨h1, h2, h3, cur, T', by rw [setRow_other w b b' cs' hne]; exact h4, h5⟩
  · obtain ⟨h1, h2, h3, me, clock, h4⟩ := h.s.mrow g' b' hr
    have hne : b' ≠ b := fun e => h2 g (by rw [e]; exact hg)
    exact ⟨h1, h2, h3, me, clock, by rw [setRow_other w b b' cs' hne]; exact h4⟩
  · simp only [putB] at hc
    split at hc
    · rename_i e
      subst e
      simp only [Option.some.injEq] at hc
      subst hc
      exact ⟨hgg, b, cs', T, hg, setRow_heap w b cs cs' T (0, 0) hw, hr.1, hr.2.1, fun i u a hu ha => (hr.2.2 i u a hu ha).mono hle⟩
    · rename_i e
      obtain ⟨h0, b', cs2, T', h1, h2, h3, h4, h5⟩ := h.b g' c hc
      have hne : b' ≠ b := fun e' => e (h.s.inj g' g b (e' ▸ h1) hg)
      exact ⟨h0, b', cs2, T', h1, by rw [setRow_other w b b' cs' hne]; exact h2, h3, h4, fun i u a hu ha => (h5 i u a hu ha).mono hle⟩
  · simp only [putB] at hn'
    split at hn'
    · cases hn'
    · exact h.n g' hg' hn'
def YE (P : Program) (T : Tab P) (C : Ctx) (n : Nat) (bx : List (Nat × List A)) (lv : List Nat) (gen r : Nat) (ops : Array Oper) (i : Nat) (o : Oper) (a : A) (u : Option (Nat × List A)) (σ : Sg) : Prop :=
  dstOK n o.dst = true ∧
    ((isNew o = false ∧ u = none ∧ YA P C n bx lv (gen + r) ops o a σ.1) ∨
     (isNew o = true ∧ o.guard = none ∧ σ.2 (gen + cntNew ops.toList i) = none ∧ cntNew ops.toList i < r ∧ a = .ptr (gen + cntNew ops.toList i) 0 ∧ ∃ d cells, o.dst = some d ∧ u = some (gen + cntNew ops.toList i, cells) ∧
        ((∃ e dt, o.op = .alloc e ∧ look' T.l e = some dt ∧ cells = dt.z.map fun v => A.d (.v v)) ∨
         (∃ e x f y, o.op = .box e x ∧ (∀ t z, look f t = some z → σ.1 t = some z ∧ t ∈ o.looksAt ops) ∧ av f x = some y ∧ cellsOf bx y = some cells))) ∨
     (isSt o = true ∧ o.guard = none ∧ o.dst = none ∧ a = .any ∧ ∃ t dx y k ok f z cells cs, o.op = .store t (.tmp dx) y ∧ ops[k]? = some ok ∧ isNew ok = true ∧ ok.dst = some dx ∧ (∀ t z, look f t = some z → σ.1 t = some z ∧ t ∈ o.looksAt ops) ∧
        σ.1 dx = some (.ptr (gen + cntNew ops.toList k) 0) ∧ av f y = some z ∧ cellsOf bx z = some cs ∧ szAt T t = cs.length ∧ cs.length ≠ 0 ∧ cs.length ≤ cells.length ∧ σ.2 (gen + cntNew ops.toList k) = some cells ∧
        u = some (gen + cntNew ops.toList k, setAt cells 0 cs)))
theorem mem_looks {dx : Nat} {t : TypeId} {y : Operand} {o : Oper} (h : o.op = .store t (.tmp dx) y) : dx ∈ o.looksAt ops := by
  unfold Oper.looksAt
  rw [h]
  exact List.mem_append.2 (.inl (by simp [Op.operands]))
section
variable {T}
theorem YE.name {i : Nat} {o : Oper} {a : A} {g : Nat} {c : List A} {σ : Sg} (hi : ops[i]? = some o) (h : YE P T C n bx lv gen r ops i o a (some (g, c)) σ) :
    ∃ k ok dx, ops[k]? = some ok ∧ isNew ok = true ∧ ok.dst = some dx ∧ g = gen + cntNew ops.toList k ∧ ((k = i) ∨ (stTo o = some dx ∧ dx ∈ o.looksAt ops)) := by
  rcases h with ⟨_, ⟨_, h, _⟩ | ⟨h1, _, _, _, _, d, cells, h2, h3, _⟩ | ⟨h1, _, _, _, t, dx, y, k, ok, f, z, cells, cs, h2, h3, h4, h5, _, _, _, _, _, _, _, _, h6⟩⟩
  · cases h
  · simp only [Option.some.injEq, Prod.mk.injEq] at h3
    exact ⟨i, o, d, hi, h1, h2, h3.1, .inl rfl⟩
  · simp only [Option.some.injEq, Prod.mk.injEq] at h6
    exact ⟨k, ok, dx, h3, h4, h5, h6.1, .inr ⟨by unfold stTo; rw [h2], mem_looks h2⟩⟩
theorem putF_key {φ : Fr'} {o : Oper} {dst : Option Nat} {x : A} (hd : ∀ d, dst = some d → d ∉ o.looksAt ops) {t : Nat} (ht : t ∈ o.looksAt ops) : putF φ dst x t = φ t := by
  cases dst with
  | none => rfl
  | some e =>
    have : t ≠ e := fun h => by subst h; exact hd t rfl ht
    simp [putF, this]
end
def Split (m : Nat) (ops : Array Oper) (listed : Array Bool) : Prop := listed.size = ops.size ∧ (∀ j, j < m → listed.getD j false = true) ∧ ∀ j, m ≤ j → j < ops.size → listed.getD j true = false
def behindB (md : Region.Mode) (ops : Array Oper) (j i : Nat) : Bool :=
  match ops[j]? with
  | some o => o.after.toList.any fun e => Nat.beq e.on i && Region.binds md e
  | none => false
theorem behindB_spec {j i : Nat} {oj : Oper} (hj : ops[j]? = some oj) (h : behindB md ops j i = true) : ∃ e ∈ oj.after, Region.binds md e = true ∧ e.on = i := by
  unfold behindB at h
  rw [hj] at h
  obtain ⟨e, he, hb⟩ := List.any_eq_true.1 h
  simp only [Bool.and_eq_true] at hb
  exact ⟨e, by simpa using he, hb.2, Nat.eq_of_beq_eq_true hb.1⟩
theorem unlisted {listed : Array Bool} {i : Nat} (h : listed.getD i true = false) : listed.getD i false = false := by
  rcases Nat.lt_or_ge i listed.size with h' | h'
  · simp [h'] at h ⊢; exact h
  · simp [Array.getElem?_eq_none h'] at h
def waitB (md : Region.Mode) (ops : Array Oper) (m : Nat) : Bool := (List.range ops.size).all fun j => decide (j < m) || (List.range j).all fun i => behindB md ops j i
theorem waits {j : Nat} (h : waitB md ops m = true) (hm : m ≤ j) {i : Nat} (hij : i < j) {listed : Array Bool} (hj : j ∈ Region.ready md ops listed) : listed.getD i false = true := by
  obtain ⟨_, oj, hoj, hall⟩ := mem_ready.1 hj
  have hlt : j < ops.size := (Array.getElem?_eq_some_iff.1 hoj).1
  have h1 := List.all_eq_true.1 h j (by simpa using hlt)
  simp only [Bool.or_eq_true, decide_eq_true_eq] at h1
  have h2 := List.all_eq_true.1 (h1.resolve_left (by omega)) i (by simpa using hij)
  obtain ⟨e, he, hb, heq⟩ := behindB_spec hoj h2
  rw [← heq]
  exact hall e he hb
def ceA (P : Program) (T : Tab P) (C : Ctx) (n : Nat) (bx : List (Nat × List A)) (lv : List Nat) (gen r : Nat) (ops : Array Oper) (Q : Sg → Prop) : List Oper → Nat → Sg → Prop
  | [], _, σ => Q σ
  | o :: rest, i, σ => ∃ a u, YE P T C n bx lv gen r ops i o a u σ ∧ ceA P T C n bx lv gen r ops Q rest (i + 1) (putF σ.1 o.dst a, putB σ.2 u)
def lexE (md : Region.Mode) (ops : Array Oper) : Nat → Nat → Array Bool → Bool
  | 0, _, _ => true
  | t + 1, k, listed => (Region.ready md ops listed).contains k && Region.free md ops listed k && lexE md ops t (k + 1) (listed.setIfInBounds k true)
def foreB (md : Region.Mode) (ops : Array Oper) (m : Nat) : Bool := (List.range ops.size).all fun k => decide (k < m) || match ops[k]? with | some o => o.after.toList.all fun e => !Region.binds md e || decide (e.on < k) | none => true
theorem foreB_spec (h : foreB md ops m = true) : ∀ k, m ≤ k → ∀ o, ops[k]? = some o → ∀ e ∈ o.after, Region.binds md e = true → e.on < k := by
  intro k hm o ho e he hb
  have hlt := (Array.getElem?_eq_some_iff.1 ho).1
  have h1 := List.all_eq_true.1 h k (by simpa using hlt)
  simp only [Bool.or_eq_true, decide_eq_true_eq] at h1
  have h2 := h1.resolve_left (by omega)
  rw [ho] at h2
  have h3 := List.all_eq_true.1 h2 e (by simpa using he)
  simp only [Bool.or_eq_true, Bool.not_eq_true', decide_eq_true_eq] at h3
  rcases h3 with h3 | h3
  · rw [hb] at h3; cases h3
  · exact h3
def CE (P : Program) (T : Tab P) (C : Ctx) (n : Nat) (bx : List (Nat × List A)) (lv : List Nat) (gen r : Nat) (ops : Array Oper) (Q : St → Prop) (l : List Oper) (i : Nat) (f : List (Nat × A)) (bn : List (Nat × List A)) : Prop :=
  ceA P T C n bx lv gen r ops (fun σ => ∃ f' bn', (∀ t, look f' t = σ.1 t) ∧ (∀ g, look' bn' g = σ.2 g) ∧ Q ⟨f', bn' ++ bx, lv, gen + r⟩) l i (look f, look' bn)
variable {T}
variable {op : Op} {ty : TypeId} {pos : String} {af : Array Edge} {a : A} {d i : Nat} {rest : List Oper} {f : List (Nat × A)} {bn : List (Nat × List A)} {Q : St → Prop}
theorem CE.nil (h : Q ⟨f, bn ++ bx, lv, gen + r⟩) : CE P T C n bx lv gen r ops Q [] i f bn := ⟨f, bn, fun _ => rfl, fun _ => rfl, h⟩
end
end Go.Ab
namespace Go.Ab
open Go.RowKit
section
variable {P : Program} (T : Tab P) {C : Ctx} {n : Nat} {ops : Array Oper} {Q : Exit → St → Prop} {rest : List Oper} {c : Code}
variable {f : List (Nat × A)} {bx : List (Nat × List A)} {lv : List Nat} {gen d : Nat} {ty : TypeId} {pos : String} {af : Array Edge} {a : A} {dst : Option Nat}
theorem strAdd {t t' : Nat} {x y : Operand} {p q : ByteArray} (hx : av f x = some (.d (.v (.string p)))) (hy : av f y = some (.d (.v (.string q)))) (hb : p.size + q.size ≤ 9223372036854775807) :
    Pu P C n ⟨f, bx, lv, gen⟩ ⟨dst, .binOp .add t x y t', ty, pos, af, none⟩ (.d (.v (.string (p ++ q)))) := by
  refine PuOK.pu fun G tmps w hs => ?_
  have hrx := hs.av hx
  have hry := hs.av hy
  generalize hvx : Act.eval ⟨tmps, []⟩ x = vx at hrx
  generalize hvy : Act.eval ⟨tmps, []⟩ y = vy at hry
  cases hrx with | d hrx => cases hrx with | v _ _ =>
  cases hry with | d hry => cases hry with | v _ _ =>
  refine ⟨_, ?_, .d (.v _ ?_)⟩
  · unfold execOp
    show Sem.run P _ w = _
    have : ¬ ((p.size + q.size : Nat) : Int) > IntKind.i64.max := by simp [IntKind.max, IntKind.signed, IntKind.bits]; omega
    simp only [hvx, hvy, eqGuard, binOp, Op.stringOp, if_neg this]
    simp
    rfl
  · simp [okc, maxLen, ByteArray.size_append]
    omega
end
end Go.Ab
namespace Go.Tb
open Go.Ab
abbrev ci (n : Int) : D := .v (.int .i64 n)
abbrev cs (s : ByteArray) : D := .v (.string s)
structure Val where
  kind : Int
  n : Int
  s : ByteArray
  deriving DecidableEq
@[reducible] def Val.c (x : Val) : List D := [ci x.kind, ci x.n, cs x.s]
structure Col where
  name : ByteArray
  type : Int
  deriving DecidableEq
@[reducible] def Col.c (x : Col) : List D := [cs x.name, ci x.type]
inductive Ex where
  | mk (op : Int) (name : ByteArray) (v : Val) (kids : List Ex)
def Ex.op : Ex → Int | .mk a _ _ _ => a
def Ex.name : Ex → ByteArray | .mk _ a _ _ => a
def Ex.v : Ex → Val | .mk _ _ a _ => a
def Ex.kids : Ex → List Ex | .mk _ _ _ a => a
mutual
def Ex.kc : Ex → List (List D)
  | .mk _ _ _ kids => Ex.kcs kids
def Ex.kcs : List Ex → List (List D)
  | [] => []
  | e :: r => [ci e.op, cs e.name, ci e.v.kind, ci e.v.n, cs e.v.s, .sl (Ex.kc e)] :: Ex.kcs r
end
@[reducible] def Ex.c (e : Ex) : List D := [ci e.op, cs e.name, ci e.v.kind, ci e.v.n, cs e.v.s, .sl e.kc]
theorem Ex.kcs_eq : ∀ l, Ex.kcs l = l.map Ex.c
  | [] => rfl
  | e :: r => by simp [Ex.kcs, Ex.kcs_eq r]
theorem Ex.kc_eq (e : Ex) : e.kc = e.kids.map Ex.c := by cases e; simp [Ex.kc, Ex.kids, Ex.kcs_eq]
theorem Ex.kc_len (e : Ex) : e.kc.length = e.kids.length := by simp [Ex.kc_eq]
theorem Ex.ind {p : Ex → Prop} (h : ∀ e, (∀ k ∈ e.kids, p k) → p e) : ∀ e, p e := by
  intro e
  induction hn : _root_.SizeOf.sizeOf e using Nat.strongRecOn generalizing e with
  | _ m ih =>
    subst hn
    refine h e fun k hk => ih (_root_.SizeOf.sizeOf k) ?_ k rfl
    cases e with
    | mk op name v kids =>
      have := List.sizeOf_lt_of_mem (show k ∈ kids from hk)
      simp; omega
structure Itm where
  e : Ex
  name : ByteArray
@[reducible] def Itm.c (x : Itm) : List D := [ci x.e.op, cs x.e.name, ci x.e.v.kind, ci x.e.v.n, cs x.e.v.s, .sl x.e.kc, cs x.name]
structure Agr where
  fn : ByteArray
  col : ByteArray
  name : ByteArray
@[reducible] def Agr.c (x : Agr) : List D := [cs x.fn, cs x.col, cs x.name]
structure Srt where
  col : ByteArray
  desc : Bool
@[reducible] def Srt.c (x : Srt) : List D := [cs x.col, .v (.bool x.desc)]
@[reducible] def sc (s : ByteArray) : List D := [cs s]
structure Stp where
  op : Int
  cond : Ex
  items : List Itm
  cols : List ByteArray
  aggs : List Agr
  sorts : List Srt
  n : Int
  table : ByteArray
@[reducible] def Stp.c (x : Stp) : List D := [ci x.op, ci x.cond.op, cs x.cond.name, ci x.cond.v.kind, ci x.cond.v.n, cs x.cond.v.s, .sl x.cond.kc,
  .sl (x.items.map Itm.c), .sl (x.cols.map sc), .sl (x.aggs.map Agr.c), .sl (x.sorts.map Srt.c), ci x.n, cs x.table]
structure Tbl where
  cols : List Col
  rows : List (List Val)
@[reducible] def rc (r : List Val) : List D := [.sl (r.map Val.c)]
@[reducible] def Tbl.c (x : Tbl) : List D := [.sl (x.cols.map Col.c), .sl (x.rows.map rc)]
structure Nmd where
  name : ByteArray
  table : Tbl
@[reducible] def Nmd.c (x : Nmd) : List D := [cs x.name, .sl (x.table.cols.map Col.c), .sl (x.table.rows.map rc)]
structure Qry where
  from_ : ByteArray
  steps : List Stp
@[reducible] def Qry.c (x : Qry) : List D := [cs x.from_, .sl (x.steps.map Stp.c)]
/- ### typed data out of a reading -/
section
variable {P : Program} {T : Tab P}
variable {tv tk ti ts tc tcs te teo tes : Nat} {o1 o2 o3 o4 o5 o6 o7 o8 : Nat} {n1 n2 n3 n4 n5 n6 n7 n8 : String} {l : List D}
theorem conf_str (h : Conf T ts l) (hk : kdAt T ts = .str) : ∃ n, l = [cs n] := let ⟨n, h, _⟩ := h.toStr hk; ⟨n, h⟩
end
end Go.Tb
namespace Go.Tb
open Go.Ab
def Still (caps : List A) : Prop := (∀ bx k, caps.map (conv bx (k + 2)) = caps) ∧ noIdL caps = true
def idx (o : Option Nat) : Int := match o with | some i => i | none => -1
theorem idx_nonneg {α : Type} {l : List α} {p : α → Bool} : decide (0 ≤ idx (l.findIdx? p)) = l.any p := by
  cases h : l.findIdx? p with
  | none =>
    have := List.findIdx?_eq_none_iff.1 h
    simp only [idx]
    rw [Bool.eq_iff_iff]
    simp only [decide_eq_true_eq, List.any_eq_true]
    constructor
    · intro h; exact absurd h (by decide)
    · rintro ⟨x, hx, hp⟩; rw [this x hx] at hp; cases hp
  | some i =>
    obtain ⟨hi, hp, _⟩ := List.findIdx?_eq_some_iff_getElem.1 h
    simp only [idx]
    rw [Bool.eq_iff_iff]
    simp only [decide_eq_true_eq, List.any_eq_true]
    exact ⟨fun _ => ⟨_, List.getElem_mem hi, hp⟩, fun _ => decide_eq_true (Int.natCast_nonneg i)⟩
def noneBefore {α : Type} (p : α → Bool) (l : List α) (k : Nat) : Prop := ∀ j x, j < k → l[j]? = some x → p x = false
theorem noneBefore.zero {α : Type} {p : α → Bool} {l : List α} : noneBefore p l 0 := fun _ _ h => by omega
theorem noneBefore.step {α : Type} {p : α → Bool} {l : List α} {k : Nat} {x : α} (h : noneBefore p l k) (hx : l[k]? = some x) (hp : p x = false) : noneBefore p l (k + 1) := by
  intro j y hj hy
  rcases Nat.lt_succ_iff_lt_or_eq.1 hj with hlt | rfl
  · exact h j y hlt hy
  · rw [hx] at hy; simp only [Option.some.injEq] at hy; subst hy; exact hp
theorem noneBefore.found {α : Type} {p : α → Bool} {l : List α} {k : Nat} {x : α} (h : noneBefore p l k) (hx : l[k]? = some x) (hp : p x = true) : l.findIdx? p = some k := by
  rw [List.findIdx?_eq_some_iff_getElem]
  obtain ⟨hk', hx'⟩ := List.getElem?_eq_some_iff.1 hx
  refine ⟨hk', by rw [hx']; exact hp, fun j hj => ?_⟩
  rw [h j (l[j]) hj (by simp)]
  simp
theorem noneBefore.end_ {α : Type} {p : α → Bool} {l : List α} {k : Nat} (h : noneBefore p l k) (hk : k = l.length) : l.findIdx? p = none := by
  rw [List.findIdx?_eq_none_iff]
  intro x hx
  obtain ⟨j, hj⟩ := List.mem_iff_getElem?.1 hx
  exact h j x (by rw [hk]; exact (List.getElem?_eq_some_iff.1 hj).1) hj
def fits (k w : Int) : Bool := decide (k = w) || decide (k = 0)
def inR (n : Int) : Bool := decide (-1000000000000000 ≤ n) && decide (n ≤ 1000000000000000)
abbrev B (l : Array UInt8) : ByteArray := ⟨l⟩
def words : List ByteArray := [B #[97, 110, 100], B #[111, 114], B #[110, 111, 116], B #[110, 117, 108, 108], B #[116, 114, 117, 101], B #[102, 97, 108, 115, 101]]
def bys (s : ByteArray) : List UInt8 := s.data.toList
end Go.Tb
namespace Go.Tb
open Go.Ab
theorem okc_size {s : ByteArray} (h : okc (.string s) = true) : (bys s).length ≤ maxLen := by simpa [okc, bys] using h
theorem bytes_len (s : ByteArray) : (bys s).length = s.size := by simp [bys]
theorem indexByte_ge0 (c : UInt8) : ∀ l : List UInt8, (0 ≤ Lib.indexByte l c) ↔ c ∈ l
  | [] => by simp [Lib.indexByte]
  | b :: l => by
    have ih := indexByte_ge0 c l
    have h1 := Lib.indexByte_ge l c
    simp only [Lib.indexByte, List.mem_cons]
    grind
theorem indexByte_len (c : UInt8) : ∀ l : List UInt8, Lib.indexByte l c ≤ l.length
  | [] => by simp [Lib.indexByte]
  | b :: l => by
    have ih := indexByte_len c l
    simp only [Lib.indexByte, List.length_cons]
    grind
theorem indexByte_ok {s : ByteArray} (h : okc (.string s) = true) (c : UInt8) : okc (.int .i64 (Lib.indexByte (bys s) c)) = true := by
  have h1 := Lib.indexByte_ge (bys s) c
  have h2 := indexByte_len c (bys s)
  have h3 := okc_size h
  have h4 : maxLen = 9223372036854775807 := rfl
  simp only [okc, Bool.and_eq_true, decide_eq_true_eq]
  refine ⟨?_, ?_⟩
  · show -9223372036854775808 ≤ _; omega
  · show _ ≤ 9223372036854775807; omega
end Go.Tb
namespace Go.Tb
open Go.Ab
section
variable {P : Program} {C : Ctx} {n : Nat} {Q : Exit → St → Prop} {c : Code} {f : List (Nat × A)} {bx : List (Nat × List A)} {lv : List Nat} {gen : Nat}
end
end Go.Tb
namespace Go.Tb
open Go.Ab
theorem exAt {α : Type} {l : List α} {k : Nat} (h : k < l.length) : ∃ x, l[k]? = some x ∧ l.drop k = x :: l.drop (k + 1) := ⟨l[k], by simp [h], List.drop_eq_getElem_cons h⟩
theorem dropEnd {α : Type} {l : List α} {k : Nat} (h : l.length ≤ k) : l.drop k = [] := List.drop_eq_nil_of_le h
theorem puI {P : Program} {C : Ctx} {n : Nat} {st : St} {o : Oper} {k : IntKind} {x y : Int} (h : Pu P C n st o (.d (.v (.int k x)))) (e : x = y) : Pu P C n st o (.d (.v (.int k y))) := e ▸ h
end Go.Tb
namespace Go.Tb
open Go.Ab
section
variable {P : Program} {C : Ctx} {n : Nat} {Q : Exit → St → Prop} {c : Code} {f : List (Nat × A)} {bx : List (Nat × List A)} {lv : List Nat} {gen : Nat}
theorem lenBox {g j : Nat} {cells : List A} {es : List (List D)} (hb : look' bx g = some cells) (hv : cells[j]? = some (.d (.sl es))) (h : es.length ≤ maxLen → W P C n c Q ⟨f, bx, lv, gen⟩) : W P C n c Q ⟨f, bx, lv, gen⟩ := by
  intro tmps w ⟨G, hs⟩
  obtain ⟨b, cs, T, h1, h2, h3, h4, h5⟩ := hs.box g cells hb
  have hj : j < cs.size := by rw [h3]; exact (List.getElem?_eq_some_iff.1 hv).1
  have := h5 j cs[j] _ (by simp [hj]) hv
  generalize cs[j] = u at this
  cases this with | d hd => exact h hd.len.choose_spec.choose_spec.2 tmps w ⟨G, hs⟩
end
end Go.Tb
namespace Go.Tb
open Go.Ab
mutual
def count : Ex → Int → Int
  | .mk _ _ _ kids, most => countL kids most 1
def countL : List Ex → Int → Int → Int
  | [], _, n => n
  | k :: r, most, n => if n ≤ most then countL r most (n + count k (most - n)) else n
end
mutual
def deep : Ex → Int → Int → Int
  | .mk op name v kids, level, left => if level < 1 ∨ left - 1 < 0 ∨ 300 < name.size ∨ 300 < v.s.size then -1 else deepL kids level (left - 1)
def deepL : List Ex → Int → Int → Int
  | [], _, left => left
  | k :: r, level, left => if deep k (level - 1) left < 0 then -1 else deepL r level (deep k (level - 1) left)
end
def small (e : Ex) : Bool := decide (0 ≤ deep e 40 300)
end Go.Tb
namespace Go.Tb
open Go.Ab
end Go.Tb
namespace Go.Tb
open Go.Ab
theorem len1 {α : Type} {l : List α} (h : l.length = 1) : ∃ a, l = [a] := by
  match l, h with
  | [a], _ => exact ⟨a, rfl⟩
theorem len2 {α : Type} {l : List α} (h : l.length = 2) : ∃ a b, l = [a, b] := by
  match l, h with
  | [a, b], _ => exact ⟨a, b, rfl⟩
end Go.Tb
namespace Go.Tb
open Go.Ab
end Go.Tb
namespace Go.Tb
end Go.Tb
namespace Go.Tb
open Go.Ab
theorem wrap_zero {x : Int} (h0 : 0 ≤ x) (h1 : x < 18446744073709551616) : (IntKind.i64.wrap x = 0) ↔ x = 0 := by
  simp only [IntKind.wrap, IntKind.signed, IntKind.bits]
  simp
  omega
/-! tables -/
end Go.Tb
namespace Go.Ab
open Go.RowKit
section
variable {P : Program} (T : Tab P) {C : Ctx} {n : Nat} {ops : Array Oper} {Q : Exit → St → Prop} {rest : List Oper} {c : Code}
variable {f : List (Nat × A)} {bx : List (Nat × List A)} {lv : List Nat} {gen d : Nat} {ty : TypeId} {pos : String} {af : Array Edge} {a : A} {dst : Option Nat}
end
end Go.Ab
namespace Go.Tb
open Go.Ab
def twice : List Col → Nat → List Col → Bool
  | _, _, [] => false
  | all, k, c :: r => (all.take k).any (fun x => decide (x.name = c.name)) || twice all (k + 1) r
end Go.Tb
namespace Go.Ab
open Go.RowKit
section
variable {P : Program} (T : Tab P) {C : Ctx} {n : Nat} {ops : Array Oper} {Q : Exit → St → Prop} {rest : List Oper} {c : Code}
variable {f : List (Nat × A)} {bx : List (Nat × List A)} {lv : List Nat} {gen d : Nat} {ty : TypeId} {pos : String} {af : Array Edge} {a : A} {dst : Option Nat}
end
end Go.Ab
namespace Go.Ab
open Go.RowKit
def restrB (bx : List (Nat × List A)) : List Nat → List (Nat × List A)
  | [] => []
  | g :: r => match look' bx g with
    | some c => (g, c) :: restrB bx r
    | none => restrB bx r
section
variable {P : Program} {C : Ctx} {n : Nat} {Q : Exit → St → Prop} {c : Code} {st : St}
variable {f f' fi : List (Nat × A)} {bx bx' bi : List (Nat × List A)} {lv lv' : List Nat} {gen gen' : Nat}
def QC (C : Ctx) (n : Nat) (S : St) (Q : Exit → St → Prop) : Exit → St → Prop
  | .normal, st => ∀ (tmps : Array Value) (w : World), Sim C n st tmps w → Sim C n S tmps w
  | e, st => Q e st
theorem W.cutS (V : List (Nat × A)) (ts : List Nat) (B : List (Nat × List A)) (bs : List Nat) (lv' : List Nat) (gen' : Nat) (h : W P C n c (QC C n ⟨V ++ restr f ts, B ++ restrB bx bs, lv', gen'⟩ Q) ⟨f, bx, lv, gen⟩)
    (hq : Q .normal ⟨V ++ restr f ts, B ++ restrB bx bs, lv', gen'⟩) : W P C n c Q ⟨f, bx, lv, gen⟩ :=
  fun tmps w hs => wp_mono (h tmps w hs) fun e act w ⟨hd, st', hs, he⟩ => by
    cases e with
    | normal => exact ⟨hd, _, he _ _ hs, hq⟩
    | _ => exact ⟨hd, st', hs, he⟩
theorem cutEnd {nb : Nat} [hnb : NB C nb] (order : List Nat) (ho : orderB order gen' nb = true) (hf : SubR order f f') (hfi : SubC f fi) (hb : SubBR order bx bx') (hbi : SubBC order bx bi) (hl : lvR order lv lv' = true) :
    QC C n ⟨f' ++ fi, bx' ++ bi, lv', gen'⟩ Q .normal ⟨f, bx, lv, gen⟩ := fun _ _ h => Sim.ren order ho hf hfi hb hbi hl h
end
end Go.Ab
namespace Go.Tb
open Go.Ab
end Go.Tb
namespace Go.Ab
open Go.RowKit
mutual
def nilD : D → D
  | .v x => bif isNil (.d (.v x)) then .sl [] else .v x
  | .sl es => .sl (nilDss es)
def nilDs : List D → List D
  | [] => []
  | x :: r => nilD x :: nilDs r
def nilDss : List (List D) → List (List D)
  | [] => []
  | x :: r => nilDs x :: nilDss r
end
theorem nilDs_map : ∀ l, nilDs l = l.map nilD
  | [] => rfl
  | x :: r => by simp [nilDs, nilDs_map r]
theorem nilDss_map : ∀ l, nilDss l = l.map nilDs
  | [] => rfl
  | x :: r => by simp [nilDss, nilDss_map r]
theorem RepD.nilD {w : World} {pv : Nat → Nat → Prop} {v : Value} {d : D} (h : RepD w pv v d) : RepD w pv v (Ab.nilD d) := by
  induction h with
  | v x hx =>
    simp only [Ab.nilD]
    cases hn : isNil (.d (.v x)) with
    | true =>
      have := isNil_eq hn
      simp only [A.d.injEq, D.v.injEq] at this
      subst this
      exact .nil
    | false => exact .v x hx
  | nil => exact .nil
  | emp a cap hm => exact .emp a cap hm
  | sl b off len cap sz es u hl hc hm hs hu _ ih =>
    simp only [Ab.nilD, nilDss_map]
    refine .sl b off len cap sz _ u (by simpa using hl) hc hm (fun i e he => ?_) hu (fun i j e d he hd => ?_)
    · rw [List.getElem?_map, Option.map_eq_some_iff] at he
      obtain ⟨e0, he0, rfl⟩ := he
      rw [nilDs_map, List.length_map]
      exact hs i e0 he0
    · rw [List.getElem?_map, Option.map_eq_some_iff] at he
      obtain ⟨e0, he0, rfl⟩ := he
      rw [nilDs_map, List.getElem?_map, Option.map_eq_some_iff] at hd
      obtain ⟨d0, hd0, rfl⟩ := hd
      exact ih i j e0 d0 he0 hd0
def nilA : A → A
  | .d x => .d (nilD x)
  | .ag l => .ag (nilDs l)
  | a => a
theorem Rep.nilA {E : En} {v : Value} {a : A} (h : Rep E v a) : Rep E v (Ab.nilA a) := by
  cases h with
  | d hd => exact .d hd.nilD
  | ag vs l hs hd =>
    refine .ag vs _ (by rw [nilDs_map]; simpa using hs) (fun i u x hu hx => ?_)
    rw [nilDs_map, List.getElem?_map, Option.map_eq_some_iff] at hx
    obtain ⟨y, hy, rfl⟩ := hx
    exact (hd i u y hu hy).nilD
  | any => exact .any _
  | ni t x => exact .ni t x
  | fl _ es hd hfl => exact .fl _ es hd hfl
  | own _ g es hd hg hr => exact .own _ g es hd hg hr
  | agg vs l hs ho hd => exact .agg vs l hs ho hd
  | tup vs l hs hd => exact .tup vs l hs hd
  | rowd b off l u hc hd => exact .rowd b off l u hc hd
  | row b off l u hc hd => exact .row b off l u hc hd
  | ptr _ g off b hg hb hp => exact .ptr _ g off b hg hb hp
  | xs _ g es hg h1 hx => exact .xs _ g es hg h1 hx
  | xp _ g i off l hg h1 hx => exact .xp _ g i off l hg h1 hx
  | mp _ g es hg h1 hx => exact .mp _ g es hg h1 hx
  | bf _ g T s hg h1 hx => exact .bf _ g T s hg h1 hx
  | np _ g T b hg hb hT u hx => exact .np _ g T b hg hb hT u hx
  | sb _ g n c b hg hb hn hx => exact .sb _ g n c b hg hb hn hx
  | clo f vs l hs hd => exact .clo f vs l hs hd
  | bnd f vs l hs hd => exact .bnd f vs l hs hd
theorem Does.nilA {P : Program} [Met P] {f : FuncId} {args : List A} {r : A} {k : Nat} (h : Does P f (args.map Ab.nilA) r k) : Does P f args r k :=
  ⟨h.ok, fun C vals w hG hw hp hx hsz hrep => h.calls C vals w hG hw hp hx (by simpa using hsz) (fun i u a hu ha => by
    rw [List.getElem?_map, Option.map_eq_some_iff] at ha
    obtain ⟨y, hy, rfl⟩ := ha
    exact (hrep i u y hu hy).nilA)⟩
section
variable {P : Program} {C : Ctx} {n : Nat} {ops : Array Oper} {Q : Exit → St → Prop} {rest : List Oper} {c : Code}
variable {f : List (Nat × A)} {bx : List (Nat × List A)} {lv : List Nat} {gen d : Nat} {ty : TypeId} {pos : String} {af : Array Edge} {a : A} {dst : Option Nat}
end
end Go.Ab
namespace Go.Tb
open Go.Ab
section
variable {P : Program} {T : Tab P} {l : List D}
variable {ts ti tk tc tcs tv tr trs tt tn te teo tes tit titl ttl tag tagl tso tsol tb top tst tstl tq : Nat}
variable {o1 o2 o3 o4 o5 o6 o7 o8 p1 p2 p3 p4 p5 p6 p7 p8 q1 q2 q3 q4 q5 q6 q7 q8 r1 r2 r3 r4 r5 : Nat}
variable {n1 n2 n3 n4 n5 n6 n7 n8 m1 m2 m3 m4 m5 m6 m7 m8 k1 k2 k3 k4 k5 k6 k7 k8 j1 j2 j3 j4 j5 : String}
end
end Go.Tb
namespace Go.Ab
open Go.RowKit
section
variable {P : Program} {C : Ctx} {n : Nat}
variable {f : List (Nat × A)} {bx : List (Nat × List A)} {lv : List Nat} {gen : Nat} {ty : TypeId} {pos : String} {af : Array Edge} {dst : Option Nat}
end
end Go.Ab
namespace Go.Ab
open Go.RowKit
def Under (P : Program) [Met P] (w : World) : Prop := ∃ W : World, (W.ShapedOpen P ∧ Met.met P W) ∧ W.heap.size ≤ w.heap.size ∧ ∀ b, b < W.heap.size → w.heap[b]? = W.heap[b]?
theorem Under.cell {P : Program} [Met P] {w : World} (h : Under P w) {b : Nat} (hc : ∀ W : World, W.ShapedOpen P → ∃ m, W.cell? ⟨b, 0, none⟩ = some (.int .i64 m)) : ∃ m, w.cell? ⟨b, 0, none⟩ = some (.int .i64 m) := by
  obtain ⟨W, h1, _, h3⟩ := h
  obtain ⟨m, hm⟩ := hc W h1.1
  have hlt : b < W.heap.size := cellAt_lt (o := 0) hm
  exact ⟨m, (cellAt_same (h3 b hlt) 0).trans hm⟩
end Go.Ab
namespace Go.Ab
open Go.RowKit
theorem Does.of_fresh {P : Program} [Met P] {f : FuncId} {args : List A} {r : A} (ok : FnOK P f)
    (h : ∀ (w : World) (vals : Array Value) (E : En), E.w = w → Under P w → vals.size = args.length → (∀ (i : Nat) (u : Value) (a : A), vals[i]? = some u → args[i]? = some a → Rep E u a) →
      Calls P f vals w fun e w' => ∃ v, e = .returned v ∧ Below w.heap.size w w' ∧ ∀ E' : En, E'.w = w' → (∀ b o, E'.pv b o → b < w.heap.size) → Rep E' v r) :
    Does P f args r 0 := by
  refine ⟨ok, fun C vals w hG hw hp hx hsz hrep => ?_⟩
  have hu : Under P w := by
    obtain ⟨W, h1, h2, h3⟩ := hG.h
    rw [hw] at h2 h3
    exact ⟨W, h1, h2, fun b hb => (h3 b hb).1⟩
  refine (h w vals (enOf C G0 0 w) rfl hu hsz hrep).mono fun e w' ⟨v, h1, hb, hr⟩ => ⟨v, G0, h1, ?_, hr _ rfl (fun b o hpv => hx b o ((pvOf_G0 C b o).1 hpv))⟩
  subst hw
  exact { size := rfl, frame := fun t a ha => by simp [look] at ha, box := fun g cells hc => by simp [look'] at hc, gbox := fun g b hb => by simp [G0] at hb, inj := fun g g' b hb => by simp [G0] at hb,
          live := fun g hg => by simp at hg, gown := fun g r hr => by simp [G0] at hr, row := fun g b len cap sz pub hr => by simp [G0] at hr, mrow := fun g b hr => by simp [G0] at hr, xold := fun b o hb => ⟨hx b o hb, hp.1 b⟩, kold := fun b o hb => absurd hb (hp.2.1 b o),
          lent := fun i b hb => by rw [hp.2.2.1] at hb; simp at hb, fr := ⟨hb.os, hb.tape, hb.output, hb.size, fun b h1 _ => hb.block b h1, fun _ _ _ hb => absurd hb (hp.2.1 _ _), .below hb⟩ }
theorem vals_of {E : En} {xs : List Value} {vals : Array Value} (hsz : vals.size = (xs.map fun x => A.d (.v x)).length)
    (hr : ∀ (i : Nat) (u : Value) (a : A), vals[i]? = some u → (xs.map fun x => A.d (.v x))[i]? = some a → Rep E u a) : vals = xs.toArray ∧ ∀ x ∈ xs, okc x = true := by
  have hv : ∀ (i : Nat) (u x : Value), vals[i]? = some u → xs[i]? = some x → u = x ∧ okc x = true := by
    intro i u x hu' hx'
    have := hr i u (.d (.v x)) hu' (by simp [hx'])
    cases this with | d hd => cases hd with | v _ ho => exact ⟨rfl, ho⟩
  have hsz' : vals.size = xs.length := by simpa using hsz
  refine ⟨Array.ext (by simpa using hsz') (fun i h1 h2 => ?_), fun x hx' => ?_⟩
  · have h2' : i < xs.length := by simpa using h2
    have := (hv i vals[i] xs[i] (by simp [h1]) (by simp [h2'])).1
    simpa using this
  · obtain ⟨i, hi, rfl⟩ := List.mem_iff_getElem.1 hx'
    exact (hv i (vals[i]'(by omega)) xs[i] (by simp [hsz', hi]) (by simp [hi])).2
theorem Does.of_freshV {P : Program} [Met P] {f : FuncId} {xs : List Value} {r : A} (ok : FnOK P f)
    (h : ∀ (w : World), Under P w → (∀ x ∈ xs, okc x = true) → Calls P f xs.toArray w fun e w' => ∃ v, e = .returned v ∧ Below w.heap.size w w' ∧ ∀ E' : En, E'.w = w' → (∀ b o, E'.pv b o → b < w.heap.size) → Rep E' v r) :
    Does P f (xs.map fun x => .d (.v x)) r 0 := by
  refine Does.of_fresh ok fun w vals E _ hu hsz hr => ?_
  obtain ⟨e, ho⟩ := vals_of hsz hr
  rw [e]
  exact h w hu ho
theorem Under.var {P : Program} [Met P] {w : World} (h : Under P w) : ∃ W : World, Met.met P W ∧ ∀ name cs, W.var? P name = some cs → w.var? P name = some cs := by
  obtain ⟨W, h1, _, h3⟩ := h
  refine ⟨W, h1.2, fun name cs hc => ?_⟩
  unfold World.var? at hc ⊢
  cases hg : P.globalNamed name with
  | none => rw [hg] at hc; simp at hc
  | some g =>
    rw [hg] at hc
    simp only [Option.bind_some] at hc ⊢
    rcases Nat.lt_or_ge g W.heap.size with hlt | hge
    · rw [h3 g hlt]; exact hc
    · rw [Array.getElem?_eq_none hge] at hc; simp at hc
def MetNum (P : Program) (W : World) : Prop :=
  W.var? P "internal/strconv.uint64pow10" = some (Lib.pow10Tab.map fun z => Value.int .u64 z).toArray ∧ (∃ t p, W.var? P "strconv.ErrSyntax" = some #[.iface t p]) ∧ ∃ t p, W.var? P "strconv.ErrRange" = some #[.iface t p]
theorem Under.num {P : Program} [Met P] (hm : ∀ W, Met.met P W → MetNum P W) {w : World} (h : Under P w) : MetNum P w := by
  obtain ⟨W, h1, h2⟩ := h.var
  obtain ⟨h3, ⟨t, p, h4⟩, t', p', h5⟩ := hm W h1
  exact ⟨h2 _ _ h3, ⟨t, p, h2 _ _ h4⟩, t', p', h2 _ _ h5⟩
theorem pairRep {E : En} {x y : Value} {a b : A} (ha : Rep E x a) (hb : Rep E y b) : Rep E (.tuple #[x, y]) (.tup [a, b]) :=
  .tup _ _ rfl (fun i u z hu hz => by
    match i, hu, hz with
    | 0, hu, hz =>
      simp only [List.getElem?_toArray, List.getElem?_cons_zero, Option.some.injEq] at hu hz
      subst hu; subst hz
      exact ha
    | 1, hu, hz =>
      simp only [List.getElem?_toArray, List.getElem?_cons_succ, List.getElem?_cons_zero, Option.some.injEq] at hu hz
      subst hu; subst hz
      exact hb
    | i + 2, hu, hz => simp at hz)
section
variable {P : Program} {C : Ctx} {n : Nat}
variable {f : List (Nat × A)} {bx : List (Nat × List A)} {lv : List Nat} {gen : Nat} {ty : TypeId} {pos : String} {af : Array Edge} {dst : Option Nat}
theorem equal_nil (w : World) {t : TypeId} {ms : Array (String × TypeId)} (hu : P.underlying t = some (.interface ms)) : (Op.equal t .nilIface .nilIface).run P w = .ok true w := by
  have h : ∀ d : Nat, (Op.equalIn (d + 1) t .nilIface .nilIface).run P w = .ok true w := fun d => by simp [Op.equalIn, run_underlying hu]
  exact h 9999
theorem equal_ni (w : World) {t u : TypeId} {v : Value} {ms : Array (String × TypeId)} (hu : P.underlying t = some (.interface ms)) : (Op.equal t (.iface u v) .nilIface).run P w = .ok false w := by
  have h : ∀ d : Nat, (Op.equalIn (d + 1) t (.iface u v) .nilIface).run P w = .ok false w := fun d => by simp [Op.equalIn, run_underlying hu]
  exact h 9999
def ifaceB (P : Program) (t : TypeId) : Bool := match P.underlying t with | some (.interface _) => true | _ => false
theorem ifaceB_of {t : TypeId} (h : ifaceB P t = true) : ∃ ms, P.underlying t = some (.interface ms) := by
  unfold ifaceB at h
  split at h
  · rename_i ms hu; exact ⟨ms, hu⟩
  · cases h
theorem nilEq {t t' : Nat} {x : Operand} (hx : av f x = some (.d (.v .nilIface))) (hB : ifaceB P t = true) :
    Pu P C n ⟨f, bx, lv, gen⟩ ⟨dst, .binOp .eql t x (.const .nilIface) t', ty, pos, af, none⟩ (.d (.v (.bool true))) := by
  obtain ⟨ms, hu⟩ := ifaceB_of hB
  refine PuOK.pu fun G tmps w hs => ?_
  have hrx := hs.av hx
  generalize hvx : Act.eval ⟨tmps, []⟩ x = vx at hrx
  cases hrx with | d hrx => cases hrx with | v _ _ =>
  refine ⟨.bool true, ?_, .d (.v _ rfl)⟩
  unfold execOp
  show Sem.run P _ w = _
  have he : (Act.eval ⟨tmps, []⟩ (Operand.const Value.nilIface)) = Value.nilIface := rfl
  simp only [hvx, he, eqGuard, binOp]
  simp [equal_nil w hu]
  rfl
theorem niEq {t t' : Nat} {x : Operand} (hx : av f x = some .ni) (hB : ifaceB P t = true) :
    Pu P C n ⟨f, bx, lv, gen⟩ ⟨dst, .binOp .eql t x (.const .nilIface) t', ty, pos, af, none⟩ (.d (.v (.bool false))) := by
  obtain ⟨ms, hu⟩ := ifaceB_of hB
  refine PuOK.pu fun G tmps w hs => ?_
  have hrx := hs.av hx
  generalize hvx : Act.eval ⟨tmps, []⟩ x = vx at hrx
  cases hrx with | ni t2 x2 =>
  refine ⟨.bool false, ?_, .d (.v _ rfl)⟩
  unfold execOp
  show Sem.run P _ w = _
  have he : (Act.eval ⟨tmps, []⟩ (Operand.const Value.nilIface)) = Value.nilIface := rfl
  simp only [hvx, he, eqGuard, binOp]
  simp [equal_ni w hu]
  rfl
end
end Go.Ab
namespace Go.Ab
open Go
variable {H : Type} {enc : TypeId × Value → H}
theorem returnsInHanded_of_laid {a : Assume} {C : Checked} {os : Os} {f : FuncId} {fn : Func} {s : ChangeSpec} {conds : List PathCond} {apart fresh handsOn again : Bool} {X : World → Array Value → Prop}
    (hX : ∀ (w w' : World) (args : Array Value), w.heap = w'.heap → X w args → X w' args)
    (own : ownKnob C.prog.godebug = none) (started : os.Started) (noInit : C.prog.inits.idxOf? f = none) (hfn : C.prog.funcs[f]? = some fn)
    (witness : ∃ (w : World) (tape : Tape) (i : Input), w.os = os ∧ (w.forCall tape i).Shaped C.prog ∧ i.vars = [] ∧ Input.okWide C.prog (w.forCall tape i) .any w.heap.size f i ∧
      ((s.pre enc C.prog fn conds apart (w.forCall tape i).memory i.args ∧ X (w.forCall tape i).memory i.args) ∧ sizedMet enc C.prog fn (OpenSpec.ofChange s) apart (w.forCall tape i).memory i.args) ∧ a.holds C.prog (lone (Frame.enter C.prog f i.args .normal) [] (w.forCall tape i)))
    (contract : ∀ (W : World) (base : Nat) (args : Array Value) (ds gs : List (DataW H)) (before : List MemPlace),
      (∀ (j : Nat) t v, fn.params[j]? = some t → args[j]? = some v → Value.okWide C.prog W .any base t v) →
      DataW.Whole enc C.prog fn.params.toList s.vars apart W args.toList ds gs before →
      W.ShapedOpen C.prog → X W args →
      Calls C.prog f args W fun e W' => ∃ v, e = .returned v ∧ s.post enc C.prog fn apart fresh handsOn again W args v W') :
    ReturnsInHanded a C os f .any (fun w args => (s.pre enc C.prog fn conds apart w args ∧ X w args) ∧ sizedMet enc C.prog fn (OpenSpec.ofChange s) apart w args) (s.post enc C.prog fn apart fresh handsOn again) := by
  refine returnsInHanded_of_calls own started noInit witness ?_
  intro w tape i _ hsh _ hok hpre hholds
  obtain ⟨_, _, _, fn', hfn', _, _, _, _, hval⟩ := hok
  have e : fn' = fn := Option.some.inj (hfn'.symm.trans hfn)
  subst e
  obtain ⟨⟨⟨ds, gs, before, hw, hc⟩, hx⟩, hz⟩ := hpre
  have hw' := DataW.Whole.of_heap (w' := w.forCall tape i) (by rfl) hw
  refine (contract (w.forCall tape i) w.heap.size i.args ds gs before hval hw' hsh (hX _ _ _ (by rfl) hx)).mono fun e W' ⟨v, he, hp⟩ => ?_
  subst he
  exact ChangeSpec.post_blind hp
theorem witness_laid {C : Checked} {os : Os} {f : FuncId} {fn : Func} {s : ChangeSpec} {conds : List PathCond} {apart : Bool} {laid : List (String × DataW Unit)} (modest : Bool) (args : Array Value) (fuel : Nat)
    (hv : ((World.laidAll C.prog os laid).forCall (fun _ _ => 0) ⟨#[], args, []⟩).variablesZipB C.prog = true)
    (hr : (((World.laidAll C.prog os laid).forCall (fun _ _ => 0) ⟨#[], args, []⟩).heap.toList.drop C.prog.globals.size).take ((begin C.prog (fun _ _ => 0) default).world.heap.size - C.prog.globals.size) =
      (begin C.prog (fun _ _ => 0) default).world.heap.toList.drop C.prog.globals.size)
    (hf : (World.holding C.prog os ⟨#[], #[], []⟩).layFits C.prog laid [] = true)
    (hi : (World.holding C.prog os ⟨#[], #[], []⟩).layIfaces C.prog laid (World.laidAll C.prog os laid) = true)
    (hok : Input.okWideB C.prog ((World.laidAll C.prog os laid).forCall (fun _ _ => 0) ⟨#[], args, []⟩) f ⟨#[], args, []⟩ = true)
    (hpre : s.preB enc C.prog fn conds apart ((World.laidAll C.prog os laid).forCall (fun _ _ => 0) ⟨#[], args, []⟩).memory args fuel = true)
    (hsz : s.sizedB enc C.prog fn apart ((World.laidAll C.prog os laid).forCall (fun _ _ => 0) ⟨#[], args, []⟩).memory args fuel = true) :
    ∃ (w : World) (tape : Tape) (i : Input), w.os = os ∧ (w.forCall tape i).Shaped C.prog ∧ i.vars = [] ∧ Input.okWide C.prog (w.forCall tape i) .any w.heap.size f i ∧
      ((s.pre enc C.prog fn conds apart (w.forCall tape i).memory i.args ∧ laidMet C.prog laid (w.forCall tape i).memory) ∧ sizedMet enc C.prog fn (OpenSpec.ofChange s) apart (w.forCall tape i).memory i.args) ∧ ({ modest := modest } : Assume).holds C.prog (lone (Frame.enter C.prog f i.args .normal) [] (w.forCall tape i)) :=
  ⟨World.laidAll C.prog os laid, fun _ _ => 0, ⟨#[], args, []⟩, World.laidAll_os _ _ _, World.shaped_of_ZipB hv hr, (Input.okWide_of_okWideB (base := 0) hok).1, (Input.okWide_of_okWideB hok).2, ⟨⟨ChangeSpec.pre_of_preB hpre, laidMet_laidAll args hf hi⟩, sizedMet_of_sizedB hsz⟩, by
    simp only [Assume.holds]
    exact ⟨by simp, by simp, fun _ => Modest.zero, by simp, by simp⟩⟩
theorem iface_var {P : Program} {W : World} {l : List (String × DataW Unit)} (h : laidMet P l W) {n nm : String} {d : DataW Unit} (hm : (n, .iface nm d) ∈ l) {ti : TypeId}
    (hg : ((P.globalNamed n).bind fun g => (P.globals[g]?).map (·.type)) = some ti) (hi : ifaceB P ti = true) : ∃ t p, W.var? P n = some #[.iface t p] := by
  obtain ⟨ms, hi⟩ := ifaceB_of hi
  obtain ⟨g, t, cs, fuel, p, h1, h2, h3, h4⟩ := Lib.laidMet.reads h hm
  rw [h1] at hg
  simp only [Option.bind_some] at hg
  rw [h2] at hg
  simp only [Option.some.injEq] at hg
  subst hg
  obtain ⟨f1, u, v, hcs, _⟩ := iface_of_trod hi h4
  refine ⟨u, v, h3.trans ?_⟩
  rw [show cs = #[.iface u v] from by rw [← Array.toArray_toList (xs := cs), hcs]]
theorem tab_var {P : Program} {W : World} {l : List (String × DataW Unit)} (h : laidMet P l W) {n : String} {k : IntKind} {zs : List Int} {d : DataW Unit} (hm : (n, d) ∈ l) (hd : d = Lib.tabData k zs) {t e : TypeId} {m : Nat}
    (hg : ((P.globalNamed n).bind fun g => (P.globals[g]?).map (·.type)) = some t) (ht : P.underlying t = some (.array m e)) (he : P.underlying e = some (.int k)) (hce : P.cellsOf e = 1) (hct : P.cellsOf t = m) :
    W.var? P n = some (zs.map fun z => Value.int k z).toArray := by
  subst hd
  obtain ⟨g, t', cs, fuel, p, h1, h2, h3, h4⟩ := Lib.laidMet.reads h hm
  rw [h1] at hg
  simp only [Option.bind_some] at hg
  rw [h2] at hg
  simp only [Option.some.injEq] at hg
  subst hg
  rw [h3, ← Lib.cells_of_tab ht he hce hct h4]
theorem metNum_of {P : Program} {W : World} {l : List (String × DataW Unit)} (h : laidMet P l W) {d : DataW Unit} (h1 : ("internal/strconv.uint64pow10", d) ∈ l) (hd : d = Lib.tabData .u64 Lib.pow10Tab) {t e : TypeId} {m : Nat}
    (hg : ((P.globalNamed "internal/strconv.uint64pow10").bind fun g => (P.globals[g]?).map (·.type)) = some t) (ht : P.underlying t = some (.array m e)) (he : P.underlying e = some (.int .u64)) (hce : P.cellsOf e = 1) (hct : P.cellsOf t = m)
    {nm nm' : String} {d1 d2 : DataW Unit} (h2 : ("strconv.ErrSyntax", .iface nm d1) ∈ l) (h3 : ("strconv.ErrRange", .iface nm' d2) ∈ l) {ti : TypeId}
    (hg1 : ((P.globalNamed "strconv.ErrSyntax").bind fun g => (P.globals[g]?).map (·.type)) = some ti) (hg2 : ((P.globalNamed "strconv.ErrRange").bind fun g => (P.globals[g]?).map (·.type)) = some ti) (hi : ifaceB P ti = true) : MetNum P W :=
  ⟨tab_var h h1 hd hg ht he hce hct, iface_var h h2 hg1 hi, iface_var h h3 hg2 hi⟩
end Go.Ab
namespace Go.Tb
open Go.Ab
theorem puS {P : Program} {C : Ctx} {n : Nat} {st : St} {o : Oper} {x y : ByteArray} (h : Pu P C n st o (.d (.v (.string x)))) (e : x = y) : Pu P C n st o (.d (.v (.string y))) := e ▸ h
def digB (u : Nat) : List UInt8 := Lib.decDigits u
theorem digB_small {u : Nat} (h : u < 10) : digB u = [UInt8.ofNat (48 + u)] := by unfold digB; rw [Lib.decDigits, dif_pos h]
theorem digB_big {u : Nat} (h : ¬ u < 10) : digB u = digB (u / 10) ++ [UInt8.ofNat (48 + u % 10)] := by unfold digB; rw [Lib.decDigits, dif_neg h]
theorem digB_ind {p : Nat → Prop} (h1 : ∀ u, u < 10 → p u) (h2 : ∀ u, ¬ u < 10 → p (u / 10) → p u) : ∀ u, p u := by
  intro u
  induction u using Nat.strongRecOn with
  | _ u ih =>
    by_cases h : u < 10
    · exact h1 u h
    · exact h2 u h (ih _ (by omega))
theorem dig_nat {d : Nat} (h : d < 10) : (UInt8.ofNat (48 + d)).toNat = 48 + d := by
  rw [UInt8.toNat_ofNat']
  omega
def isDig (b : UInt8) : Bool := decide (48 ≤ b.toNat) && decide (b.toNat ≤ 57)
theorem digB_dig : ∀ u, ∀ b ∈ digB u, isDig b = true := by
  refine digB_ind (fun u h b hb => ?_) (fun u h ih b hb => ?_)
  · rw [digB_small h] at hb
    simp only [List.mem_singleton] at hb
    subst hb
    simp only [isDig, dig_nat h, Bool.and_eq_true, decide_eq_true_eq]
    omega
  · rw [digB_big h] at hb
    rcases List.mem_append.1 hb with hb | hb
    · exact ih b hb
    · simp only [List.mem_singleton] at hb
      subst hb
      simp only [isDig, dig_nat (Nat.mod_lt u (show 0 < 10 by decide)), Bool.and_eq_true, decide_eq_true_eq]
      omega
theorem digB_ne (u : Nat) : digB u ≠ [] := by
  by_cases h : u < 10
  · rw [digB_small h]; simp
  · rw [digB_big h]; simp
def accD (n : Nat) (l : List UInt8) : Nat := l.foldl (fun n b => if isDig b then 10 * n + (b.toNat - 48) else n) n
theorem accD_append (n : Nat) (a b : List UInt8) : accD n (a ++ b) = accD (accD n a) b := List.foldl_append ..
theorem accD_digB : ∀ u, accD 0 (digB u) = u := by
  refine digB_ind (fun u h => ?_) (fun u h ih => ?_)
  · rw [digB_small h]
    have h0 := digB_dig u (UInt8.ofNat (48 + u)) (by rw [digB_small h]; simp)
    simp only [accD, List.foldl_cons, List.foldl_nil, h0, if_true, dig_nat h]
    omega
  · have h0 := digB_dig u (UInt8.ofNat (48 + u % 10)) (by rw [digB_big h]; simp)
    rw [digB_big h, accD_append, ih]
    simp only [accD, List.foldl_cons, List.foldl_nil, h0, if_true, dig_nat (Nat.mod_lt u (show 0 < 10 by decide))]
    omega
theorem digB_len : ∀ u k, u < 10 ^ (k + 1) → (digB u).length ≤ k + 1 := by
  refine digB_ind (fun u h k _ => ?_) (fun u h ih k hk => ?_)
  · rw [digB_small h]; simp
  · rw [digB_big h]
    simp only [List.length_append, List.length_singleton]
    match k, hk with
    | 0, hk => simp at hk; omega
    | k + 1, hk =>
      have := ih k (by rw [Nat.pow_succ] at hk; omega)
      omega
def numB (n : Int) : ByteArray := ⟨(Lib.itoa n).toArray⟩
theorem numB_neg {n : Int} (h : n < 0) : Lib.itoa n = 45 :: digB n.natAbs := by unfold Lib.itoa digB; rw [if_pos h]
theorem numB_pos {n : Int} (h : 0 ≤ n) : Lib.itoa n = digB n.toNat := by unfold Lib.itoa digB; rw [if_neg (by omega)]
theorem numB_data (n : Int) : (numB n).data.toList = Lib.itoa n := rfl
/-! what strconv.Atoi says of a numeral -/
theorem parse_digits : ∀ (u : Nat), u < 18446744073709551616 → ∀ (l : List UInt8), Lib.parseUint10 0 (digB u ++ l) = Lib.parseUint10 u l := by
  refine digB_ind (fun u h hu l => ?_) (fun u h ih hu l => ?_)
  · rw [digB_small h]
    have h1 := dig_nat h
    simp only [List.singleton_append, Lib.parseUint10, h1]
    rw [if_pos (by omega), if_neg (by omega), if_neg (by omega)]
    congr 1
    omega
  · rw [digB_big h, List.append_assoc, ih (by omega)]
    have h1 := dig_nat (Nat.mod_lt u (show 0 < 10 by decide))
    simp only [List.singleton_append, Lib.parseUint10, h1]
    rw [if_pos (by omega), if_neg (by omega), if_neg (by omega)]
    congr 1
    omega
theorem parseMag_digits {u : Nat} (h : u < 18446744073709551616) : Lib.parseMag (digB u) = .ok u := by
  unfold Lib.parseMag
  rw [if_neg (digB_ne u)]
  have := parse_digits u h []
  rw [List.append_nil] at this
  exact this
theorem atoi_itoa {n : Int} (h0 : -9223372036854775808 ≤ n) (h1 : n ≤ 9223372036854775807) : Lib.atoiAll (Lib.itoa n) = .ok n := by
  rcases Int.lt_or_le n 0 with hn | hn
  · rw [numB_neg hn, Lib.atoiAll_minus, parseMag_digits (by omega)]
    simp only [Lib.signed]
    rw [if_neg (by omega)]
    congr 1
    omega
  · rw [numB_pos hn]
    obtain ⟨c, r, hc⟩ : ∃ c r, digB n.toNat = c :: r := by
      cases hd : digB n.toNat with
      | nil => exact absurd hd (digB_ne _)
      | cons c r => exact ⟨c, r, rfl⟩
    have hdig := digB_dig n.toNat c (by rw [hc]; simp)
    simp only [isDig, Bool.and_eq_true, decide_eq_true_eq] at hdig
    have hm := parseMag_digits (u := n.toNat) (by omega)
    rw [hc] at hm ⊢
    rw [Lib.atoiAll_plain c r (by omega) (by omega), hm]
    simp only [Lib.signless]
    rw [if_neg (by omega)]
    congr 1
    omega
def numP (s : ByteArray) : Int × Bool :=
  match Lib.atoiAll s.data.toList with
  | .ok v => if inR v = true ∧ numB v = s then (v, true) else (0, false)
  | _ => (0, false)
theorem numP_num {n : Int} (h : inR n = true) : numP (numB n) = (n, true) := by
  have h' := h
  simp only [inR, Bool.and_eq_true, decide_eq_true_eq] at h'
  unfold numP
  rw [numB_data, atoi_itoa (by omega) (by omega)]
  simp only [h, true_and, if_true]
theorem numP_some {s : ByteArray} {v : Int} (h : numP s = (v, true)) : inR v = true ∧ s = numB v := by
  unfold numP at h
  split at h
  · split at h
    · rename_i hc
      simp only [Prod.mk.injEq, and_true] at h
      subst h
      exact ⟨hc.1, hc.2.symm⟩
    · simp at h
  · simp at h
theorem numP_none {s : ByteArray} (h : ∀ v, inR v = true → s ≠ numB v) : numP s = (0, false) := by
  cases hp : numP s with
  | mk v b =>
    cases b with
    | true => exact absurd (numP_some hp).2 (h v (numP_some hp).1)
    | false =>
      unfold numP at hp
      split at hp
      · split at hp
        · simp at hp
        · simp only [Prod.mk.injEq, and_true] at hp; rw [← hp]
      · simp only [Prod.mk.injEq, and_true] at hp; rw [← hp]
end Go.Tb
namespace Go.Tb
open Go.Ab
def ofL (l : List UInt8) : ByteArray := ⟨l.toArray⟩
end Go.Tb
namespace Go.Tb
open Go.Ab
structure Ev where
  time : Int
  kind : Int
  name : ByteArray
  n : Int
  m : Int
  stack : List ByteArray
@[reducible] def txs (l : List ByteArray) : List (List D) := l.map sc
@[reducible] def Ev.c (e : Ev) : List D := [ci e.time, ci e.kind, cs e.name, ci e.n, ci e.m, .sl (txs e.stack)]
structure Frm where
  word : ByteArray
  name : Bool
  n : Bool
  m : Bool
  stack : Bool
  least : Int
  most : Int
  mLeast : Int
  mMost : Int
@[reducible] def Frm.c (f : Frm) : List D := [cs f.word, .v (.bool f.name), .v (.bool f.n), .v (.bool f.m), .v (.bool f.stack), ci f.least, ci f.most, ci f.mLeast, ci f.mMost]
/-! the reference's way -/
theorem kinds {k : Int} (h1 : 1 ≤ k) (h2 : k < 13) : k = 1 ∨ k = 2 ∨ k = 3 ∨ k = 4 ∨ k = 5 ∨ k = 6 ∨ k = 7 ∨ k = 8 ∨ k = 9 ∨ k = 10 ∨ k = 11 ∨ k = 12 := by omega
end Go.Tb
namespace Go.Tb
open Go.Ab
section
variable {P : Program} {T : Tab P} {l : List D}
variable {te ti tk ts tsl o1 o2 o3 o4 o5 o6 : Nat} {n1 n2 n3 n4 n5 n6 : String}
end
end Go.Tb
namespace Go.Ab
open Go.RowKit
theorem set_same {tmps : Array Value} {d : Nat} {v : Value} (h : tmps[d]? = some v) : tmps.setIfInBounds d v = tmps := by
  apply Array.ext_getElem?
  intro i
  rw [Array.getElem?_setIfInBounds]
  split
  · rename_i e
    subst e
    split
    · exact h.symm
    · rename_i hlt; exact absurd (Array.getElem?_eq_some_iff.1 h).1 hlt
  · rfl
section
variable {C : Ctx} {n : Nat} {st : St} {G : Gh} {tmps : Array Value} {w : World}
theorem RowX.len (hs : SimG C n st G tmps w) {g : Nat} {r : Row} (hg : G.own g = some r) {pv : Nat → Nat → Prop} {v : Value} {es : List (List D)} (h : RowX w pv r v es) :
    ∃ a cap, v = .slice a es.length cap ∧ es.length ≤ cap ∧ es.length ≤ maxLen := by
  cases r with
  | nil => obtain ⟨rfl, rfl⟩ := h; exact ⟨none, 0, rfl, Nat.le_refl _, by simp⟩
  | zero b => obtain ⟨rfl, rfl⟩ := h; exact ⟨_, 0, rfl, Nat.le_refl _, by simp⟩
  | mp b => exact h.elim
  | blk b len cap sz pub =>
    obtain ⟨rfl, h2, _⟩ := h
    obtain ⟨_, _, _, _, _, _, _, h3, h4, _⟩ := hs.row g b len cap sz pub hg
    exact ⟨_, cap, by rw [h2], by omega, by omega⟩
end
section
variable {P : Program} (T : Tab P) {C : Ctx} {n : Nat} {tmps : Array Value} {w : World} {G : Gh} {ops : Array Oper} {Q : Exit → St → Prop} {st : St} {o : Oper} {rest : List Oper}
theorem SimG.boxCell {st' : St} {G' : Gh} {w' : World} (hs : SimG C n st G tmps w) (hs' : SimG C n st' G' tmps w') (hbx : st'.bx = st.bx) (hG : G'.box = G.box) {g0 i : Nat} {cells : List A} (hb : look' st.bx g0 = some cells) {v : Value}
    (hold : ∀ b cs T, G.box g0 = some b → w.heap[b]? = some (.cells cs T (0, 0)) → cs[i]? = some v) (hstay : ∀ b, G.box g0 = some b → w'.heap[b]? = w.heap[b]?) {a' : A} (hr : Rep (enOf C G' st'.gen w') v a') :
    SimG C n { st' with bx := (g0, cells.set i a') :: st'.bx } G' tmps w' := by
  refine { hs' with box := fun g' c hc => ?_ }
  simp only [look'_cons] at hc
  split at hc
  · rename_i e
    subst e
    simp only [Option.some.injEq] at hc
    subst hc
    obtain ⟨b, cs, T, h1, h2, h3, h4, h5⟩ := hs'.box g0 cells (by rw [hbx]; exact hb)
    have h1' : G.box g0 = some b := by rw [← hG]; exact h1
    have h6 := hold b cs T h1' (by rw [← hstay b h1']; exact h2)
    refine ⟨b, cs, T, h1, h2, by simpa using h3, h4, fun k u a hu ha => ?_⟩
    rw [List.getElem?_set] at ha
    split at ha
    · rename_i e
      subst e
      split at ha
      · simp only [Option.some.injEq] at ha
        subst ha
        rw [h6] at hu
        simp only [Option.some.injEq] at hu
        subst hu
        exact hr
      · cases ha
    · exact h5 k u a hu ha
  · exact hs'.box g' c hc
end
end Go.Ab
namespace Go.Ab
section
variable {P : Program} {C : Ctx} {n : Nat} {Q : Exit → St → Prop} {c : Code} {f : List (Nat × A)} {bx : List (Nat × List A)} {lv : List Nat} {gen : Nat}
theorem RepD.elem {w : World} {pv : Nat → Nat → Prop} {v : Value} {es : List (List D)} (h : RepD w pv v (.sl es)) {k j : Nat} {e : List D} {x : Value} (he : es[k]? = some e) (hx : e[j]? = some (.v x)) : okc x = true := by
  cases h with
  | nil => simp at he
  | emp => simp at he
  | sl b off len cap sz es u hl hc hm hs hu hr =>
    have := hr k j e _ he hx
    generalize u k j = y at this
    cases this with | v _ ho => exact ho
theorem W.elem (t : Nat) {a : A} {es : List (List D)} {k j : Nat} {e : List D} {x : Value} (hl : look f t = some a) (hes : slOf a = some es) (he : es[k]? = some e) (hx : e[j]? = some (.v x)) (h : okc x = true → W P C n c Q ⟨f, bx, lv, gen⟩) : W P C n c Q ⟨f, bx, lv, gen⟩ := by
  intro tmps w ⟨G, hs⟩
  obtain ⟨v, hv, hr⟩ := hs.frame t a hl
  exact h ((slOf_rep hes hr).elem he hx) tmps w ⟨G, hs⟩
theorem W.elems {α : Type} {fn : α → List D} {p : α → Value} (t j : Nat) {a : A} {l : List α} (hl : look f t = some a) (hes : slOf a = some (l.map fn)) (hx : ∀ a, (fn a)[j]? = some (.v (p a))) (h : (∀ a ∈ l, okc (p a) = true) → W P C n c Q ⟨f, bx, lv, gen⟩) : W P C n c Q ⟨f, bx, lv, gen⟩ := by
  intro tmps w ⟨G, hs⟩
  obtain ⟨v, hv, hr⟩ := hs.frame t a hl
  refine h (fun a ha => ?_) tmps w ⟨G, hs⟩
  obtain ⟨i, hi⟩ := List.mem_iff_getElem?.1 ha
  exact (slOf_rep hes hr).elem (idx_map hi) (hx a)
theorem nilBox (g j : Nat) {cells cells' : List A} (hb : look' bx g = some cells) (hj : cells[j]? = some (.d (.v (.slice none 0 0)))) (hc : cells.set j (.d (.sl [])) = cells') (h : W P C n c Q ⟨f, (g, cells') :: bx, lv, gen⟩) : W P C n c Q ⟨f, bx, lv, gen⟩ := by
  subst hc
  intro tmps w ⟨G, hs⟩
  refine h tmps w ⟨G, SimG.reBox hs hb (by simp) (fun i u a a' ha ha' hr => ?_)⟩
  rw [List.getElem?_set] at ha'
  split at ha'
  · rename_i e
    subst e
    rw [hj] at ha
    simp only [Option.some.injEq] at ha
    subst ha
    split at ha'
    · simp only [Option.some.injEq] at ha'
      subst ha'
      cases hr with | d hr => cases hr with | v _ _ => exact .d .nil
    · cases ha'
  · rw [ha] at ha'
    simp only [Option.some.injEq] at ha'
    subst ha'
    exact hr
end
end Go.Ab
namespace Go.Ab
open Go.RowKit
section
variable {P : Program} (T : Tab P) {C : Ctx} {n : Nat} {ops : Array Oper} {Q : Exit → St → Prop} {rest : List Oper}
variable {f : List (Nat × A)} {bx : List (Nat × List A)} {lv : List Nat} {gen : Nat} {d : Nat} {op : Op} {ty : TypeId} {pos : String} {af : Array Edge} {a : A} {dst : Option Nat} {c : Code}
theorem memAny {lv : List Nat} {g : Nat} (h : (lv.any fun h => Nat.beq h g) = true) : g ∈ lv := by
  obtain ⟨g', h1, h2⟩ := List.any_eq_true.1 h
  have : g' = g := Nat.eq_of_beq_eq_true h2
  exact this ▸ h1
theorem nilO (s : Nat) {a a' : A} {l : List Oper} (hl : look f s = some a) (hsn : Nat.blt s n = true) (ha : Ab.nilA a = a') (h : WO P C n ops Q l ⟨(s, a') :: f, bx, lv, gen⟩) : WO P C n ops Q l ⟨f, bx, lv, gen⟩ := by
  subst ha
  intro tmps w ⟨G, hs⟩
  obtain ⟨v, hv, hr⟩ := hs.frame s _ hl
  refine h tmps w ⟨G, ?_⟩
  have := hs.set (d := s) (Nat.le_of_ble_eq_true hsn) hr.nilA
  rwa [set_same hv] at this
theorem SimG.cellAt {st : St} {G : Gh} {tmps : Array Value} {w : World} (hs : SimG C n st G tmps w) {g0 i : Nat} {cells : List A} (hb : look' st.bx g0 = some cells) {x : A} (hi : cells[i]? = some x) :
    ∃ v, Rep (enOf C G st.gen w) v x ∧ ∀ b cs T', G.box g0 = some b → w.heap[b]? = some (.cells cs T' (0, 0)) → cs[i]? = some v := by
  obtain ⟨b, cs, T', h1, h2, h3, _, h5⟩ := hs.box g0 cells hb
  have hlt : i < cs.size := by rw [h3]; exact (List.getElem?_eq_some_iff.1 hi).1
  have hv : cs[i]? = some cs[i] := by simp [hlt]
  refine ⟨cs[i], h5 i _ x hv hi, fun b' cs' T2 h1' h2' => ?_⟩
  have e : b' = b := Option.some.inj (h1'.symm.trans h1)
  subst e
  have e2 := Option.some.inj (h2'.symm.trans h2)
  injection e2 with e3 _ _
  rw [e3]
  exact hv
end
end Go.Ab
namespace Go.Ab
open Go.MapKept
section
variable {α β : Type} [DecidableEq α]
def mput : List (α × β) → α → β → List (α × β)
  | [], a, b => [(a, b)]
  | p :: r, a, b => if p.1 = a then (a, b) :: r else p :: mput r a b
def mget (l : List (α × β)) (a : α) : Option β := (l.find? fun p => decide (p.1 = a)).map (·.2)
theorem mget_cons (p : α × β) (r : List (α × β)) (a : α) : mget (p :: r) a = if p.1 = a then some p.2 else mget r a := by
  unfold mget
  rw [List.find?_cons]
  by_cases h : p.1 = a <;> simp [h]
theorem mput_new {l : List (α × β)} {a : α} (h : ∀ p ∈ l, p.1 ≠ a) (b : β) : mput l a b = l ++ [(a, b)] := by
  induction l with
  | nil => rfl
  | cons p r ih => simp only [mput]; rw [if_neg (h p (by simp)), ih (fun q hq => h q (by simp [hq]))]; rfl
theorem mget_new {l : List (α × β)} {a : α} (h : ∀ p ∈ l, p.1 ≠ a) : mget l a = none := by
  induction l with
  | nil => rfl
  | cons p r ih => rw [mget_cons, if_neg (h p (by simp)), ih (fun q hq => h q (by simp [hq]))]
theorem mput_at {l : List (α × β)} (hn : (l.map (·.1)).Nodup) {j : Nat} {p : α × β} (h : l[j]? = some p) (b : β) : mput l p.1 b = l.set j (p.1, b) := by
  induction l generalizing j with
  | nil => simp at h
  | cons q r ih =>
    rw [List.map_cons, List.nodup_cons] at hn
    cases j with
    | zero => simp at h; subst h; simp [mput]
    | succ j =>
      have h' : r[j]? = some p := by simpa using h
      have hne : q.1 ≠ p.1 := fun e => hn.1 (by rw [e]; exact List.mem_map_of_mem (List.mem_of_getElem? h'))
      simp only [mput]
      rw [if_neg hne, ih hn.2 h']
      rfl
theorem mget_at {l : List (α × β)} (hn : (l.map (·.1)).Nodup) {j : Nat} {p : α × β} (h : l[j]? = some p) : mget l p.1 = some p.2 := by
  induction l generalizing j with
  | nil => simp at h
  | cons q r ih =>
    rw [List.map_cons, List.nodup_cons] at hn
    rw [mget_cons]
    cases j with
    | zero => simp at h; subst h; simp
    | succ j =>
      have h' : r[j]? = some p := by simpa using h
      have hne : q.1 ≠ p.1 := fun e => hn.1 (by rw [e]; exact List.mem_map_of_mem (List.mem_of_getElem? h'))
      rw [if_neg hne, ih hn.2 h']
def mes (kf : α → Value) (vf : β → D) (l : List (α × β)) : List (Value × List D) := l.map fun p => (kf p.1, [vf p.2])
end
structure KeyT (P : Program) (k : TypeId) {α : Type} (kf : α → Value) : Prop where
  ty : ∃ d, P.underlying k = some d ∧ ∀ a, IsKey d (kf a)
  inj : ∀ a b, kf a = kf b → a = b
abbrev sk (s : ByteArray) : Value := .string s
theorem keyStr {P : Program} {k : TypeId} (h : P.underlying k = some .string) : KeyT P k sk := ⟨⟨_, h, fun _ => trivial⟩, fun _ _ h => by cases h; rfl⟩
def MeIs {α β : Type} (w : World) (pv : Nat → Nat → Prop) (kf : α → Value) (vf : β → D) (me : Array MapEntry) (l : List (α × β)) : Prop :=
  me.size = l.length ∧ ∀ (i : Nat) (m : MapEntry) (p : α × β), me[i]? = some m → l[i]? = some p → m.key = kf p.1 ∧ okc (kf p.1) = true ∧ RepD w pv m.val (vf p.2)
theorem MeIs.of {α β : Type} {w : World} {pv : Nat → Nat → Prop} {kf : α → Value} {vf : β → D} {b : Nat} {v : Value} {l : List (α × β)} (h : RowM w pv (.mp b) v (mes kf vf l)) : v = .map (some b) ∧ ∃ me clock, w.heap[b]? = some (.map me clock) ∧ MeIs w pv kf vf me l := by
  obtain ⟨h1, me, clock, h2, h3, h4⟩ := h
  refine ⟨h1, me, clock, h2, by rw [h3]; simp [mes], fun i m p hm hp => ?_⟩
  obtain ⟨h5, h6, h7⟩ := h4 i m (kf p.1) [vf p.2] hm (by simp [mes, hp])
  exact ⟨h5, h6, h7⟩
theorem MeIs.to {α β : Type} {w : World} {pv : Nat → Nat → Prop} {kf : α → Value} {vf : β → D} {b : Nat} {me : Array MapEntry} {clock : Nat} {l : List (α × β)} (h1 : w.heap[b]? = some (.map me clock)) (h : MeIs w pv kf vf me l) : RowM w pv (.mp b) (.map (some b)) (mes kf vf l) := by
  refine ⟨rfl, me, clock, h1, by rw [h.1]; simp [mes], fun i m k l' hm hk => ?_⟩
  simp only [mes, List.getElem?_map, Option.map_eq_some_iff] at hk
  obtain ⟨p, hp, e⟩ := hk
  simp only [Prod.mk.injEq] at e
  obtain ⟨rfl, rfl⟩ := e
  obtain ⟨h5, h6, h7⟩ := h.2 i m p hm hp
  exact ⟨h5, h6, h7⟩
end Go.Ab
namespace Go.Ab
open Go.RowKit Go.MapKept
section
variable {C : Ctx} {n : Nat} {st : St} {G : Gh} {tmps : Array Value} {w : World}
theorem SimG.newMap (h : SimG C n st G tmps w) : ∃ G', SimG C n { st with lv := st.gen :: st.lv, gen := st.gen + 1 } G' tmps (w.alloc (.map #[] 0)) ∧
    Rep (enOf C G' (st.gen + 1) (w.alloc (.map #[] 0))) (.map (some w.heap.size)) (.mp st.gen []) := by
  let own' : Nat → Option Row := fun g => if g = st.gen then some (.mp w.heap.size) else G.own g
  have hb : Below w.heap.size w (w.alloc (.map #[] 0)) := (Below.refl _ w).alloc (Nat.le_refl _) _
  have hnew : (w.alloc (.map #[] 0)).heap[w.heap.size]? = some (.map #[] 0) := heap_alloc_new w _
  obtain ⟨_, hs'⟩ := h.grow hb own' (st.gen + 1) (st.gen :: st.lv) (Nat.le_succ _) (fun g r hg hr => by simpa [own', Nat.ne_of_lt hg] using hr)
    (fun g r hr => by
      simp only [own'] at hr
      split at hr
      · omega
      · exact Nat.lt_succ_of_lt (h.gown g r hr))
    (fun g hg => by
      rcases List.mem_cons.1 hg with rfl | hg
      · exact ⟨_, by simp [own']; rfl⟩
      · obtain ⟨r, hr⟩ := h.live g hg
        exact ⟨r, by simp only [own', if_neg (Nat.ne_of_lt (h.gown g r hr))]; exact hr⟩)
    (fun g b len cap sz pub hg hr => by
      simp only [own'] at hr
      split at hr
      · cases hr
      · exact absurd (h.gown g _ hr) (by omega))
    (fun g b hg hr => by
      simp only [own'] at hr
      split at hr
      · simp only [Option.some.injEq, Row.mp.injEq] at hr
        subst hr
        refine ⟨Nat.le_refl _, fun g' hg' => ?_, #[], 0, hnew⟩
        simp only [own'] at hg'
        split at hg'
        · omega
        · obtain ⟨_, _, _, me, clock, h3⟩ := h.mrow g' _ hg'
          have := (Array.getElem?_eq_some_iff.1 h3).1
          omega
      · exact absurd (h.gown g _ hr) (by omega))
  refine ⟨⟨G.box, own'⟩, hs', .mp _ _ _ (by simp [enOf]) rfl (fun r hr => ?_)⟩
  have hr2 : own' st.gen = some r := hr
  simp only [own', if_true, Option.some.injEq] at hr2
  subst hr2
  exact ⟨rfl, #[], 0, hnew, rfl, by simp⟩
theorem SimG.putMap (h : SimG C n st G tmps w) {g b : Nat} (hg : G.own g = some (.mp b)) (me : Array MapEntry) (clock : Nat) {es : List (Value × List D)} (hme : me.size = es.length)
    (hent : ∀ (i : Nat) (m : MapEntry) (k : Value) (l : List D), me[i]? = some m → es[i]? = some (k, l) → m.key = k ∧ okc k = true ∧ RepV w (pvOf C G) m.val l) (lv : List Nat) (hlv : ∀ g' ∈ lv, g' ∈ st.lv ∧ g' ≠ g) :
    ∃ G' : Gh, G'.box = G.box ∧ SimG C n { st with lv := st.gen :: lv, gen := st.gen + 1 } G' tmps { w with heap := w.heap.setIfInBounds b (.map me clock) } ∧
      Rep (enOf C G' (st.gen + 1) { w with heap := w.heap.setIfInBounds b (.map me clock) }) (.map (some b)) (.mp st.gen es) := by
  obtain ⟨hmine, hnb, huniq, me0, clock0, hcur⟩ := h.mrow g b hg
  have hnb2 : ∀ g' len cap sz pub, G.own g' ≠ some (.blk b len cap sz pub) := fun g' len cap sz pub e => by
    obtain ⟨_, _, _, cur, T, h4, _⟩ := h.row g' b len cap sz pub e
    rw [hcur] at h4
    cases h4
  obtain ⟨hnew, hoth⟩ := heap_set (o' := Obj.map me clock) hcur
  let own' : Nat → Option Row := fun g' => if g' = st.gen then some (.mp b) else if g' = g then none else G.own g'
  generalize hw' : ({ w with heap := w.heap.setIfInBounds b (.map me clock) } : World) = w'
  have e1 : w'.heap = w.heap.setIfInBounds b (.map me clock) := by rw [← hw']
  have e2 : w'.os = w.os := by rw [← hw']
  have e3 : w'.tape = w.tape := by rw [← hw']
  have e4 : w'.output = w.output := by rw [← hw']
  rw [← e1] at hnew hoth
  have hsz : w'.heap.size = w.heap.size := by rw [e1]; simp
  have hnocell : ∀ o, Ab.cellAt w b o = none := fun o => by simp [Ab.cellAt, World.cell?, hcur]
  have hcell : ∀ b' o u, Ab.cellAt w b' o = some u → Ab.cellAt w' b' o = some u := fun b' o u hu => by
    have hne : b' ≠ b := fun e => by subst e; rw [hnocell] at hu; cases hu
    rw [cellAt_same (hoth b' hne)]; exact hu
  have htk : TyKept w w' := fun b' cs T f h => ⟨cs, f, by rw [hoth b' (fun e => by rw [e, hcur] at h; cases h)]; exact h⟩
  have hgl := h.gown g _ hg
  have hpv : ∀ b' o, pvOf C ⟨G.box, own'⟩ b' o → pvOf C G b' o := by
    rintro b' o (hp | hp | ⟨g', len', cap', sz', pub', hp, hl'⟩)
    · exact .inl hp
    · exact .inr (.inl hp)
    · simp only [own'] at hp
      split at hp
      · cases hp
      · split at hp
        · cases hp
        · exact .inr (.inr ⟨g', len', cap', sz', pub', hp, hl'⟩)
  have hfr : Fr C w' := ⟨e2.trans h.fr.os, e3.trans h.fr.tape, e4.trans h.fr.output, by rw [hsz]; exact h.fr.size, fun b' h1 h2 => by
    rw [hoth b' (fun e => by subst e; exact hmine.1.elim (fun hm => by omega) h2)]; exact h.fr.block b' h1 h2, fun b' o u hk hu => hcell b' o u (h.fr.cells b' o u hk hu), h.fr.ty.trans htk⟩
  have hold : ∀ g' r', g' < st.gen → own' g' = some r' → G.own g' = some r' ∧ g' ≠ g := fun g' r' hg' hr' => by
    simp only [own', if_neg (Nat.ne_of_lt hg')] at hr'
    split at hr'
    · cases hr'
    · rename_i hne; exact ⟨hr', hne⟩
  have hle : (enOf C G st.gen w).le (enOf C ⟨G.box, own'⟩ (st.gen + 1) w') := leOf h.fr hfr (fun b' o u hu hn => ⟨hcell b' o u hu, fun hp => hn (hpv b' o hp)⟩) (fun _ _ h => h)
    (fun g' r' hg' hr' => (hold g' r' hg' hr').1) (Nat.le_succ _) (fun g' b' len' cap' sz' pub' hg' hr' => hoth b' (fun e => by subst e; exact hnb2 _ _ _ _ _ (hold g' _ hg' hr').1)) (fun g' b' hg' hr' => by
      obtain ⟨h1, h2⟩ := hold g' _ hg' hr'
      exact hoth b' (fun e => by subst e; exact h2 (huniq g' h1))) htk
  refine ⟨⟨G.box, own'⟩, rfl, { size := h.size, frame := h.frame_mono hle, inj := h.inj, xold := h.xold, kold := h.kold, lent := h.lent, fr := hfr, box := ?_, gbox := ?_, live := ?_, gown := ?_, row := ?_, mrow := ?_ }, ?_⟩
  · intro g' cells hc
    obtain ⟨b', cs, T', h1, h2, h3, h4, h5⟩ := h.box g' cells hc
    have : b' ≠ b := fun e => hnb g' (by rw [← e]; exact h1)
    exact ⟨b', cs, T', h1, by rw [hoth b' this]; exact h2, h3, h4, fun i u a hu ha => (h5 i u a hu ha).mono hle⟩
  · intro g' b' hb
    obtain ⟨h1, h2, h3⟩ := h.gbox g' b' hb
    exact ⟨Nat.lt_succ_of_lt h1, by rw [hsz]; exact h2, h3⟩
  · intro g' hg'
    rcases List.mem_cons.1 hg' with rfl | hg'
    · exact ⟨_, by simp [own']; rfl⟩
    · obtain ⟨h1, h2⟩ := hlv g' hg'
      obtain ⟨r', hr'⟩ := h.live g' h1
      exact ⟨r', by simp only [own', if_neg (Nat.ne_of_lt (h.gown g' r' hr')), if_neg h2]; exact hr'⟩
  · intro g' r' hr'
    simp only [own'] at hr'
    split at hr'
    · simp only; omega
    · split at hr'
      · cases hr'
      · exact Nat.lt_succ_of_lt (h.gown g' r' hr')
  · intro g' b' len' cap' sz' pub' hr'
    have un : ∀ g2 len2 cap2 sz2 pub2, own' g2 = some (.blk b' len2 cap2 sz2 pub2) → G.own g2 = some (.blk b' len2 cap2 sz2 pub2) := by
      intro g2 len2 cap2 sz2 pub2 h2
      simp only [own'] at h2
      split at h2
      · cases h2
      · split at h2
        · cases h2
        · exact h2
    obtain ⟨h4, h5, h6, cur2, T2, h7, h8⟩ := h.row g' b' len' cap' sz' pub' (un g' len' cap' sz' pub' hr')
    have hne : b' ≠ b := fun e => by subst e; exact hnb2 _ _ _ _ _ (un g' len' cap' sz' pub' hr')
    exact ⟨h4, h5, fun g2 len2 cap2 sz2 pub2 h2 => h6 g2 len2 cap2 sz2 pub2 (un g2 len2 cap2 sz2 pub2 h2), cur2, T2, by rw [hoth b' hne]; exact h7, h8⟩
  · intro g' b' hr'
    simp only [own'] at hr'
    split at hr'
    · rename_i e
      simp only [Option.some.injEq, Row.mp.injEq] at hr'
      subst hr'
      refine ⟨hmine, hnb, fun g2 h2 => ?_, me, clock, hnew⟩
      simp only [own'] at h2
      split at h2
      · omega
      · split at h2
        · cases h2
        · rename_i e1 e2; exact absurd (huniq g2 h2) e2
    · split at hr'
      · cases hr'
      · rename_i e1 e2
        obtain ⟨h4, h5, h6, me2, cl2, h7⟩ := h.mrow g' b' hr'
        have hne : b' ≠ b := fun e => by subst e; exact e2 (huniq g' hr')
        refine ⟨h4, h5, fun g2 h2 => ?_, me2, cl2, by rw [hoth b' hne]; exact h7⟩
        simp only [own'] at h2
        split at h2
        · simp only [Option.some.injEq, Row.mp.injEq] at h2; exact absurd h2.symm hne
        · split at h2
          · cases h2
          · exact h6 g2 h2
  · refine .mp _ _ _ (by simp [enOf]) rfl (fun r hr => ?_)
    have hr2 : own' st.gen = some r := hr
    simp only [own', if_true, Option.some.injEq] at hr2
    subst hr2
    refine ⟨rfl, me, clock, hnew, hme, fun i m k l hm hk => ?_⟩
    obtain ⟨h1, h2, h3⟩ := hent i m k l hm hk
    exact ⟨h1, h2, h3.mono hle.cell⟩
end
section
variable {P : Program} (T : Tab P)
theorem Tab.u_map {t k e : Nat} {d : TyD} (h : look' T.l t = some d) (hk : d.k = .map k e) : P.underlying t = some (.map k e) := by
  have := T.kd h
  rw [hk] at this
  simp only [kdOK] at this
  split at this
  · rename_i k' e' he; simp only [Bool.and_eq_true, beq_iff_eq] at this; rw [he, this.1, this.2]
  · cases this
def notSt : Kd → Bool
  | .st _ => false
  | _ => true
variable {α β : Type} [DecidableEq α] {kf : α → Value} {vf : β → D}
theorem MeIs.find {w : World} {pv : Nat → Nat → Prop} {k : TypeId} (hkt : KeyT P k kf) {me : Array MapEntry} {l : List (α × β)} (h : MeIs w pv kf vf me l) (hn : (l.map (·.1)).Nodup) (a : α) :
    ((Instr.findKey k (kf a) me.toList).run P w = .ok none w ∧ (∀ p ∈ l, p.1 ≠ a) ∧ mget l a = none) ∨
      ∃ j e p, (Instr.findKey k (kf a) me.toList).run P w = .ok (some (j, e.val)) w ∧ me[j]? = some e ∧ l[j]? = some p ∧ p.1 = a ∧ e.key = kf a ∧ mget l a = some p.2 ∧ RepD w pv e.val (vf p.2) := by
  obtain ⟨d, hd, hk⟩ := hkt.ty
  have hall : ∀ x ∈ me.toList, IsKey d x.key := by
    intro x hx
    obtain ⟨i, hi⟩ := List.mem_iff_getElem?.1 hx
    have hi' : me[i]? = some x := by simpa using hi
    have hlt : i < l.length := by rw [← h.1]; exact (Array.getElem?_eq_some_iff.1 hi').1
    rw [(h.2 i x l[i] hi' (by simp [hlt])).1]
    exact hk _
  rcases findNow_spec (hk a) me.toList 0 hall with ⟨h1, h2⟩ | ⟨j, e, h1, h2, h3⟩
  · refine .inl ⟨run_findKey hd h1, ?_, ?_⟩
    · intro p hp e
      obtain ⟨i, hi⟩ := List.mem_iff_getElem?.1 hp
      have hlt : i < me.size := by rw [h.1]; exact (List.getElem?_eq_some_iff.1 hi).1
      have := (h.2 i me[i] p (by simp [hlt]) hi).1
      exact h2 me[i] (by simp) (by rw [this, e])
    · refine mget_new fun p hp e => ?_
      obtain ⟨i, hi⟩ := List.mem_iff_getElem?.1 hp
      have hlt : i < me.size := by rw [h.1]; exact (List.getElem?_eq_some_iff.1 hi).1
      have := (h.2 i me[i] p (by simp [hlt]) hi).1
      exact h2 me[i] (by simp) (by rw [this, e])
  · have hj : me[j]? = some e := by simpa using h2
    have hlt : j < l.length := by rw [← h.1]; exact (Array.getElem?_eq_some_iff.1 hj).1
    obtain ⟨h4, h5, h6⟩ := h.2 j e l[j] hj (by simp [hlt])
    have h7 : (l[j]).1 = a := hkt.inj _ _ (h4.symm.trans h3)
    refine .inr ⟨j, e, l[j], ?_, hj, by simp [hlt], h7, h3, ?_, h6⟩
    · have := run_findKey (P := P) (w := w) hd h1
      simpa using this
    · have := mget_at hn (j := j) (p := l[j]) (by simp [hlt])
      rw [h7] at this
      exact this
theorem run_mapPut {w : World} {pv : Nat → Nat → Prop} {mt k e : Nat} {td : TyD} (ht : look' T.l mt = some td) (htk : td.k = .map k e) (hkt : KeyT P k kf) {b : Nat} {me : Array MapEntry} {clock : Nat} (hb : w.heap[b]? = some (.map me clock)) {l : List (α × β)}
    (h : MeIs w pv kf vf me l) (hn : (l.map (·.1)).Nodup) (a : α) (hka : okc (kf a) = true) {v : Value} {y : β} (hv : RepD w pv v (vf y)) :
    ∃ me' clock', (Instr.mapUpdate mt (.map (some b)) (kf a) v).run P w = .ok () { w with heap := w.heap.setIfInBounds b (.map me' clock') } ∧ MeIs w pv kf vf me' (mput l a y) := by
  obtain ⟨d, hd, hk⟩ := hkt.ty
  have hm := T.u_map ht htk
  rcases h.find hkt hn a with ⟨h1, h2, _⟩ | ⟨j, en, p, h1, h2, h3, h4, h5, _, _⟩
  · refine ⟨me.push ⟨kf a, v, clock⟩, clock + 1, ?_, ?_⟩
    · unfold Instr.mapUpdate
      simp only [Sem.run_bind, run_underlying hm, Result.andThen_ok, Go.MapKept.run_getObj_map hb, run_checkKey hd (hk a), h1]
      exact Go.MapKept.run_setObj_map _ hb
    · rw [mput_new h2]
      refine ⟨by simp [h.1], fun i m p hm hp => ?_⟩
      rw [Array.getElem?_push] at hm
      split at hm
      · rename_i hi
        rw [List.getElem?_append_right (by rw [hi, h.1]; exact Nat.le_refl _)] at hp
        have : i - l.length = 0 := by rw [hi, h.1]; omega
        rw [this] at hp
        simp only [List.getElem?_cons_zero, Option.some.injEq] at hp
        simp only [Option.some.injEq] at hm
        subst hm; subst hp
        exact ⟨rfl, hka, hv⟩
      · have hlt : i < l.length := by rw [← h.1]; exact (Array.getElem?_eq_some_iff.1 hm).1
        rw [List.getElem?_append_left hlt] at hp
        exact h.2 i m p hm hp
  · refine ⟨me.modify j fun e => { e with key := kf a, val := v }, clock, ?_, ?_⟩
    · unfold Instr.mapUpdate
      simp only [Sem.run_bind, run_underlying hm, Result.andThen_ok, Go.MapKept.run_getObj_map hb, run_checkKey hd (hk a), h1, h2, Option.map_some, Option.getD_some, h5, run_keyThatStays (hk a)]
      exact Go.MapKept.run_setObj_map _ hb
    · subst h4
      rw [mput_at hn h3]
      refine ⟨by simp [h.1], fun i m q hm hq => ?_⟩
      rw [Array.getElem?_modify] at hm
      rw [List.getElem?_set] at hq
      by_cases hij : j = i
      · subst hij
        rw [if_pos rfl] at hm hq
        rw [h2] at hm
        rw [if_pos (List.getElem?_eq_some_iff.1 h3).1] at hq
        simp only [Option.map_some, Option.some.injEq] at hm hq
        subst hm; subst hq
        exact ⟨rfl, hka, hv⟩
      · rw [if_neg hij] at hm hq
        exact h.2 i m q hm hq
theorem run_mapGet {w : World} {pv : Nat → Nat → Prop} {mt k e : Nat} {td ed : TyD} (ht : look' T.l mt = some td) (htk : td.k = .map k e) (he : look' T.l e = some ed) (hkt : KeyT P k kf) {z : β} {zx : Value} (hzc : ed.z = [zx]) (hzk : notSt ed.k = true) (hz : RepD w pv zx (vf z)) {b : Nat} {me : Array MapEntry} {clock : Nat}
    (hb : w.heap[b]? = some (.map me clock)) {l : List (α × β)} (h : MeIs w pv kf vf me l) (hn : (l.map (·.1)).Nodup) (a : α) (ok : Bool) :
    ∃ v, (Instr.lookup mt (.map (some b)) (kf a) ok).run P w = .ok (if ok then .tuple #[v, .bool (mget l a).isSome] else v) w ∧ RepD w pv v (vf ((mget l a).getD z)) := by
  obtain ⟨d, hd, hk⟩ := hkt.ty
  have hm := T.u_map ht htk
  rcases h.find hkt hn a with ⟨h1, h2, h3⟩ | ⟨j, en, p, h1, h2, h3, h4, h5, h6, h7⟩
  · obtain ⟨i, zv, hi, _, _, hiz, hzl, _, _, hkz⟩ := T.info he
    have hzv : zv = zx := by
      rw [hzc] at hzl
      cases hke : ed.k <;> rw [hke] at hzk hkz <;> cases zv <;> simp_all [Value.cells, notSt]
    subst hzv
    refine ⟨zv, ?_, by rw [h3]; exact hz⟩
    unfold Instr.lookup
    simp only [Sem.run_bind, run_underlying hm, Result.andThen_ok, Go.MapKept.run_getObj_map hb, Sem.run_pure, run_checkKey hd (hk a), h1, h3, Option.isSome_none]
    have : (zeroValue e).run P w = .ok zv w := by simp [zeroValue, typeInfo, Sem.run_bind, run_program, hi, hiz, Result.andThen]
    simp only [this, Result.andThen_ok]
  · refine ⟨en.val, ?_, by rw [h6]; exact h7⟩
    unfold Instr.lookup
    simp only [Sem.run_bind, run_underlying hm, Result.andThen_ok, Go.MapKept.run_getObj_map hb, Sem.run_pure, run_checkKey hd (hk a), h1, h6, Option.isSome_some]
end
end Go.Ab
namespace Go.Ab
open Go.RowKit Go.MapKept
def oneD : A → Option D
  | .d x => some x
  | .own _ es => some (.sl es)
  | .fl es => some (.sl es)
  | _ => none
theorem oneD_rep {E : En} {v : Value} {a : A} {x : D} (h : oneD a = some x) (hr : Rep E v a) : RepD E.w E.pv v x := by
  cases hr <;> simp only [oneD, Option.some.injEq] at h <;> first | (cases h; done) | (subst h; assumption)
def MapAt {α β : Type} (w : World) (pv : Nat → Nat → Prop) (b : Nat) (kf : α → Value) (vf : β → D) (l : List (α × β)) : Prop := ∃ me clock, w.heap[b]? = some (.map me clock) ∧ MeIs w pv kf vf me l
theorem MapAt.of {α β : Type} {w : World} {pv : Nat → Nat → Prop} {kf : α → Value} {vf : β → D} {b : Nat} {v : Value} {l : List (α × β)} (h : RowM w pv (.mp b) v (mes kf vf l)) : v = .map (some b) ∧ MapAt w pv b kf vf l := by
  obtain ⟨h1, me, clock, h2, h3⟩ := MeIs.of h
  exact ⟨h1, me, clock, h2, h3⟩
theorem MeIs.mono {α β : Type} {w w' : World} {pv pv' : Nat → Nat → Prop} {kf : α → Value} {vf : β → D} {me : Array MapEntry} {l : List (α × β)} (h : ∀ b o u, cellAt w b o = some u → ¬ pv b o → cellAt w' b o = some u ∧ ¬ pv' b o) (hm : MeIs w pv kf vf me l) : MeIs w' pv' kf vf me l :=
  ⟨hm.1, fun i m p h1 h2 => ⟨(hm.2 i m p h1 h2).1, (hm.2 i m p h1 h2).2.1, (hm.2 i m p h1 h2).2.2.mono h⟩⟩
section
variable {P : Program} (T : Tab P) {C : Ctx} {n : Nat} {ops : Array Oper} {Q : Exit → St → Prop} {rest : List Oper}
variable {f : List (Nat × A)} {bx : List (Nat × List A)} {lv : List Nat} {gen : Nat} {d : Nat} {ty : TypeId} {pos : String} {af : Array Edge} {dst : Option Nat}
variable {α β : Type} [DecidableEq α] {kf : α → Value} {vf : β → D}
theorem mkMap {t : TypeId} (hd : Nat.blt d n = true) (h : WO P C n ops Q rest ⟨(d, .mp gen []) :: f, bx, gen :: lv, gen + 1⟩) : WO P C n ops Q (⟨some d, .makeMap t none, ty, pos, af, none⟩ :: rest) ⟨f, bx, lv, gen⟩ := by
  refine WO.step (st := ⟨f, bx, lv, gen⟩) rfl fun tmps w ⟨G, hs⟩ => ?_
  obtain ⟨G', hs', hr⟩ := hs.newMap
  refine gives_value (v := .map (some w.heap.size)) (w' := w.alloc (.map #[] 0)) ?_ ⟨_, ⟨G', hs'.put (dst := some d) (dstOK_lt (dst := some d) hd) hr⟩, h⟩
  unfold execOp
  show Sem.run P _ w = .ok _ _
  simp [Instr.makeMap, Sem.run_bind, Result.andThen]
omit [DecidableEq α] in
theorem SimG.mapAt {st : St} {G : Gh} {tmps : Array Value} {w : World} (hs : SimG C n st G tmps w) {v : Value} {g : Nat} {l : List (α × β)} (hr : Rep (enOf C G st.gen w) v (.mp g (mes kf vf l))) (hgl : g ∈ st.lv) :
    ∃ b, G.own g = some (.mp b) ∧ v = .map (some b) ∧ MapAt w (pvOf C G) b kf vf l := by
  obtain ⟨r, hgr⟩ := hs.live g hgl
  cases hr with
  | mp _ _ _ hgg h1 hrow =>
  have hx := hrow r hgr
  cases r with
  | nil => exact hx.elim
  | zero b => exact hx.elim
  | blk b len cap sz pub => exact hx.elim
  | mp b =>
    obtain ⟨h2, h3⟩ := MapAt.of (kf := kf) (vf := vf) hx
    exact ⟨b, hgr, h2, h3⟩
theorem mapPut (s : Nat) {mt k e : Nat} {td : TyD} {m kx x : Operand} {g : Nat} {l : List (α × β)} {a : α} {y : β} {xa : A} (hm : av f m = some (.mp g (mes kf vf l))) (hl : look f s = some (.mp g (mes kf vf l))) (hk : av f kx = some (.d (.v (kf a)))) (hx : av f x = some xa) (hxd : oneD xa = some (vf y))
    (ht : look' T.l mt = some td) (htk : td.k = .map k e) (hkt : KeyT P k kf) (hgl : (lv.any fun h => Nat.beq h g) = true) (hsn : Nat.blt s n = true) (hn : (l.map (·.1)).Nodup) {es' : List (Value × List D)} (hes : mes kf vf (mput l a y) = es') {lv' : List Nat} (hlv : gen :: dropId lv g = lv')
    (h : WO P C n ops Q rest ⟨(s, .mp gen es') :: f, bx, lv', gen + 1⟩) : WO P C n ops Q (⟨none, .mapUpdate mt m kx x, ty, pos, af, none⟩ :: rest) ⟨f, bx, lv, gen⟩ := by
  subst hes; subst hlv
  refine WO.step (st := ⟨f, bx, lv, gen⟩) rfl fun tmps w ⟨G, hs⟩ => ?_
  have hrm := hs.av hm
  have hrk := hs.av hk
  have hrx := oneD_rep hxd (hs.av hx)
  obtain ⟨vs, hvs, hrs⟩ := hs.frame s _ hl
  generalize hv : Act.eval ⟨tmps, []⟩ m = v at hrm
  generalize hvk : Act.eval ⟨tmps, []⟩ kx = vk at hrk
  obtain ⟨b, hgb, rfl, me, clock, hb, hmi⟩ := hs.mapAt hrm (memAny hgl)
  obtain ⟨b2, hgb2, rfl, _⟩ := hs.mapAt hrs (memAny hgl)
  have e : b2 = b := by have := hgb2.symm.trans hgb; simpa using this
  subst e
  cases hrk with | d hrk => cases hrk with | v _ hok =>
  obtain ⟨me', clock', hrun, hmi'⟩ := run_mapPut T ht htk hkt hb hmi hn a hok hrx
  have h0 : (execOp (Act.eval ⟨tmps, []⟩) ⟨none, .mapUpdate mt m kx x, ty, pos, af, none⟩).run P w = .ok .skip { w with heap := w.heap.setIfInBounds b2 (.map me' clock') } := by
    unfold execOp
    show Sem.run P _ w = .ok _ _
    simp only [hv, hvk, Sem.run_bind, hrun, Result.andThen_ok, Sem.run_pure]
  obtain ⟨G', _, hs', hr'⟩ := hs.putMap hgb me' clock' (es := mes kf vf (mput l a y)) (by rw [hmi'.1]; simp [mes]) (fun i m k l' hm hk => by
    simp only [mes, List.getElem?_map, Option.map_eq_some_iff] at hk
    obtain ⟨p, hp, e⟩ := hk
    simp only [Prod.mk.injEq] at e
    obtain ⟨rfl, rfl⟩ := e
    exact hmi'.2 i m p hm hp) (dropId lv g) (fun g' hg' => dropId_mem hg')
  refine gives_skip h0 ⟨_, ⟨G', ?_⟩, h⟩
  have := hs'.set (d := s) (Nat.le_of_ble_eq_true hsn) hr'
  rwa [set_same hvs] at this
theorem mapGet {mt k e : Nat} {td ed : TyD} {m kx : Operand} {g : Nat} {l : List (α × β)} {a : α} {z : β} {zx : Value} (hm : av f m = some (.mp g (mes kf vf l))) (hk : av f kx = some (.d (.v (kf a))))
    (ht : look' T.l mt = some td) (htk : td.k = .map k e) (he : look' T.l e = some ed) (hkt : KeyT P k kf) (hgl : (lv.any fun h => Nat.beq h g) = true) (hzc : ed.z = [zx]) (hzk : notSt ed.k = true) (hz : ∀ w pv, RepD w pv zx (vf z)) (hn : (l.map (·.1)).Nodup) {r : D} (hr : vf ((mget l a).getD z) = r) :
    Pu P C n ⟨f, bx, lv, gen⟩ ⟨dst, .lookup mt m kx false, ty, pos, af, none⟩ (.d r) := by
  subst hr
  refine PuOK.pu fun G tmps w hs => ?_
  have hrm := hs.av hm
  have hrk := hs.av hk
  generalize hv : Act.eval ⟨tmps, []⟩ m = v at hrm
  generalize hvk : Act.eval ⟨tmps, []⟩ kx = vk at hrk
  obtain ⟨b, hgb, rfl, me, clock, hb, hmi⟩ := hs.mapAt hrm (memAny hgl)
  cases hrk with | d hrk => cases hrk with | v _ hok =>
  obtain ⟨u, h1, h2⟩ := run_mapGet (P := P) T ht htk he hkt hzc hzk (hz _ _) hb hmi hn a false
  refine ⟨u, ?_, .d h2⟩
  unfold execOp
  show Sem.run P _ w = .ok _ _
  simp only [hv, hvk, Sem.run_bind, h1, Result.andThen_ok, Sem.run_pure]
  rfl
end
structure DoesH (P : Program) [Met P] (H : Ctx → Prop) (f : FuncId) (args : List A) (r : A) (k : Nat) : Prop where
  ok : FnOK P f
  calls : ∀ (C : Ctx) (vals : Array Value) (w : World), GC P C → C.w0 = w → C.pure → H C → (∀ b o, C.x b o → b < w.heap.size) → vals.size = args.length →
    (∀ (i : Nat) (u : Value) (a : A), vals[i]? = some u → args[i]? = some a → Rep (enOf C G0 0 w) u a) →
    Calls P f vals w fun e w' => ∃ v G', e = .returned v ∧ SimG C 0 ⟨[], [], List.range k, k⟩ G' #[] w' ∧ Rep (enOf C G' k w') v r
theorem DoesH.of_V {P : Program} (T : Tab P) [Met P] {H : Ctx → Prop} {f : FuncId} {fn : Func} {c : Code} {rs : List RV} {n : Nat} {args : List A} {r : A} (hf : P.funcs[f]? = some fn) (hname : (fn.name == "runtime.NumGoroutine") = false) (hb : fn.body = some c) (hn : fn.ntmps = n)
    (hr : fn.results = (rs.map RV.var).toArray) (hlen : Nat.ble args.length n = true) (h : ∀ C, NB C 0 → GC P C → H C → (∀ b, ¬ C.fp b) → W P C n c (QV T rs r 0) ⟨args0 0 args, [], [], 0⟩) : DoesH P H f args r 0 := by
  have hlen := Nat.le_of_ble_eq_true hlen
  refine ⟨⟨fn, hf, hname, by rw [hb]; rfl⟩, fun C vals w hG hw hp hH hx hsz hrep => ?_⟩
  subst hw
  refine calls_of_wp hf hb (wp_mono (wp_ds hp.2.2.2 (h C ⟨by rw [hp.2.2.1]; rfl⟩ hG hH hp.1 (vals ++ Array.replicate (fn.ntmps - vals.size) undef) C.w0 ⟨G0, ?_⟩)) ?_)
  · refine { size := by simp [hn]; omega, frame := fun t a ha => ?_, box := fun g cells hc => by simp [look'] at hc, gbox := fun g b hb => by simp [G0] at hb, inj := fun g g' b hb => by simp [G0] at hb,
             live := fun g hg => by simp at hg, gown := fun g r hr => by simp [G0] at hr, row := fun g b len cap sz pub hr => by simp [G0] at hr, mrow := fun g b hr => by simp [G0] at hr, xold := fun b o hb => ⟨hx b o hb, hp.1 b⟩, kold := fun b o hb => absurd hb (hp.2.1 b o), lent := fun i b hb => by rw [hp.2.2.1] at hb; simp at hb,
             fr := ⟨rfl, rfl, rfl, Nat.le_refl _, fun _ _ _ => rfl, fun _ _ _ hb => absurd hb (hp.2.1 _ _), TyKept.refl _⟩ }
    obtain ⟨_, h1⟩ := args0_look args 0 t a ha
    have h2 : t < args.length := (List.getElem?_eq_some_iff.1 (by simpa using h1)).1
    have h3 : t < vals.size := by omega
    have h4 : vals[t]? = some vals[t] := by simp [h3]
    exact ⟨vals[t], by rw [Array.getElem?_append_left h3]; exact h4, hrep t _ a h4 (by simpa using h1)⟩
  · rintro e ⟨tmps, df⟩ w' ⟨hd, st, ⟨G, hs⟩, he, l, order, hl, hno, hol, hnd, hov⟩
    have ho0 : order = [] := List.eq_nil_of_length_eq_zero hol
    subst ho0
    have hmain : ∃ v, (results fn tmps).run P w' = .ok v w' ∧ ∃ v_1 G', Ending.returned v = .returned v_1 ∧ SimG C 0 ⟨[], [], List.range 0, 0⟩ G' #[] w' ∧ Rep (enOf C G' 0 w') v_1 r := by
      obtain ⟨vs, hvs, hvl, hvr⟩ := run_resV T hs rs l hl
      refine ⟨_, run_resultsV hr hvs, _, G0, rfl, ?_, ?_⟩
      · exact { size := rfl, frame := fun t a ha => by simp [look] at ha, box := fun g cells hc => by simp [look'] at hc, gbox := fun g b hb => by simp [G0] at hb, inj := fun g g' b hb => by simp [G0] at hb,
                 live := fun g hg => by simp at hg, gown := fun g r hr => by simp [G0] at hr, row := fun g b len cap sz pub hr => by simp [G0] at hr, mrow := fun g b hr => by simp [G0] at hr, xold := hs.xold, kold := hs.kold, lent := fun i b hb => by rw [hp.2.2.1] at hb; simp at hb, fr := hs.fr }
      · rw [← hno]
        refine Rep.norm (order := []) (E := enOf C G st.gen w') (E2 := enOf C G0 0 w') (fun b o u hu hn => ⟨hu, fun hp => hn (.inl ((pvOf_G0 C b o).1 hp))⟩) (fun g r' hg => by simp at hg) (by simp [enOf]) (oneA_rep hvl hvr)
    cases e with
    | normal => exact ⟨hd.trans hp.2.2.2, hmain⟩
    | ret => exact ⟨hd.trans hp.2.2.2, hmain⟩
    | exit _ => exact he.elim
    | goto _ => exact he.elim
    | panic _ => exact he.elim
    | outgrown => exact he.elim
section
variable {P : Program} {C : Ctx} {n : Nat}
variable {f : List (Nat × A)} {bx : List (Nat × List A)} {lv : List Nat} {gen : Nat} {d : Nat} {ty : TypeId} {pos : String} {af : Array Edge} {dst : Option Nat}
variable {α β : Type} [DecidableEq α]
end
end Go.Ab
namespace Go.Ab
open Go.RowKit
def bd (c : UInt8) : List D := [.v (.int .u8 c.toNat)]
def bds (s : ByteArray) : List (List D) := s.data.toList.map bd
theorem bds_len (s : ByteArray) : (bds s).length = s.size := by rw [bds, List.length_map, Array.length_toList]; rfl
theorem bds_one {s : ByteArray} : ∀ (e : List D), e ∈ bds s → e.length = 1 := by
  intro e he
  obtain ⟨c, _, rfl⟩ := List.mem_map.1 he
  rfl
theorem bds_hr {arr : Array Value} {s : ByteArray} {w : World} {pv : Nat → Nat → Prop} (h : ∀ (i : Nat) (c : UInt8), s.data[i]? = some c → arr[i]? = some (.int .u8 c.toNat)) :
    ∀ (i j : Nat) (e : List D) (d : D), (bds s)[i]? = some e → e[j]? = some d → ∃ u, arr[i * 1 + j]? = some u ∧ RepD w pv u d := by
  intro i j e d hi hj
  simp only [bds, List.getElem?_map, Option.map_eq_some_iff] at hi
  obtain ⟨c, hc, rfl⟩ := hi
  match j with
  | 0 =>
    simp [bd] at hj
    subst hj
    refine ⟨_, by rw [Nat.mul_one, Nat.add_zero]; exact h i c (by simpa using hc), .v _ ?_⟩
    have := c.toNat_lt
    simp [okc, IntKind.min, IntKind.max, IntKind.signed, IntKind.bits]
    omega
  | j + 1 => simp [bd] at hj
theorem strCells_get {s : ByteArray} {i : Nat} {c : UInt8} (h : s.data[i]? = some c) : (Lib.strCells s)[i]? = some (.int .u8 c.toNat) := by
  simp only [Lib.strCells, List.getElem?_map, Array.getElem?_toList, h, Option.map_some]
theorem strCells_one (s : ByteArray) : ∀ u ∈ Lib.strCells s, u.oneCell' = true := fun u hu => by
  obtain ⟨i, hi⟩ := List.mem_iff_getElem?.1 hu
  have hj : i < s.data.size := by have := (List.getElem?_eq_some_iff.1 hi).1; rw [Lib.strCells_length] at this; exact this
  have hc : s.data[i]? = some s.data[i] := by simp [hj]
  rw [strCells_get hc] at hi
  rw [← Option.some.inj hi]
  rfl
theorem zero_one : ∀ u ∈ (Value.int IntKind.u8 0).cells.toList, u.oneCell' = true := fun u hu => by
  simp [Value.cells] at hu
  subst hu
  rfl
theorem strCells_cat (a b : ByteArray) : Lib.strCells (a ++ b) = Lib.strCells a ++ Lib.strCells b := by simp [Lib.strCells]
theorem size_cat (a b : ByteArray) : (a ++ b).size = a.size + b.size := by simp [ByteArray.size_append]
theorem xs_bf {E : En} {v : Value} {g T : Nat} {s : ByteArray} (h : Rep E v (.xs g (bds s))) (hT : v = .slice none 0 0 ∨ ∃ b n c cs f, v = .slice (some ⟨b, 0, none⟩) n c ∧ 0 < n ∧ E.w.heap[b]? = some (.cells cs T f)) : Rep E v (.bf g T s) := by
  cases h with
  | xs _ _ _ hg h1 h =>
  refine .bf v g T s hg h1 fun r hr => ?_
  have hx := h r hr
  cases r with
  | nil => exact ⟨hx.1, by rw [← bds_len, hx.2]; rfl⟩
  | zero b =>
    obtain ⟨h2, h3⟩ := hx
    rcases hT with hT | ⟨b', n, c, cs, f, hT, hn, _⟩
    · rw [hT] at h2; cases h2
    · rw [hT] at h2; simp only [Value.slice.injEq] at h2; omega
  | mp b => exact hx.elim
  | blk b len cap sz pub =>
    obtain ⟨h2, h3, h4, h5, h6⟩ := hx
    rcases hT with hT | ⟨b', n, c, cs, f, hT, hn, hT2⟩
    · rw [hT] at h2; cases h2
    · rw [hT] at h2
      simp only [Value.slice.injEq, Option.some.injEq, Addr.mk.injEq, and_true] at h2
      obtain ⟨rfl, rfl, rfl⟩ := h2
      have hsz : sz = 1 := by
        have h0 : 0 < (bds s).length := by omega
        rw [← h5 _ (List.getElem_mem h0), bds_one _ (List.getElem_mem h0)]
      subst hsz
      refine ⟨hT, by rw [← bds_len]; exact h3, rfl, h4, ⟨cs, f, hT2⟩, fun i c' hc => ?_⟩
      obtain ⟨u, h7, h8⟩ := h6 i 0 (bd c') (.v (.int .u8 c'.toNat)) (by simp only [bds, List.getElem?_map, Array.getElem?_toList, hc, Option.map_some]) rfl
      cases h8
      rw [Nat.mul_one, Nat.add_zero] at h7
      exact h7
structure AppB (P : Program) (w : World) (A : Array TypeId) (ty : TypeId) (x2 : Value) (m : ByteArray) (T : TypeId) : Prop where
  emp : m.size = 0 → (Builtin.append_ A ty #[.slice none 0 0, x2]).run P w = .ok (.slice none 0 0) w
  new : 0 < m.size → (Builtin.append_ A ty #[.slice none 0 0, x2]).run P w = .ok (.slice (some ⟨w.heap.size, 0, none⟩) m.size (grownCap w m.size 0 T))
    (w.drew.alloc (.cells ((Lib.strCells m).toArray ++ Builtin.zeroCells (Value.int .u8 0).cells (grownCap w m.size 0 T - m.size)) T))
  room : ∀ (b n cap : Nat) (cur : Array Value), w.heap[b]? = some (.cells cur T (0, 0)) → n + m.size ≤ cap → n + m.size ≤ cur.size →
    (Builtin.append_ A ty #[.slice (some ⟨b, 0, none⟩) n cap, x2]).run P w = .ok (.slice (some ⟨b, 0, none⟩) (n + m.size) cap) (w.setRow b (cur.toList.take n ++ Lib.strCells m ++ cur.toList.drop (n + m.size)).toArray)
  grow : ∀ (b n cap : Nat) (olds : List Value), olds.length = n → (∀ j u, olds[j]? = some u → w.cell? ((⟨b, 0, none⟩ : Addr).add j) = some u) → cap < n + m.size → n + m.size ≤ 140737488355328 →
    (Builtin.append_ A ty #[.slice (some ⟨b, 0, none⟩) n cap, x2]).run P w = .ok (.slice (some ⟨w.heap.size, 0, none⟩) (n + m.size) (grownCap w (n + m.size) cap T))
      (w.drew.alloc (.cells (olds.toArray ++ (Lib.strCells m).toArray ++ Builtin.zeroCells (Value.int .u8 0).cells (grownCap w (n + m.size) cap T - (n + m.size))) T))
theorem AppB.string {P : Program} {w : World} {t u ty T : TypeId} {i : TypeInfo} (ht : P.underlying t = some (.slice T)) (hu : P.underlying u = some .string) (hi : P.info? T = some i) (hz : i.zero = some (.int .u8 0)) (hs : i.size = 1) (hb : i.bytes = 1) {m : ByteArray} (hm : m.size ≤ 140737488355328) :
    AppB P w #[t, u] ty (.string m) m T := by
  refine ⟨fun h0 => ?_, fun h0 => ?_, fun b n cap cur hc h1 h2 => Lib.run_append_room_string (P := P) w t u ty T i ht hu hi hs b n cap cur hc m h1 h2, fun b n cap olds ho hcell h1 h2 => ?_⟩
  · have hf := Lib.run_firstCells_string (P := P) w 1 m
    rw [h0] at hf
    simp [Builtin.append_, run_underlying ht, run_underlying hu, sizeOf, typeInfo, hi, hs, Builtin.lenOf, h0, hf]
  · have hr := run_append_nil_string (P := P) w t u ty T i (.int .u8 0) ht hu hi hz m h0 (by omega) (by rw [hb]; omega)
    have e1 : (m.data.map fun b => Value.int .u8 b.toNat) = (Lib.strCells m).toArray := by apply Array.ext'; simp [Lib.strCells]
    rw [e1] at hr
    exact hr
  · exact Lib.run_append_grow_string (P := P) w t u ty T i (.int .u8 0) ht hu hi hz ⟨b, 0, none⟩ n cap olds (by rw [hs]; omega) hcell m h1 (by omega) (by rw [hb]; exact growslice_fits (by omega) (by omega))
theorem AppB.one {P : Program} {w : World} {t ty T : TypeId} {i : TypeInfo} (ht : P.underlying t = some (.slice T)) (hi : P.info? T = some i) (hz : i.zero = some (.int .u8 0)) (hs : i.size = 1) (hb : i.bytes = 1) {a : Addr} {c : Nat} {m : ByteArray} (hm : 0 < m.size) (hm2 : m.size ≤ 140737488355328)
    (hcell : ∀ j u, (Lib.strCells m)[j]? = some u → w.cell? (a.add j) = some u) : AppB P w #[t, t] ty (.slice (some a) m.size c) m T := by
  have hl : (Lib.strCells m).length = m.size * i.size := by rw [Lib.strCells_length, hs, Nat.mul_one]
  refine ⟨fun h0 => by omega, fun h0 => ?_, fun b n cap cur hc h1 h2 => ?_, fun b n cap olds ho hcell2 h1 h2 => ?_⟩
  · have hr := run_append_nil (P := P) w t ty T i (.int .u8 0) ht hi hz a m.size c (Lib.strCells m) hl hcell h0 (by omega) (by rw [hb]; omega)
    exact hr
  · have hr := run_append_room (P := P) w t ty T i ht hi b n cap cur hc a m.size c (Lib.strCells m) hl hcell (Lib.strCells_oneCell m) h1 (by rw [hs, Nat.mul_one, Lib.strCells_length]; exact h2)
    rw [hs, Nat.mul_one, Lib.strCells_length] at hr
    exact hr
  · exact run_append_grow (P := P) w t ty T i (.int .u8 0) ht hi hz ⟨b, 0, none⟩ n cap olds (by rw [hs]; omega) hcell2 a m.size c (Lib.strCells m) hl hcell h1 (by omega) (growslice_fits (by omega) (by rw [hb]; omega))
section
variable {P : Program} {C : Ctx} {n : Nat} {st : St} {G : Gh} {tmps : Array Value} {w : World}
theorem bytes_core (h : SimG C n st G tmps w) {g : Nat} {r : Row} (hg : G.own g = some r) {v : Value} {T : Nat} {s : ByteArray} (hv : v.oneCell' = true) (hx : RowB w r v T s) {A : Array TypeId} {ty : TypeId} {x2 : Value} {m : ByteArray} (ha : AppB P w A ty x2 m T)
    (hb : s.size + m.size ≤ 140737488355328) :
    ∃ v' w', (Builtin.append_ A ty #[v, x2]).run P w = .ok v' w' ∧ ∃ G' : Gh, G'.box = G.box ∧ SimG C n { st with lv := st.gen :: dropId st.lv g, gen := st.gen + 1 } G' tmps w' ∧ Rep (enOf C G' (st.gen + 1) w') v' (.bf st.gen T (s ++ m)) := by
  have hlen : (bds (s ++ m)).length = s.size + m.size := by rw [bds_len, size_cat]
  have hmx : s.size + m.size ≤ maxLen := by simp only [maxLen]; omega
  have hlv : ∀ g' ∈ dropId st.lv g, g' ∈ st.lv ∧ g' ≠ g := fun g' hg' => dropId_mem hg'
  have newB : ∀ (cap : Nat) (arr : Array Value), OneC arr → arr.size = cap → s.size + m.size ≤ cap → cap ≤ maxLen → 0 < s.size + m.size → (∃ rest, arr.toList = Lib.strCells (s ++ m) ++ rest) →
      ∃ G' : Gh, G'.box = G.box ∧ SimG C n { st with lv := st.gen :: dropId st.lv g, gen := st.gen + 1 } G' tmps (w.drew.alloc (.cells arr T)) ∧
        Rep (enOf C G' (st.gen + 1) (w.drew.alloc (.cells arr T))) (.slice (some ⟨w.heap.size, 0, none⟩) (s.size + m.size) cap) (.bf st.gen T (s ++ m)) := by
    intro cap arr h1c h1 h2 h3 h4 ⟨rest, h5⟩
    have hb' : Below w.heap.size w (w.drew.alloc (.cells arr T)) := ((Below.refl _ w).drew).alloc (Nat.le_refl _) _
    have hblk : (w.drew.alloc (.cells arr T)).heap[w.heap.size]? = some (.cells arr T (0, 0)) := heap_alloc_new w.drew _
    obtain ⟨G', hG, hs', hr'⟩ := (h.newRow true hb' hblk (cap := cap) (sz := 1) (es := bds (s ++ m)) (by rw [h1, Nat.mul_one]) h1c (by rw [hlen]; exact h2) h3 Nat.one_pos (by rw [hlen]; exact h4) bds_one
      (bds_hr fun i c hc => by
        have := strCells_get hc
        rw [← Array.getElem?_toList, h5, List.getElem?_append_left (by rw [List.getElem?_eq_some_iff] at this; exact this.1)]
        exact this) (fun x => x = g) (dropId st.lv g) hlv).sim
    rw [hlen] at hr'
    exact ⟨G', hG, hs', xs_bf hr' (.inr ⟨_, _, _, arr, (0, 0), rfl, h4, hblk⟩)⟩
  cases r with
  | zero b => exact hx.elim
  | mp b => exact hx.elim
  | nil =>
    obtain ⟨rfl, hs0⟩ := hx
    have e0 : s ++ m = m := by
      have : s = ByteArray.empty := by
        apply ByteArray.ext
        exact Array.eq_empty_of_size_eq_zero hs0
      rw [this]; simp
    by_cases hm : m.size = 0
    · refine ⟨_, w, ha.emp hm, ?_⟩
      obtain ⟨G', hG, hs', hr'⟩ := (h.renameRow (m := true) hg (es := bds (s ++ m)) (v := .slice none 0 0) ⟨rfl, rfl, List.eq_nil_of_length_eq_zero (by rw [hlen]; omega)⟩ (dropId st.lv g) hlv).sim
      exact ⟨G', hG, hs', xs_bf hr' (.inl rfl)⟩
    · have hge := grownCap_ge w m.size 0 T
      have hcm := grownCap_le_maxLen w m.size 0 T (by omega)
      refine ⟨_, _, ha.new (by omega), ?_⟩
      have := newB (grownCap w m.size 0 T) ((Lib.strCells m).toArray ++ Builtin.zeroCells (Value.int .u8 0).cells (grownCap w m.size 0 T - m.size)) (by have := oneC_cat (l1 := []) (k := grownCap w m.size 0 T - m.size) (by simp) (strCells_one m) zero_one; exact OneC.mem fun u hu => this.of u (by simpa using hu)) (by
        have hz1 : (Value.int IntKind.u8 0).cells.size = 1 := rfl
        simp only [Array.size_append, List.size_toArray, size_zeroCells, hz1, Lib.strCells_length]
        omega) (by omega) hcm (by omega) ⟨_, by rw [e0]; simp; rfl⟩
      rw [show s.size + m.size = m.size by omega] at this
      exact this
  | blk b len cap sz pub =>
    obtain ⟨rfl, h2, rfl, rfl, ⟨cs, f, hT⟩, h6⟩ := hx
    obtain ⟨hmine, hnb, huniq, cur, T', hcur, hcs, hlc, hcm, _, hpos, _, hone⟩ := h.row g b len cap 1 0 hg
    rw [hcur] at hT
    simp only [Option.some.injEq, Obj.cells.injEq] at hT
    obtain ⟨rfl, rfl, rfl⟩ := hT
    subst h2
    have htk : cur.toList.take s.size = Lib.strCells s := by
      apply List.ext_getElem?
      intro t
      rw [List.getElem?_take]
      split
      · rename_i hlt
        have hc : s.data[t]? = some (s.data[t]'hlt) := Array.getElem?_eq_getElem hlt
        have h7 := h6 t _ hc
        rw [cellAt_row hcur] at h7
        rw [strCells_get hc]
        simpa using h7
      · rename_i hge
        rw [List.getElem?_eq_none (by rw [Lib.strCells_length]; omega)]
    by_cases hroom : s.size + m.size ≤ cap
    · have hfit : s.size + m.size ≤ cur.size := by omega
      refine ⟨_, _, ha.room b s.size cap cur hcur hroom hfit, ?_⟩
      obtain ⟨G', hG, hs', hr'⟩ := (h.growRow true (g := g) (b := b) (len := s.size) (cap := cap) (sz := 1) (arr := (cur.toList.take s.size ++ Lib.strCells m ++ cur.toList.drop (s.size + m.size)).toArray) (es := bds (s ++ m)) (by simpa [pubOf] using hg) hcur (by simp [Lib.strCells_length]; omega) (oneC_splice hone (strCells_one m)) (fun t ht => by simp [pubOf] at ht) (by omega) (by omega) bds_one
        (bds_hr fun i c hc => by
          have := strCells_get hc
          rw [List.getElem?_toArray, htk, ← strCells_cat, List.getElem?_append_left (by rw [List.getElem?_eq_some_iff] at this; exact this.1)]
          exact this) (dropId st.lv g) hlv).sim
      rw [hlen] at hr'
      exact ⟨G', hG, hs', xs_bf hr' (.inr ⟨b, _, _, _, (0, 0), rfl, by omega, setRow_heap w b cur _ _ (0, 0) hcur⟩)⟩
    · have hge := grownCap_ge w (s.size + m.size) cap T'
      have hcm' := grownCap_le_maxLen w (s.size + m.size) cap T' (by omega)
      refine ⟨_, _, ha.grow b s.size cap (Lib.strCells s) (Lib.strCells_length s) (fun j u hj => ?_) (by omega) hb, ?_⟩
      · have hj' : j < s.data.size := by have := (List.getElem?_eq_some_iff.1 hj).1; rw [Lib.strCells_length] at this; exact this
        have hc : s.data[j]? = some s.data[j] := by simp [hj']
        rw [strCells_get hc] at hj
        have h7 := h6 j _ hc
        rw [Option.some.inj hj] at h7
        unfold Addr.add
        split
        · rename_i e; subst e; simpa [cellAt] using h7
        · simpa [cellAt] using h7
      · exact newB (grownCap w (s.size + m.size) cap T') _ (by have := oneC_cat (k := grownCap w (s.size + m.size) cap T' - (s.size + m.size)) (strCells_one s) (strCells_one m) zero_one; exact OneC.mem fun u hu => this.of u (by simpa using hu)) (by
          have hz1 : (Value.int IntKind.u8 0).cells.size = 1 := rfl
          simp only [Array.size_append, List.size_toArray, size_zeroCells, hz1, Lib.strCells_length]
          omega) (by omega) hcm' (by omega) ⟨_, by rw [strCells_cat]; simp [List.append_assoc]; rfl⟩
end
end Go.Ab
namespace Go.Ab
open Go.RowKit
section
variable {P : Program} (T : Tab P) {C : Ctx} {n : Nat} {ops : Array Oper} {Q : Exit → St → Prop} {rest : List Oper}
variable {f : List (Nat × A)} {bx : List (Nat × List A)} {lv : List Nat} {gen : Nat} {d : Nat} {ty : TypeId} {pos : String} {af : Array Edge} {dst : Option Nat}
theorem exec_app {o : Oper} {act : Act} {x y : Operand} {t u : Nat} (ho : o.op = .call ⟨.builtin .append, #[x, y], #[t, u]⟩) {w w' : World} {v' : Value}
    (h : (Builtin.append_ #[t, u] o.type #[act.eval x, act.eval y]).run P w = .ok v' w') : (execOp act.eval o).run P w = .ok (.value v') w' := by
  unfold execOp
  rw [ho]
  show Sem.run P (do let d ← resolve act.eval ⟨.builtin .append, #[x, y], #[t, u]⟩ o.type; invoke d.target d.args) w = _
  simp only [resolve, invoke, builtin, Sem.run_bind, Sem.run_pure, Result.andThen_ok, List.map_toArray, List.map_cons, List.map_nil, h]
def byteT (d : TyD) : Bool := (Nat.beq d.n 1 && Nat.beq d.b 1 && vsEq d.z [.int .u8 0]) && (match d.k with | .int _ => true | _ => false)
theorem Tab.byte {e : Nat} {d : TyD} (h : look' T.l e = some d) (hb : byteT d = true) : ∃ i, P.info? e = some i ∧ i.zero = some (.int .u8 0) ∧ i.size = 1 ∧ i.bytes = 1 := by
  simp only [byteT, Bool.and_eq_true] at hb
  obtain ⟨i, z, hi, h1, h2, hz, hzc, _, _, hk⟩ := T.info h
  have e1 := Nat.eq_of_beq_eq_true hb.1.1.1
  have e2 := Nat.eq_of_beq_eq_true hb.1.1.2
  have e3 := vsEq_eq hb.1.2
  have e4 := hb.2
  refine ⟨i, hi, ?_, by omega, by omega⟩
  rw [hz]
  rw [e3] at hzc
  cases hkd : d.k <;> rw [hkd] at e4 hk <;> first | (cases e4; done) | skip
  cases z <;> simp_all [Value.cells]
theorem appendStrB {x y : Operand} {t u e : Nat} {td ud ed : TyD} {g : Nat} {s m : ByteArray} (hx : av f x = some (.bf g e s)) (hy : av f y = some (.d (.v (.string m)))) (ht : look' T.l t = some td) (hk : td.k = .slice e) (hu : look' T.l u = some ud) (huk : ud.k = .str) (he : look' T.l e = some ed) (heb : byteT ed = true)
    (hgl : (lv.any fun h => Nat.beq h g) = true) (hd : Nat.blt d n = true) (hb : s.size + m.size ≤ 140737488355328) {r : ByteArray} (hr : s ++ m = r) {lv' : List Nat} (hlv : gen :: dropId lv g = lv')
    (h : WO P C n ops Q rest ⟨(d, .bf gen e r) :: f, bx, lv', gen + 1⟩) : WO P C n ops Q (⟨some d, .call ⟨.builtin .append, #[x, y], #[t, u]⟩, ty, pos, af, none⟩ :: rest) ⟨f, bx, lv, gen⟩ := by
  subst hr; subst hlv
  refine WO.step (st := ⟨f, bx, lv, gen⟩) rfl fun tmps w ⟨G, hs⟩ => ?_
  have hr := hs.av hx
  have hr2 := hs.av hy
  obtain ⟨r, hgr⟩ := hs.live g (memAny hgl)
  generalize hv : Act.eval ⟨tmps, []⟩ x = v at hr
  generalize hv2 : Act.eval ⟨tmps, []⟩ y = v2 at hr2
  cases hr with
  | bf _ _ _ _ hgg h1 hrow =>
  cases hr2 with | d hr2 => cases hr2 with | v _ _ =>
  obtain ⟨i, hi, hz, hs1, hb1⟩ := T.byte he heb
  have hus : P.underlying u = some .string := T.u_str hu huk
  obtain ⟨v', w', hrun, G', _, hs', hv'⟩ := bytes_core (ty := ty) hs hgr h1 (hrow r hgr) (AppB.string (P := P) (w := w) (ty := ty) (T.u_slice ht hk) hus hi hz hs1 hb1 (m := m) (by omega)) hb
  rw [← hv, ← hv2] at hrun
  exact gives_value (exec_app rfl hrun) ⟨_, ⟨G', hs'.put (dst := some d) (dstOK_lt (dst := some d) hd) hv'⟩, h⟩
theorem appendByteB {x y : Operand} {t e : Nat} {td ed : TyD} {g : Nat} {s : ByteArray} {c : Int} (hx : av f x = some (.bf g e s)) (hy : av f y = some (.d (.sl [[.v (.int .u8 c)]]))) (ht : look' T.l t = some td) (hk : td.k = .slice e) (he : look' T.l e = some ed) (heb : byteT ed = true)
    (hgl : (lv.any fun h => Nat.beq h g) = true) (hd : Nat.blt d n = true) (m : ByteArray) (hm : m.size = 1) (hm0 : ∀ b, m.data[0]? = some b → (b.toNat : Int) = c) (hb : s.size + 1 ≤ 140737488355328) {r : ByteArray} (hr : s ++ m = r) {lv' : List Nat} (hlv : gen :: dropId lv g = lv')
    (h : WO P C n ops Q rest ⟨(d, .bf gen e r) :: f, bx, lv', gen + 1⟩) : WO P C n ops Q (⟨some d, .call ⟨.builtin .append, #[x, y], #[t, t]⟩, ty, pos, af, none⟩ :: rest) ⟨f, bx, lv, gen⟩ := by
  subst hr; subst hlv
  refine WO.step (st := ⟨f, bx, lv, gen⟩) rfl fun tmps w ⟨G, hs⟩ => ?_
  have hr := hs.av hx
  have hr2 := hs.av hy
  obtain ⟨r, hgr⟩ := hs.live g (memAny hgl)
  generalize hv : Act.eval ⟨tmps, []⟩ x = v at hr
  generalize hv2 : Act.eval ⟨tmps, []⟩ y = v2 at hr2
  cases hr with
  | bf _ _ _ _ hgg h1 hrow =>
  cases hr2 with | d hr2 => cases hr2 with
  | sl b2 off2 len2 cap2 sz2 _ u2 hl2 hc2 hm2 hs2 hu2 hr2 =>
  simp only [List.length_cons, List.length_nil, Nat.zero_add] at hl2
  subst hl2
  have hsz2 : sz2 = 1 := by have := hs2 0 _ rfl; simpa using this.symm
  subst hsz2
  have hc0 := (hu2 0 0 (by omega) (by omega)).1
  have hd0 := hr2 0 0 _ _ rfl rfl
  obtain ⟨b0, hb0⟩ : ∃ b0, m.data[0]? = some b0 := ⟨m.data[0]'(by have : m.data.size = 1 := hm; omega), by have : m.data.size = 1 := hm; simp [this]⟩
  have hcell : ∀ j q, (Lib.strCells m)[j]? = some q → w.cell? ((⟨b2, off2, none⟩ : Addr).add j) = some q := by
    intro j q hq
    have hj : j = 0 := by
      have := (List.getElem?_eq_some_iff.1 hq).1
      rw [Lib.strCells_length, hm] at this
      omega
    subst hj
    rw [strCells_get hb0, hm0 b0 hb0] at hq
    generalize u2 0 0 = z at hc0 hd0
    cases hd0
    cases hq
    have hc1 : w.cell? ⟨b2, off2 + 0 * 1 + 0, none⟩ = some (.int .u8 c) := hc0
    simpa [Addr.add] using hc1
  obtain ⟨i, hi, hz, hs1, hb1⟩ := T.byte he heb
  have hap := AppB.one (P := P) (w := w) (ty := ty) (c := cap2) (T.u_slice ht hk) hi hz hs1 hb1 (a := ⟨b2, off2, none⟩) (m := m) (by omega) (by omega) hcell
  rw [hm] at hap
  obtain ⟨v', w', hrun, G', _, hs', hv'⟩ := bytes_core (ty := ty) hs hgr h1 (hrow r hgr) hap (by rw [hm]; exact hb)
  rw [← hv, ← hv2] at hrun
  exact gives_value (exec_app rfl hrun) ⟨_, ⟨G', hs'.put (dst := some d) (dstOK_lt (dst := some d) hd) hv'⟩, h⟩
theorem allocB (k : Nat) {e : TypeId} {ed : TyD} (he : look' T.l e = some ed) (hz : vsEq ed.z [.pointer none, .slice none 0 0] = true) (hd : Nat.blt d n = true)
    (h : WO P C n ops Q rest ⟨(d, .ptr gen 0) :: f, (gen, [.np gen e false, .bf (gen + 1) k .empty]) :: bx, (gen + 1) :: lv, gen + 2⟩) : WO P C n ops Q (⟨some d, .alloc e, ty, pos, af, none⟩ :: rest) ⟨f, bx, lv, gen⟩ := by
  refine WO.step (st := ⟨f, bx, lv, gen⟩) rfl fun tmps w ⟨G, hs⟩ => ?_
  obtain ⟨i, z, hi, _, _, hzz, hzc, _, _, _⟩ := T.info he
  rw [vsEq_eq hz] at hzc
  have hza : z.cells = #[.pointer none, .slice none 0 0] := by apply Array.ext'; simpa using hzc
  obtain ⟨G1, hle, hs1, hr1⟩ := hs.mkBox z.cells e [.any, .any] (by rw [hza]; rfl) (fun i u hu => by
    rw [hza] at hu
    match i with
    | 0 => simp at hu; subst hu; rfl
    | 1 => simp at hu; subst hu; rfl
    | i + 2 => simp at hu) (fun i u a hu ha => by
    match i with
    | 0 => simp at ha; subst ha; exact .any _
    | 1 => simp at ha; subst ha; exact .any _
    | i + 2 => simp at ha)
  have hnew : (w.alloc (.cells z.cells e)).heap[w.heap.size]? = some (.cells z.cells e (0, 0)) := heap_alloc_new w _
  have hbx : G1.box gen = some w.heap.size := by
    cases hr1 with
    | ptr _ _ _ b hg hb hx =>
      simp only [Value.pointer.injEq, Option.some.injEq, Addr.mk.injEq, and_true] at hx
      rw [hx]; exact hb
  obtain ⟨G2, hG2, hs2, hr2⟩ := (hs1.nameNil true (gen :: lv |>.tail) (fun _ h => h)).sim
  have hbx2 : G2.box gen = some w.heap.size := by rw [hG2]; exact hbx
  have hbf := xs_bf (T := k) (s := .empty) (g := gen + 1) hr2 (.inl rfl)
  have hs3 := SimG.boxCell (i := 1) (a' := .bf (gen + 1) k .empty) hs2 hs2 rfl rfl (cells := [.any, .any]) (g0 := gen) (by simp [look']) (v := .slice none 0 0) (fun b cs T' hb hh => by
    rw [hbx2] at hb; cases hb
    rw [hnew] at hh
    simp only [Option.some.injEq, Obj.cells.injEq] at hh
    rw [← hh.1, hza]; rfl) (fun _ _ => rfl) hbf
  have hs4 := SimG.boxCell (i := 0) (a' := .np gen e false) hs3 hs3 rfl rfl (cells := [.any, .bf (gen + 1) k .empty]) (g0 := gen) (by simp [look']) (v := .pointer none) (fun b cs T' hb hh => by
    rw [hbx2] at hb; cases hb
    rw [hnew] at hh
    simp only [Option.some.injEq, Obj.cells.injEq] at hh
    rw [← hh.1, hza]; rfl) (fun _ _ => rfl) (.np _ gen e w.heap.size (by simp [enOf]; omega) hbx2 ⟨_, _, hnew⟩ false rfl)
  have hs5 : SimG C n ⟨f, (gen, [.np gen e false, .bf (gen + 1) k .empty]) :: bx, (gen + 1) :: lv, gen + 2⟩ G2 tmps (w.alloc (.cells z.cells e)) := by
    refine { hs4 with box := fun g' c hc => ?_ }
    refine hs4.box g' c ?_
    simp only [look'_cons] at hc ⊢
    split
    · rename_i e1; rw [if_pos e1] at hc; exact hc
    · rename_i e1; rw [if_neg e1] at hc; exact hc
  refine gives_value (v := .pointer (some ⟨w.heap.size, 0, none⟩)) (w' := w.alloc (.cells z.cells e)) ?_ ⟨_, ⟨G2, hs5.put (dst := some d) (dstOK_lt (dst := some d) hd) (.ptr _ gen 0 w.heap.size (by simp [enOf]) hbx2 rfl)⟩, h⟩
  unfold execOp
  show Sem.run P _ w = _
  simp only [Instr.alloc, zeroValue, typeInfo, hi, hzz, newVar, newRow, Sem.run_bind, run_program, run_newObj, Result.andThen_ok, Sem.run_pure]
  rfl
end
structure CopyChecks (P : Program) (e : TypeId) (f : FuncId) : Prop where
  used : ∀ (b : Nat) (w : World), w.cell? ⟨b, 0, none⟩ = some (.pointer (some ⟨b, 0, none⟩)) → Calls P f #[.pointer (some ⟨b, 0, none⟩)] w fun e w' => e = .returned (.tuple #[]) ∧ w' = w
  fresh : ∀ (b : Nat) (w : World), w.cell? ⟨b, 0, none⟩ = some (.pointer none) → w.shape? b = some (e, 2) → w.frozen? ⟨b, 0, none⟩ = false →
    Calls P f #[.pointer (some ⟨b, 0, none⟩)] w fun e w' => e = .returned (.tuple #[]) ∧ w' = w.setCell ⟨b, 0, none⟩ (.pointer (some ⟨b, 0, none⟩))
theorem setCell_row {w : World} {b o : Nat} {cs : Array Value} {T : TypeId} {fr : Nat × Nat} (h : w.heap[b]? = some (.cells cs T fr)) (v : Value) : w.setCell ⟨b, o, none⟩ v = w.setRow b (cs.setIfInBounds o v) := by
  have hlt := (Array.getElem?_eq_some_iff.1 h).1
  have e : w.heap.modify b (fun | .cells c elem frozen => Obj.cells (c.setIfInBounds o v) elem frozen | o => o) = w.heap.modify b (fun | .cells _ elem frozen => Obj.cells (cs.setIfInBounds o v) elem frozen | o => o) := by
    apply Array.ext_getElem?
    intro k
    simp only [Array.getElem?_modify]
    by_cases hk : b = k
    · subst hk; simp only [if_pos rfl, h, Option.map_some]
    · simp only [if_neg hk]
  exact congrArg (fun h => ({ w with heap := h } : World)) e
theorem CopyChecks.does {P : Program} [Met P] {e : TypeId} {f : FuncId} (hok : FnOK P f) (h : CopyChecks P e f) (u : Bool) (a : A) (m : Nat) : DoesB P f [.ptr 0 0] [[.np 0 e u, a]] m (.tup []) [[.np 0 e true, a]] m := by
  refine ⟨hok, rfl, fun C G vals w hG hw hnb _ _ hs hsz hrep => ?_⟩
  obtain ⟨b, cs, T', h1, h2, h3, h4, h5⟩ := hs.box 0 [.np 0 e u, a] (by simp [bxs, look'])
  have hv : vals = #[.pointer (some ⟨b, 0, none⟩)] := by
    apply Array.ext_getElem?
    intro i
    match i with
    | 0 =>
      have h0 : vals[0]? = some (vals[0]'(by simp at hsz; omega)) := by simp at hsz; simp [hsz]
      have := hrep 0 _ _ h0 rfl
      rw [h0]
      generalize vals[0]'(by simp at hsz; omega) = z at this
      cases this with
      | ptr _ _ _ b0 hg hb hx =>
        have e1 : b0 = b := by have := (hb : G.box 0 = some b0).symm.trans h1; simpa using this
        subst e1; rw [hx]; rfl
    | i + 1 => simp at hsz; simp [hsz]
  have hc0 : cs[0]? = some (cs[0]'(by simp at h3; omega)) := by simp at h3; simp [h3]
  have hr0 := h5 0 _ _ hc0 rfl
  have hcell : w.cell? ⟨b, 0, none⟩ = some (cs[0]'(by simp at h3; omega)) := by
    have := cellAt_row h2 0
    rw [hc0] at this
    exact this
  have hrt : Rep (enOf C G (1 + m) w) (.pointer (some ⟨b, 0, none⟩)) (.np 0 e true) ∧ ((u = true ∧ cs[0]'(by simp at h3; omega) = .pointer (some ⟨b, 0, none⟩)) ∨ (u = false ∧ cs[0]'(by simp at h3; omega) = .pointer none ∧ T' = e)) := by
    generalize cs[0]'(by simp at h3; omega) = z at hr0
    cases hr0 with
    | np _ _ _ b0 hg hb hT _ hx =>
      have e1 : b0 = b := by have := (hb : G.box 0 = some b0).symm.trans h1; simpa using this
      subst e1
      refine ⟨.np _ 0 e b0 hg hb hT true rfl, ?_⟩
      obtain ⟨cs', f', hT⟩ := hT
      have hT' : w.heap[b0]? = some (.cells cs' e f') := hT
      rw [h2] at hT'
      simp only [Option.some.injEq, Obj.cells.injEq] at hT'
      cases u with
      | true => exact .inl ⟨rfl, hx⟩
      | false => exact .inr ⟨rfl, hx, hT'.2.1⟩
  obtain ⟨hnp, hcase⟩ := hrt
  subst hv
  rcases hcase with ⟨rfl, hz⟩ | ⟨rfl, hz, rfl⟩
  · rw [hz] at hcell
    refine (h.used b w hcell).mono ?_
    rintro e' w' ⟨rfl, rfl⟩
    exact ⟨_, G, rfl, hs, .tup #[] [] rfl (by simp)⟩
  · rw [hz] at hcell
    refine (h.fresh b w hcell (by simp only [World.shape?, h2]; simp at h3; rw [h3]) (by simp [World.frozen?, h2])).mono ?_
    rintro e' w' ⟨rfl, rfl⟩
    rw [setCell_row h2]
    have hst := hs.store (g := 0) (b := b) (cs := cs) (cs' := cs.setIfInBounds 0 (.pointer (some ⟨b, 0, none⟩))) (T := T') (cells := [.np 0 T' false, a]) (cells' := [.np 0 T' true, a]) (by simp [bxs, look']) h1 h2 ⟨by simpa using h3, fun i u hu => by
      rw [Array.getElem?_setIfInBounds] at hu
      split at hu
      · split at hu
        · simp only [Option.some.injEq] at hu; subst hu; rfl
        · cases hu
      · exact h4 i u hu, fun i u y hu hy => by
      rw [Array.getElem?_setIfInBounds] at hu
      match i with
      | 0 =>
        simp at hy; subst hy
        simp at h3
        simp [h3] at hu
        subst hu
        exact hnp
      | 1 =>
        simp at hy; subst hy
        simp at hu
        exact h5 1 u _ hu rfl
      | i + 2 => simp at hy⟩
    refine ⟨_, G, rfl, ?_, .tup #[] [] rfl (by simp)⟩
    refine { hst with box := fun g' c hc => ?_ }
    refine hst.box g' c ?_
    simp only [bxs, look'_cons] at hc ⊢
    split
    · rename_i e1; rw [if_pos e1] at hc; exact hc
    · rename_i e1; rw [if_neg e1] at hc; simp [look'] at hc
def scal : A → A
  | .d (.v x) => .d (.v x)
  | _ => .any
def scalF (f : List (Nat × A)) : List (Nat × A) := f.map fun p => (p.1, scal p.2)
theorem scalF_look : ∀ (f : List (Nat × A)) (t : Nat), look (scalF f) t = (look f t).map scal
  | [], t => rfl
  | (s, a) :: r, t => by
    simp only [scalF, List.map_cons]
    rw [look_cons, look_cons]
    split
    · rfl
    · exact scalF_look r t
theorem SimG.end_ {C : Ctx} [hN : NB C 0] {n : Nat} {st : St} {G : Gh} {tmps : Array Value} {w w' : World} (h : SimG C n st G tmps w) (hb : Below C.w0.heap.size w w') (hsz : w.heap.size ≤ w'.heap.size) : SimG C n ⟨scalF st.f, [], [], st.gen⟩ G0 tmps w' where
  size := h.size
  frame := fun t a ha => by
    rw [scalF_look] at ha
    obtain ⟨a', ha', rfl⟩ := Option.map_eq_some_iff.1 ha
    obtain ⟨v, hv, hr⟩ := h.frame t a' ha'
    refine ⟨v, hv, ?_⟩
    unfold scal
    split
    · cases hr with | d hr => cases hr with | v _ hx => exact .d (.v _ hx)
    · exact .any _
  box := fun g cells hc => by simp [look'] at hc
  gbox := fun g b hb => by simp [G0] at hb
  inj := fun g g' b hb => by simp [G0] at hb
  live := fun g hg => by simp at hg
  gown := fun g r hr => by simp [G0] at hr
  row := fun g b len cap sz pub hr => by simp [G0] at hr
  mrow := fun g b hr => by simp [G0] at hr
  xold := h.xold
  kold := h.kold
  lent := fun i b hb => by have := hN.h; rw [List.length_eq_zero_iff.1 this] at hb; simp at hb
  fr := ⟨hb.os.trans h.fr.os, hb.tape.trans h.fr.tape, hb.output.trans h.fr.output, Nat.le_trans h.fr.size hsz, fun b h1 h2 => (hb.block b h1).trans (h.fr.block b h1 h2), fun b o u h1 h2 => by
    have hlt := cellAt_lt h2
    rw [cellAt_same (hb.block b hlt)]; exact h.fr.cells b o u h1 h2, fun b cs T f h1 => by
    have hlt := (Array.getElem?_eq_some_iff.1 h1).1
    rw [hb.block b hlt]; exact h.fr.ty b cs T f h1⟩
def StrGives (P : Program) (T e : TypeId) (f : FuncId) : Prop :=
  ∀ (B b : Nat) (l : List UInt8) (w : World), Lib.IsBuilder T e B b (Lib.byteCells l) w → B ≤ w.heap.size → Calls P f #[.pointer (some ⟨b, 0, none⟩)] w fun q w' => q = .returned (.string ⟨l.toArray⟩) ∧ Below B w w'
section
variable {P : Program} {C : Ctx} {n : Nat} {ops : Array Oper} {Q : Exit → St → Prop} {rest : List Oper}
variable {f : List (Nat × A)} {bx : List (Nat × List A)} {lv : List Nat} {gen : Nat} {d : Nat} {ty : TypeId} {pos : String} {af : Array Edge}
theorem strEnd [NB C 0] (hfp : ∀ b, ¬ C.fp b) {x y : Operand} {tys : Array TypeId} {fid : FuncId} {g g2 : Nat} {T e : TypeId} {u : Bool} {s : ByteArray} (hx : av f x = some (.clo fid [])) (hy : av f y = some (.ptr g 0)) (hb : look' bx g = some [.np g T u, .bf g2 e s])
    (hgl : (lv.any fun h => Nat.beq h g2) = true) (hok : FnOK P fid) (hstr : StrGives P T e fid) (hss : s.size ≤ maxLen) (hd : Nat.blt d n = true)
    (h : WO P C n ops Q rest ⟨(d, .d (.v (.string s))) :: scalF f, [], [], gen⟩) : WO P C n ops Q (⟨some d, .call ⟨.value x, #[y], tys⟩, ty, pos, af, none⟩ :: rest) ⟨f, bx, lv, gen⟩ := by
  refine WO.step (st := ⟨f, bx, lv, gen⟩) rfl fun tmps w ⟨G, hs⟩ => ?_
  obtain ⟨fn, hfn, hname, hbody⟩ := hok
  have hrx := hs.av hx
  generalize hv : Act.eval ⟨tmps, []⟩ x = v at hrx
  cases hrx with
  | clo _ vs _ hsz hdd =>
  have hvs : vs = #[] := Array.eq_empty_of_size_eq_zero (by simpa using hsz)
  subst hvs
  have hry := hs.av hy
  generalize hvy : Act.eval ⟨tmps, []⟩ y = vy at hry
  obtain ⟨b, cs, T', h1, h2, h3, h4, h5⟩ := hs.box g _ hb
  have evy : vy = .pointer (some ⟨b, 0, none⟩) := by
    cases hry with
    | ptr _ _ _ b0 hg hb0 hx0 => exact ptr_at hb0 hx0 b h1
  subst evy
  have hrun : (execOp (Act.eval ⟨tmps, []⟩) ⟨some d, .call ⟨.value x, #[y], tys⟩, ty, pos, af, none⟩).run P w = .ok (.enter fid #[.pointer (some ⟨b, 0, none⟩)]) w := by
    unfold execOp
    show Sem.run P (do let d ← resolve (Act.eval ⟨tmps, []⟩) ⟨.value x, #[y], tys⟩ ty; invoke d.target d.args) w = _
    simp only [resolve, hv, hvy, Deferred.ofValue, Sem.run_bind, Sem.run_pure, Result.andThen_ok, invoke, callFunc, run_program, hfn, hname, hbody, Bool.false_eq_true, if_false, Array.empty_append, Array.append_empty, List.map_toArray, List.map_cons, List.map_nil]
  simp at h3
  obtain ⟨p, q, hcs⟩ : ∃ p q, cs = #[p, q] := ⟨cs[0], cs[1], by apply Array.ext_getElem?; intro i; match i with | 0 => simp [h3] | 1 => simp [h3] | i + 2 => simp [h3]⟩
  subst hcs
  have hp := h5 0 p _ rfl rfl
  have hq := h5 1 q _ rfl rfl
  obtain ⟨r, hgr⟩ := hs.live g2 (memAny hgl)
  have mine : ∀ {b lim}, C.mine b lim → C.w0.heap.size ≤ b := fun hm => hm.1.resolve_right (hfp _)
  have hpe : T' = T ∧ (p = .pointer none ∨ p = .pointer (some ⟨b, 0, none⟩)) := by
    cases hp with
    | np _ _ _ b0 hg hb0 hT _ hx0 =>
      have e1 : b0 = b := by have := (hb0 : G.box g = some b0).symm.trans h1; simpa using this
      subst e1
      obtain ⟨cs', f', hT⟩ := hT
      have hT' : w.heap[b0]? = some (.cells cs' T f') := hT
      rw [h2] at hT'
      simp only [Option.some.injEq, Obj.cells.injEq] at hT'
      refine ⟨hT'.2.1, ?_⟩
      cases u with
      | true => exact .inr hx0
      | false => exact .inl hx0
  obtain ⟨rfl, hpe⟩ := hpe
  have hown : w.ownsRow C.w0.heap.size e 1 q (Lib.byteCells s.data.toList).length (Lib.byteCells s.data.toList) ∧ q.ownBlock ≠ some b := by
    cases hq with
    | bf _ _ _ _ hg hq1 hrow =>
    have hx0 := hrow r hgr
    cases r with
    | zero b => exact hx0.elim
    | mp b => exact hx0.elim
    | nil =>
      obtain ⟨rfl, h0⟩ := hx0
      have e0 : s.data.toList = [] := List.eq_nil_of_length_eq_zero (by simpa using h0)
      rw [e0]
      exact ⟨World.ownsRow_nil w _ e 1, by simp [Value.ownBlock]⟩
    | blk b2 len cap sz pub =>
      obtain ⟨rfl, h6, rfl, rfl, ⟨cs', f', hT⟩, h8⟩ := hx0
      obtain ⟨hmine, hnb, huniq, cur, T2, hcur, hcs, hlc, hcm, _, hpos, _⟩ := hs.row g2 b2 len cap 1 0 hgr
      have hT' : w.heap[b2]? = some (.cells cs' e f') := hT
      rw [hcur] at hT'
      simp only [Option.some.injEq, Obj.cells.injEq] at hT'
      obtain ⟨_, rfl, _⟩ := hT'
      have hlen : (Lib.byteCells s.data.toList).length = len := by rw [Lib.byteCells_length, Array.length_toList]; exact h6
      rw [hlen]
      refine ⟨⟨by simpa using hlen, .inr ⟨b2, cap, cur, rfl, mine hmine, hcur, hlc, hcm, hcs, ?_⟩⟩, ?_⟩
      · rw [Nat.mul_one]
        apply List.ext_getElem?
        intro t
        rw [List.getElem?_take]
        have es : (Lib.byteCells s.data.toList) = Lib.strCells s := (Lib.strCells_eq s).symm
        split
        · rename_i hlt
          have hc : s.data[t]? = some (s.data[t]'(by rw [← h6] at hlt; exact hlt)) := Array.getElem?_eq_getElem _
          have h7 := h8 t _ hc
          have h7' : cur[t]? = _ := (cellAt_row hcur t).symm.trans h7
          rw [es, strCells_get hc, Array.getElem?_toList, h7']
        · rename_i hge
          rw [List.getElem?_eq_none (by rw [hlen]; omega)]
      · simp only [Value.ownBlock]
        intro e1
        simp only [Option.some.injEq] at e1
        exact hnb g (e1 ▸ h1)
  have hbat : ∀ p, p = Value.pointer none ∨ p = .pointer (some ⟨b, 0, none⟩) → w.heap[b]? = some (.cells #[p, q] T' (0, 0)) → Lib.IsBuilder T' e C.w0.heap.size b (Lib.byteCells s.data.toList) w := by
    rintro p (rfl | rfl) hh
    · exact .inl ⟨mine (hs.gbox g b h1).2.2, q, hh, hown.1, hown.2⟩
    · exact .inr ⟨mine (hs.gbox g b h1).2.2, q, hh, hown.1, hown.2⟩
  unfold Gives
  have hrun' : (execOp (Act.eval { tmps := tmps, defers := [] }) ⟨some d, .call ⟨.value x, #[y], tys⟩, ty, pos, af, none⟩).run P w = .ok (.enter fid #[.pointer (some ⟨b, 0, none⟩)]) w := hrun
  rw [hrun']
  refine (hstr C.w0.heap.size b s.data.toList w (hbat p hpe h2) hs.fr.size).mono ?_
  rintro e' w' ⟨rfl, hbel⟩
  refine ⟨_, rfl, ⟨(d, .d (.v (.string s))) :: scalF f, [], [], gen⟩, ⟨G0, ?_⟩, h⟩
  have := (hs.end_ hbel hbel.size).put (dst := some d) (dstOK_lt (dst := some d) hd) (v := .string ⟨s.data.toList.toArray⟩) (a := .d (.v (.string s))) (.d (by
    have : (⟨s.data.toList.toArray⟩ : ByteArray) = s := by apply ByteArray.ext; simp
    rw [this]; exact .v _ (by simp [okc, hss])))
  exact this
end
end Go.Ab
namespace Go.Ab
theorem DoesH.does {P : Program} [Met P] {H : Ctx → Prop} {f : FuncId} {args : List A} {r : A} {k : Nat} (h : DoesH P H f args r k) (hH : ∀ C, H C) : Does P f args r k :=
  ⟨h.ok, fun C vals w hG hw hp hx hsz hr => h.calls C vals w hG hw hp (hH C) hx hsz hr⟩
end Go.Ab
namespace Go.Tb
open Go.Ab
structure Tk where
  kind : Int
  s : ByteArray
  n : Int
  at_ : Nat
  nx : Nat
abbrev E0 : ByteArray := B #[]
@[reducible] def Tk.c (t : Tk) : List D := [ci t.kind, cs (if t.kind = 3 then E0 else t.s), ci t.n, ci (t.at_ : Int)]
def kindR (k : Int) : Int := if k = 0 then 0 else if k = 1 then 5 else k - 1
@[reducible] def Tk.r (t : Tk) : List D := [ci (kindR t.kind), cs t.s, ci (t.at_ : Int), ci (t.nx : Int)]
def letB (b : UInt8) : Bool := decide (97 ≤ b.toNat) && decide (b.toNat ≤ 122)
abbrev tkEnd (k : Nat) : Tk := ⟨0, E0, 0, k, 0⟩
def Tk.stops (t : Tk) : Bool := decide (t.kind = 0) || decide (t.kind = 1)
def Tk.ok (t : Tk) : Bool :=
  (!decide (t.kind = 2) || (match bys t.s with | c :: _ => letB c | [] => false)) && (!decide (t.kind = 5) || (match bys t.s with | c :: _ => !letB c | [] => false)) &&
  (!decide (t.kind = 3) || decide ((numP t.s).2 = true ∧ t.n = (numP t.s).1)) && decide (0 ≤ t.kind) && decide (t.kind ≤ 5)
structure Wf (l : List Tk) : Prop where
  ne : l ≠ []
  last : ∀ (i : Nat) t, l[i]? = some t → (t.stops = true ↔ i + 1 = l.length)
  ok : ∀ t ∈ l, t.ok = true
end Go.Tb
namespace Go.Tb
open Go.Ab
abbrev gCom : ByteArray := B #[44]
abbrev gShut : ByteArray := B #[41]
abbrev PS := Nat × Bool
abbrev Pr (α : Type) := PS → α × PS
abbrev dflT : Tk := tkEnd 0
abbrev v0 : Val := ⟨0, 0, E0⟩
abbrev exC (s : ByteArray) (l : List Ex) : Ex := .mk 16 s v0 l
def isT (t : Tk) (x : ByteArray) : Bool := (decide (t.kind = 5) || decide (t.kind = 2)) && decide (t.s = x)
section
variable (L : List Tk)
def tk0 (st : PS) : Tk := (L[st.1]?).getD dflT
def skB (x : ByteArray) (st : PS) : Bool := !st.2 && isT (tk0 L st) x
abbrev adv (st : PS) : PS := (st.1 + 1, st.2)
abbrev failS (st : PS) : PS := (st.1, true)
def needP (x : ByteArray) (st : PS) : PS := if skB L x st then adv st else failS st
def listGo {α : Type} (x : ByteArray) (one : Pr α) : Nat → PS → List α × PS
  | 0, st => ([], st)
  | n + 1, st => if skB L x st then ((one (adv st)).1 :: (listGo x one n (one (adv st)).2).1, (listGo x one n (one (adv st)).2).2) else ([], st)
def listP {α : Type} (one : Pr α) (st : PS) : List α × PS := ((one st).1 :: (listGo L gCom one L.length (one st).2).1, (listGo L gCom one L.length (one st).2).2)
def callP (orF : Pr Ex) (s : ByteArray) (st : PS) : Ex × PS :=
  if skB L gShut st then (exC s [], adv st) else (exC s (listP L orF st).1, needP L gShut (listP L orF st).2)
/-! ### what readers do -/
structure Goes {α : Type} (f : Pr α) : Prop where
  mono : ∀ st, st.1 ≤ (f st).2.1
  lt : ∀ st, st.1 < L.length → (f st).2.1 < L.length
  bad : ∀ st, st.2 = true → (f st).2 = st
variable {L}
theorem at_get {st : PS} {t : Tk} (h : L[st.1]? = some t) : tk0 L st = t := by unfold tk0; rw [h]; rfl
theorem Wf.more (hw : Wf L) {st : PS} (h : st.1 < L.length) (hs : (tk0 L st).stops = false) : st.1 + 1 < L.length := by
  have e : L[st.1]? = some (L[st.1]'h) := by simp
  rw [at_get e] at hs
  have := hw.last _ _ e
  rcases Nat.lt_or_ge (st.1 + 1) L.length with h' | h'
  · exact h'
  · have h2 := this.2 (by omega)
    rw [h2] at hs
    cases hs
end
end Go.Tb
namespace Go.Tb
open Go.Ab
section
variable (L : List Tk)
def Agree {α : Type} (f h : Pr α) : Prop := ∀ st, (f st).2 = (h st).2 ∧ ((f st).2.2 = false → (f st).1 = (h st).1)
variable {L}
theorem Agree.refl {α : Type} (f : Pr α) : Agree f f := fun _ => ⟨rfl, fun _ => rfl⟩
/-! ### steps and queries -/
theorem Goes.seq {α β : Type} {f : Pr α} {h : Pr β} (hf : Goes L f) (hh : Goes L h) : Goes L (fun st => h (f st).2) where
  mono st := Nat.le_trans (hf.mono st) (hh.mono _)
  lt st hl := hh.lt _ (hf.lt st hl)
  bad st hb := by
    have h1 := hf.bad st hb
    have h2 := hh.bad (f st).2 (by rw [h1]; exact hb)
    rw [h2, h1]
theorem Goes.map {α β : Type} {f : Pr α} {h : Pr β} (hf : Goes L f) (e : ∀ st, (h st).2 = (f st).2) : Goes L h where
  mono st := by rw [e]; exact hf.mono st
  lt st hl := by rw [e]; exact hf.lt st hl
  bad st hb := by rw [e]; exact hf.bad st hb
end
end Go.Tb
namespace Go.Tb
open Go.Ab
theorem bys_extract (s : ByteArray) (i j : Nat) : bys (s.extract i j) = ((bys s).take j).drop i := by
  unfold bys
  rw [ByteArray.data_extract, Array.toList_extract, List.extract_eq_drop_take', List.drop_take]
/-! ### the functions -/
end Go.Tb
namespace Go.Tb
open Go.Ab
/-! ### the same as by places -/
theorem ofL_of {b : ByteArray} {l : List UInt8} (h : bys b = l) : b = ofL l := by subst h; unfold ofL bys; simp
end Go.Tb
namespace Go.Tb
open Go.Ab
theorem digB_acc : ∀ (n : Nat) (l : List UInt8), l.length = n → l ≠ [] → (∀ b ∈ l, isDig b = true) → (1 < l.length → l.head? ≠ some 48) → digB (accD 0 l) = l ∧ (l.head? ≠ some 48 → 0 < accD 0 l) := by
  intro n
  induction n with
  | zero => intro l h0 h1; exact absurd (List.length_eq_zero_iff.1 h0) h1
  | succ n ih =>
    intro l hl h1 hd hz
    obtain ⟨l', b, rfl⟩ : ∃ l' b, l = l' ++ [b] := ⟨l.dropLast, l.getLast h1, (List.dropLast_concat_getLast h1).symm⟩
    have hb := hd b (by simp)
    have hb' : 48 ≤ b.toNat ∧ b.toNat ≤ 57 := by simpa [isDig] using hb
    have e1 : accD 0 (l' ++ [b]) = 10 * accD 0 l' + (b.toNat - 48) := by rw [accD_append]; simp [accD, hb]
    have hbn : UInt8.ofNat (48 + (b.toNat - 48)) = b := UInt8.toNat_inj.1 (by rw [UInt8.toNat_ofNat']; omega)
    by_cases q : l' = []
    · subst q
      have e2 : accD 0 ([] ++ [b]) = b.toNat - 48 := by rw [e1]; simp [accD]
      rw [e2]
      refine ⟨by rw [digB_small (by omega), hbn]; rfl, fun h => ?_⟩
      have : b ≠ 48 := fun e => h (by rw [e]; rfl)
      have h2 : b.toNat ≠ 48 := fun e => this (UInt8.toNat_inj.1 e)
      omega
    · have hh : (l' ++ [b]).head? = l'.head? := by cases l' with | nil => exact absurd rfl q | cons x r => rfl
      have hlen : l'.length = n := by simpa using hl
      have hlp : 0 < l'.length := List.length_pos_iff.2 q
      have hz' : l'.head? ≠ some 48 := by rw [← hh]; exact hz (by simp; omega)
      obtain ⟨i1, i2⟩ := ih l' hlen q (fun x hx => hd x (by simp [hx])) (fun _ => hz')
      have i3 := i2 hz'
      rw [e1]
      refine ⟨?_, fun _ => by omega⟩
      rw [digB_big (by omega), show (10 * accD 0 l' + (b.toNat - 48)) / 10 = accD 0 l' by omega, show (10 * accD 0 l' + (b.toNat - 48)) % 10 = b.toNat - 48 by omega, i1, hbn]
theorem digB_head : ∀ u, u ≠ 0 → (digB u).head? ≠ some 48 := by
  refine digB_ind (fun u h h0 => ?_) (fun u h ih h0 => ?_)
  · rw [digB_small h]
    intro e
    simp only [List.head?_cons, Option.some.injEq] at e
    have := congrArg UInt8.toNat e
    rw [UInt8.toNat_ofNat'] at this
    have : (48 + u) % 256 = 48 := this
    omega
  · rw [digB_big h]
    have := ih (by omega)
    cases q : digB (u / 10) with
    | nil => exact absurd q (digB_ne _)
    | cons x r => rw [q] at this; exact this
theorem numP_digs {s : ByteArray} (hne : bys s ≠ []) (hd : ∀ b ∈ bys s, isDig b = true) :
    numP s = if 16 < (bys s).length ∨ (1 < (bys s).length ∧ (bys s).head? = some 48) ∨ 1000000000000000 < accD 0 (bys s) then (0, false) else ((accD 0 (bys s) : Int), true) := by
  by_cases q : 16 < (bys s).length ∨ (1 < (bys s).length ∧ (bys s).head? = some 48) ∨ 1000000000000000 < accD 0 (bys s)
  · rw [if_pos q]
    refine numP_none fun v hv e => ?_
    have hv' : -1000000000000000 ≤ v ∧ v ≤ 1000000000000000 := by simpa [inR] using hv
    have e2 : bys s = Lib.itoa v := by rw [e]; rfl
    rcases Int.lt_or_le v 0 with h | h
    · rw [numB_neg h] at e2
      have := hd 45 (by rw [e2]; simp)
      exact absurd this (by decide)
    · rw [numB_pos h] at e2
      rcases q with q | ⟨q, q2⟩ | q
      · have := digB_len v.toNat 15 (by have : (10 : Nat) ^ (15 + 1) = 10000000000000000 := by decide
                                        omega)
        rw [e2] at q
        omega
      · rw [e2] at q q2
        by_cases h0 : v.toNat = 0
        · rw [h0, digB_small (by decide)] at q; simp at q
        · exact digB_head _ h0 q2
      · rw [e2, accD_digB] at q
        omega
  · rw [if_neg q]
    have hz : 1 < (bys s).length → (bys s).head? ≠ some 48 := fun h1 h2 => q (.inr (.inl ⟨h1, h2⟩))
    have h3 := (digB_acc _ (bys s) rfl hne hd hz).1
    have h4 : accD 0 (bys s) ≤ 1000000000000000 := by omega
    have e : s = numB (accD 0 (bys s) : Int) := by
      rw [← ofL_bs' s]
      unfold numB ofL
      rw [numB_pos (by omega)]
      show (⟨(bys s).toArray⟩ : ByteArray) = ⟨(digB (accD 0 (bys s))).toArray⟩
      rw [h3]
    conv => lhs; rw [e]
    exact numP_num (by simp [inR]; omega)
 where
  ofL_bs' (s : ByteArray) : ofL (bys s) = s := (ofL_of rfl).symm
end Go.Tb
namespace Go.Tb
open Go.Ab
inductive JV where
  | mk (op n : Int) (s : ByteArray) (keys : List ByteArray) (kids : List JV)
def JV.op : JV → Int | .mk a _ _ _ _ => a
def JV.n : JV → Int | .mk _ a _ _ _ => a
def JV.s : JV → ByteArray | .mk _ _ a _ _ => a
def JV.keys : JV → List ByteArray | .mk _ _ _ a _ => a
def JV.kids : JV → List JV | .mk _ _ _ _ a => a
mutual
def JV.kc : JV → List (List D)
  | .mk _ _ _ _ kids => JV.kcs kids
def JV.kcs : List JV → List (List D)
  | [] => []
  | e :: r => [ci e.op, ci e.n, cs e.s, .sl (e.keys.map sc), .sl (JV.kc e)] :: JV.kcs r
end
@[reducible] def JV.c (e : JV) : List D := [ci e.op, ci e.n, cs e.s, .sl (e.keys.map sc), .sl e.kc]
theorem JV.kcs_eq : ∀ l, JV.kcs l = l.map JV.c
  | [] => rfl
  | e :: r => by simp [JV.kcs, JV.kcs_eq r]
theorem JV.kc_eq (e : JV) : e.kc = e.kids.map JV.c := by cases e; simp [JV.kc, JV.kids, JV.kcs_eq]
theorem JV.kc_len (e : JV) : e.kc.length = e.kids.length := by simp [JV.kc_eq]
theorem JV.ind {p : JV → Prop} (h : ∀ e, (∀ k ∈ e.kids, p k) → p e) : ∀ e, p e := by
  intro e
  induction hn : _root_.SizeOf.sizeOf e using Nat.strongRecOn generalizing e with
  | _ m ih =>
    subst hn
    refine h e fun k hk => ih (_root_.SizeOf.sizeOf k) ?_ k rfl
    cases e with
    | mk op n s keys kids =>
      have := List.sizeOf_lt_of_mem (show k ∈ kids from hk)
      simp; omega
/-! equality -/
mutual
def eqJ : JV → JV → Bool
  | .mk a b c d e, .mk a' b' c' d' e' => decide (a = a') && (decide (b = b') && (decide (c = c') && (decide (d = d') && eqJs e e')))
def eqJs : List JV → List JV → Bool
  | [], [] => true
  | x :: l, y :: m => eqJ x y && eqJs l m
  | _, _ => false
end
mutual
theorem eqJ_iff : ∀ (a b : JV), eqJ a b = true ↔ a = b
  | .mk a b c d e, .mk a' b' c' d' e' => by
    simp only [eqJ, Bool.and_eq_true, decide_eq_true_eq, JV.mk.injEq, eqJs_iff e e']
theorem eqJs_iff : ∀ (l m : List JV), eqJs l m = true ↔ l = m
  | [], [] => by simp [eqJs]
  | x :: l, y :: m => by simp only [eqJs, Bool.and_eq_true, eqJ_iff x y, eqJs_iff l m, List.cons.injEq]
  | [], _ :: _ => by simp [eqJs]
  | _ :: _, [] => by simp [eqJs]
end
instance : DecidableEq JV := fun a b => decidable_of_iff _ (eqJ_iff a b)
/-! checking -/
def known (b : UInt8) : Bool := decide (b.toNat = 9) || (decide (b.toNat = 10) || (decide (32 ≤ b.toNat) && decide (b.toNat ≤ 126)))
def plainB (s : ByteArray) : Bool := (bys s).all known
def zeroJ : JV := .mk 0 0 (B #[]) [] []
def fieldsJ (j : JV) : Bool :=
  if j.op = 1 then decide (j.n = 0) && (decide (j.s = B #[]) && decide (j.keys.length + j.kids.length = 0))
  else if j.op = 2 ∨ j.op = 3 then decide (j.s = B #[]) && decide (j.keys.length + j.kids.length = 0)
  else if j.op = 4 then decide (j.n = 0) && decide (j.keys.length + j.kids.length = 0)
  else if j.op = 5 then decide (j.n = 0) && (decide (j.s = B #[]) && decide (j.keys.length = 0))
  else if j.op = 6 then decide (j.n = 0) && (decide (j.s = B #[]) && decide (j.keys.length = j.kids.length))
  else false
def rept (seen : List ByteArray) : List ByteArray → Bool
  | [] => false
  | s :: r => if seen.any (fun x => decide (x = s)) then true else rept (seen ++ [s]) r
def nodeJ (j : JV) (level : Int) : Int :=
  if fieldsJ j = false then 1
  else if (j.op = 2 ∧ j.n ≠ 0 ∧ j.n ≠ 1) ∨ (j.op = 3 ∧ inR j.n = false) then 2
  else if plainB j.s = false ∨ (j.keys.any fun s => !plainB s) = true then 10
  else if rept [] j.keys = true then 4
  else if 5 ≤ j.op ∧ 16 < level then 20
  else 0
mutual
def checkJ : JV → Int → Int
  | .mk op n s keys kids, level => if nodeJ (.mk op n s keys kids) level ≠ 0 then nodeJ (.mk op n s keys kids) level else checkJs kids (level + 1)
def checkJs : List JV → Int → Int
  | [], _ => 0
  | k :: r, level => if checkJ k level ≠ 0 then checkJ k level else checkJs r level
end
/-! printing -/
def escB (b : UInt8) : List UInt8 := if b = 34 ∨ b = 92 then [92, b] else if b = 10 then [92, 110] else if b = 9 then [92, 116] else [b]
def quoteL (l : List UInt8) : List UInt8 := 34 :: (l.flatMap escB ++ [34])
def nullL : List UInt8 := [110, 117, 108, 108]
def trueL : List UInt8 := [116, 114, 117, 101]
def falseL : List UInt8 := [102, 97, 108, 115, 101]
mutual
def printJ : JV → List UInt8
  | .mk op n s keys kids =>
    if op = 1 then nullL else if op = 2 then (if n = 1 then trueL else falseL) else if op = 3 then bys (numB n) else if op = 4 then quoteL (bys s)
    else if op = 6 then 123 :: (membersJ keys kids true ++ [125]) else 91 :: (itemsJ kids true ++ [93])
def itemsJ : List JV → Bool → List UInt8
  | [], _ => []
  | k :: r, first => (if first then [] else [44]) ++ printJ k ++ itemsJ r false
def membersJ : List ByteArray → List JV → Bool → List UInt8
  | s :: keys, k :: r, first => (if first then [] else [44]) ++ quoteL (bys s) ++ [58] ++ printJ k ++ membersJ keys r false
  | _, _, _ => []
end
def getJ (j : JV) (key : ByteArray) : Option JV :=
  if j.op = 6 then (match j.keys.findIdx? fun x => decide (key = x) with | some i => j.kids[i]? | none => none) else none
/-! parsing: 'no at why' is a fault -/
inductive PE (α : Type) where
  | ok (x : α) (i : Nat)
  | no (at_ : Nat) (why : Int)
def isWs (b : UInt8) : Bool := decide (b.toNat = 32) || (decide (b.toNat = 9) || (decide (b.toNat = 10) || decide (b.toNat = 13)))
def hereB (l : List UInt8) (i : Nat) : UInt8 := l.getD i 0
def skipW (l : List UInt8) : Nat → Nat → Nat
  | 0, i => i
  | k + 1, i => if i < l.length ∧ isWs (hereB l i) = true then skipW l k (i + 1) else i
def skipB (l : List UInt8) (i : Nat) : Nat := skipW l (l.length - i) i
def takeJ (l : List UInt8) (c : UInt8) (i : Nat) : PE Unit := if i < l.length ∧ hereB l i = c then .ok () (i + 1) else .no i 10
def wordJ (l : List UInt8) : List UInt8 → Nat → PE Unit
  | [], i => .ok () i
  | c :: r, i => match takeJ l c i with
    | .ok _ j => wordJ l r j
    | .no a w => .no a w
def hexV (c : UInt8) : Option Nat :=
  if 48 ≤ c.toNat ∧ c.toNat ≤ 57 then some (c.toNat - 48) else if 97 ≤ (c ||| 32).toNat ∧ (c ||| 32).toNat ≤ 102 then some ((c ||| 32).toNat - 97 + 10) else none
def escJ (l : List UInt8) (i : Nat) : PE UInt8 :=
  if hereB l i = 34 ∨ hereB l i = 92 ∨ hereB l i = 47 then .ok (hereB l i) (i + 1)
  else if hereB l i = 110 then .ok 10 (i + 1)
  else if hereB l i = 116 then .ok 9 (i + 1)
  else match wordJ l [117, 48, 48] i with
    | .no a w => .no a w
    | .ok _ j => match hexV (hereB l j) with
      | none => .no j 10
      | some high => if high = 1 ∨ 7 < high then .no j 10 else match hexV (hereB l (j + 1)) with
        | none => .no (j + 1) 10
        | some low => if known (UInt8.ofNat (16 * high + low)) = false then .no (j + 1) 10 else .ok (UInt8.ofNat (16 * high + low)) (j + 2)
def textGo (l : List UInt8) : Nat → Nat → List UInt8 → PE (List UInt8)
  | 0, i, _ => .no i 10
  | k + 1, i, acc =>
    if (hereB l i).toNat < 32 ∨ 126 < (hereB l i).toNat then .no i 10
    else if hereB l i = 34 then .ok acc (i + 1)
    else if hereB l i = 92 then (match escJ l (i + 1) with
      | .no a w => .no a w
      | .ok c j => textGo l k j (acc ++ [c]))
    else textGo l k (i + 1) (acc ++ [hereB l i])
def textJ (l : List UInt8) (i : Nat) : PE (List UInt8) := match takeJ l 34 i with
  | .no a w => .no a w
  | .ok _ j => textGo l (l.length + 1 - j) j []
def runD (l : List UInt8) : Nat → Nat → Nat
  | 0, i => i
  | k + 1, i => if i < l.length ∧ isDig (hereB l i) = true then runD l k (i + 1) else i
def digsJ (l : List UInt8) (i : Nat) : Nat := if hereB l i = 48 then i + 1 else runD l (l.length - i) i
def numJ (l : List UInt8) (i : Nat) : PE JV :=
  let i1 := if hereB l i = 45 then i + 1 else i
  let i2 := digsJ l i1
  if i2 = i1 then .no i1 10 else
  let t : ByteArray := ⟨((l.drop i).take (i2 - i)).toArray⟩
  let u := if t = B #[45, 48] then B #[48] else t
  if (numP u).2 = true then .ok (.mk 3 (numP u).1 (B #[]) [] []) i2 else .no i 2
def bytesOf (l : List UInt8) : ByteArray := ⟨l.toArray⟩
mutual
def valJ (l : List UInt8) : Nat → Int → Nat → PE JV
  | 0, _, i => .no i 10
  | k + 1, level, i0 =>
    let i := skipB l i0
    let c := hereB l i
    if c = 110 then (match wordJ l nullL i with | .no a w => .no a w | .ok _ j => .ok (.mk 1 0 (B #[]) [] []) j)
    else if c = 116 then (match wordJ l trueL i with | .no a w => .no a w | .ok _ j => .ok (.mk 2 1 (B #[]) [] []) j)
    else if c = 102 then (match wordJ l falseL i with | .no a w => .no a w | .ok _ j => .ok (.mk 2 0 (B #[]) [] []) j)
    else if c = 34 then (match textJ l i with | .no a w => .no a w | .ok t j => .ok (.mk 4 0 (bytesOf t) [] []) j)
    else if c = 91 ∨ c = 123 then
      if 16 < level then .no i 20
      else if c = 91 then arrJ l k level (i + 1) else objJ l k level (i + 1)
    else numJ l i
def arrJ (l : List UInt8) : Nat → Int → Nat → PE JV
  | 0, _, i => .no i 10
  | k + 1, level, i0 =>
    let i := skipB l i0
    if hereB l i = 93 then .ok (.mk 5 0 (B #[]) [] []) (i + 1) else arrGo l k level i []
def arrGo (l : List UInt8) : Nat → Int → Nat → List JV → PE JV
  | 0, _, i, _ => .no i 10
  | k + 1, level, i, acc => match valJ l k (level + 1) i with
    | .no a w => .no a w
    | .ok v j =>
      let j1 := skipB l j
      if hereB l j1 = 44 then arrGo l k level (j1 + 1) (acc ++ [v])
      else match takeJ l 93 j1 with | .no a w => .no a w | .ok _ j2 => .ok (.mk 5 0 (B #[]) [] (acc ++ [v])) j2
def objJ (l : List UInt8) : Nat → Int → Nat → PE JV
  | 0, _, i => .no i 10
  | k + 1, level, i0 =>
    let i := skipB l i0
    if hereB l i = 125 then .ok (.mk 6 0 (B #[]) [] []) (i + 1) else objGo l k level i [] []
def objGo (l : List UInt8) : Nat → Int → Nat → List ByteArray → List JV → PE JV
  | 0, _, i, _, _ => .no i 10
  | k + 1, level, i0, keys, acc =>
    let i := skipB l i0
    match textJ l i with
    | .no a w => .no a w
    | .ok t j =>
      if keys.any (fun x => decide (x = bytesOf t)) then .no i 4 else
      match takeJ l 58 (skipB l j) with
      | .no a w => .no a w
      | .ok _ j1 => match valJ l k (level + 1) j1 with
        | .no a w => .no a w
        | .ok v j2 =>
          let j3 := skipB l j2
          if hereB l j3 = 44 then objGo l k level (j3 + 1) (keys ++ [bytesOf t]) (acc ++ [v])
          else match takeJ l 125 j3 with | .no a w => .no a w | .ok _ j4 => .ok (.mk 6 0 (B #[]) (keys ++ [bytesOf t]) (acc ++ [v])) j4
end
def parseJ (l : List UInt8) : PE JV := match valJ l (3 * l.length + 1) 1 0 with
  | .no a w => .no a w
  | .ok j i => if skipB l i < l.length then .no (skipB l i) 10 else .ok j 0
end Go.Tb
namespace Go.Tb
open Go.Ab
/-! a text from a position on -/
theorem drop_here {l : List UInt8} {i : Nat} {a : UInt8} {r : List UInt8} (h : l.drop i = a :: r) : i < l.length ∧ hereB l i = a ∧ l.drop (i + 1) = r := by
  have hlt : i < l.length := by
    rcases Nat.lt_or_ge i l.length with h1 | h1
    · exact h1
    · rw [List.drop_eq_nil_of_le h1] at h; cases h
  rw [List.drop_eq_getElem_cons hlt] at h
  injection h with h1 h2
  refine ⟨hlt, ?_, h2⟩
  unfold hereB
  rw [List.getD_eq_getElem?_getD, List.getElem?_eq_getElem hlt]
  exact h1
theorem drop_more {l x r : List UInt8} {i : Nat} (h : l.drop i = x ++ r) : l.drop (i + x.length) = r := by
  rw [← List.drop_drop, h, List.drop_append_of_le_length (Nat.le_refl _), List.drop_length, List.nil_append]
theorem here_end {l : List UInt8} {i : Nat} (h : l.length ≤ i) : hereB l i = 0 := by
  unfold hereB
  rw [List.getD_eq_getElem?_getD, List.getElem?_eq_none h]; rfl
theorem drop_head {l : List UInt8} {i : Nat} : hereB l i = (l.drop i).headD 0 := by
  rcases Nat.lt_or_ge i l.length with h1 | h1
  · rw [List.drop_eq_getElem_cons h1]
    unfold hereB
    rw [List.getD_eq_getElem?_getD, List.getElem?_eq_getElem h1]; rfl
  · rw [here_end h1, List.drop_eq_nil_of_le h1]; rfl
/-! white space -/
theorem skipW_stay {l : List UInt8} {i : Nat} (h : isWs (hereB l i) = false) : ∀ k, skipW l k i = i
  | 0 => rfl
  | k + 1 => by simp only [skipW]; rw [if_neg (by simp [h])]
theorem skipB_stay {l : List UInt8} {i : Nat} (h : isWs (hereB l i) = false) : skipB l i = i := skipW_stay h _
theorem skipW_ge (l : List UInt8) : ∀ (k i : Nat), i ≤ skipW l k i
  | 0, _ => Nat.le_refl _
  | k + 1, i => by
    simp only [skipW]
    split
    · exact Nat.le_trans (Nat.le_succ i) (skipW_ge l k (i + 1))
    · exact Nat.le_refl _
theorem skipW_le (l : List UInt8) : ∀ (k i : Nat), i ≤ l.length → skipW l k i ≤ l.length
  | 0, _, h => h
  | k + 1, i, h => by
    simp only [skipW]
    split
    · rename_i q; exact skipW_le l k (i + 1) q.1
    · exact h
theorem skipB_ge (l : List UInt8) (i : Nat) : i ≤ skipB l i := skipW_ge l _ i
theorem skipB_le {l : List UInt8} {i : Nat} (h : i ≤ l.length) : skipB l i ≤ l.length := skipW_le l _ i h
theorem skipB_end {l : List UInt8} {i : Nat} (h : l.length ≤ i) : skipB l i = i := by
  refine skipB_stay ?_
  rw [here_end h]; rfl
theorem skipB_step {l : List UInt8} {i : Nat} (h : i < l.length) (hw : isWs (hereB l i) = true) : skipB l i = skipB l (i + 1) := by
  unfold skipB
  obtain ⟨k, hk⟩ : ∃ k, l.length - i = k + 1 := ⟨l.length - i - 1, by omega⟩
  rw [hk, show l.length - (i + 1) = k by omega]
  simp only [skipW]
  rw [if_pos ⟨h, hw⟩]
/-! words and texts -/
theorem takeJ_ok {l : List UInt8} {i : Nat} {a : UInt8} {r : List UInt8} (h : l.drop i = a :: r) : takeJ l a i = .ok () (i + 1) := by
  obtain ⟨h1, h2, _⟩ := drop_here h
  unfold takeJ
  rw [if_pos ⟨h1, h2⟩]
theorem wordJ_ok {l : List UInt8} : ∀ {x : List UInt8} {i : Nat} {r : List UInt8}, l.drop i = x ++ r → wordJ l x i = .ok () (i + x.length)
  | [], i, r, _ => rfl
  | a :: x, i, r, h => by
    obtain ⟨h1, h2, h3⟩ := drop_here h
    simp only [wordJ, takeJ_ok h]
    rw [wordJ_ok h3, List.length_cons]
    congr 1; omega
theorem known_cases {b : UInt8} (h : known b = true) : b = 9 ∨ b = 10 ∨ (32 ≤ b.toNat ∧ b.toNat ≤ 126) := by
  unfold known at h
  simp only [Bool.or_eq_true, Bool.and_eq_true, decide_eq_true_eq] at h
  rcases h with h | h | h
  · exact .inl (UInt8.toNat_inj.1 h)
  · exact .inr (.inl (UInt8.toNat_inj.1 h))
  · exact .inr (.inr h)
theorem textGo_ok {l : List UInt8} : ∀ {t : List UInt8} {k i : Nat} {acc r : List UInt8}, (∀ b ∈ t, known b = true) → l.drop i = t.flatMap escB ++ 34 :: r → t.length + 1 ≤ k → textGo l k i acc = .ok (acc ++ t) (i + (t.flatMap escB).length + 1)
  | [], k, i, acc, r, _, h, hk => by
    obtain ⟨k, rfl⟩ : ∃ k', k = k' + 1 := ⟨k - 1, by simp at hk; omega⟩
    obtain ⟨h1, h2, h3⟩ := drop_here (show l.drop i = 34 :: r from h)
    unfold textGo
    rw [h2, if_neg (by decide), if_pos rfl]
    simp
  | b :: t, k, i, acc, r, hp, h, hk => by
    obtain ⟨k, rfl⟩ : ∃ k', k = k' + 1 := ⟨k - 1, by simp at hk; omega⟩
    have hb := known_cases (hp b (List.mem_cons_self ..))
    have ih := fun i' acc' h' => textGo_ok (l := l) (t := t) (k := k) (i := i') (acc := acc') (r := r) (fun x hx => hp x (List.mem_cons_of_mem _ hx)) h' (by simp at hk; omega)
    have e : (b :: t).flatMap escB = escB b ++ t.flatMap escB := rfl
    rw [e, List.append_assoc] at h
    have hesc : ∀ (c d : UInt8), escB b = [92, c] → (∀ j, hereB l j = c → escJ l j = .ok d (j + 1)) → d = b → textGo l (k + 1) i acc = .ok (acc ++ b :: t) (i + ((b :: t).flatMap escB).length + 1) := by
      intro c d he hj hd
      subst hd
      rw [he] at h
      obtain ⟨h1, h2, h3⟩ := drop_here (show l.drop i = 92 :: (c :: (t.flatMap escB ++ 34 :: r)) from h)
      obtain ⟨h4, h5, h6⟩ := drop_here h3
      unfold textGo
      rw [h2, if_neg (by decide), if_neg (by decide), if_pos rfl, hj _ h5]
      dsimp only
      rw [ih _ _ h6, e, he]
      simp
      omega
    by_cases q1 : b = 34 ∨ b = 92
    · refine hesc b b (by unfold escB; rw [if_pos q1]) (fun j hj => ?_) rfl
      unfold escJ
      rw [if_pos (by rw [hj]; rcases q1 with q | q; exact .inl q; exact .inr (.inl q)), hj]
    by_cases q2 : b = 10
    · refine hesc 110 10 (by unfold escB; rw [if_neg q1, if_pos q2]) (fun j hj => ?_) q2.symm
      unfold escJ
      rw [hj, if_neg (by decide), if_pos rfl]
    by_cases q3 : b = 9
    · refine hesc 116 9 (by unfold escB; rw [if_neg q1, if_neg q2, if_pos q3]) (fun j hj => ?_) q3.symm
      unfold escJ
      rw [hj, if_neg (by decide), if_neg (by decide), if_pos rfl]
    have he : escB b = [b] := by unfold escB; rw [if_neg q1, if_neg q2, if_neg q3]
    have hr : 32 ≤ b.toNat ∧ b.toNat ≤ 126 := by
      rcases hb with h | h | h
      · exact absurd h q3
      · exact absurd h q2
      · exact h
    rw [he] at h
    obtain ⟨h1, h2, h3⟩ := drop_here (show l.drop i = b :: (t.flatMap escB ++ 34 :: r) from h)
    unfold textGo
    rw [h2, if_neg (by omega), if_neg (fun q => q1 (.inl q)), if_neg (fun q => q1 (.inr q)), ih _ _ h3, e, he]
    simp
    omega
theorem textJ_ok {l : List UInt8} {t : List UInt8} {i : Nat} {r : List UInt8} (hp : ∀ b ∈ t, known b = true) (h : l.drop i = quoteL t ++ r) : textJ l i = .ok t (i + (quoteL t).length) := by
  have h' : l.drop i = 34 :: (t.flatMap escB ++ 34 :: r) := by rw [h]; simp [quoteL]
  obtain ⟨h1, h2, h3⟩ := drop_here h'
  unfold textJ
  rw [takeJ_ok h']
  dsimp only
  have hlen : t.length ≤ (t.flatMap escB).length := by
    clear h h' h3
    induction t with
    | nil => simp
    | cons a t ih =>
      have : 1 ≤ (escB a).length := by unfold escB; split <;> (try split) <;> (try split) <;> simp
      have := ih fun b hb => hp b (List.mem_cons_of_mem _ hb)
      simp only [List.flatMap_cons, List.length_append, List.length_cons]
      omega
  have hl : (l.drop (i + 1)).length = l.length - (i + 1) := List.length_drop ..
  rw [h3] at hl
  simp only [List.length_append, List.length_cons] at hl
  rw [textGo_ok hp h3 (by omega)]
  simp [quoteL]
  omega
end Go.Tb
namespace Go.Tb
open Go.Ab
theorem bytesOf_bys (s : ByteArray) : bytesOf (bys s) = s := by cases s; rfl
theorem bys_bytesOf (l : List UInt8) : bys (bytesOf l) = l := by simp [bys, bytesOf]
/-! numbers -/
theorem digB_zero : ∀ u, (digB u).headD 0 = 48 → u = 0 := by
  refine digB_ind (fun u h hz => ?_) (fun u h ih hz => ?_)
  · rw [digB_small h] at hz
    have h1 : (UInt8.ofNat (48 + u)).toNat = 48 := by
      have : (UInt8.ofNat (48 + u)) = 48 := hz
      rw [this]; rfl
    rw [UInt8.toNat_ofNat'] at h1
    omega
  · rw [digB_big h] at hz
    have hne := digB_ne (u / 10)
    have : (digB (u / 10)).headD 0 = 48 := by
      cases hd : digB (u / 10) with
      | nil => exact absurd hd hne
      | cons a r => rw [hd] at hz; exact hz
    have := ih this
    omega
theorem runD_ok {l : List UInt8} : ∀ {x : List UInt8} {k i : Nat} {r : List UInt8}, l.drop i = x ++ r → (∀ b ∈ x, isDig b = true) → isDig (r.headD 0) = false → x.length ≤ k → runD l k i = i + x.length
  | [], k, i, r, h, _, hr, _ => by
    have hh : hereB l i = r.headD 0 := by rw [drop_head, h]; rfl
    cases k with
    | zero => rfl
    | succ k => simp only [runD]; rw [if_neg (by rw [hh, hr]; simp)]; rfl
  | a :: x, k, i, r, h, hd, hr, hk => by
    obtain ⟨k, rfl⟩ : ∃ k', k = k' + 1 := ⟨k - 1, by simp at hk; omega⟩
    obtain ⟨h1, h2, h3⟩ := drop_here h
    simp only [runD]
    rw [if_pos ⟨h1, by rw [h2]; exact hd a (List.mem_cons_self ..)⟩, runD_ok h3 (fun b hb => hd b (List.mem_cons_of_mem _ hb)) hr (by simp at hk; omega), List.length_cons]
    omega
theorem isDig_head {u : Nat} : isDig ((digB u).headD 0) = true := by
  cases hd : digB u with
  | nil => exact absurd hd (digB_ne u)
  | cons a r => exact digB_dig u a (by rw [hd]; exact List.mem_cons_self ..)
theorem digsJ_ok {l : List UInt8} {u i : Nat} {r : List UInt8} (h : l.drop i = digB u ++ r) (hr : isDig (r.headD 0) = false) : digsJ l i = i + (digB u).length := by
  have hh : hereB l i = (digB u).headD 0 := by
    rw [drop_head, h]
    cases hd : digB u with
    | nil => exact absurd hd (digB_ne u)
    | cons a x => rfl
  unfold digsJ
  by_cases q : hereB l i = 48
  · rw [if_pos q]
    have := digB_zero u (by rw [← hh]; exact q)
    subst this
    rw [digB_small (by decide)]; rfl
  · rw [if_neg q]
    refine runD_ok h (digB_dig u) hr ?_
    have : (l.drop i).length = l.length - i := List.length_drop ..
    rw [h, List.length_append] at this
    omega
theorem isDig_not45 {b : UInt8} (h : isDig b = true) : b ≠ 45 := by rintro rfl; exact absurd h (by decide)
theorem numJ_ok {l : List UInt8} {n : Int} {i : Nat} {r : List UInt8} (hn : inR n = true) (h : l.drop i = bys (numB n) ++ r) (hr : isDig (r.headD 0) = false) : numJ l i = .ok (.mk 3 n (B #[]) [] []) (i + (bys (numB n)).length) := by
  have hb : bys (numB n) = Lib.itoa n := numB_data n
  have key : ∀ i1 i2, (if hereB l i = 45 then i + 1 else i) = i1 → digsJ l i1 = i2 → i2 ≠ i1 → i2 = i + (bys (numB n)).length → numJ l i = .ok (.mk 3 n (B #[]) [] []) (i + (bys (numB n)).length) := by
    intro i1 i2 h1 h2 h3 h4
    unfold numJ
    rw [h1]
    dsimp only
    rw [h2, if_neg h3]
    have ht : (⟨((l.drop i).take (i2 - i)).toArray⟩ : ByteArray) = numB n := by
      rw [h4, Nat.add_sub_cancel_left, h, List.take_append_of_le_length (Nat.le_refl _), List.take_length]
      exact bytesOf_bys (numB n)
    have hq : ¬ numB n = B #[45, 48] := fun q => by
      have h5 := numP_num hn
      rw [q] at h5
      exact absurd h5 (by
        have : numP (B #[45, 48]) = (0, false) := by decide +kernel
        rw [this]; simp)
    rw [ht]
    simp only [if_neg hq]
    rw [numP_num hn, if_pos rfl, h4]
  rcases Int.lt_or_le n 0 with h0 | h0
  · rw [hb, numB_neg h0] at h
    obtain ⟨h1, h2, h3⟩ := drop_here (show l.drop i = 45 :: (digB n.natAbs ++ r) from h)
    have hd := digsJ_ok h3 hr
    have hp := List.length_pos_iff.2 (digB_ne n.natAbs)
    exact key (i + 1) _ (if_pos h2) hd (by omega) (by rw [hb, numB_neg h0, List.length_cons]; omega)
  · rw [hb, numB_pos h0] at h
    have hd := digsJ_ok h hr
    have hp := List.length_pos_iff.2 (digB_ne n.toNat)
    have hh : hereB l i = (digB n.toNat).headD 0 := by
      rw [drop_head, h]
      cases hd : digB n.toNat with
      | nil => exact absurd hd (digB_ne _)
      | cons a x => rfl
    refine key i _ (if_neg (by rw [hh]; exact isDig_not45 isDig_head)) hd (by omega) (by rw [hb, numB_pos h0])
/-! what a valid node is -/
theorem nodeJ_fields {j : JV} {level : Int} (h : nodeJ j level = 0) : fieldsJ j = true ∧ ¬ ((j.op = 2 ∧ j.n ≠ 0 ∧ j.n ≠ 1) ∨ (j.op = 3 ∧ inR j.n = false)) ∧ plainB j.s = true ∧ (∀ s ∈ j.keys, plainB s = true) ∧ rept [] j.keys = false ∧ (5 ≤ j.op → level ≤ 16) := by
  unfold nodeJ at h
  split at h
  · cases h
  · rename_i h1
    split at h
    · cases h
    · rename_i h2
      split at h
      · cases h
      · rename_i h3
        split at h
        · cases h
        · rename_i h4
          split at h
          · cases h
          · rename_i h5
            refine ⟨by simpa using h1, h2, ?_, fun s hs => ?_, by simpa using h4, fun q => by omega⟩
            · by_cases q : plainB j.s = true
              · exact q
              · exact absurd (.inl (by simpa using q)) h3
            · by_cases q : plainB s = true
              · exact q
              · exact absurd (.inr (List.any_eq_true.2 ⟨s, hs, by simpa using q⟩)) h3
theorem plain_known {s : ByteArray} (h : plainB s = true) : ∀ b ∈ bys s, known b = true := List.all_eq_true.1 h
theorem nil_of_len {α β : Type} {a : List α} {b : List β} (h : a.length + b.length = 0) : a = [] ∧ b = [] := ⟨List.length_eq_zero_iff.1 (by omega), List.length_eq_zero_iff.1 (by omega)⟩
/-! the first byte of a printed value -/
theorem printJ_head (j : JV) (level : Int) (h : checkJ j level = 0) : ∃ a r, printJ j = a :: r ∧ isWs a = false := by
  obtain ⟨op, n, s, keys, kids⟩ := j
  simp only [printJ]
  split
  · exact ⟨_, _, rfl, by decide⟩
  · split
    · split
      · exact ⟨_, _, rfl, by decide⟩
      · exact ⟨_, _, rfl, by decide⟩
    · split
      · rcases Int.lt_or_le n 0 with h0 | h0
        · exact ⟨45, digB n.natAbs, by rw [show bys (numB n) = Lib.itoa n from numB_data n, numB_neg h0], by decide⟩
        · rw [show bys (numB n) = Lib.itoa n from numB_data n, numB_pos h0]
          cases hd : digB n.toNat with
          | nil => exact absurd hd (digB_ne _)
          | cons a r =>
            refine ⟨a, r, rfl, ?_⟩
            have h1 := digB_dig n.toNat a (by rw [hd]; exact List.mem_cons_self ..)
            unfold isDig at h1
            simp only [Bool.and_eq_true, decide_eq_true_eq] at h1
            unfold isWs
            simp only [Bool.or_eq_false_iff, decide_eq_false_iff_not]
            omega
      · split
        · exact ⟨34, _, rfl, by decide⟩
        · split
          · exact ⟨123, _, rfl, by decide⟩
          · exact ⟨91, _, rfl, by decide⟩
end Go.Tb
namespace Go.Tb
open Go.Ab
theorem itemsJ_cons (x : JV) (r : List JV) (first : Bool) : itemsJ (x :: r) first = (if first then [] else [44]) ++ printJ x ++ itemsJ r false := by simp [itemsJ]
theorem membersJ_cons (s : ByteArray) (keys : List ByteArray) (x : JV) (r : List JV) (first : Bool) : membersJ (s :: keys) (x :: r) first = (if first then [] else [44]) ++ quoteL (bys s) ++ [58] ++ printJ x ++ membersJ keys r false := by simp [membersJ]
theorem rept_cons {seen : List ByteArray} {s : ByteArray} {r : List ByteArray} : rept seen (s :: r) = false ↔ seen.any (fun x => decide (x = s)) = false ∧ rept (seen ++ [s]) r = false := by
  simp only [rept]
  cases seen.any (fun x => decide (x = s)) <;> simp
theorem checkJs_cons {k : JV} {r : List JV} {level : Int} (h : checkJs (k :: r) level = 0) : checkJ k level = 0 ∧ checkJs r level = 0 := by
  simp only [checkJs] at h
  split at h
  · rename_i q; exact absurd h q
  · rename_i q; exact ⟨by simpa using q, h⟩
theorem checkJ_mk {op n : Int} {s : ByteArray} {keys : List ByteArray} {kids : List JV} {level : Int} (h : checkJ (.mk op n s keys kids) level = 0) : nodeJ (.mk op n s keys kids) level = 0 ∧ checkJs kids (level + 1) = 0 := by
  simp only [checkJ] at h
  split at h
  · rename_i q; exact absurd h q
  · rename_i q; exact ⟨by simpa using q, h⟩
theorem fieldsJ_mk (op n : Int) (s : ByteArray) (keys : List ByteArray) (kids : List JV) : fieldsJ (.mk op n s keys kids) =
  (if op = 1 then decide (n = 0) && (decide (s = B #[]) && decide (keys.length + kids.length = 0))
  else if op = 2 ∨ op = 3 then decide (s = B #[]) && decide (keys.length + kids.length = 0)
  else if op = 4 then decide (n = 0) && decide (keys.length + kids.length = 0)
  else if op = 5 then decide (n = 0) && (decide (s = B #[]) && decide (keys.length = 0))
  else if op = 6 then decide (n = 0) && (decide (s = B #[]) && decide (keys.length = kids.length))
  else false) := rfl
def Back (v : JV) : Prop := ∀ (level : Int), checkJ v level = 0 → ∀ (l : List UInt8) (i k : Nat) (r : List UInt8), l.drop i = printJ v ++ r → isDig (r.headD 0) = false → 3 * (printJ v).length + 1 ≤ k → valJ l k level i = .ok v (i + (printJ v).length)
theorem back_items {level : Int} {l : List UInt8} {r : List UInt8} : ∀ (kids : List JV), (∀ x ∈ kids, Back x) → checkJs kids (level + 1) = 0 → kids ≠ [] → ∀ (i k : Nat) (acc : List JV), l.drop i = itemsJ kids true ++ 93 :: r → 3 * ((itemsJ kids true).length + 1) ≤ k →
    arrGo l k level i acc = .ok (.mk 5 0 (B #[]) [] (acc ++ kids)) (i + (itemsJ kids true).length + 1)
  | [], _, _, hne, _, _, _, _, _ => absurd rfl hne
  | x :: kids, hb, hc, _, i, k, acc, h, hk => by
    obtain ⟨hc1, hc2⟩ := checkJs_cons hc
    rw [itemsJ_cons] at h hk ⊢
    simp only [if_true, List.nil_append, List.append_assoc] at h
    simp only [if_true, List.nil_append, List.length_append] at hk ⊢
    obtain ⟨k, rfl⟩ : ∃ k', k = k' + 1 := ⟨k - 1, by omega⟩
    have hd : isDig ((itemsJ kids false ++ 93 :: r).headD 0) = false := by
      cases kids with
      | nil => rfl
      | cons y kids => rw [itemsJ_cons]; rfl
    have hv := hb x (List.mem_cons_self ..) (level + 1) hc1 l i k _ h hd (by omega)
    have h2 := drop_more h
    unfold arrGo
    rw [hv]
    dsimp only
    cases kids with
    | nil =>
      have h2' : l.drop (i + (printJ x).length) = 93 :: r := h2
      obtain ⟨h3, h4, h5⟩ := drop_here h2'
      rw [skipB_stay (by rw [h4]; decide), h4, if_neg (by decide), takeJ_ok h2']
      simp [itemsJ]
    | cons y kids =>
      have e : itemsJ (y :: kids) false = 44 :: itemsJ (y :: kids) true := by rw [itemsJ_cons, itemsJ_cons]; simp
      rw [e] at h2 hk ⊢
      obtain ⟨h3, h4, h5⟩ := drop_here (show l.drop (i + (printJ x).length) = 44 :: (itemsJ (y :: kids) true ++ 93 :: r) from h2)
      rw [skipB_stay (by rw [h4]; decide), h4, if_pos rfl]
      have := back_items (y :: kids) (fun z hz => hb z (List.mem_cons_of_mem _ hz)) hc2 (by simp) (i + (printJ x).length + 1) k (acc ++ [x]) h5 (by simp only [List.length_cons] at hk; omega)
      rw [this]
      simp only [List.append_assoc, List.cons_append, List.nil_append, List.length_cons, PE.ok.injEq, true_and]
      omega
theorem back_members {level : Int} {l : List UInt8} {r : List UInt8} : ∀ (keys : List ByteArray) (kids : List JV), keys.length = kids.length → (∀ s ∈ keys, plainB s = true) → (∀ x ∈ kids, Back x) → checkJs kids (level + 1) = 0 → kids ≠ [] →
    ∀ (i k : Nat) (seen : List ByteArray) (acc : List JV), rept seen keys = false → l.drop i = membersJ keys kids true ++ 125 :: r → 3 * ((membersJ keys kids true).length + 1) ≤ k →
    objGo l k level i seen acc = .ok (.mk 6 0 (B #[]) (seen ++ keys) (acc ++ kids)) (i + (membersJ keys kids true).length + 1)
  | _, [], _, _, _, _, hne, _, _, _, _, _, _, _ => absurd rfl hne
  | [], _ :: _, hl, _, _, _, _, _, _, _, _, _, _, _ => by simp at hl
  | s :: keys, x :: kids, hl, hp, hb, hc, _, i, k, seen, acc, hr, h, hk => by
    obtain ⟨hc1, hc2⟩ := checkJs_cons hc
    obtain ⟨hr1, hr2⟩ := rept_cons.1 hr
    rw [membersJ_cons] at h hk ⊢
    simp only [if_true, List.nil_append, List.append_assoc, List.cons_append] at h
    simp only [if_true, List.nil_append, List.length_append, List.length_cons, List.length_nil] at hk ⊢
    obtain ⟨k, rfl⟩ : ∃ k', k = k' + 1 := ⟨k - 1, by omega⟩
    have hq : hereB l i = 34 := by
      rw [drop_head, h]; rfl
    have ht := textJ_ok (plain_known (hp s (List.mem_cons_self ..))) h
    have h2 := drop_more h
    obtain ⟨h3, h4, h5⟩ := drop_here h2
    have hd : isDig ((membersJ keys kids false ++ 125 :: r).headD 0) = false := by
      cases keys with
      | nil => simp [membersJ]; decide
      | cons t keys =>
        cases kids with
        | nil => simp [membersJ]; decide
        | cons y kids => rw [membersJ_cons]; rfl
    have hv := hb x (List.mem_cons_self ..) (level + 1) hc1 l _ k _ h5 hd (by omega)
    have h6 := drop_more h5
    unfold objGo
    dsimp only
    rw [skipB_stay (by rw [hq]; decide), ht]
    dsimp only
    rw [bytesOf_bys, if_neg (by rw [hr1]; simp), skipB_stay (by rw [h4]; decide), takeJ_ok h2]
    dsimp only
    rw [hv]
    dsimp only
    cases kids with
    | nil =>
      have hkz : keys = [] := List.length_eq_zero_iff.1 (by simpa using hl)
      subst hkz
      have h7 : l.drop (i + (quoteL (bys s)).length + 1 + (printJ x).length) = 125 :: r := by rw [h6]; rfl
      obtain ⟨h8, h9, _⟩ := drop_here h7
      rw [skipB_stay (by rw [h9]; decide), h9, if_neg (by decide), takeJ_ok h7]
      simp [membersJ]
      omega
    | cons y kids =>
      cases keys with
      | nil => simp at hl
      | cons t keys =>
        have e : membersJ (t :: keys) (y :: kids) false = 44 :: membersJ (t :: keys) (y :: kids) true := by rw [membersJ_cons, membersJ_cons]; simp
        rw [e] at h6 hk ⊢
        obtain ⟨h8, h9, h10⟩ := drop_here (show l.drop (i + (quoteL (bys s)).length + 1 + (printJ x).length) = 44 :: (membersJ (t :: keys) (y :: kids) true ++ 125 :: r) from h6)
        rw [skipB_stay (by rw [h9]; decide), h9, if_pos rfl]
        have := back_members (t :: keys) (y :: kids) (by simpa using hl) (fun z hz => hp z (List.mem_cons_of_mem _ hz)) (fun z hz => hb z (List.mem_cons_of_mem _ hz)) hc2 (by simp) _ k (seen ++ [s]) (acc ++ [x]) hr2 h10 (by simp only [List.length_cons] at hk; omega)
        rw [this]
        simp only [List.append_assoc, List.cons_append, List.nil_append, List.length_cons, PE.ok.injEq, true_and]
        omega
theorem back : ∀ v, Back v := by
  refine JV.ind fun v ih => ?_
  obtain ⟨op, n, s, keys, kids⟩ := v
  intro level hc l i k r h hr hk
  obtain ⟨hn, hcs⟩ := checkJ_mk hc
  obtain ⟨hf, hrange, hpl, hkeys, hrep, hlev⟩ := nodeJ_fields hn
  simp only [JV.op, JV.n, JV.s, JV.keys] at hrange hpl hkeys hrep hlev
  obtain ⟨k, rfl⟩ : ∃ k', k = k' + 1 := ⟨k - 1, by omega⟩
  obtain ⟨a, q, hpa, hws⟩ := printJ_head _ level hc
  have hhere : hereB l i = a := by rw [drop_head, h, hpa]; rfl
  have hskip : skipB l i = i := skipB_stay (by rw [hhere]; exact hws)
  unfold valJ
  dsimp only
  rw [hskip]
  rw [fieldsJ_mk] at hf
  by_cases o1 : op = 1
  · subst o1
    rw [if_pos rfl] at hf
    simp only [Bool.and_eq_true, decide_eq_true_eq] at hf
    obtain ⟨rfl, rfl, hz⟩ := hf
    obtain ⟨rfl, rfl⟩ := nil_of_len hz
    have hp : printJ (.mk 1 0 (B #[]) [] []) = nullL := by simp [printJ]
    rw [hp] at h ⊢
    rw [(drop_here (show l.drop i = 110 :: ([117, 108, 108] ++ r) from h)).2.1, if_pos rfl, wordJ_ok h]
  by_cases o2 : op = 2
  · subst o2
    rw [if_neg (show ¬ (2 : Int) = 1 by decide), if_pos (.inl rfl)] at hf
    simp only [Bool.and_eq_true, decide_eq_true_eq] at hf
    obtain ⟨rfl, hz⟩ := hf
    obtain ⟨rfl, rfl⟩ := nil_of_len hz
    by_cases n1 : n = 1
    · subst n1
      have hp : printJ (.mk 2 1 (B #[]) [] []) = trueL := by simp [printJ]
      rw [hp] at h ⊢
      rw [(drop_here (show l.drop i = 116 :: ([114, 117, 101] ++ r) from h)).2.1, if_neg (by decide), if_pos rfl, wordJ_ok h]
    · have n0 : n = 0 := by
        by_cases z : n = 0
        · exact z
        · exact absurd (.inl ⟨rfl, z, n1⟩) hrange
      subst n0
      have hp : printJ (.mk 2 0 (B #[]) [] []) = falseL := by simp [printJ]
      rw [hp] at h ⊢
      rw [(drop_here (show l.drop i = 102 :: ([97, 108, 115, 101] ++ r) from h)).2.1, if_neg (by decide), if_neg (by decide), if_pos rfl, wordJ_ok h]
  by_cases o3 : op = 3
  · subst o3
    rw [if_neg (show ¬ (3 : Int) = 1 by decide), if_pos (.inr rfl)] at hf
    simp only [Bool.and_eq_true, decide_eq_true_eq] at hf
    obtain ⟨rfl, hz⟩ := hf
    obtain ⟨rfl, rfl⟩ := nil_of_len hz
    have hin : inR n = true := by
      by_cases z : inR n = true
      · exact z
      · exact absurd (.inr ⟨rfl, by simpa using z⟩) hrange
    have hp : printJ (.mk 3 n (B #[]) [] []) = bys (numB n) := by simp [printJ]
    rw [hp] at h hpa ⊢
    have hnum := numJ_ok hin h hr
    have ha : isDig a = true ∨ a = 45 := by
      have hb : bys (numB n) = Lib.itoa n := numB_data n
      rw [hb] at hpa
      rcases Int.lt_or_le n 0 with h0 | h0
      · rw [numB_neg h0] at hpa; injection hpa with h1 _; exact .inr h1.symm
      · rw [numB_pos h0] at hpa
        exact .inl (digB_dig n.toNat a (by rw [hpa]; exact List.mem_cons_self ..))
    have hne : a ≠ 110 ∧ a ≠ 116 ∧ a ≠ 102 ∧ a ≠ 34 ∧ a ≠ 91 ∧ a ≠ 123 := by
      rcases ha with ha | ha
      · refine ⟨?_, ?_, ?_, ?_, ?_, ?_⟩ <;> (rintro rfl; exact absurd ha (by decide))
      · subst ha; decide
    rw [hhere, if_neg hne.1, if_neg hne.2.1, if_neg hne.2.2.1, if_neg hne.2.2.2.1, if_neg (by rintro (z | z); exact hne.2.2.2.2.1 z; exact hne.2.2.2.2.2 z), hnum]
  by_cases o4 : op = 4
  · subst o4
    rw [if_neg (by decide), if_neg (by decide), if_pos rfl] at hf
    simp only [Bool.and_eq_true, decide_eq_true_eq] at hf
    obtain ⟨rfl, hz⟩ := hf
    obtain ⟨rfl, rfl⟩ := nil_of_len hz
    have hp : printJ (.mk 4 0 s [] []) = quoteL (bys s) := by simp [printJ]
    rw [hp] at h ⊢
    have ht := textJ_ok (plain_known hpl) h
    rw [show hereB l i = 34 by rw [drop_head, h]; rfl, if_neg (by decide), if_neg (by decide), if_neg (by decide), if_pos rfl, ht]
    dsimp only
    rw [bytesOf_bys]
  by_cases o5 : op = 5
  · subst o5
    rw [if_neg (by decide), if_neg (by decide), if_neg (by decide), if_pos rfl] at hf
    simp only [Bool.and_eq_true, decide_eq_true_eq] at hf
    obtain ⟨rfl, rfl, hz⟩ := hf
    have hkz := List.length_eq_zero_iff.1 hz
    subst hkz
    have hp : printJ (.mk 5 0 (B #[]) [] kids) = 91 :: (itemsJ kids true ++ [93]) := by simp [printJ]
    rw [hp] at h hk ⊢
    simp only [List.length_cons, List.length_append, List.length_nil] at hk ⊢
    have hl := hlev (by decide)
    obtain ⟨h1, h2, h3⟩ := drop_here (show l.drop i = 91 :: (itemsJ kids true ++ [93] ++ r) by rw [h]; simp)
    rw [h2, if_neg (by decide), if_neg (by decide), if_neg (by decide), if_neg (by decide), if_pos (.inl rfl), if_neg (by omega), if_pos rfl]
    obtain ⟨k, rfl⟩ : ∃ k', k = k' + 1 := ⟨k - 1, by omega⟩
    unfold arrJ
    dsimp only
    cases kids with
    | nil =>
      obtain ⟨h4, h5, h6⟩ := drop_here (show l.drop (i + 1) = 93 :: r by rw [h3]; rfl)
      rw [skipB_stay (by rw [h5]; decide), h5, if_pos rfl]
      simp [itemsJ]
    | cons x kids =>
      obtain ⟨hc1, hc2⟩ := checkJs_cons hcs
      obtain ⟨b, t, hb, hbw⟩ := printJ_head x (level + 1) hc1
      have hh : hereB l (i + 1) = b := by rw [drop_head, h3, itemsJ_cons]; simp [hb]
      have hb93 : b ≠ 93 := by
        rintro rfl
        have := ih x (List.mem_cons_self ..) (level + 1) hc1 (printJ x) 0 (3 * (printJ x).length + 1) [] (by simp) rfl (Nat.le_refl _)
        rw [hb] at this
        simp only [valJ] at this
        rw [skipB_stay (by show isWs 93 = false; decide)] at this
        simp [hereB, numJ, digsJ, runD, isDig] at this
      rw [skipB_stay (by rw [hh]; exact hbw), hh, if_neg hb93]
      have h3' : l.drop (i + 1) = itemsJ (x :: kids) true ++ 93 :: r := by rw [h3]; simp
      rw [back_items (x :: kids) (fun z hz => ih z hz) hcs (by simp) (i + 1) k [] h3' (by omega)]
      simp only [List.nil_append, PE.ok.injEq, true_and]
      omega
  by_cases o6 : op = 6
  · subst o6
    rw [if_neg (by decide), if_neg (by decide), if_neg (by decide), if_neg (by decide), if_pos rfl] at hf
    simp only [Bool.and_eq_true, decide_eq_true_eq] at hf
    obtain ⟨rfl, rfl, hz⟩ := hf
    have hp : printJ (.mk 6 0 (B #[]) keys kids) = 123 :: (membersJ keys kids true ++ [125]) := by simp [printJ]
    rw [hp] at h hk ⊢
    simp only [List.length_cons, List.length_append, List.length_nil] at hk ⊢
    have hl := hlev (by decide)
    obtain ⟨h1, h2, h3⟩ := drop_here (show l.drop i = 123 :: (membersJ keys kids true ++ [125] ++ r) by rw [h]; simp)
    rw [h2, if_neg (by decide), if_neg (by decide), if_neg (by decide), if_neg (by decide), if_pos (.inr rfl), if_neg (by omega), if_neg (by decide)]
    obtain ⟨k, rfl⟩ : ∃ k', k = k' + 1 := ⟨k - 1, by omega⟩
    unfold objJ
    dsimp only
    cases kids with
    | nil =>
      have hkz := List.length_eq_zero_iff.1 hz
      subst hkz
      obtain ⟨h4, h5, h6⟩ := drop_here (show l.drop (i + 1) = 125 :: r by rw [h3]; simp [membersJ])
      rw [skipB_stay (by rw [h5]; decide), h5, if_pos rfl]
      simp [membersJ]
    | cons x kids =>
      cases keys with
      | nil => simp at hz
      | cons t keys =>
        have hh : hereB l (i + 1) = 34 := by rw [drop_head, h3, membersJ_cons]; simp [quoteL]
        rw [skipB_stay (by rw [hh]; decide), hh, if_neg (by decide)]
        have h3' : l.drop (i + 1) = membersJ (t :: keys) (x :: kids) true ++ 125 :: r := by rw [h3]; simp
        rw [back_members (t :: keys) (x :: kids) hz hkeys (fun z hz => ih z hz) hcs (by simp) (i + 1) k [] [] hrep h3' (by omega)]
        simp only [List.nil_append, PE.ok.injEq, true_and]
        omega
  · rw [if_neg o1, if_neg (show ¬ (op = 2 ∨ op = 3) by rintro (z | z); exact o2 z; exact o3 z), if_neg o4, if_neg o5, if_neg o6] at hf
    cases hf
end Go.Tb
