import Derived.Test.YtjenenllmjlimaaQ1
import Derived.Laws.Cover3
import Derived.Lib.Bytealg
import Derived.Laws.Externs
import Derived.Lib.IndexEntry
import Derived.Lib.Mul64
import Derived.Laws.BitsAllLaws
namespace Go.Ab
open Go.RowKit
inductive RV where
  | tmp (t : Nat)
  | cell (t ty : Nat)
def RV.var : RV → ResultVar
  | .tmp t => .tmp t
  | .cell t ty => .cell t ty
def oD (tmps : Array Value) : ResultVar → Sem Value
  | .tmp t => pure (tmps.getD t undef)
  | .cell a t => do loadVar t (← asAddr (tmps.getD a undef))
section
variable {P : Program} (T : cd P)
def jY (f : List (Nat × A)) (bx : List (Nat × List A)) : List RV → Option (List A)
  | [] => some []
  | .tmp t :: r => match look f t, jY f bx r with
    | some a, some l => some (a :: l)
    | _, _ => none
  | .cell t ty :: r => match look f t with
    | some (.ptr g off) => (match ax bx g with
      | some cells => (match ku T ty (cells.drop off), jY f bx r with
        | some a, some l => some (a :: l)
        | _, _ => none)
      | none => none)
    | _ => none
def QV (rs : List RV) (r : A) (k : Nat) : Exit → St → Prop := fun e st =>
  (match e with | .normal => True | .ret => True | _ => False) ∧ ∃ l order, jY T st.f st.bx rs = some l ∧ norm order (az l) = r ∧ order.length = k ∧ order.Nodup ∧ ∀ g ∈ order, g ∈ st.lv
theorem lN {C : Ctx} {n : Nat} {st : St} {G : Gh} {tmps : Array Value} {w : World} (hs : aP C n st G tmps w) : ∀ (rs : List RV) (l : List A), jY T st.f st.bx rs = some l →
    ∃ vs : List Value, ((rs.map RV.var).mapM (oD tmps)).run P w = .ok vs w ∧ vs.length = l.length ∧
      ∀ (i : Nat) (u : Value) (a : A), vs[i]? = some u → l[i]? = some a → aS (aB C G st.gen w) u a
  | [], l, h => by simp only [jY, Option.some.injEq] at h; subst h; exact ⟨[], by simp, rfl, by simp⟩
  | .tmp t :: r, l, h => by
    simp only [jY] at h
    split at h
    · rename_i a l' ha hl'
      simp only [Option.some.injEq] at h
      subst h
      obtain ⟨vs, h1, h2, h3⟩ := lN hs r l' hl'
      obtain ⟨v, hv, hr⟩ := hs.frame _ _ ha
      refine ⟨v :: vs, ?_, by simp [h2], fun i u a hu ha => ?_⟩
      · simp only [List.map_cons, RV.var, List.mapM_cons, Sem.run_bind, oD, Sem.run_pure, Result.andThen_ok, h1]
        simp [hv]
      · cases i with
        | zero => simp at hu ha; subst hu; subst ha; exact hr
        | succ i => exact h3 i u a (by simpa using hu) (by simpa using ha)
    · cases h
  | .cell t ty :: r, l, h => by
    simp only [jY] at h
    split at h
    · rename_i g off ht
      split at h
      · rename_i cells hb
        split at h
        · rename_i a l' ha hl'
          simp only [Option.some.injEq] at h
          subst h
          obtain ⟨vs, h1, h2, h3⟩ := lN hs r l' hl'
          obtain ⟨v, hv, hr⟩ := hs.frame _ _ ht
          obtain ⟨b, cs, T', h4, h5, h6, h7, h8⟩ := hP hs hb hr
          subst h4
          obtain ⟨u, hu1, hu2⟩ := lS (E := aB C G st.gen w) T (t := ty) (b := b) (off := off) (u := fun j => cs[off + j]?.getD default) (l := cells.drop off) (fun j hj => by
              have hj' : off + j < cs.size := by simp at hj; omega
              have e : cs[off + j]? = some cs[off + j] := by simp [hj']
              exact ⟨by show cellAt w b (off + j) = _; rw [bP h5, e]; rfl, by rw [e]; exact h7 _ _ e⟩) (fun j y hy => by
              have hy' : cells[off + j]? = some y := by simpa using hy
              have hj' : off + j < cs.size := by rw [h6]; exact (List.getElem?_eq_some_iff.1 hy').1
              have e : cs[off + j]? = some cs[off + j] := by simp [hj']
              rw [e]
              exact h8 _ _ _ e hy') ha
          have hu1' : (loadVar ty ⟨b, off, none⟩).run P w = .ok u w := hu1
          refine ⟨u :: vs, ?_, by simp [h2], fun i x a hx ha => ?_⟩
          · have hg : tmps.getD t undef = .pointer (some ⟨b, off, none⟩) := by simp [hv]
            simp only [List.map_cons, RV.var, List.mapM_cons, oD, Sem.run_bind, Sem.run_pure, Result.andThen_ok, h1, hg, asAddr, hu1']
          · cases i with
            | zero => simp at hx ha; subst hx; subst ha; exact hu2
            | succ i => exact h3 i x a (by simpa using hx) (by simpa using ha)
        · cases h
      · cases h
    · cases h
theorem mr {fn : Func} {rs : List RV} (h : fn.results = (rs.map RV.var).toArray) {tmps : Array Value} {w : World} {vs : List Value}
    (hr : ((rs.map RV.var).mapM (oD tmps)).run P w = .ok vs w) :
    (results fn tmps).run P w = .ok (jD vs) w := by
  have e : results fn tmps = (do
      let vs ← fn.results.mapM (oD tmps)
      pure (if h : vs.size = 1 then vs[0] else .tuple vs)) := by
    unfold results
    congr 2
    first | done | (congr 2; funext x; cases x <;> rfl)
  rw [e, h, Array.mapM_eq_mapM_toList]
  simp only [Sem.run_bind, Sem.run_map, hr, Result.andThen_ok, Sem.run_pure]
  match vs with
  | [] => simp [jD]
  | [v] => simp [jD]
  | v :: v2 :: vs => simp [jD]
theorem aw.fa [eK P] {f : FuncId} {fn : Func} {c : Code} {rs : List RV} {n : Nat} {args : List A} {r : A} {k : Nat} (hf : P.funcs[f]? = some fn) (hname : (fn.name == "runtime.NumGoroutine") = false) (hb : fn.body = some c) (hn : fn.ntmps = n)
    (hr : fn.results = (rs.map RV.var).toArray) (hlen : Nat.ble args.length n = true) (h : ∀ C, NB C 0 → GC P C → W P C n c (QV T rs r k) ⟨kp 0 args, [], [], 0⟩) : aw P f args r k := by
  have hlen := Nat.le_of_ble_eq_true hlen
  refine ⟨⟨fn, hf, hname, by rw [hb]; rfl⟩, fun C vals w hG hw hp hx hsz hrep => ?_⟩
  subst hw
  refine calls_of_wp hf hb (wp_mono (uq hp.2.2.2 (h C ⟨by rw [hp.2.2.1]; rfl⟩ hG (vals ++ Array.replicate (fn.ntmps - vals.size) undef) C.w0 ⟨G0, ?_⟩)) ?_)
  · refine { size := by simp [hn]; omega, frame := fun t a ha => ?_, box := fun g cells hc => by simp [ax] at hc, gbox := fun g b hb => by simp [G0] at hb, inj := fun g g' b hb => by simp [G0] at hb,
             live := fun g hg => by simp at hg, gown := fun g r hr => by simp [G0] at hr, row := fun g b len cap sz pub hr => by simp [G0] at hr, mrow := fun g b hr => by simp [G0] at hr, xold := fun b o hb => ⟨hx b o hb, hp.1 b⟩, kold := fun b o hb => absurd hb (hp.2.1 b o), lent := fun i b hb => by rw [hp.2.2.1] at hb; simp at hb,
             fr := ⟨rfl, rfl, rfl, Nat.le_refl _, fun _ _ _ => rfl, fun _ _ _ hb => absurd hb (hp.2.1 _ _), eg.refl _⟩ }
    obtain ⟨_, h1⟩ := jL args 0 t a ha
    have h2 : t < args.length := (List.getElem?_eq_some_iff.1 (by simpa using h1)).1
    have h3 : t < vals.size := by omega
    have h4 : vals[t]? = some vals[t] := by simp [h3]
    exact ⟨vals[t], by rw [Array.getElem?_append_left h3]; exact h4, hrep t _ a h4 (by simpa using h1)⟩
  · rintro e ⟨tmps, df⟩ w' ⟨hd, st, ⟨G, hs⟩, he, l, order, hl, hno, hol, hnd, hov⟩
    have hmain : ∃ v, (results fn tmps).run P w' = .ok v w' ∧ ∃ v_1 G', Ending.returned v = .returned v_1 ∧ aP C 0 ⟨[], [], List.range k, k⟩ G' #[] w' ∧ aS (aB C G' k w') v_1 r := by
      obtain ⟨vs, hvs, hvl, hvr⟩ := lN T hs rs l hl
      refine ⟨_, mr hr hvs, _, ⟨fun _ => none, fun i => if i < k then (order[i]?).bind G.own else none⟩, rfl, ?_, ?_⟩
      · refine { size := rfl, frame := fun t a ha => by simp [look] at ha, box := fun g cells hc => by simp [ax] at hc, gbox := fun g b hb => by simp at hb, inj := fun g g' b hb => by simp at hb,
                 live := fun g hg => ?_, gown := fun g r hr => ?_, row := fun g b len cap sz pub hr => ?_, mrow := fun g b hr => ?_, xold := hs.xold, kold := hs.kold, lent := fun i b hb => by rw [hp.2.2.1] at hb; simp at hb, fr := hs.fr }
        · have hg' : g < k := by simpa using hg
          have hg2 : g < order.length := by omega
          obtain ⟨r', hr'⟩ := hs.live order[g] (hov _ (List.getElem_mem hg2))
          exact ⟨r', by simp [hg', hg2, hr']⟩
        · dsimp only at hr
          split at hr
          · assumption
          · cases hr
        · dsimp only at hr
          split at hr
          · rename_i hgk
            obtain ⟨g0, hg0, hr0⟩ := Option.bind_eq_some_iff.1 hr
            obtain ⟨h1, h2, h3, h4⟩ := hs.row g0 b len cap sz pub hr0
            refine ⟨h1, fun g' => by simp, fun g' len' cap' sz' pub' hr' => ?_, h4⟩
            dsimp only at hr'
            split at hr'
            · obtain ⟨g1, hg1, hr1⟩ := Option.bind_eq_some_iff.1 hr'
              have e := h3 g1 len' cap' sz' pub' hr1
              subst e
              obtain ⟨i1, e1⟩ := List.getElem?_eq_some_iff.1 hg0
              obtain ⟨i2, e2⟩ := List.getElem?_eq_some_iff.1 hg1
              have hpw := List.pairwise_iff_getElem.1 hnd
              rcases Nat.lt_trichotomy g' g with hlt | heq | hgt
              · exact absurd (e2.trans e1.symm) (hpw g' g i2 i1 hlt)
              · exact heq
              · exact absurd (e1.trans e2.symm) (hpw g g' i1 i2 hgt)
            · cases hr'
          · cases hr
        · dsimp only at hr
          split at hr
          · rename_i hgk
            obtain ⟨g0, hg0, hr0⟩ := Option.bind_eq_some_iff.1 hr
            obtain ⟨h1, _, h3, h4⟩ := hs.mrow g0 b hr0
            refine ⟨h1, fun g' => by simp, fun g' hr' => ?_, h4⟩
            dsimp only at hr'
            split at hr'
            · obtain ⟨g1, hg1, hr1⟩ := Option.bind_eq_some_iff.1 hr'
              have e := h3 g1 hr1
              subst e
              obtain ⟨i1, e1⟩ := List.getElem?_eq_some_iff.1 hg0
              obtain ⟨i2, e2⟩ := List.getElem?_eq_some_iff.1 hg1
              have hpw := List.pairwise_iff_getElem.1 hnd
              rcases Nat.lt_trichotomy g' g with hlt | heq | hgt
              · exact absurd (e2.trans e1.symm) (hpw g' g i2 i1 hlt)
              · exact heq
              · exact absurd (e1.trans e2.symm) (hpw g g' i1 i2 hgt)
            · cases hr'
          · cases hr
      · rw [← hno]
        refine aS.norm (order := order) (E := aB C G st.gen w') (E2 := aB C ⟨fun _ => none, fun i => if i < k then (order[i]?).bind G.own else none⟩ k w') (fun b o u hu hn => ⟨hu, fun hp => hn ?_⟩) (fun g r' hg hr' => ?_) (by simp [aB, hol]) (ox hvl hvr)
        · rcases (hp : bC C ⟨fun _ => none, fun i => if i < k then (order[i]?).bind G.own else none⟩ b o) with hp | ⟨g, hp⟩ | ⟨g, len, cap, sz, pub, hp, hle⟩
          · exact Or.inl hp
          · cases hp
          · simp only at hp
            split at hp
            · obtain ⟨g0, _, hr0⟩ := Option.bind_eq_some_iff.1 hp
              exact Or.inr (Or.inr ⟨g0, len, cap, sz, pub, hr0, hle⟩)
            · cases hp
        · have hr2 : (if order.idxOf g < k then (order[order.idxOf g]?).bind G.own else none) = some r' := hr'
          rw [if_pos (by rw [← hol]; exact fO hg)] at hr2
          have : order[order.idxOf g]? = some g := by
            rw [List.getElem?_eq_some_iff]
            exact ⟨fO hg, List.getElem_idxOf (fO hg)⟩
          rw [this] at hr2
          exact hr2
    cases e with
    | normal => exact ⟨hd.trans hp.2.2.2, hmain⟩
    | ret => exact ⟨hd.trans hp.2.2.2, hmain⟩
    | exit _ => exact he.elim
    | goto _ => exact he.elim
    | panic _ => exact he.elim
    | outgrown => exact he.elim
theorem QV.ar {rs : List RV} {r : A} {e : Exit} {st : St} {l : List A} (he : match e with | .normal => True | .ret => True | _ => False) (hl : jY T st.f st.bx rs = some l) (hr : norm [] (az l) = r) : QV T rs r 0 e st :=
  ⟨he, l, [], hl, hr, rfl, List.nodup_nil, by simp⟩
variable {C : Ctx} {n : Nat} {ops : Array Oper} {Q : Exit → St → Prop} {rest l : List Oper} {c : Code}
variable {f f' : List (Nat × A)} {bx bx' : List (Nat × List A)} {lv lv' : List Nat} {gen gen' d : Nat} {op : Op} {ty : TypeId} {pos : String} {af : Array Edge} {a : A} {dst : Option Nat}
def QE (f : List (Nat × A)) (bx : List (Nat × List A)) (lv : List Nat) (gen : Nat) : Exit → St → Prop := fun e st => e = .normal ∧ Sub st.f f ∧ pX st.bx bx ∧ (∀ g ∈ lv, g ∈ st.lv) ∧ st.gen ≤ gen
theorem QE.mk {st : St} (h1 : Sub st.f f) (h2 : pX st.bx bx) (h3 : ∀ g ∈ lv, g ∈ st.lv) (h4 : st.gen ≤ gen) : QE f bx lv gen .normal st := ⟨rfl, h1, h2, h3, h4⟩
theorem yg {x : Operand} {xs : Array Operand} {tys : Array TypeId} {fid : FuncId} {vs : List Value} {r : Value} (hx : av f x = some (.clo fid [])) (hxs : iJ f xs.toList = some (vs.map fun v => A.d (.v v))) (hrun : ∀ w, (callFunc fid vs.toArray).run P w = .ok (.value r) w) (hr : dr r = true) :
    Pu P C n ⟨f, bx, lv, gen⟩ ⟨dst, .call ⟨.value x, xs, tys⟩, ty, pos, af, none⟩ (.d (.v r)) := by
  intro G tmps w hs
  have hrx := hs.av hx
  generalize hv : Act.eval ⟨tmps, []⟩ x = v at hrx
  cases hrx with
  | clo _ cs _ hsz hd =>
  have hcs : cs = #[] := Array.eq_empty_of_size_eq_zero (by simpa using hsz)
  subst hcs
  obtain ⟨h1, h2⟩ := iR hs xs.toList _ hxs
  have hargs : xs.map (Act.eval ⟨tmps, []⟩) = vs.toArray := by
    apply Array.ext_getElem?
    intro i
    simp only [Array.getElem?_map, List.getElem?_toArray]
    cases hvi : vs[i]? with
    | none =>
      have : xs.size ≤ i := by have := List.getElem?_eq_none_iff.1 hvi; simp at h1; omega
      simp [this]
    | some u =>
      obtain ⟨y, hy, hr⟩ := h2 i (.d (.v u)) (by rw [List.getElem?_map, hvi]; rfl)
      have hy' : xs[i]? = some y := by simpa using hy
      rw [hy']
      simp only [Option.map_some, Option.some.injEq]
      generalize Act.eval ⟨tmps, []⟩ y = z at hr ⊢
      cases hr with | d hr => cases hr; rfl
  refine cI (v := r) (w' := w) ?_ ⟨Below.refl _ _, .d (.v _ hr)⟩
  unfold execOp
  show Sem.run P (do let d ← resolve (Act.eval ⟨tmps, []⟩) ⟨.value x, xs, tys⟩ ty; invoke d.target d.args) w = _
  simp only [resolve, hv, Deferred.ofValue, Sem.run_bind, Sem.run_pure, Result.andThen_ok, invoke, Array.empty_append, hargs, Array.append_empty]
  exact hrun w
end
end Go.Ab
namespace Go.Ab
open Go.RowKit
def qZ : Bool → List Oper → Option Nat
  | _, [] => none
  | g, o :: r => match o.op, r with
    | .pick _ _ _, [] => bif g then o.dst else none
    | .pick _ _ _, [o'] => match o'.op with
      | .assign _ => bif g then o'.dst else none
      | _ => qZ (g || o.guard.isSome) r
    | .assign _, _ => none
    | _, _ => qZ (g || o.guard.isSome) r
abbrev kq (b : Bool) : A := .d (.v (.bool b))
def rh (d : Nat) : List (Nat × A) → List (Nat × A) → Bool
  | [], _ => true
  | (s, _) :: r, f0 => (Nat.beq s d || f0.all fun x => !Nat.beq x.1 s) && rh d r f0
section
variable {P : Program} {C : Ctx} {n : Nat} {ops : Array Oper} {Q : Exit → St → Prop} {rest l : List Oper} {c : Code}
variable {f f0 f' : List (Nat × A)} {bx bx0 bx' : List (Nat × List A)} {lv lv0 lv' : List Nat} {gen gen0 gen' d : Nat} {op : Op} {ty : TypeId} {pos : String} {af : Array Edge} {a : A} {dst : Option Nat}
def bO (d : Nat) (y : Bool) (f : List (Nat × A)) (bx : List (Nat × List A)) (lv : List Nat) (gen : Nat) : Exit → St → Prop := fun e st =>
  e = .normal ∧ (∀ t a, look ((d, kq y) :: f) t = some a → look st.f t = some a) ∧ st.bx = bx ∧ st.lv = lv ∧ st.gen = gen
theorem WO.vz {y : Bool} {st : St} (h : WO P C n ops (bO d y f bx lv gen) l st) (hq : Q .normal ⟨(d, kq y) :: f, bx, lv, gen⟩) : WO P C n ops Q l st := by
  have key : ∀ (l : List Oper) (act : Act) (w : World), gm P ops (lift C n (bO d y f bx lv gen)) l act w → gm P ops (lift C n Q) l act w := by
    intro l
    induction l with
    | nil =>
      rintro act w ⟨hd, st', ⟨G, hs⟩, _, h1, h2, h3, h4⟩
      exact ⟨hd, _, ⟨G, hs.weaken (st' := ⟨(d, kq y) :: f, bx, lv, gen⟩) ⟨h1, by rw [← h2]; exact fun _ _ h => h, by rw [← h3]; exact fun _ h => h, h4.symm⟩⟩, hq⟩
    | cons o l ih =>
      intro act w h
      simp only [gm] at h ⊢
      split
      · rename_i hw
        rw [if_pos hw] at h
        refine Oper.wp_mono ?_ (Q := lift C n Q) (K := gm P ops (lift C n (bO d y f bx lv gen)) l) ?_
        · exact ih
        · unfold Oper.wp at h ⊢
          generalize (execOp act.eval o).run P w = r at *
          cases r with
          | ok x w' =>
            cases x <;> simp only [Oper.upon] at h ⊢
            case enter f args =>
              refine h.mono fun e w'' he => ?_
              cases e with
              | returned v => exact he
              | panicked chain => exact absurd he.2.choose_spec.2.1 (by simp)
              | outgrown => obtain ⟨_, _, he⟩ := he; exact absurd he.2.choose_spec.2.1 (by simp)
            all_goals exact h
          | halt x w' =>
            cases x <;> simp only [Oper.upon] at h ⊢
            exact absurd h.2.choose_spec.2.1 (by simp)
      · rename_i hw
        rw [if_neg hw] at h
        exact ih _ _ h
  exact fun tmps w hs => key l _ w (h tmps w hs)
theorem aI {id : Nat} {y : Bool} (hb : qZ false l = some d) (h : WO P C n l.toArray (bO d y f bx lv gen) l ⟨f, bx, lv, gen⟩) (hq : Q .normal ⟨(d, kq y) :: f, bx, lv, gen⟩) : W P C n (.region id l.toArray false) Q ⟨f, bx, lv, gen⟩ :=
  W.region (WO.vz h hq)
theorem aA {y : Bool} (hl : look f d = some (kq y)) (hd : f.drop (f.length - f0.length) = f0) (hj : rh d (f.take (f.length - f0.length)) f0 = true) : bO d y f0 bx lv gen .normal ⟨f, bx, lv, gen⟩ := by
  refine ⟨rfl, fun t a ha => ?_, rfl, rfl, rfl⟩
  rw [bp] at ha
  split at ha
  · rename_i e; subst e; rw [← ha]; exact hl
  · rename_i hne
    dsimp only
    rw [← List.take_append_drop (f.length - f0.length) f, hd]
    generalize f.take (f.length - f0.length) = p at hj
    clear hd hl
    induction p with
    | nil => exact ha
    | cons x p ih =>
      obtain ⟨s, b⟩ := x
      simp only [rh, Bool.and_eq_true, Bool.or_eq_true, List.all_eq_true] at hj
      rw [List.cons_append, bp, if_neg]
      · exact ih hj.2
      · rintro rfl
        rcases hj.1 with h | h
        · exact hne (Nat.eq_of_beq_eq_true h).symm
        · clear ih
          have : ∀ (l : List (Nat × A)), (∀ x ∈ l, (!Nat.beq x.1 s) = true) → look l s = none := by
            intro l
            induction l with
            | nil => intro _; rfl
            | cons y l ih =>
              intro h
              obtain ⟨u, v⟩ := y
              rw [bp, if_neg]
              · exact ih fun x hx => h x (by simp [hx])
              · rintro rfl
                have := h (u, v) (by simp)
                simp at this
          rw [this f0 h] at ha
          cases ha
theorem aC {y1 y2 : Bool} {d0 : Nat} {j e : Nat} {want b : Bool} (hj : cY ops j = some e) (hl : look f e = some (.d (.v (.bool b))))
    (ht : WO P C n ops (bO d0 y1 f0 bx0 lv0 gen0) (⟨dst, op, ty, pos, af, some (j, want)⟩ :: rest) ⟨(e, .d (.v (.bool true))) :: f, bx, lv, gen⟩)
    (hf : WO P C n ops (bO d0 y2 f0 bx0 lv0 gen0) (⟨dst, op, ty, pos, af, some (j, want)⟩ :: rest) ⟨(e, .d (.v (.bool false))) :: f, bx, lv, gen⟩) :
    WO P C n ops (bO d0 (bif b then y1 else y2) f0 bx0 lv0 gen0) (⟨dst, op, ty, pos, af, some (j, want)⟩ :: rest) ⟨f, bx, lv, gen⟩ := by
  refine WO.split (st := ⟨f, bx, lv, gen⟩) hl (fun h => ?_) (fun h => ?_)
  · subst h; exact ht
  · subst h; exact hf
end
end Go.Ab
namespace Go.Ab
open Go.RowKit
def pos : List Nat → Nat → Option Nat
  | [], _ => none
  | g :: r, h => bif Nat.beq g h then some 0 else match pos r h with
    | some i => some (i + 1)
    | none => none
theorem cA : ∀ {order : List Nat} {g i : Nat}, pos order g = some i → order[i]? = some g
  | [], g, i, h => by simp [pos] at h
  | g' :: r, g, i, h => by
    simp only [pos] at h
    cases e : Nat.beq g' g with
    | true =>
      rw [e] at h
      simp only [cond_true, Option.some.injEq] at h
      subst h
      simp [Nat.eq_of_beq_eq_true e]
    | false =>
      rw [e] at h
      simp only [cond_false] at h
      split at h
      · rename_i j hj
        simp only [Option.some.injEq] at h
        subst h
        simpa using cA hj
      · cases h
mutual
def bG (order : List Nat) : A → A
  | .own g es => match pos order g with
    | some i => .own i es
    | none => .d (.sl es)
  | .ptr g off => match pos order g with
    | some i => .ptr i off
    | none => .any
  | .xs g es => match pos order g with
    | some i => .xs i es
    | none => .any
  | .xp g i off l => match pos order g with
    | some j => .xp j i off l
    | none => .any
  | .mp g es => match pos order g with
    | some i => .mp i es
    | none => .any
  | .bf g T s => match pos order g with
    | some i => .bf i T s
    | none => .any
  | .np g T u => match pos order g with
    | some i => .np i T u
    | none => .any
  | .sb g n c => match pos order g with
    | some i => .sb i n c
    | none => .any
  | .agg l => .agg (eQ order l)
  | .tup l => .tup (eQ order l)
  | .row l => .row (eQ order l)
  | .clo f l => .clo f (eQ order l)
  | .bnd f l => .bnd f (eQ order l)
  | a => a
def eQ (order : List Nat) : List A → List A
  | [] => []
  | a :: l => bG order a :: eQ order l
end
theorem fb (order : List Nat) : ∀ l, eQ order l = l.map (bG order)
  | [] => rfl
  | a :: l => by simp [eQ, fb order l]
mutual
def fC : A → Bool
  | .own _ _ => false
  | .ptr _ _ => false
  | .xs _ _ => false
  | .xp _ _ _ _ => false
  | .mp _ _ => false
  | .bf _ _ _ => false
  | .np _ _ _ => false
  | .sb _ _ _ => false
  | .agg l => dQ l
  | .tup l => dQ l
  | .row l => dQ l
  | .clo _ l => dQ l
  | .bnd _ l => dQ l
  | _ => true
def dQ : List A → Bool
  | [] => true
  | a :: l => fC a && dQ l
end
mutual
theorem ru (order : List Nat) : ∀ a, fC a = true → bG order a = a
  | .own _ _, h => by simp [fC] at h
  | .ptr _ _, h => by simp [fC] at h
  | .xs _ _, h => by simp [fC] at h
  | .xp _ _ _ _, h => by simp [fC] at h
  | .mp _ _, h => by simp [fC] at h
  | .bf _ _ _, h => by simp [fC] at h
  | .np _ _ _, h => by simp [fC] at h
  | .sb _ _ _, h => by simp [fC] at h
  | .agg l, h => by simp only [fC] at h; simp [bG, e9 order l h]
  | .tup l, h => by simp only [fC] at h; simp [bG, e9 order l h]
  | .row l, h => by simp only [fC] at h; simp [bG, e9 order l h]
  | .clo _ l, h => by simp only [fC] at h; simp [bG, e9 order l h]
  | .bnd _ l, h => by simp only [fC] at h; simp [bG, e9 order l h]
  | .d _, _ => rfl
  | .ag _, _ => rfl
  | .rowd _, _ => rfl
  | .ni, _ => rfl
  | .fl _, _ => rfl
  | .any, _ => rfl
theorem e9 (order : List Nat) : ∀ l, dQ l = true → eQ order l = l
  | [], _ => rfl
  | a :: l, h => by
    simp only [dQ, Bool.and_eq_true] at h
    simp [eQ, ru order a h.1, e9 order l h.2]
end
def lx (order : List Nat) (G : Gh) : Gh := ⟨fun i => (order[i]?).bind G.box, fun i => (order[i]?).bind G.own⟩
theorem vG {C : Ctx} {G : Gh} {order : List Nat} {b o : Nat} (h : bC C (lx order G) b o) : bC C G b o := by
  rcases h with h | ⟨g, h⟩ | ⟨g, len, cap, sz, pub, h, hle⟩
  · exact Or.inl h
  · obtain ⟨g0, _, h0⟩ := Option.bind_eq_some_iff.1 h
    exact Or.inr (Or.inl ⟨g0, h0⟩)
  · obtain ⟨g0, _, h0⟩ := Option.bind_eq_some_iff.1 h
    exact Or.inr (Or.inr ⟨g0, len, cap, sz, pub, h0, hle⟩)
theorem aS.bG {C : Ctx} {G : Gh} {gen gen' : Nat} {w : World} {order : List Nat} (hg : order.length ≤ gen') {v : Value} {a : A} (h : aS (aB C G gen w) v a) : aS (aB C (lx order G) gen' w) v (bG order a) := by
  have hc : ∀ b o u, cellAt w b o = some u → ¬ bC C G b o → cellAt w b o = some u ∧ ¬ bC C (lx order G) b o := fun b o u h hn => ⟨h, fun hp => hn (vG hp)⟩
  have hlt : ∀ {g i : Nat}, pos order g = some i → i < gen' := fun hp => Nat.lt_of_lt_of_le (List.getElem?_eq_some_iff.1 (cA hp)).1 hg
  generalize hE : aB C G gen w = E at h
  induction h with
  | any x => exact .any x
  | d hd => subst hE; exact .d (hd.mono hc)
  | ag vs l hs hd => subst hE; exact .ag vs l hs (fun i u x h1 h2 => (hd i u x h1 h2).mono hc)
  | own x g es hd hgg hr =>
    subst hE
    simp only [Ab.bG]
    split
    · rename_i i hp
      refine .own x i es (hd.mono hc) (hlt hp) (fun r hr' => hr r ?_)
      have : (order[i]?).bind G.own = some r := hr'
      rw [cA hp] at this
      exact this
    · exact .d (hd.mono hc)
  | agg vs l hs hone _ ih =>
    simp only [Ab.bG, fb]
    refine .agg vs _ (by simp [hs]) hone (fun i u x hu hx => ?_)
    simp only [List.getElem?_map, Option.map_eq_some_iff] at hx
    obtain ⟨y, hy, rfl⟩ := hx
    exact ih i u y hu hy
  | tup vs l hs _ ih =>
    simp only [Ab.bG, fb]
    refine .tup vs _ (by simp [hs]) (fun i u x hu hx => ?_)
    simp only [List.getElem?_map, Option.map_eq_some_iff] at hx
    obtain ⟨y, hy, rfl⟩ := hx
    exact ih i u y hu hy
  | rowd b off l u hcc hd => subst hE; exact .rowd b off l u (fun j hj => hc _ _ _ (hcc j hj).1 (hcc j hj).2) (fun j x hx => (hd j x hx).mono hc)
  | row b off l u hcc _ ih =>
    simp only [Ab.bG, fb]
    subst hE
    refine .row b off _ u (fun j hj => hcc j (by simpa using hj)) (fun j x hx => ?_)
    simp only [List.getElem?_map, Option.map_eq_some_iff] at hx
    obtain ⟨y, hy, rfl⟩ := hx
    exact ih j y hy
  | np x g T b0 hgg hb0 hT u hp =>
    subst hE
    simp only [Ab.bG]
    split
    · rename_i i hpp
      refine .np x i T b0 (hlt hpp) ?_ (by exact hT) u hp
      show (order[i]?).bind G.box = some b0
      rw [cA hpp]
      exact hb0
    · exact .any _
  | sb x g n c b0 hgg hb0 hn hp =>
    subst hE
    simp only [Ab.bG]
    split
    · rename_i i hpp
      refine .sb x i n c b0 (hlt hpp) ?_ hn hp
      show (order[i]?).bind G.box = some b0
      rw [cA hpp]
      exact hb0
    · exact .any _
  | ptr x g off b0 hgg hb0 hp =>
    subst hE
    simp only [Ab.bG]
    split
    · rename_i i hpp
      refine .ptr x i off b0 (hlt hpp) ?_ hp
      show (order[i]?).bind G.box = some b0
      rw [cA hpp]
      exact hb0
    · exact .any _
  | xs x g es hgg h1 hx =>
    subst hE
    simp only [Ab.bG]
    split
    · rename_i i hpp
      refine .xs x i es (hlt hpp) h1 (fun r hr' => ?_)
      have hr : (order[i]?).bind G.own = some r := hr'
      rw [cA hpp] at hr
      exact (hx r hr).iW hc
    · exact .any _
  | xp x g i off l hgg h1 hx =>
    subst hE
    simp only [Ab.bG]
    split
    · rename_i j hpp
      refine .xp x j i off l (hlt hpp) h1 (fun r hr' => ?_)
      have hr : (order[j]?).bind G.own = some r := hr'
      rw [cA hpp] at hr
      exact (hx r hr).iW hc
    · exact .any _
  | ni t x => exact .ni t x
  | fl x es hd hfl => subst hE; exact .fl x es (hd.mono hc) hfl
  | bf x g T s hgg h1 hx =>
    subst hE
    simp only [Ab.bG]
    split
    · rename_i i hpp
      refine .bf x i T s (hlt hpp) h1 (fun r hr' => ?_)
      have hr : (order[i]?).bind G.own = some r := hr'
      rw [cA hpp] at hr
      exact hx r hr
    · exact .any _
  | mp x g es hgg h1 hx =>
    subst hE
    simp only [Ab.bG]
    split
    · rename_i i hpp
      refine .mp x i es (hlt hpp) h1 (fun r hr' => ?_)
      have hr : (order[i]?).bind G.own = some r := hr'
      rw [cA hpp] at hr
      exact (hx r hr).iW hc
    · exact .any _
  | clo f vs l hs _ ih =>
    simp only [Ab.bG, fb]
    refine .clo f vs _ (by simp [hs]) (fun i u x hu hx => ?_)
    simp only [List.getElem?_map, Option.map_eq_some_iff] at hx
    obtain ⟨y, hy, rfl⟩ := hx
    exact ih i u y hu hy
  | bnd f vs l hs _ ih =>
    simp only [Ab.bG, fb]
    refine .bnd f vs _ (by simp [hs]) (fun i u x hu hx => ?_)
    simp only [List.getElem?_map, Option.map_eq_some_iff] at hx
    obtain ⟨y, hy, rfl⟩ := hx
    exact ih i u y hu hy
def fV : List Nat → Bool
  | [] => true
  | a :: l => (l.all fun b => !Nat.beq a b) && fV l
theorem iQ : ∀ {l : List Nat}, fV l = true → l.Nodup
  | [], _ => List.nodup_nil
  | a :: l, h => by
    simp only [fV, Bool.and_eq_true, List.all_eq_true] at h
    refine List.nodup_cons.2 ⟨fun hm => ?_, iQ h.2⟩
    have := h.1 a hm
    simp at this
def mq (order : List Nat) (f : List (Nat × A)) : List (Nat × A) → Prop
  | [] => True
  | (t, a) :: r => (match look f t with | some x => some (bG order x) | none => none) = some a ∧ mq order f r
def mU (f : List (Nat × A)) : List (Nat × A) → Prop
  | [] => True
  | (t, a) :: r => look f t = some a ∧ fC a = true ∧ mU f r
def ja (order : List Nat) (bx : List (Nat × List A)) : List (Nat × List A) → Prop
  | [] => True
  | (i, l) :: r => (match order[i]? with | some g => (match ax bx g with | some x => some (eQ order x) | none => none) | none => none) = some l ∧ ja order bx r
def kD (order : List Nat) (bx : List (Nat × List A)) : List (Nat × List A) → Prop
  | [] => True
  | (i, l) :: r => (match order[i]? with | some g => ax bx g | none => none) = some l ∧ dQ l = true ∧ kD order bx r
def qF (order lv : List Nat) : List Nat → Bool
  | [] => true
  | i :: r => (match order[i]? with | some g => lv.any fun h => Nat.beq h g | none => false) && qF order lv r
theorem mq.le {order : List Nat} {f : List (Nat × A)} : ∀ {f' : List (Nat × A)}, mq order f f' → ∀ t a', look f' t = some a' → ∃ a, look f t = some a ∧ bG order a = a'
  | [], _, t, a, h => by simp [look] at h
  | (s, b) :: r, hs, t, a, h => by
    rw [bp] at h
    split at h
    · rename_i e
      subst e
      simp only [Option.some.injEq] at h
      subst h
      have := hs.1
      split at this
      · rename_i x hx
        simp only [Option.some.injEq] at this
        exact ⟨x, hx, this⟩
      · cases this
    · exact mq.le hs.2 t a h
theorem mU.le {order : List Nat} {f : List (Nat × A)} : ∀ {f' : List (Nat × A)}, mU f f' → ∀ t a', look f' t = some a' → ∃ a, look f t = some a ∧ bG order a = a'
  | [], _, t, a, h => by simp [look] at h
  | (s, b) :: r, hs, t, a, h => by
    rw [bp] at h
    split at h
    · rename_i e
      subst e
      simp only [Option.some.injEq] at h
      subst h
      exact ⟨b, hs.1, ru order b hs.2.1⟩
    · exact mU.le hs.2.2 t a h
theorem ja.le {order : List Nat} {f : List (Nat × List A)} : ∀ {f' : List (Nat × List A)}, ja order f f' → ∀ i l', ax f' i = some l' → ∃ g l, order[i]? = some g ∧ ax f g = some l ∧ l.map (bG order) = l'
  | [], _, t, a, h => by simp [ax] at h
  | (s, b) :: r, hs, t, a, h => by
    rw [bQ] at h
    split at h
    · rename_i e
      subst e
      simp only [Option.some.injEq] at h
      subst h
      have := hs.1
      split at this
      · rename_i g hg
        split at this
        · rename_i x hx
          simp only [Option.some.injEq] at this
          exact ⟨g, x, hg, hx, by rw [← this, fb]⟩
        · cases this
      · cases this
    · exact ja.le hs.2 t a h
theorem kD.le {order : List Nat} {f : List (Nat × List A)} : ∀ {f' : List (Nat × List A)}, kD order f f' → ∀ i l', ax f' i = some l' → ∃ g l, order[i]? = some g ∧ ax f g = some l ∧ l.map (bG order) = l'
  | [], _, t, a, h => by simp [ax] at h
  | (s, b) :: r, hs, t, a, h => by
    rw [bQ] at h
    split at h
    · rename_i e
      subst e
      simp only [Option.some.injEq] at h
      subst h
      have := hs.1
      split at this
      · rename_i g hg
        exact ⟨g, b, hg, this, by rw [← fb]; exact e9 order b hs.2.1⟩
      · cases this
    · exact kD.le hs.2.2 t a h
theorem pM {order lv : List Nat} : ∀ {lv' : List Nat}, qF order lv lv' = true → ∀ i ∈ lv', ∃ g, order[i]? = some g ∧ g ∈ lv
  | [], _, i, h => by simp at h
  | j :: r, h, i, hi => by
    simp only [qF, Bool.and_eq_true] at h
    rcases List.mem_cons.1 hi with rfl | hi
    · have := h.1
      split at this
      · rename_i g hg
        obtain ⟨x, hx, he⟩ := List.any_eq_true.1 this
        exact ⟨g, hg, Nat.eq_of_beq_eq_true he ▸ hx⟩
      · cases this
    · exact pM h.2 i hi
theorem su {f f2 : List (Nat × A)} {t : Nat} {a : A} : look (f ++ f2) t = some a → look f t = some a ∨ look f2 t = some a := by
  induction f with
  | nil => exact Or.inr
  | cons x f ih =>
    obtain ⟨s, b⟩ := x
    rw [List.cons_append, bp, bp]
    split
    · exact Or.inl
    · exact ih
theorem ir {f f2 : List (Nat × List A)} {t : Nat} {a : List A} : ax (f ++ f2) t = some a → ax f t = some a ∨ ax f2 t = some a := by
  induction f with
  | nil => exact Or.inr
  | cons x f ih =>
    obtain ⟨s, b⟩ := x
    rw [List.cons_append, bQ, bQ]
    split
    · exact Or.inl
    · exact ih
section
variable {P : Program} {C : Ctx} {n : Nat} {ops : Array Oper} {Q : Exit → St → Prop} {rest l : List Oper} {c : Code}
variable {f f0 f' : List (Nat × A)} {bx bx0 bx' : List (Nat × List A)} {lv lv0 lv' : List Nat} {gen gen0 gen' d : Nat}
theorem aP.bG {st : St} {G : Gh} {tmps : Array Value} {w : World} (h : aP C n st G tmps w) (order : List Nat) (hnd : order.Nodup) (hg : order.length ≤ gen') (hlt : ∀ i, i < C.bx.length → order[i]? = some i)
    (hf : ∀ t a', look f' t = some a' → ∃ a, look st.f t = some a ∧ Ab.bG order a = a')
    (hb : ∀ i l', ax bx' i = some l' → ∃ g l, order[i]? = some g ∧ ax st.bx g = some l ∧ l.map (Ab.bG order) = l')
    (hl : ∀ i ∈ lv', ∃ g, order[i]? = some g ∧ g ∈ st.lv) : aP C n ⟨f', bx', lv', gen'⟩ (lx order G) tmps w := by
  have inj' : ∀ {i j g : Nat}, order[i]? = some g → order[j]? = some g → i = j := by
    intro i j g h1 h2
    obtain ⟨i1, e1⟩ := List.getElem?_eq_some_iff.1 h1
    obtain ⟨i2, e2⟩ := List.getElem?_eq_some_iff.1 h2
    have hpw := List.pairwise_iff_getElem.1 hnd
    rcases Nat.lt_trichotomy i j with hlt | heq | hgt
    · exact absurd (e1.trans e2.symm) (hpw i j i1 i2 hlt)
    · exact heq
    · exact absurd (e2.trans e1.symm) (hpw j i i2 i1 hgt)
  have hlg : ∀ {i g : Nat}, order[i]? = some g → i < gen' := fun h => Nat.lt_of_lt_of_le (List.getElem?_eq_some_iff.1 h).1 hg
  refine { size := h.size, frame := fun t a' ha => ?_, box := fun i l' hc => ?_, gbox := fun i b hb' => ?_, inj := fun i j b h1 h2 => ?_, live := fun i hi => ?_, gown := fun i r hr => ?_,
           row := fun i b len cap sz pub hr => ?_, mrow := fun i b hr => ?_, xold := h.xold, kold := h.kold, lent := fun i b hb => ?_, fr := h.fr }
  · obtain ⟨a, h1, h2⟩ := hf t a' ha
    obtain ⟨v, hv, hr⟩ := h.frame t a h1
    exact ⟨v, hv, by rw [← h2]; exact hr.bG hg⟩
  · obtain ⟨g, l, h1, h2, h3⟩ := hb i l' hc
    obtain ⟨b, cs, T, h4, h5, h6, h7, h8⟩ := h.box g l h2
    refine ⟨b, cs, T, by simp [lx, h1, h4], h5, by rw [← h3]; simpa using h6, h7, fun j u a hu ha => ?_⟩
    rw [← h3, List.getElem?_map, Option.map_eq_some_iff] at ha
    obtain ⟨y, hy, rfl⟩ := ha
    exact (h8 j u y hu hy).bG hg
  · obtain ⟨g, h1, h2⟩ := Option.bind_eq_some_iff.1 hb'
    exact ⟨hlg h1, (h.gbox g b h2).2⟩
  · obtain ⟨g1, h3, h4⟩ := Option.bind_eq_some_iff.1 h1
    obtain ⟨g2, h5, h6⟩ := Option.bind_eq_some_iff.1 h2
    have e := h.inj g1 g2 b h4 h6
    subst e
    exact inj' h3 h5
  · obtain ⟨g, h1, h2⟩ := hl i hi
    obtain ⟨r, hr⟩ := h.live g h2
    exact ⟨r, by simp [lx, h1, hr]⟩
  · obtain ⟨g, h1, h2⟩ := Option.bind_eq_some_iff.1 hr
    exact hlg h1
  · obtain ⟨g, h1, h2⟩ := Option.bind_eq_some_iff.1 hr
    obtain ⟨h3, h4, h5, h6⟩ := h.row g b len cap sz pub h2
    refine ⟨h3, fun j hj => ?_, fun j len' cap' sz' pub' hj => ?_, h6⟩
    · obtain ⟨g2, _, h8⟩ := Option.bind_eq_some_iff.1 hj
      exact h4 g2 h8
    · obtain ⟨g2, h7, h8⟩ := Option.bind_eq_some_iff.1 hj
      have e := h5 g2 len' cap' sz' pub' h8
      subst e
      exact inj' h7 h1
  · obtain ⟨g, h1, h2⟩ := Option.bind_eq_some_iff.1 hr
    obtain ⟨h3, h4, h5, h6⟩ := h.mrow g b h2
    refine ⟨h3, fun j hj => ?_, fun j hj => ?_, h6⟩
    · obtain ⟨g2, _, h8⟩ := Option.bind_eq_some_iff.1 hj
      exact h4 g2 h8
    · obtain ⟨g2, h7, h8⟩ := Option.bind_eq_some_iff.1 hj
      have e := h5 g2 h8
      subst e
      exact inj' h7 h1
  · have h1 := h.lent i b hb
    have h2 := hlt i (List.getElem?_eq_some_iff.1 hb).1
    show (order[i]?).bind G.box = some b
    rw [h2]; exact h1
def LR (C : Ctx) (n : Nat) {ι : Type} (S : ι → St) (μ : ι → Nat) : Nat → St → Prop := fun m st => ∃ i, μ i = m ∧ ∀ (tmps : Array Value) (w : World), gH C n st tmps w → gH C n (S i) tmps w
def oF : Nat → List Nat → Nat → Bool
  | 0, _, _ => true
  | _ + 1, [], _ => false
  | m + 1, g :: r, i => Nat.beq g i && oF m r (i + 1)
theorem my : ∀ {m : Nat} {l : List Nat} {i : Nat}, oF m l i = true → ∀ j, j < m → l[j]? = some (i + j)
  | 0, _, _, _, j, h => absurd h (Nat.not_lt_zero _)
  | m + 1, [], _, h, _, _ => by simp [oF] at h
  | m + 1, g :: r, i, h, j, hj => by
    simp only [oF, Bool.and_eq_true] at h
    cases j with
    | zero => simpa using Nat.eq_of_beq_eq_true h.1
    | succ j => have := my h.2 j (by omega); simpa [Nat.add_assoc, Nat.add_comm 1 j] using this
def j6 (order : List Nat) (gen nb : Nat) : Bool := fV order && Nat.ble order.length gen && oF nb order 0
theorem gH.bG {nb : Nat} [hnb : NB C nb] {fi : List (Nat × A)} {bi : List (Nat × List A)} (order : List Nat) (ho : j6 order gen' nb = true) (hf : mq order f f') (hfi : mU f fi) (hb : ja order bx bx') (hbi : kD order bx bi) (hl : qF order lv lv' = true)
    {tmps : Array Value} {w : World} (h : gH C n ⟨f, bx, lv, gen⟩ tmps w) : gH C n ⟨f' ++ fi, bx' ++ bi, lv', gen'⟩ tmps w := by
  obtain ⟨G, h⟩ := h
  simp only [j6, Bool.and_eq_true] at ho
  exact ⟨_, h.bG order (iQ ho.1.1) (Nat.le_of_ble_eq_true ho.1.2) (fun i hi => by have := my ho.2 i (by rw [← hnb.h]; exact hi); simpa using this) (fun t a ha => (su ha).elim (hf.le t a) (hfi.le t a)) (fun t a ha => (ir ha).elim (hb.le t a) (hbi.le t a)) (pM hl)⟩
theorem W.aW {nb : Nat} [hnb : NB C nb] {ι : Type} (V : ι → List (Nat × A)) (fi : List (Nat × A)) (B : ι → List (Nat × List A)) (bi : List (Nat × List A)) (lv' : List Nat) (gen' : Nat) (μ : ι → Nat) (order : List Nat) (i : ι) (ho : j6 order gen' nb = true)
    (hf : mq order f (V i)) (hfi : mU f fi) (hb : ja order bx (B i)) (hbi : kD order bx bi) (hl : qF order lv lv' = true)
    (hr : ∀ i, W P C n c (QL (LR C n (fun i => ⟨V i ++ fi, B i ++ bi, lv', gen'⟩) μ) (μ i) Q) ⟨V i ++ fi, B i ++ bi, lv', gen'⟩) : W P C n (.loop c) Q ⟨f, bx, lv, gen⟩ := by
  refine W.loop (LR C n (fun i => ⟨V i ++ fi, B i ++ bi, lv', gen'⟩) μ) (fun m st ⟨i, hm, hle⟩ => ?_) (m := μ i) ⟨i, rfl, fun tmps w h => gH.bG order ho hf hfi hb hbi hl h⟩
  subst hm
  exact fun tmps w hs => hr i tmps w (hle tmps w hs)
theorem W.aY {nb : Nat} [hnb : NB C nb] {ι : Type} {V : ι → List (Nat × A)} {fi : List (Nat × A)} {B : ι → List (Nat × List A)} {bi : List (Nat × List A)} {μ : ι → Nat} {m : Nat} (order : List Nat) (i : ι) (hm : μ i < m) (ho : j6 order gen' nb = true)
    (hf : mq order f (V i)) (hfi : mU f fi) (hb : ja order bx (B i)) (hbi : kD order bx bi) (hl : qF order lv lv' = true) :
    QL (LR C n (fun i => ⟨V i ++ fi, B i ++ bi, lv', gen'⟩) μ) m Q .normal ⟨f, bx, lv, gen⟩ :=
  ⟨μ i, hm, i, rfl, fun _ _ h => gH.bG order ho hf hfi hb hbi hl h⟩
end
end Go.Ab
namespace Go.Ab
open Go.RowKit
section
variable {P : Program} {C : Ctx} {n : Nat} {Q : Exit → St → Prop} {x y : Code} {st : St} {α : Type}
theorem bg {l : List α} {k : Nat} {c : Operand} {b : Bool} (hc : av st.f c = some (.d (.v (.bool b)))) (hb : b = decide ((k : Int) < (l.length : Int))) (hk : k ≤ l.length)
    (ht : ∀ a, l[k]? = some a → l.drop k = a :: l.drop (k + 1) → k < l.length → W P C n x Q st) (hf : k = l.length → l.drop k = [] → W P C n y Q st) : W P C n (.cond c x y) Q st := by
  refine W.cond hc (fun h => ?_) (fun h => ?_)
  · subst hb
    have h : k < l.length := by simpa using h
    exact ht l[k] (by simp [h]) (List.drop_eq_getElem_cons h) h
  · subst hb
    have h : k = l.length := by
      have : ¬ (k : Int) < l.length := by simpa using h
      omega
    exact hf h (by rw [h]; simp)
theorem lq {s : ByteArray} {k : Nat} {b : UInt8} (h : s.data.toList[k]? = some b) : s[((k : Int)).toNat]? = some b := by
  have : s[k]? = s.data.toList[k]? := by
    rcases Nat.lt_or_ge k s.size with hk | hk
    · rw [getElem?_pos s k hk, List.getElem?_eq_getElem (by simpa using hk)]; rfl
    · rw [getElem?_neg s k (by simpa using hk), List.getElem?_eq_none (by simpa using hk)]
  simpa [this] using h
end
end Go.Ab
namespace Go.Ab
open Go.RowKit
def pf (m : Nat) : List (List D) → Bool
  | [] => true
  | x :: r => Nat.beq x.length m && pf m r
theorem mv {m : Nat} : ∀ {l : List (List D)}, pf m l = true → ∀ x ∈ l, x.length = m
  | [], _, x, h => by simp at h
  | y :: r, h, x, hx => by
    simp only [pf, Bool.and_eq_true] at h
    rcases List.mem_cons.1 hx with rfl | hx
    · exact Nat.eq_of_beq_eq_true h.1
    · exact mv h.2 x hx
theorem wG {α : Type} {f : α → List D} {m : Nat} (h : ∀ a, (f a).length = m) {l : List α} : ∀ x ∈ l.map f, x.length = m := by
  intro x hx
  obtain ⟨a, _, rfl⟩ := List.mem_map.1 hx
  exact h a
section
variable {P : Program} (T : cd P) {C : Ctx} {n : Nat} {ops : Array Oper} {Q : Exit → St → Prop} {rest : List Oper} {c : Code}
variable {f : List (Nat × A)} {bx : List (Nat × List A)} {lv : List Nat} {gen d : Nat} {ty : TypeId} {pos : String} {af : Array Edge} {a : A} {dst : Option Nat}
theorem aG {t e len : Nat} {parts : Array (Nat × Operand)} {td ed : bW} {es : List (List D)} (ht : ax T.l t = some td) (hk : td.k = .slice e) (he : ax T.l e = some ed) (hes : jA f 0 parts.toList = some es) (hlen : es.length = len)
    (hz : Nat.blt 0 ed.n = true) (hsm : Nat.ble (len * ed.n) 16777216 = true) (hl : pf ed.n es = true) (hpos : Nat.blt 0 len = true) : Pu P C n ⟨f, bx, lv, gen⟩ ⟨dst, .buildSlice t len parts, ty, pos, af, none⟩ (.d (.sl es)) :=
  Pu.wQ (st := ⟨f, bx, lv, gen⟩) T rfl ht hk he hes hlen hz hsm (mv hl) hpos
theorem yI {t e : Nat} {x hi : Operand} {td ed : bW} {es : List (List D)} {h : Int} {kh : IntKind} (hx : av f x = some a) (hes : gu a = some es) (hhi : av f hi = some (.d (.v (.int kh h)))) (ht : ax T.l t = some td) (hk : td.k = .slice e) (he : ax T.l e = some ed)
    (h0 : 0 ≤ h) (h1 : h ≤ es.length) (hl : ∀ x ∈ es, x.length = ed.n) : Pu P C n ⟨f, bx, lv, gen⟩ ⟨dst, .slice t x none (some hi) none, ty, pos, af, none⟩ (.d (.sl ((es.take h.toNat).drop 0))) :=
  Pu.xg (st := ⟨f, bx, lv, gen⟩) T (lo := none) (hi := some hi) rfl ht hk he hx hes (l := 0) (h := h) rfl ⟨kh, hhi⟩ (Int.le_refl _) h0 h1 hl
end
end Go.Ab
namespace Go.Ab
open Go.RowKit
section
variable {P : Program} {C : Ctx} {n : Nat} {ops : Array Oper} {Q : Exit → St → Prop} {rest : List Oper} {st : St} {o : Oper}
variable {f : List (Nat × A)} {bx : List (Nat × List A)} {lv : List Nat} {gen d : Nat} {op : Op} {ty : TypeId} {pos : String} {af : Array Edge} {dst : Option Nat}
theorem aS.undef {E : En} : aS E undef (.tup []) := .tup #[] [] rfl (by simp)
theorem WO.ay {j d : Nat} {want b : Bool} (hg : o.guard = some (j, want)) (hj : cY ops j = some d) (hl : look st.f d = some (.d (.v (.bool b)))) (hb : (b == want) = false) (hd : dD n o.dst = true)
    (h : WO P C n ops Q rest (st.put o.dst (.tup []))) : WO P C n ops Q (o :: rest) st := by
  intro tmps w ⟨G, hs⟩
  simp only [gm, Region.wanted, hg]
  rw [jF hj (mg hs hl)]
  have hbw : (some b == some want) = false := by simpa using hb
  simp only [hbw, Bool.false_eq_true, if_false]
  rw [Act.fv]
  exact h _ _ ⟨G, hs.put (cB hd) aS.undef⟩
theorem WO.gK {j d : Nat} {want : Bool} (hg : o.guard = some (j, want)) (hj : cY ops j = some d) (hl : look st.f d = some (.tup [])) (hd : dD n o.dst = true)
    (h : WO P C n ops Q rest (st.put o.dst (.tup []))) : WO P C n ops Q (o :: rest) st := by
  intro tmps w ⟨G, hs⟩
  obtain ⟨v, hv, hr⟩ := hs.frame _ _ hl
  have hy : yielded ops tmps j = none := by
    unfold yielded
    unfold cY at hj
    rw [hj]
    simp only [Option.bind_some, hv]
    cases hr; rfl
  simp only [gm, Region.wanted, hg, hy]
  have hbw : ((none : Option Bool) == some want) = false := rfl
  simp only [hbw, Bool.false_eq_true, if_false]
  rw [Act.fv]
  exact h _ _ ⟨G, hs.put (cB hd) aS.undef⟩
theorem ay {j e : Nat} {want b : Bool} (hj : cY ops j = some e) (hl : look f e = some (.d (.v (.bool b)))) (hb : (b == want) = false) (hd : Nat.blt d n = true) (h : WO P C n ops Q rest ⟨(d, .tup []) :: f, bx, lv, gen⟩) :
    WO P C n ops Q (⟨some d, op, ty, pos, af, some (j, want)⟩ :: rest) ⟨f, bx, lv, gen⟩ :=
  WO.ay (st := ⟨f, bx, lv, gen⟩) rfl hj hl hb hd h
theorem gK {j e : Nat} {want : Bool} (hj : cY ops j = some e) (hl : look f e = some (.tup [])) (hd : Nat.blt d n = true) (h : WO P C n ops Q rest ⟨(d, .tup []) :: f, bx, lv, gen⟩) :
    WO P C n ops Q (⟨some d, op, ty, pos, af, some (j, want)⟩ :: rest) ⟨f, bx, lv, gen⟩ :=
  WO.gK (st := ⟨f, bx, lv, gen⟩) rfl hj hl hd h
theorem eF {f0 : List (Nat × A)} {bx0 : List (Nat × List A)} {lv0 : List Nat} {gen0 : Nat} {y1 y2 : Bool} {d0 : Nat} {j e : Nat} {want b : Bool} (hj : cY ops j = some e) (hl : look f e = some (.d (.v (.bool b))))
    (ht : b = true → WO P C n ops (bO d0 y1 f0 bx0 lv0 gen0) (⟨dst, op, ty, pos, af, some (j, want)⟩ :: rest) ⟨(e, .d (.v (.bool true))) :: f, bx, lv, gen⟩)
    (hf : b = false → WO P C n ops (bO d0 y2 f0 bx0 lv0 gen0) (⟨dst, op, ty, pos, af, some (j, want)⟩ :: rest) ⟨(e, .d (.v (.bool false))) :: f, bx, lv, gen⟩) :
    WO P C n ops (bO d0 (bif b then y1 else y2) f0 bx0 lv0 gen0) (⟨dst, op, ty, pos, af, some (j, want)⟩ :: rest) ⟨f, bx, lv, gen⟩ := by
  refine WO.split (st := ⟨f, bx, lv, gen⟩) hl (fun h => ?_) (fun h => ?_)
  · subst h; exact ht rfl
  · subst h; exact hf rfl
end
end Go.Ab
namespace Go.Ab
open Go.RowKit
section
variable {P : Program} {C : Ctx} {n : Nat} {ops : Array Oper} {Q : Exit → St → Prop} {rest l : List Oper} {c : Code}
variable {f f0 : List (Nat × A)} {bx bx0 : List (Nat × List A)} {lv lv0 : List Nat} {gen gen0 d : Nat} {op : Op} {ty : TypeId} {pos : String} {af : Array Edge} {dst : Option Nat} {a : A}
theorem aq {s : Nat} {x y : Code} {b : Bool} (hl : look f s = some (.d (.v (.bool b)))) (ht : b = true → W P C n x Q ⟨(s, .d (.v (.bool true))) :: f, bx, lv, gen⟩) (hf : b = false → W P C n y Q ⟨(s, .d (.v (.bool false))) :: f, bx, lv, gen⟩) :
    W P C n (.cond (.tmp s) x y) Q ⟨f, bx, lv, gen⟩ := by
  refine W.cond (b := b) hl (fun h => ?_) (fun h => ?_)
  · exact fun tmps w ⟨G, hs⟩ => ht h tmps w ⟨G, hs.known hl (by rw [h])⟩
  · exact fun tmps w ⟨G, hs⟩ => hf h tmps w ⟨G, hs.known hl (by rw [h])⟩
theorem W.vz {y : Bool} {st : St} (h : W P C n c (bO d y f bx lv gen) st) (hq : Q .normal ⟨(d, kq y) :: f, bx, lv, gen⟩) : W P C n c Q st :=
  fun tmps w hs => wp_mono (h tmps w hs) fun e act w ⟨hd, st', ⟨G, hs⟩, he, h1, h2, h3, h4⟩ => by
    subst he
    exact ⟨hd, _, ⟨G, hs.weaken (st' := ⟨(d, kq y) :: f, bx, lv, gen⟩) ⟨h1, by rw [← h2]; exact fun _ _ h => h, by rw [← h3]; exact fun _ h => h, h4.symm⟩⟩, hq⟩
theorem iX (T : cd P) {id : Nat} {y : Bool} (hb : qZ false l = some d) (hB : Region.lexB .any l.toArray = true) (h : CH P C n bx lv gen l.toArray (bO d y f bx lv gen .normal) l f) (hq : Q .normal ⟨(d, kq y) :: f, bx, lv, gen⟩) :
    W P C n (.region id l.toArray true) Q ⟨f, bx, lv, gen⟩ := W.vz (W.bE T (Q := bO d y f bx lv gen) hB h) hq
theorem gV {y1 y2 : Bool} {d0 : Nat} {j e : Nat} {want b : Bool} (hj : cY ops j = some e) (hl : look f e = some (.d (.v (.bool b))))
    (ht : b = true → CH P C n bx lv gen ops (bO d0 y1 f0 bx0 lv0 gen0 .normal) (⟨dst, op, ty, pos, af, some (j, want)⟩ :: rest) ((e, .d (.v (.bool true))) :: f))
    (hf : b = false → CH P C n bx lv gen ops (bO d0 y2 f0 bx0 lv0 gen0 .normal) (⟨dst, op, ty, pos, af, some (j, want)⟩ :: rest) ((e, .d (.v (.bool false))) :: f)) :
    CH P C n bx lv gen ops (bO d0 (bif b then y1 else y2) f0 bx0 lv0 gen0 .normal) (⟨dst, op, ty, pos, af, some (j, want)⟩ :: rest) f := by
  refine sy hl (fun h => ?_) (fun h => ?_)
  · subst h; exact ht rfl
  · subst h; exact hf rfl
theorem fI {y1 y2 : Bool} {d0 : Nat} {j e : Nat} {want b : Bool} (hj : cY ops j = some e) (hl : look f e = some (.d (.v (.bool b))))
    (ht : CH P C n bx lv gen ops (bO d0 y1 f0 bx0 lv0 gen0 .normal) (⟨dst, op, ty, pos, af, some (j, want)⟩ :: rest) ((e, .d (.v (.bool true))) :: f))
    (hf : CH P C n bx lv gen ops (bO d0 y2 f0 bx0 lv0 gen0 .normal) (⟨dst, op, ty, pos, af, some (j, want)⟩ :: rest) ((e, .d (.v (.bool false))) :: f)) :
    CH P C n bx lv gen ops (bO d0 (bif b then y1 else y2) f0 bx0 lv0 gen0 .normal) (⟨dst, op, ty, pos, af, some (j, want)⟩ :: rest) f :=
  gV hj hl (fun _ => ht) (fun _ => hf)
end
end Go.Ab
namespace Go.Ab
open Go.RowKit
section
variable {P : Program} (T : cd P) {C : Ctx} {n : Nat} {ops : Array Oper} {Q : Exit → St → Prop} {rest : List Oper} {c : Code}
variable {f : List (Nat × A)} {bx : List (Nat × List A)} {lv : List Nat} {gen d : Nat} {ty : TypeId} {pos : String} {af : Array Edge}
theorem aU (hl : look f d = some (.d (.v (.slice none 0 0)))) (hd : Nat.blt d n = true) (h : W P C n c Q ⟨(d, .own gen []) :: f, bx, gen :: lv, gen + 1⟩) : W P C n c Q ⟨f, bx, lv, gen⟩ :=
  W.x2 (st := ⟨f, bx, lv, gen⟩) hl hd h
theorem ck {α : Type} {fn : α → List D} {l : List α} {a : α} {x y : Operand} {t e : Nat} {td ed : bW} {g : Nat} {b : A} (hx : av f x = some (.own g (l.map fn))) (hy : av f y = some b) (hb2 : gu b = some [fn a]) (ht : ax T.l t = some td) (hk : td.k = .slice e)
    (he : ax T.l e = some ed) (hgl : (lv.any fun h => Nat.beq h g) = true) (hz : Nat.blt 0 ed.n = true) (hb0 : Nat.blt 0 ed.b = true) (hd : Nat.blt d n = true) (hl : ∀ a, (fn a).length = ed.n) (hb : (l.length + 1) * ed.b ≤ 140737488355328)
    (h : WO P C n ops Q rest ⟨(d, .own gen ((l ++ [a]).map fn)) :: f, bx, gen :: dz lv g, gen + 1⟩) : WO P C n ops Q (⟨some d, .call ⟨.builtin .append, #[x, y], #[t, t]⟩, ty, pos, af, none⟩ :: rest) ⟨f, bx, lv, gen⟩ := by
  obtain ⟨g', hg1, hg2⟩ := List.any_eq_true.1 hgl
  have hgm : g ∈ lv := Nat.eq_of_beq_eq_true hg2 ▸ hg1
  refine s7 T hx hy hb2 ht hk he hgm hz hb0 hd (fun z hzm => ?_) (by simpa using hb) ?_
  · rcases List.mem_append.1 hzm with h | h
    · obtain ⟨a', _, rfl⟩ := List.mem_map.1 h; exact hl a'
    · simp only [List.mem_singleton] at h; subst h; exact hl a
  · rw [List.map_append] at h
    exact h
end
end Go.Ab
namespace Go.Ab
open Go.RowKit
def im : Nat → List (List A) → List (Nat × List A)
  | _, [] => []
  | k, c :: r => (k, c) :: im (k + 1) r
theorem nY : ∀ (l : List (List A)) (k g : Nat) (c : List A), ax (im k l) g = some c → k ≤ g ∧ l[g - k]? = some c
  | [], _, _, _, h => by simp [im, ax] at h
  | b :: l, k, g, c, h => by
    simp only [im, bQ] at h
    split at h
    · rename_i e
      subst e
      simp only [Option.some.injEq] at h
      subst h
      exact ⟨Nat.le_refl _, by simp⟩
    · rename_i e
      obtain ⟨h1, h2⟩ := nY l (k + 1) g c h
      refine ⟨by omega, ?_⟩
      have : g - k = (g - (k + 1)) + 1 := by omega
      rw [this]
      simpa using h2
theorem rq : ∀ (l : List (List A)) (k i : Nat) (c : List A), l[i]? = some c → ax (im k l) (k + i) = some c
  | [], _, _, _, h => by simp at h
  | b :: l, k, i, c, h => by
    simp only [im, bQ]
    cases i with
    | zero => simpa using h
    | succ i =>
      rw [if_neg (by omega)]
      have := rq l (k + 1) i c (by simpa using h)
      rw [← this]
      congr 1
      omega
structure cU (P : Program) [eK P] (f : FuncId) (args : List A) (b0 : List (List A)) (m : Nat) (r : A) (b1 : List (List A)) (k : Nat) : Prop where
  ok : xM P f
  len : b1.length = b0.length
  calls : ∀ (C : Ctx) (G : Gh) (vals : Array Value) (w : World), GC P C → C.w0 = w → C.bx.length = b0.length → C.ds = [] → (m = 0 → ∀ b, C.fp b → ∃ i : Nat, C.bx[i]? = some b) →
    aP C 0 ⟨[], im 0 b0, (List.range m).map (b0.length + ·), b0.length + m⟩ G #[] w → vals.size = args.length →
    (∀ (i : Nat) (u : Value) (a : A), vals[i]? = some u → args[i]? = some a → aS (aB C G (b0.length + m) w) u a) →
    Calls P f vals w fun e w' => ∃ v G', e = .returned v ∧ aP C 0 ⟨[], im 0 b1, (List.range k).map (b0.length + ·), b0.length + k⟩ G' #[] w' ∧ aS (aB C G' (b0.length + k) w') v r
theorem aP.wT {C : Ctx} {n n' : Nat} {bx : List (Nat × List A)} {lv : List Nat} {gen : Nat} {G : Gh} {tmps tmps' : Array Value} {w : World} (h : aP C n ⟨[], bx, lv, gen⟩ G tmps w) (hs : tmps'.size = n') :
    aP C n' ⟨[], bx, lv, gen⟩ G tmps' w :=
  { h with size := hs, frame := fun t a ha => by simp [look] at ha }
section
variable {P : Program} (T : cd P)
def gx (nb : Nat) (order : List Nat) : List Nat := List.range nb ++ order
def fQ (rs : List RV) (r : A) (b1 : List (List A)) (k : Nat) : Exit → St → Prop := fun e st =>
  (match e with | .normal => True | .ret => True | _ => False) ∧ ∃ l order, jY T st.f st.bx rs = some l ∧ bG (gx b1.length order) (az l) = r ∧ order.length = k ∧ fV (gx b1.length order) = true ∧ (∀ g ∈ order, g ∈ st.lv) ∧
    ∀ (i : Nat) (c : List A), b1[i]? = some c → ∃ c0, ax st.bx i = some c0 ∧ eQ (gx b1.length order) c0 = c
theorem cU.yt [eK P] {f : FuncId} {fn : Func} {c : Code} {rs : List RV} {n : Nat} {args : List A} {b0 : List (List A)} {m : Nat} {r : A} {b1 : List (List A)} {k : Nat} (hf : P.funcs[f]? = some fn) (hname : (fn.name == "runtime.NumGoroutine") = false)
    (hb : fn.body = some c) (hn : fn.ntmps = n) (hr : fn.results = (rs.map RV.var).toArray) (hlen : Nat.ble args.length n = true) (hbl : b1.length = b0.length)
    (h : ∀ C, NB C b0.length → GC P C → (m = 0 → ∀ b, C.fp b → ∃ i : Nat, C.bx[i]? = some b) → (∀ i b : Nat, C.bx[i]? = some b → b < C.w0.heap.size) → W P C n c (fQ T rs r b1 k) ⟨kp 0 args, im 0 b0, (List.range m).map (b0.length + ·), b0.length + m⟩) : cU P f args b0 m r b1 k := by
  have hlen := Nat.le_of_ble_eq_true hlen
  refine ⟨⟨fn, hf, hname, by rw [hb]; rfl⟩, hbl, fun C G vals w hG hw hnb hdn hfe hs hsz hrep => ?_⟩
  subst hw
  refine calls_of_wp hf hb (wp_mono (uq hdn (h C ⟨hnb⟩ hG hfe (fun i b hb => (hs.gbox i b (hs.lent i b hb)).2.1) (vals ++ Array.replicate (fn.ntmps - vals.size) undef) C.w0 ⟨G, ?_⟩)) ?_)
  · refine { hs with size := by simp [hn]; omega, frame := fun t a ha => ?_ }
    obtain ⟨_, h1⟩ := jL args 0 t a ha
    have h2 : t < args.length := (List.getElem?_eq_some_iff.1 (by simpa using h1)).1
    have h3 : t < vals.size := by omega
    have h4 : vals[t]? = some vals[t] := by simp [h3]
    exact ⟨vals[t], by rw [Array.getElem?_append_left h3]; exact h4, hrep t _ a h4 (by simpa using h1)⟩
  · rintro e ⟨tmps, df⟩ w' ⟨hd, st, ⟨G, hs⟩, he, l, order, hl, hno, hol, hnd, hov, hbx⟩
    have holen : (gx b1.length order).length = b0.length + k := by simp [gx, hol, hbl]
    have hget : ∀ i, i < C.bx.length → (gx b1.length order)[i]? = some i := fun i hi => by
      unfold gx
      rw [List.getElem?_append_left (by simp; omega), List.getElem?_range (by omega)]
    have hmain : ∃ v, (results fn tmps).run P w' = .ok v w' ∧ ∃ v_1 G', Ending.returned v = .returned v_1 ∧ aP C 0 ⟨[], im 0 b1, (List.range k).map (b0.length + ·), b0.length + k⟩ G' #[] w' ∧ aS (aB C G' (b0.length + k) w') v_1 r := by
      obtain ⟨vs, hv1, hv2, hv3⟩ := lN T hs rs l hl
      refine ⟨_, mr hr hv1, _, lx (gx b1.length order) G, rfl, ?_, ?_⟩
      · refine aP.wT (hs.bG (f' := []) (bx' := im 0 b1) (lv' := (List.range k).map (b0.length + ·)) (gen' := b0.length + k) (gx b1.length order) (iQ hnd) (by omega) hget (fun t a ha => by simp [look] at ha) (fun i c hc => ?_) (fun i hi => ?_)) rfl
        · obtain ⟨_, h1⟩ := nY b1 0 i c hc
          simp only [Nat.sub_zero] at h1
          obtain ⟨c0, h2, h3⟩ := hbx i c h1
          have hlt : i < b1.length := (List.getElem?_eq_some_iff.1 h1).1
          exact ⟨i, c0, hget i (by rw [hnb, ← hbl]; exact hlt), h2, by rw [← fb]; exact h3⟩
        · obtain ⟨j, hj, rfl⟩ := List.mem_map.1 hi
          have hj : j < k := by simpa using hj
          have hj2 : j < order.length := by omega
          refine ⟨order[j], ?_, hov _ (List.getElem_mem hj2)⟩
          unfold gx
          rw [List.getElem?_append_right (by simp; omega)]
          simp [hbl, hj2]
      · rw [← hno]
        refine aS.bG (gen := st.gen) (by omega) (ox hv2 hv3)
    cases e with
    | normal => exact ⟨hd.trans hdn, hmain⟩
    | ret => exact ⟨hd.trans hdn, hmain⟩
    | exit _ => exact he.elim
    | goto _ => exact he.elim
    | panic _ => exact he.elim
    | outgrown => exact he.elim
theorem cU.fa [eK P] {f : FuncId} {fn : Func} {c : Code} {rs : List RV} {n : Nat} {args : List A} {b0 : List (List A)} {m : Nat} {r : A} {b1 : List (List A)} {k : Nat} (hf : P.funcs[f]? = some fn) (hname : (fn.name == "runtime.NumGoroutine") = false)
    (hb : fn.body = some c) (hn : fn.ntmps = n) (hr : fn.results = (rs.map RV.var).toArray) (hlen : Nat.ble args.length n = true) (hbl : b1.length = b0.length)
    (h : ∀ C, NB C b0.length → GC P C → W P C n c (fQ T rs r b1 k) ⟨kp 0 args, im 0 b0, (List.range m).map (b0.length + ·), b0.length + m⟩) : cU P f args b0 m r b1 k :=
  cU.yt T hf hname hb hn hr hlen hbl fun C hC hG _ _ => h C hC hG
theorem fQ.ret {rs : List RV} {r : A} {b1 : List (List A)} {k : Nat} {e : Exit} {st : St} {l : List A} (order : List Nat) (he : match e with | .normal => True | .ret => True | _ => False) (hl : jY T st.f st.bx rs = some l)
    (hk : order.length = k) (hnd : fV (gx b1.length order) = true) (hov : (order.all fun g => st.lv.any fun h => Nat.beq h g) = true) (hb : ∀ (i : Nat) (c : List A), b1[i]? = some c → ∃ c0, ax st.bx i = some c0 ∧ eQ (gx b1.length order) c0 = c)
    (hr : bG (gx b1.length order) (az l) = r) : fQ T rs r b1 k e st :=
  ⟨he, l, order, hl, hr, hk, hnd, fun g hg => by
    obtain ⟨x, hx, he⟩ := List.any_eq_true.1 (List.all_eq_true.1 hov g hg)
    exact Nat.eq_of_beq_eq_true he ▸ hx, hb⟩
end
/-! the caller's side -/
def dJ (bx : List (Nat × List A)) (gs os : List Nat) : Nat → A → A
  | 0, _ => .any
  | _ + 1, .d x => .d x
  | _ + 1, .ag l => .ag l
  | _ + 1, .own g es => match pos os g with
    | some i => .own (gs.length + i) es
    | none => .d (.sl es)
  | k + 1, .agg l => jg (l.map (dJ bx gs os k))
  | _ + 1, .tup _ => .any
  | _ + 1, .rowd l => .rowd l
  | k + 1, .row l => .row (l.map (dJ bx gs os k))
  | k + 1, .ptr g off => match pos gs g with
    | some i => .ptr i off
    | none => match ax bx g with
      | some cells => .row ((cells.drop off).map (dJ bx gs os k))
      | none => .any
  | _ + 1, .xs g es => match pos os g with
    | some i => .xs (gs.length + i) es
    | none => .any
  | _ + 1, .xp _ _ _ _ => .any
  | _ + 1, .mp g es => match pos os g with
    | some i => .mp (gs.length + i) es
    | none => .any
  | k + 1, .clo f l => .clo f (l.map (dJ bx gs os k))
  | k + 1, .bnd f l => .bnd f (l.map (dJ bx gs os k))
  | _ + 1, .ni => .ni
  | _ + 1, .fl es => .fl es
  | _ + 1, .bf g T s => match pos os g with
    | some i => .bf (gs.length + i) T s
    | none => .any
  | _ + 1, .np g T u => match pos gs g with
    | some i => .np i T u
    | none => .any
  | _ + 1, .sb g n c => match pos gs g with
    | some i => .sb i n c
    | none => .any
  | _ + 1, .any => .any
def iy (bx : List (Nat × List A)) (gs os : List Nat) : List Nat → Option (List (List A))
  | [] => some []
  | g :: r => match ax bx g, iy bx gs os r with
    | some c, some l => some (c.map (dJ bx gs os 5) :: l)
    | _, _ => none
mutual
def back (gs : List Nat) (m : Nat) : A → A
  | .own g es => .own (g + m) es
  | .agg l => .agg (jd gs m l)
  | .tup l => .tup (jd gs m l)
  | .clo f l => .clo f (jd gs m l)
  | .bnd f l => .bnd f (jd gs m l)
  | .ptr i off => match gs[i]? with
    | some g => .ptr g off
    | none => .any
  | .xs g es => .xs (g + m) es
  | .xp g i off l => .xp (g + m) i off l
  | .mp g es => .mp (g + m) es
  | .row _ => .any
  | .d x => .d x
  | .ag l => .ag l
  | .rowd l => .rowd l
  | .fl es => .fl es
  | .bf g T s => .bf (g + m) T s
  | .np i T u => match gs[i]? with
    | some g => .np g T u
    | none => .any
  | .sb i n c => match gs[i]? with
    | some g => .sb g n c
    | none => .any
  | .ni => .ni
  | .any => .any
def jd (gs : List Nat) (m : Nat) : List A → List A
  | [] => []
  | a :: l => back gs m a :: jd gs m l
end
theorem eZ (gs : List Nat) (m : Nat) : ∀ l : List A, jd gs m l = l.map (back gs m)
  | [] => rfl
  | a :: l => by simp [jd, eZ gs m l]
def ij (gs : List Nat) (m : Nat) : List Nat → List (List A) → List (Nat × List A)
  | g :: r, c :: l => (g, jd gs m c) :: ij gs m r l
  | _, _ => []
theorem mF {gs : List Nat} {m : Nat} : ∀ {r : List Nat} {l : List (List A)} {g : Nat} {c : List A}, ax (ij gs m r l) g = some c → ∃ (i : Nat) (c0 : List A), r[i]? = some g ∧ l[i]? = some c0 ∧ jd gs m c0 = c
  | [], _, g, c, h => by simp [ij, ax] at h
  | _ :: _, [], g, c, h => by simp [ij, ax] at h
  | g0 :: r, c0 :: l, g, c, h => by
    simp only [ij, bQ] at h
    split at h
    · rename_i e
      subst e
      simp only [Option.some.injEq] at h
      exact ⟨0, c0, rfl, rfl, h⟩
    · obtain ⟨i, c1, h1, h2, h3⟩ := mF h
      exact ⟨i + 1, c1, by simpa using h1, by simpa using h2, h3⟩
section
variable {P : Program} {C : Ctx} {n : Nat} {ops : Array Oper} {Q : Exit → St → Prop} {st : St} {o : Oper} {rest : List Oper}
def eR (G : Gh) (gs : List Nat) (b : Nat) : Prop := ∃ g ∈ gs, G.box g = some b
def dK (G : Gh) (os : List Nat) (b lim : Nat) : Prop := ∃ g ∈ os, ∃ r, G.own g = some r ∧ r.mJ b lim
theorem aP.rowAt {C : Ctx} {n : Nat} {st : St} {G : Gh} {tmps : Array Value} {w : World} (h : aP C n st G tmps w) {g b lim : Nat} {r : Row} (hg : G.own g = some r) (hr : r.mJ b lim) :
    C.nQ b lim ∧ (∀ g', G.box g' ≠ some b) ∧ b < w.heap.size ∧
      (∀ g' r' lim', G.own g' = some r' → r'.mJ b lim' → g' = g ∧ lim' = lim) := by
  have key : ∀ g' r' lim', G.own g' = some r' → r'.mJ b lim' → g' = g := by
    intro g' r' lim' hg' hr'
    cases r with
    | nil => exact hr.elim
    | zero _ => exact hr.elim
    | blk b1 len cap sz pub =>
      obtain ⟨rfl, rfl⟩ := hr
      obtain ⟨_, _, h3, cur, T, h4, _⟩ := h.row g b1 len cap sz lim hg
      cases r' with
      | nil => exact hr'.elim
      | zero _ => exact hr'.elim
      | blk b2 bT cap2 sz2 pub2 => obtain ⟨rfl, rfl⟩ := hr'; exact h3 g' _ _ _ _ hg'
      | mp b2 =>
        obtain ⟨rfl, rfl⟩ := hr'
        obtain ⟨_, _, _, me, clock, h5⟩ := h.mrow g' b2 hg'
        rw [h4] at h5
        cases h5
    | mp b1 =>
      obtain ⟨rfl, rfl⟩ := hr
      obtain ⟨_, _, h3, me, clock, h4⟩ := h.mrow g b1 hg
      cases r' with
      | nil => exact hr'.elim
      | zero _ => exact hr'.elim
      | blk b2 bT cap2 sz2 pub2 =>
        obtain ⟨rfl, rfl⟩ := hr'
        obtain ⟨_, _, _, cur, T, h5, _⟩ := h.row g' b2 _ _ _ _ hg'
        rw [h4] at h5
        cases h5
      | mp b2 => obtain ⟨rfl, rfl⟩ := hr'; exact h3 g' hg'
  refine (fun hk => ?_ : (∀ g' r' lim', G.own g' = some r' → r'.mJ b lim' → g' = g ∧ lim' = lim) → _) (fun g' r' lim' hg' hr' => ?_)
  · cases r with
    | nil => exact hr.elim
    | zero _ => exact hr.elim
    | blk b1 len cap sz pub =>
      obtain ⟨rfl, rfl⟩ := hr
      obtain ⟨h1, h2, h3, cur, T, h4, _⟩ := h.row g b1 len cap sz lim hg
      exact ⟨h1, h2, (Array.getElem?_eq_some_iff.1 h4).1, hk⟩
    | mp b1 =>
      obtain ⟨rfl, rfl⟩ := hr
      obtain ⟨h1, h2, h3, me, clock, h4⟩ := h.mrow g b1 hg
      exact ⟨h1, h2, (Array.getElem?_eq_some_iff.1 h4).1, hk⟩
  · have e := key g' r' lim' hg' hr'
    subst e
    rw [hg] at hg'
    simp only [Option.some.injEq] at hg'
    subst hg'
    refine ⟨rfl, ?_⟩
    cases r with
    | nil => exact hr.elim
    | zero _ => exact hr.elim
    | blk b1 len cap sz pub => exact hr'.2.trans hr.2.symm
    | mp b1 => exact hr'.2.trans hr.2.symm
theorem aP.xS {C : Ctx} {n : Nat} {st : St} {G : Gh} {tmps : Array Value} {w : World} (h : aP C n st G tmps w) {g b lim o : Nat} {r : Row} {u : Value} (hg : G.own g = some r) (hr : r.mJ b lim)
    (hu : cellAt w b o = some u) (hle : lim ≤ o) : bC C G b o := by
  cases r with
  | nil => exact hr.elim
  | zero _ => exact hr.elim
  | blk b1 len cap sz pub => obtain ⟨rfl, rfl⟩ := hr; exact .inr (.inr ⟨g, len, cap, sz, lim, hg, hle⟩)
  | mp b1 =>
    obtain ⟨rfl, rfl⟩ := hr
    obtain ⟨_, _, _, me, clock, h4⟩ := h.mrow g b1 hg
    simp [cellAt, World.cell?, h4] at hu
def dU (C : Ctx) (G : Gh) (w : World) (gs os : List Nat) : Ctx :=
  { w0 := w, fp := fun b => eR G gs b ∨ ∃ lim, dK G os b lim, x := fun b o => bC C G b o ∧ ¬ (eR G gs b ∨ ∃ lim, dK G os b lim),
    keep := fun b o => ∃ lim, dK G os b lim ∧ o < lim, bx := gs.map fun g => (G.box g).getD 0 }
theorem vA {C : Ctx} {G : Gh} {w : World} {gs os : List Nat} {m : Nat} (hm : os.length = m) : m = 0 → ∀ b, (dU C G w gs os).fp b → ∃ i : Nat, (dU C G w gs os).bx[i]? = some b := by
  rintro rfl b (⟨g, hg, hb⟩ | ⟨lim, g, hg, _⟩)
  · obtain ⟨i, hi⟩ := List.mem_iff_getElem?.1 hg
    exact ⟨i, by show (gs.map _)[i]? = _; rw [List.getElem?_map, hi]; simp [hb]⟩
  · have := List.length_eq_zero_iff.1 hm; subst this; cases hg
def gJ (G : Gh) (gs os : List Nat) : Gh := ⟨fun i => (gs[i]?).bind G.box, fun i => if i < gs.length then none else (os[i - gs.length]?).bind G.own⟩
theorem GC.xC {P : Program} [eK P] {C : Ctx} [hC : GC P C] {n : Nat} {st : St} {G : Gh} {tmps : Array Value} {w : World} (hs : aP C n st G tmps w) {gs os : List Nat} : GC P (dU C G w gs os) := by
  obtain ⟨W', h1', h2', h3'⟩ := hC.h
  refine ⟨W', h1', Nat.le_trans h2' hs.fr.size, fun b hb => ⟨(hs.fr.block b (Nat.lt_of_lt_of_le hb h2') (h3' b hb).2).trans (h3' b hb).1, ?_⟩⟩
  rintro (⟨g, _, hg⟩ | ⟨_, g, _, r, hg, hr⟩)
  · rcases (hs.gbox g b hg).2.2.1 with h | h
    · omega
    · exact (h3' b hb).2 h
  · rcases (hs.rowAt hg hr).1.1 with h | h
    · omega
    · exact (h3' b hb).2 h
theorem wF {C : Ctx} {G : Gh} {w : World} {gs os : List Nat} {b o : Nat} (h : bC (dU C G w gs os) (gJ G gs os) b o) : bC C G b o := by
  rcases h with h | ⟨g, h⟩ | ⟨g, len, cap, sz, pub, h, hle⟩
  · exact h.1
  · obtain ⟨g0, _, h0⟩ := Option.bind_eq_some_iff.1 h
    exact Or.inr (Or.inl ⟨g0, h0⟩)
  · simp only [gJ] at h
    split at h
    · cases h
    · obtain ⟨g0, _, h0⟩ := Option.bind_eq_some_iff.1 h
      exact Or.inr (Or.inr ⟨g0, len, cap, sz, pub, h0, hle⟩)
theorem pY {C : Ctx} {G : Gh} {w : World} {gs os : List Nat} {b o : Nat} (h : bC C G b o) (hn : ¬ (eR G gs b ∨ ∃ lim, dK G os b lim)) {G1 : Gh} : bC (dU C G w gs os) G1 b o := Or.inl ⟨h, hn⟩
theorem aS.ue {G : Gh} {tmps : Array Value} {w : World} (h : aP C n st G tmps w) (gs os : List Nat) {gen' : Nat} (hgen : gs.length + os.length ≤ gen') :
    ∀ (k : Nat) (v : Value) (a : A), aS (aB C G st.gen w) v a → aS (aB (dU C G w gs os) (gJ G gs os) gen' w) v (dJ st.bx gs os k a) := by
  have hc : ∀ b o u, cellAt w b o = some u → ¬ bC C G b o → cellAt w b o = some u ∧ ¬ bC (dU C G w gs os) (gJ G gs os) b o := fun b o u h1 h2 => ⟨h1, fun hp => h2 (wF hp)⟩
  have hold : ∀ b, (∃ g ∈ gs, G.box g = some b) ∨ (∃ lim, dK G os b lim) → C.w0.heap.size ≤ b ∨ C.fp b := by
    rintro b (⟨g, _, hg⟩ | ⟨lim, g, _, r, hg, hr⟩)
    · exact (h.gbox g b hg).2.2.1
    · exact (h.rowAt hg hr).1.1
  intro k
  induction k with
  | zero => intro v a _; exact .any v
  | succ k ih =>
    intro v a hr
    have lst : ∀ (l : List A) (vs : Array Value), (∀ (i : Nat) (u : Value) (x : A), vs[i]? = some u → l[i]? = some x → aS (aB C G st.gen w) u x) →
        ∀ (i : Nat) (u : Value) (x : A), vs[i]? = some u → (l.map (dJ st.bx gs os k))[i]? = some x → aS (aB (dU C G w gs os) (gJ G gs os) gen' w) u x := by
      intro l vs hl i u x hu hx
      simp only [List.getElem?_map, Option.map_eq_some_iff] at hx
      obtain ⟨y, hy, rfl⟩ := hx
      exact ih u y (hl i u y hu hy)
    cases hr with
    | any => exact .any _
    | d hd => exact .d (hd.mono hc)
    | ag vs l hs hd => exact .ag vs l hs (fun i u x h1 h2 => (hd i u x h1 h2).mono hc)
    | own _ g es hd _ hx =>
      simp only [dJ]
      split
      · rename_i i hp
        have hi := cA hp
        have hil := (List.getElem?_eq_some_iff.1 hi).1
        refine .own _ _ es (hd.mono hc) (by simp only [aB]; omega) (fun r hr' => hx r ?_)
        have hr2 : (if gs.length + i < gs.length then none else (os[gs.length + i - gs.length]?).bind G.own) = some r := hr'
        rw [if_neg (by omega), Nat.add_sub_cancel_left, hi] at hr2
        exact hr2
      · exact .d (hd.mono hc)
    | agg vs l hs hone hd => exact ju (by simp [hs]) hone (lst l vs hd)
    | tup vs l hs hd => exact .any _
    | rowd b off l u hcc hd => exact .rowd b off l u (fun j hj => hc _ _ _ (hcc j hj).1 (hcc j hj).2) (fun j x hx => (hd j x hx).mono hc)
    | row b off l u hcc hd =>
      refine .row b off _ u (fun j hj => ?_) (fun j x hx => ?_)
      · have := hcc j (by simpa using hj)
        refine ⟨this.1, ⟨dI this.1, fun hl => ?_⟩, this.2.2⟩
        have h1 := hold b hl
        have h2 := this.2.1
        simp only [aB] at h2
        rcases h1 with h1 | h1
        · omega
        · exact h2.2 h1
      · simp only [List.getElem?_map, Option.map_eq_some_iff] at hx
        obtain ⟨y, hy, rfl⟩ := hx
        exact ih _ y (hd j y hy)
    | xs _ g es hgg h1 hx =>
      simp only [dJ]
      split
      · rename_i i hp
        have hi := cA hp
        have hil := (List.getElem?_eq_some_iff.1 hi).1
        refine .xs _ _ es (by simp only [aB]; omega) h1 (fun r hr' => ?_)
        have hr2 : (if gs.length + i < gs.length then none else (os[gs.length + i - gs.length]?).bind G.own) = some r := hr'
        rw [if_neg (by omega), Nat.add_sub_cancel_left, hi] at hr2
        exact (hx r hr2).iW hc
      · exact .any _
    | xp => exact .any _
    | ni t x => exact .ni t x
    | fl _ es hd hfl => exact .fl _ es (hd.mono hc) hfl
    | bf _ g T s hgg h1 hx =>
      simp only [dJ]
      split
      · rename_i i hp
        have hi := cA hp
        have hil := (List.getElem?_eq_some_iff.1 hi).1
        refine .bf _ _ T s (by simp only [aB]; omega) h1 (fun r hr' => ?_)
        have hr2 : (if gs.length + i < gs.length then none else (os[gs.length + i - gs.length]?).bind G.own) = some r := hr'
        rw [if_neg (by omega), Nat.add_sub_cancel_left, hi] at hr2
        exact hx r hr2
      · exact .any _
    | mp _ g es hgg h1 hx =>
      simp only [dJ]
      split
      · rename_i i hp
        have hi := cA hp
        have hil := (List.getElem?_eq_some_iff.1 hi).1
        refine .mp _ _ es (by simp only [aB]; omega) h1 (fun r hr' => ?_)
        have hr2 : (if gs.length + i < gs.length then none else (os[gs.length + i - gs.length]?).bind G.own) = some r := hr'
        rw [if_neg (by omega), Nat.add_sub_cancel_left, hi] at hr2
        exact (hx r hr2).iW hc
      · exact .any _
    | np _ g T b0 hg hb0 hT u hx0 =>
      simp only [dJ]
      split
      · rename_i i hpp
        have hi := cA hpp
        have hil := (List.getElem?_eq_some_iff.1 hi).1
        refine .np _ i T b0 (by simp only [aB]; omega) ?_ (by exact hT) u hx0
        show (gs[i]?).bind G.box = some b0
        rw [hi]
        exact hb0
      · exact .any _
    | sb _ g n c b0 hg hb0 hn hx0 =>
      simp only [dJ]
      split
      · rename_i i hpp
        have hi := cA hpp
        have hil := (List.getElem?_eq_some_iff.1 hi).1
        refine .sb _ i n c b0 (by simp only [aB]; omega) ?_ hn hx0
        show (gs[i]?).bind G.box = some b0
        rw [hi]
        exact hb0
      · exact .any _
    | ptr _ g off b0 hg hb0 hx0 =>
      have hp := mf hb0 hx0
      simp only [dJ]
      split
      · rename_i i hpp
        have hi := cA hpp
        have hil := (List.getElem?_eq_some_iff.1 hi).1
        refine .ptr _ i off b0 (by simp only [aB]; omega) ?_ hx0
        show (gs[i]?).bind G.box = some b0
        rw [hi]
        exact hb0
      · rename_i hpn
        split
        · rename_i cells hb
          obtain ⟨b, cs, T', h1, h2, h3, h4, h5⟩ := h.box g cells hb
          rw [hp b h1]
          refine .row b off _ (fun j => cs[off + j]?.getD default) (fun j hj => ?_) (fun j x hx => ?_)
          · have hj' : off + j < cs.size := by simp at hj; omega
            have e : cs[off + j]? = some cs[off + j] := by simp [hj']
            refine ⟨by show cellAt w b (off + j) = _; rw [bP h2, e]; rfl, ⟨(Array.getElem?_eq_some_iff.1 h2).1, ?_⟩, by rw [e]; exact h4 _ _ e⟩
            rintro (⟨g', hg', hb'⟩ | ⟨lim, g', hg', r, hr', hra⟩)
            · have e := h.inj g g' b h1 hb'
              subst e
              have : ∀ {l : List Nat}, pos l g = none → g ∉ l := by
                intro l
                induction l with
                | nil => intro _ hm; cases hm
                | cons y l ihl =>
                  intro hpos hm
                  simp only [pos] at hpos
                  cases e : Nat.beq y g with
                  | true => rw [e] at hpos; simp at hpos
                  | false =>
                    rw [e] at hpos
                    simp only [cond_false] at hpos
                    split at hpos
                    · cases hpos
                    · rename_i hno
                      rcases List.mem_cons.1 hm with rfl | hm
                      · simp at e
                      · exact ihl hno hm
              exact this hpn hg'
            · exact (h.rowAt hr' hra).2.1 g h1
          · simp only [List.getElem?_map, Option.map_eq_some_iff] at hx
            obtain ⟨y, hy, rfl⟩ := hx
            have hy' : cells[off + j]? = some y := by simpa using hy
            have hj' : off + j < cs.size := by rw [h3]; exact (List.getElem?_eq_some_iff.1 hy').1
            have e : cs[off + j]? = some cs[off + j] := by simp [hj']
            rw [e]
            exact ih _ y (h5 _ _ _ e hy')
        · exact .any _
    | clo f vs l hs hd => exact .clo f vs _ (by simp [hs]) (lst l vs hd)
    | bnd f vs l hs hd => exact .bnd f vs _ (by simp [hs]) (lst l vs hd)
theorem jE {bx : List (Nat × List A)} {gs os : List Nat} : ∀ {r : List Nat} {l : List (List A)}, iy bx gs os r = some l → l.length = r.length ∧ ∀ (i g : Nat), r[i]? = some g → ∃ c, ax bx g = some c ∧ l[i]? = some (c.map (dJ bx gs os 5))
  | [], l, h => by simp only [iy, Option.some.injEq] at h; subst h; simp
  | g0 :: r, l, h => by
    simp only [iy] at h
    split at h
    · rename_i c l' hc hl
      simp only [Option.some.injEq] at h
      subst h
      obtain ⟨h1, h2⟩ := jE hl
      refine ⟨by simp [h1], fun i g hi => ?_⟩
      cases i with
      | zero => simp at hi; subst hi; exact ⟨c, hc, rfl⟩
      | succ i => simpa using h2 i g (by simpa using hi)
    · cases h
theorem l9 {l : List Nat} (hnd : l.Nodup) {i j g : Nat} (h1 : l[i]? = some g) (h2 : l[j]? = some g) : i = j := by
  obtain ⟨i1, e1⟩ := List.getElem?_eq_some_iff.1 h1
  obtain ⟨i2, e2⟩ := List.getElem?_eq_some_iff.1 h2
  have hpw := List.pairwise_iff_getElem.1 hnd
  rcases Nat.lt_trichotomy i j with hlt | heq | hgt
  · exact absurd (e1.trans e2.symm) (hpw i j i1 i2 hlt)
  · exact heq
  · exact absurd (e2.trans e1.symm) (hpw j i i2 i1 hgt)
theorem aP.ue {G : Gh} {tmps : Array Value} {w : World} (h : aP C n st G tmps w) {gs os : List Nat} {b0 : List (List A)} (hgs : gs.Nodup) (hos : os.Nodup) (hov : ∀ g ∈ os, g ∈ st.lv) (hb : iy st.bx gs os gs = some b0) :
    (dU C G w gs os).bx.length = b0.length ∧ aP (dU C G w gs os) 0 ⟨[], im 0 b0, (List.range os.length).map (b0.length + ·), b0.length + os.length⟩ (gJ G gs os) #[] w := by
  obtain ⟨hl, hget⟩ := jE hb
  refine ⟨by simp [dU, hl], ?_⟩
  have hown : ∀ {g r}, (gJ G gs os).own g = some r → gs.length ≤ g ∧ ∃ g0, os[g - gs.length]? = some g0 ∧ G.own g0 = some r := by
    intro g r hr
    simp only [gJ] at hr
    split at hr
    · cases hr
    · exact ⟨by omega, Option.bind_eq_some_iff.1 hr⟩
  refine { size := rfl, frame := fun t a ha => by simp [look] at ha, box := fun i l' hc => ?_, gbox := fun i b hb' => ?_, inj := fun i j b h1 h2 => ?_, live := fun i hi => ?_, gown := fun i r hr => ?_,
           row := fun i b len cap sz pub hr => ?_, mrow := fun i b hr => ?_, xold := fun b o hx => ⟨oV h hx.1, hx.2⟩, kold := fun b o hk => ?_, lent := fun i b hi => ?_, fr := ⟨rfl, rfl, rfl, Nat.le_refl _, fun _ _ _ => rfl, fun _ _ _ _ h => h, .refl w⟩ }
  · obtain ⟨_, h1⟩ := nY b0 0 i l' hc
    simp only [Nat.sub_zero] at h1
    have hlt : i < gs.length := by rw [← hl]; exact (List.getElem?_eq_some_iff.1 h1).1
    have hgi : gs[i]? = some gs[i] := by simp [hlt]
    obtain ⟨c, h2, h3⟩ := hget i _ hgi
    rw [h1] at h3
    simp only [Option.some.injEq] at h3
    subst h3
    obtain ⟨b, cs, T, h4, h5, h6, h7, h8⟩ := h.box _ c h2
    refine ⟨b, cs, T, by simp [gJ, hgi, h4], h5, by simpa using h6, h7, fun j u a hu ha => ?_⟩
    rw [List.getElem?_map, Option.map_eq_some_iff] at ha
    obtain ⟨y, hy, rfl⟩ := ha
    exact aS.ue h gs os (gen' := b0.length + os.length) (by omega) 5 u y (h8 j u y hu hy)
  · obtain ⟨g, h1, h2⟩ := Option.bind_eq_some_iff.1 hb'
    have hlt : i < gs.length := (List.getElem?_eq_some_iff.1 h1).1
    refine ⟨by show i < b0.length + os.length; omega, (h.gbox g b h2).2.1, .inr (.inl ⟨g, List.mem_of_getElem? h1, h2⟩), ?_⟩
    rintro o ⟨lim, ⟨g', _, r, hr', hra⟩, _⟩
    exact absurd h2 ((h.rowAt hr' hra).2.1 g)
  · obtain ⟨g1, h3, h4⟩ := Option.bind_eq_some_iff.1 h1
    obtain ⟨g2, h5, h6⟩ := Option.bind_eq_some_iff.1 h2
    have e := h.inj g1 g2 b h4 h6
    subst e
    exact l9 hgs h3 h5
  · obtain ⟨j, hj, rfl⟩ := List.mem_map.1 hi
    have hj : j < os.length := by simpa using hj
    obtain ⟨r, hr⟩ := h.live _ (hov _ (List.getElem_mem hj))
    refine ⟨r, ?_⟩
    simp only [gJ]
    rw [if_neg (by omega), hl, Nat.add_sub_cancel_left]
    simp [hj, hr]
  · obtain ⟨h1, g0, h2, h3⟩ := hown hr
    have := (List.getElem?_eq_some_iff.1 h2).1
    simp only
    omega
  · obtain ⟨h1, g0, h2, h3⟩ := hown hr
    obtain ⟨h4, h5, h6, h7⟩ := h.row g0 b len cap sz pub h3
    have hm := List.mem_of_getElem? h2
    refine ⟨⟨.inr (.inr ⟨_, g0, hm, _, h3, rfl, rfl⟩), ?_⟩, fun j hj => ?_, fun j len' cap' sz' pub' hj => ?_, h7⟩
    · rintro o ⟨lim, ⟨g', _, r', hr', hra⟩, hlt⟩
      have e := (h.rowAt h3 ⟨rfl, rfl⟩).2.2.2 g' r' lim hr' hra
      rw [e.2] at hlt
      exact hlt
    · obtain ⟨g2, _, h8⟩ := Option.bind_eq_some_iff.1 hj
      exact h5 g2 h8
    · obtain ⟨h9, g2, h10, h11⟩ := hown hj
      have e := h6 g2 len' cap' sz' pub' h11
      subst e
      have := l9 hos h10 h2
      omega
  · obtain ⟨h1, g0, h2, h3⟩ := hown hr
    obtain ⟨h4, h5, h6, h7⟩ := h.mrow g0 b h3
    have hm := List.mem_of_getElem? h2
    refine ⟨⟨.inr (.inr ⟨_, g0, hm, _, h3, rfl, rfl⟩), ?_⟩, fun j hj => ?_, fun j hj => ?_, h7⟩
    · rintro o ⟨lim, ⟨g', _, r', hr', hra⟩, hlt⟩
      have e := (h.rowAt h3 ⟨rfl, rfl⟩).2.2.2 g' r' lim hr' hra
      rw [e.2] at hlt
      exact hlt
    · obtain ⟨g2, _, h8⟩ := Option.bind_eq_some_iff.1 hj
      exact h5 g2 h8
    · obtain ⟨h9, g2, h10, h11⟩ := hown hj
      have e := h6 g2 h11
      subst e
      have := l9 hos h10 h2
      omega
  · obtain ⟨lim, ⟨g', _, r', hr', hra⟩, _⟩ := hk
    exact (h.rowAt hr' hra).2.2.1
  · simp only [dU, List.getElem?_map, Option.map_eq_some_iff] at hi
    obtain ⟨g, hg, rfl⟩ := hi
    obtain ⟨c, h2, _⟩ := hget i g hg
    obtain ⟨b, _, _, h4, _⟩ := h.box _ c h2
    simp [gJ, hg, h4]
theorem aS.back {E E2 : En} {gs : List Nat} {m : Nat} (hc : ∀ b o u, cellAt E.w b o = some u → ¬ E.pv b o → cellAt E2.w b o = some u ∧ ¬ E2.pv b o) (ho : ∀ g r, g < E.gen → E2.own (g + m) = some r → E.own g = some r)
    (hg : E.gen + m ≤ E2.gen) (hb : ∀ (i g b : Nat), gs[i]? = some g → E.box i = some b → g < E2.gen ∧ E2.box g = some b) (hw : E2.w = E.w) {v : Value} {a : A} (h : aS E v a) : aS E2 v (back gs m a) := by
  have hc' : ∀ b o u, cellAt E.w b o = some u → ¬ E.pv b o → cellAt E.w b o = some u ∧ ¬ E2.pv b o := fun b o u h1 h2 => ⟨h1, (hc b o u h1 h2).2⟩
  induction h with
  | any x => exact .any x
  | d hd => exact .d (hd.mono hc)
  | ag vs l hs hd => exact .ag vs l hs (fun i u x h1 h2 => (hd i u x h1 h2).mono hc)
  | own x g es hd hgg hr => exact .own x _ es (hd.mono hc) (by omega) (fun r hr' => hr r (ho g r hgg hr'))
  | agg vs l hs hone _ ih =>
    simp only [Ab.back, eZ]
    refine .agg vs _ (by simp [hs]) hone (fun i u x hu hx => ?_)
    simp only [List.getElem?_map, Option.map_eq_some_iff] at hx
    obtain ⟨y, hy, rfl⟩ := hx
    exact ih i u y hu hy
  | tup vs l hs _ ih =>
    simp only [Ab.back, eZ]
    refine .tup vs _ (by simp [hs]) (fun i u x hu hx => ?_)
    simp only [List.getElem?_map, Option.map_eq_some_iff] at hx
    obtain ⟨y, hy, rfl⟩ := hx
    exact ih i u y hu hy
  | rowd b off l u hcc hd => exact .rowd b off l u (fun j hj => hc _ _ _ (hcc j hj).1 (hcc j hj).2) (fun j x hx => (hd j x hx).mono hc)
  | row b off l u hcc _ _ => exact .any _
  | np x i T b0 hgg hb0 hT u hp =>
    simp only [Ab.back]
    split
    · rename_i g hgi
      exact .np x g T b0 (hb i g b0 hgi hb0).1 (hb i g b0 hgi hb0).2 (hw ▸ hT) u hp
    · exact .any _
  | sb x i n c b0 hgg hb0 hn hp =>
    simp only [Ab.back]
    split
    · rename_i g hgi
      exact .sb x g n c b0 (hb i g b0 hgi hb0).1 (hb i g b0 hgi hb0).2 hn hp
    · exact .any _
  | ptr x i off b0 hgg hb0 hp =>
    simp only [Ab.back]
    split
    · rename_i g hgi
      exact .ptr x g off b0 (hb i g b0 hgi hb0).1 (hb i g b0 hgi hb0).2 hp
    · exact .any _
  | xs x g es hgg h1 hx => exact .xs x _ es (by omega) h1 (fun r hr' => hw ▸ (hx r (ho g r hgg hr')).iW hc')
  | xp x g i off l hgg h1 hx => exact .xp x _ i off l (by omega) h1 (fun r hr' => hw ▸ (hx r (ho g r hgg hr')).iW hc')
  | ni t x => exact .ni t x
  | fl x es hd hfl => exact .fl x es (hd.mono hc) hfl
  | bf x g T s hgg h1 hx => exact .bf x _ T s (by omega) h1 (fun r hr' => hw ▸ hx r (ho g r hgg hr'))
  | mp x g es hgg h1 hx => exact .mp x _ es (by omega) h1 (fun r hr' => hw ▸ (hx r (ho g r hgg hr')).iW hc')
  | clo f vs l hs _ ih =>
    simp only [Ab.back, eZ]
    refine .clo f vs _ (by simp [hs]) (fun i u x hu hx => ?_)
    simp only [List.getElem?_map, Option.map_eq_some_iff] at hx
    obtain ⟨y, hy, rfl⟩ := hx
    exact ih i u y hu hy
  | bnd f vs l hs _ ih =>
    simp only [Ab.back, eZ]
    refine .bnd f vs _ (by simp [hs]) (fun i u x hu hx => ?_)
    simp only [List.getElem?_map, Option.map_eq_some_iff] at hx
    obtain ⟨y, hy, rfl⟩ := hx
    exact ih i u y hu hy
theorem aP.xF {G : Gh} {tmps : Array Value} {w w' : World} (h : aP C n st G tmps w) {gs os : List Nat} {b0 b1 : List (List A)} (hb : iy st.bx gs os gs = some b0) (hl1 : b1.length = b0.length) {k : Nat} {G1 : Gh}
    (h1 : aP (dU C G w gs os) 0 ⟨[], im 0 b1, (List.range k).map (b0.length + ·), b0.length + k⟩ G1 #[] w') :
    ∃ G2, (∀ v a, aS (aB (dU C G w gs os) G1 (b0.length + k) w') v a → aS (aB C G2 (b0.length + k + st.gen) w') v (back gs st.gen a)) ∧
      aP C n ⟨st.f, ij gs st.gen gs b1 ++ st.bx, (List.range k).map (b0.length + · + st.gen) ++ st.lv.filter (fun g => !os.any (Nat.beq g)), b0.length + k + st.gen⟩ G2 tmps w' := by
  obtain ⟨hl, hget⟩ := jE hb
  have memos : ∀ g, os.any (Nat.beq g) = true ↔ g ∈ os := by
    intro g
    rw [List.any_eq_true]
    exact ⟨fun ⟨x, hx, he⟩ => Nat.eq_of_beq_eq_true he ▸ hx, fun hg => ⟨g, hg, Nat.beq_refl g⟩⟩
  let own2 : Nat → Option Row := fun g => if g < st.gen then (if os.any (Nat.beq g) then none else G.own g) else G1.own (g - st.gen)
  let G2 : Gh := ⟨G.box, own2⟩
  have hLb : ∀ {b}, eR G gs b → C.nQ b 0 ∧ b < w.heap.size := by
    rintro b ⟨g, _, hg⟩
    exact ⟨(h.gbox g b hg).2.2, (h.gbox g b hg).2.1⟩
  have hLr : ∀ {b lim}, dK G os b lim → C.nQ b lim ∧ b < w.heap.size ∧ (∀ g', G.box g' ≠ some b) := by
    rintro b lim ⟨g, _, r, hg, hra⟩
    obtain ⟨h1, h2, h3, _⟩ := h.rowAt hg hra
    exact ⟨h1, h3, h2⟩
  have hLm : ∀ {b}, (eR G gs b ∨ ∃ lim, dK G os b lim) → C.w0.heap.size ≤ b ∨ C.fp b := by
    rintro b (hl | ⟨lim, hl⟩)
    · exact (hLb hl).1.1
    · exact (hLr hl).1.1
  have hG1 : ∀ {i g : Nat} {b : Nat}, gs[i]? = some g → G.box g = some b → G1.box i = some b := by
    intro i g b hi hg
    refine h1.lent i b ?_
    simp [dU, hi, hg]
  have old2 : ∀ {g r}, own2 g = some r → (g < st.gen ∧ g ∉ os ∧ G.own g = some r) ∨ (st.gen ≤ g ∧ G1.own (g - st.gen) = some r) := by
    intro g r hr
    simp only [own2] at hr
    split at hr
    · rename_i hlt
      split at hr
      · cases hr
      · rename_i hno
        exact .inl ⟨hlt, fun hm => hno ((memos g).2 hm), hr⟩
    · exact .inr ⟨by omega, hr⟩
  have hstay : ∀ {b}, b < w.heap.size → ¬ (eR G gs b ∨ ∃ lim, dK G os b lim) → w'.heap[b]? = w.heap[b]? := fun hlt hn => h1.fr.block _ hlt hn
  have hnotrow : ∀ {g b lim r}, G.own g = some r → r.mJ b lim → g ∉ os → ¬ (eR G gs b ∨ ∃ lim, dK G os b lim) := by
    rintro g b lim r hg hra hno (⟨g', _, hb'⟩ | ⟨lim', g', hg', r', hr', hra'⟩)
    · exact (h.rowAt hg hra).2.1 g' hb'
    · have e := (h.rowAt hg hra).2.2.2 g' r' lim' hr' hra'
      exact hno (e.1 ▸ hg')
  have hnotbox : ∀ {g b}, G.box g = some b → g ∉ gs → ¬ (eR G gs b ∨ ∃ lim, dK G os b lim) := by
    rintro g b hg hno (⟨g', hg', hb'⟩ | ⟨lim, hl⟩)
    · have e := h.inj g g' b hg hb'
      subst e
      exact hno hg'
    · exact (hLr hl).2.2 g hg
  have hnew : ∀ {g b lim r}, G1.own g = some r → r.mJ b lim → C.nQ b lim ∧ (∀ g', G.box g' ≠ some b) ∧ (w.heap.size ≤ b ∨ ∃ lim', dK G os b lim' ∧ lim' ≤ lim) := by
    intro g b lim r hg hra
    obtain ⟨⟨hm, hk⟩, hnb, _⟩ := h1.rowAt hg hra
    have hm' : w.heap.size ≤ b ∨ (eR G gs b ∨ ∃ lim, dK G os b lim) := hm
    rcases hm' with hm | hm | ⟨lim', hm⟩
    · refine ⟨⟨.inl (Nat.le_trans h.fr.size hm), fun o ho => ?_⟩, fun g' hg' => ?_, .inl hm⟩
      · have := h.kold b o ho
        have := h.fr.size
        omega
      · have := (h.gbox g' b hg').2.1
        omega
    · obtain ⟨g0, hg0, hb0⟩ := hm
      obtain ⟨i, hi⟩ := List.mem_iff_getElem?.1 hg0
      exact absurd (hG1 hi hb0) (hnb i)
    · have hlim : lim' ≤ lim := by
        rcases Nat.lt_or_ge lim lim' with hlt | hge
        · exact absurd (hk lim ⟨lim', hm, hlt⟩) (Nat.lt_irrefl _)
        · exact hge
      obtain ⟨q1, q2, q3⟩ := hLr hm
      exact ⟨⟨q1.1, fun o ho => Nat.lt_of_lt_of_le (q1.2 o ho) hlim⟩, q3, .inr ⟨lim', hm, hlim⟩⟩
  have hfr : Fr C w' := by
    refine ⟨h1.fr.os.trans h.fr.os, h1.fr.tape.trans h.fr.tape, h1.fr.output.trans h.fr.output, Nat.le_trans h.fr.size h1.fr.size, fun b hlt hn => ?_, fun b o u hk hu => ?_, h.fr.ty.trans h1.fr.ty⟩
    · rw [hstay (Nat.lt_of_lt_of_le hlt h.fr.size) (fun hl => (hLm hl).elim (fun h => by omega) hn)]
      exact h.fr.block b hlt hn
    · have hu' := h.fr.cells b o u hk hu
      by_cases hl : eR G gs b ∨ ∃ lim, dK G os b lim
      · rcases hl with hl | ⟨lim, hl⟩
        · exact absurd ((hLb hl).1.2 o hk) (Nat.not_lt_zero _)
        · exact h1.fr.cells b o u ⟨lim, hl, (hLr hl).1.2 o hk⟩ hu'
      · rw [b8 (hstay (dI hu') hl)]
        exact hu'
  have hpv2 : ∀ {b o}, bC C G2 b o → bC (dU C G w gs os) G1 b o := by
    rintro b o (hp | ⟨g, hp⟩ | ⟨g, len, cap, sz, pub, hp, hle⟩)
    · refine pY (.inl hp) (fun hl => ?_)
      obtain ⟨h2, h3⟩ := h.xold b o hp
      exact (hLm hl).elim (fun h => by omega) h3
    · by_cases hg : g ∈ gs
      · obtain ⟨i, hi⟩ := List.mem_iff_getElem?.1 hg
        exact .inr (.inl ⟨i, hG1 hi hp⟩)
      · exact pY (G := G) (.inr (.inl ⟨g, hp⟩)) (hnotbox hp hg)
    · rcases old2 hp with ⟨_, h3, h4⟩ | ⟨_, h3⟩
      · exact pY (.inr (.inr ⟨g, len, cap, sz, pub, h4, hle⟩)) (hnotrow h4 ⟨rfl, rfl⟩ h3)
      · exact .inr (.inr ⟨_, len, cap, sz, pub, h3, hle⟩)
  have hback : ∀ v a, aS (aB (dU C G w gs os) G1 (b0.length + k) w') v a → aS (aB C G2 (b0.length + k + st.gen) w') v (back gs st.gen a) := by
    intro v a hr
    refine aS.back (E := aB (dU C G w gs os) G1 (b0.length + k) w') (E2 := aB C G2 (b0.length + k + st.gen) w') (fun b o u hu hn => ⟨hu, fun hp => hn (hpv2 hp)⟩) (fun g r hg hr' => ?_) (by simp [aB]) (fun i g b hi hb1 => ?_) rfl hr
    · have hr2 : own2 (g + st.gen) = some r := hr'
      rcases old2 hr2 with ⟨h3, _⟩ | ⟨_, h3⟩
      · omega
      · rw [Nat.add_sub_cancel] at h3
        exact h3
    · obtain ⟨c, h2, _⟩ := hget i g hi
      obtain ⟨b', _, _, h4, _⟩ := h.box _ c h2
      have h5 := hG1 hi h4
      have h6 : G1.box i = some b := hb1
      rw [h5] at h6
      simp only [Option.some.injEq] at h6
      subst h6
      have := (h.gbox g b' h4).1
      exact ⟨by simp only [aB]; omega, h4⟩
  have hle : (aB C G st.gen w).le (aB C G2 (b0.length + k + st.gen) w') := by
    refine lJ h.fr hfr (fun b o u hu hn => ⟨?_, fun hp => ?_⟩) (fun _ _ h => h) (fun g r hg hr => ?_) (by omega) (fun g b len cap sz pub hg hr => ?_) (fun g b hg hr => ?_) h1.fr.ty
    · by_cases hl : eR G gs b ∨ ∃ lim, dK G os b lim
      · rcases hl with ⟨g, _, hg⟩ | ⟨lim, hl⟩
        · exact absurd (.inr (.inl ⟨g, hg⟩)) hn
        · refine h1.fr.cells b o u ⟨lim, hl, ?_⟩ hu
          obtain ⟨g, _, r, hg, hra⟩ := hl
          exact Nat.lt_of_not_le fun hle => hn (h.xS hg hra hu hle)
      · rw [b8 (hstay (dI hu) hl)]
        exact hu
    · rcases hp with hp | ⟨g, hp⟩ | ⟨g, len, cap, sz, pub, hp, hle⟩
      · exact hn (.inl hp)
      · exact hn (.inr (.inl ⟨g, hp⟩))
      · rcases old2 hp with ⟨_, _, h4⟩ | ⟨_, h3⟩
        · exact hn (.inr (.inr ⟨g, len, cap, sz, pub, h4, hle⟩))
        · have hlt := dI hu
          rcases (hnew h3 ⟨rfl, rfl⟩).2.2 with h5 | ⟨lim, hl, hlim⟩
          · omega
          · obtain ⟨g0, _, r0, hg0, hra⟩ := hl
            exact hn (h.xS hg0 hra hu (by omega))
    · have hr2 : own2 g = some r := hr
      rcases old2 hr2 with ⟨_, _, h3⟩ | ⟨h3, _⟩
      · exact h3
      · omega
    · have hr2 : own2 g = some (.blk b len cap sz pub) := hr
      rcases old2 hr2 with ⟨_, h3, h4⟩ | ⟨h3, _⟩
      · exact hstay (h.rowAt h4 ⟨rfl, rfl⟩).2.2.1 (hnotrow h4 ⟨rfl, rfl⟩ h3)
      · omega
    · have hr2 : own2 g = some (.mp b) := hr
      rcases old2 hr2 with ⟨_, h3, h4⟩ | ⟨h3, _⟩
      · exact hstay (h.rowAt h4 ⟨rfl, rfl⟩).2.2.1 (hnotrow h4 ⟨rfl, rfl⟩ h3)
      · omega
  refine ⟨G2, hback, { size := h.size, frame := h.dS hle, inj := h.inj, xold := h.xold, kold := h.kold, lent := h.lent, fr := hfr, box := ?_, gbox := ?_, live := ?_, gown := ?_, row := ?_, mrow := ?_ }⟩
  · intro g cells hc
    by_cases hg : g ∈ gs
    · have hz : ∃ c, ax (ij gs st.gen gs b1) g = some c := by
        clear hback hle hpv2
        have : ∀ (r : List Nat) (l : List (List A)), l.length = r.length → g ∈ r → ∃ c, ax (ij gs st.gen r l) g = some c := by
          intro r
          induction r with
          | nil => intro l _ hm; cases hm
          | cons x r ih =>
            intro l hl hm
            cases l with
            | nil => simp at hl
            | cons c l =>
              simp only [ij, bQ]
              by_cases e : x = g
              · rw [if_pos e]; exact ⟨_, rfl⟩
              · rw [if_neg e]
                exact ih l (by simpa using hl) ((List.mem_cons.1 hm).resolve_left (fun h => e h.symm))
        exact this gs b1 (by omega) hg
      obtain ⟨c, hz⟩ := hz
      have hcc : c = cells := by
        rcases ir hc with h2 | h2
        · rw [h2] at hz; exact (Option.some.inj hz).symm
        · have : ax (ij gs st.gen gs b1 ++ st.bx) g = some c := by
            clear hc hback hle
            revert hz
            generalize ij gs st.gen gs b1 = z
            intro hz
            induction z with
            | nil => simp [ax] at hz
            | cons x z ih =>
              obtain ⟨s, y⟩ := x
              rw [bQ] at hz
              rw [List.cons_append, bQ]
              split
              · rename_i e; rw [if_pos e] at hz; exact hz
              · rename_i e; rw [if_neg e] at hz; exact ih hz
          rw [this] at hc
          exact Option.some.inj hc
      subst hcc
      obtain ⟨i, c0, h2, h3, rfl⟩ := mF hz
      obtain ⟨b, cs, T, h4, h5, h6, h7, h8⟩ := h1.box i c0 (by have := rq b1 0 i c0 h3; simpa using this)
      obtain ⟨c2, h9, _⟩ := hget i g h2
      obtain ⟨b', _, _, h10, _⟩ := h.box g c2 h9
      have e : b' = b := by
        have := hG1 h2 h10
        rw [h4] at this
        exact (Option.some.inj this).symm
      subst e
      refine ⟨b', cs, T, h10, h5, by rw [eZ, List.length_map]; exact h6, h7, fun j u a hu ha => ?_⟩
      rw [eZ, List.getElem?_map, Option.map_eq_some_iff] at ha
      obtain ⟨y, hy, rfl⟩ := ha
      exact hback u y (h8 j u y hu hy)
    · have hc2 : ax st.bx g = some cells := by
        rcases ir hc with h2 | h2
        · obtain ⟨i, c0, h3, _⟩ := mF h2
          exact absurd (List.mem_of_getElem? h3) hg
        · exact h2
      obtain ⟨b, cs, T, h4, h5, h6, h7, h8⟩ := h.box g cells hc2
      refine ⟨b, cs, T, h4, by rw [hstay (Array.getElem?_eq_some_iff.1 h5).1 (hnotbox h4 hg)]; exact h5, h6, h7, fun j u a hu ha => (h8 j u a hu ha).mono hle⟩
  · intro g b hgb
    obtain ⟨h2, h3, h4⟩ := h.gbox g b hgb
    exact ⟨by simp only; omega, Nat.lt_of_lt_of_le h3 h1.fr.size, h4⟩
  · intro g hg
    rcases List.mem_append.1 hg with hg | hg
    · obtain ⟨j, hj, rfl⟩ := List.mem_map.1 hg
      obtain ⟨r, hr⟩ := h1.live (b0.length + j) (List.mem_map.2 ⟨j, hj, rfl⟩)
      refine ⟨r, ?_⟩
      simp only [G2, own2]
      rw [if_neg (by omega), Nat.add_sub_cancel]
      exact hr
    · obtain ⟨h2, h3⟩ := List.mem_filter.1 hg
      obtain ⟨r, hr⟩ := h.live g h2
      refine ⟨r, ?_⟩
      simp only [G2, own2]
      rw [if_pos (h.gown g r hr), if_neg (by cases e : os.any (Nat.beq g) with | true => rw [e] at h3; cases h3 | false => simp)]
      exact hr
  · intro g r hr
    rcases old2 hr with ⟨h2, _⟩ | ⟨h2, h3⟩
    · simp only; omega
    · have := h1.gown _ r h3
      simp only at this ⊢
      omega
  · intro g b len cap sz pub hr
    rcases old2 hr with ⟨h2, h3, h4⟩ | ⟨h2, h3⟩
    · obtain ⟨h5, h6, h7, cur, T, h8, h9⟩ := h.row g b len cap sz pub h4
      refine ⟨h5, h6, fun g' len' cap' sz' pub' hr' => ?_, cur, T, by rw [hstay (Array.getElem?_eq_some_iff.1 h8).1 (hnotrow h4 ⟨rfl, rfl⟩ h3)]; exact h8, h9⟩
      rcases old2 hr' with ⟨_, _, h10⟩ | ⟨_, h10⟩
      · exact h7 g' len' cap' sz' pub' h10
      · rcases (hnew h10 ⟨rfl, rfl⟩).2.2 with h11 | ⟨lim, h11, _⟩
        · have := (Array.getElem?_eq_some_iff.1 h8).1
          omega
        · exact absurd (.inr ⟨lim, h11⟩) (hnotrow h4 ⟨rfl, rfl⟩ h3)
    · obtain ⟨h5, h6, h7, h8⟩ := h1.row _ b len cap sz pub h3
      refine ⟨(hnew h3 ⟨rfl, rfl⟩).1, (hnew h3 ⟨rfl, rfl⟩).2.1, fun g' len' cap' sz' pub' hr' => ?_, h8⟩
      rcases old2 hr' with ⟨_, h10, h12⟩ | ⟨_, h10⟩
      · rcases (hnew h3 ⟨rfl, rfl⟩).2.2 with h11 | ⟨lim, h11, _⟩
        · have := (h.rowAt h12 ⟨rfl, rfl⟩).2.2.1
          omega
        · exact absurd (.inr ⟨lim, h11⟩) (hnotrow h12 ⟨rfl, rfl⟩ h10)
      · have := h7 _ len' cap' sz' pub' h10
        omega
  · intro g b hr
    rcases old2 hr with ⟨h2, h3, h4⟩ | ⟨h2, h3⟩
    · obtain ⟨h5, h6, h7, me, clock, h8⟩ := h.mrow g b h4
      refine ⟨h5, h6, fun g' hr' => ?_, me, clock, by rw [hstay (Array.getElem?_eq_some_iff.1 h8).1 (hnotrow h4 ⟨rfl, rfl⟩ h3)]; exact h8⟩
      rcases old2 hr' with ⟨_, _, h10⟩ | ⟨_, h10⟩
      · exact h7 g' h10
      · rcases (hnew h10 ⟨rfl, rfl⟩).2.2 with h11 | ⟨lim, h11, _⟩
        · have := (Array.getElem?_eq_some_iff.1 h8).1
          omega
        · exact absurd (.inr ⟨lim, h11⟩) (hnotrow h4 ⟨rfl, rfl⟩ h3)
    · obtain ⟨h5, h6, h7, h8⟩ := h1.mrow _ b h3
      refine ⟨(hnew h3 ⟨rfl, rfl⟩).1, (hnew h3 ⟨rfl, rfl⟩).2.1, fun g' hr' => ?_, h8⟩
      rcases old2 hr' with ⟨_, h10, h12⟩ | ⟨_, h10⟩
      · rcases (hnew h3 ⟨rfl, rfl⟩).2.2 with h11 | ⟨lim, h11, _⟩
        · have := (h.rowAt h12 ⟨rfl, rfl⟩).2.2.1
          omega
        · exact absurd (.inr ⟨lim, h11⟩) (hnotrow h12 ⟨rfl, rfl⟩ h10)
      · have := h7 _ h10
        omega
theorem WO.jG [eK P] [GC P C] (hg : o.guard = none) (hd : dD n o.dst = true) {x : Operand} {xs : Array Operand} {tys : Array TypeId} (ho : o.op = .call ⟨.value x, xs, tys⟩) {fid : FuncId} {caps as' : List A} (hx : av st.f x = some (.clo fid caps))
    (hxs : iJ st.f xs.toList = some as') (gs os : List Nat) (hgs : fV gs = true) (hos : fV os = true) (hov : (os.all fun g => st.lv.any fun h => Nat.beq h g) = true) {args : List A} {b0 b1 : List (List A)} {r : A} {m k : Nat}
    (hf : cU P fid args b0 m r b1 k) (harg : (as' ++ caps).map (dJ st.bx gs os 5) = args) (hb : iy st.bx gs os gs = some b0) (hm : os.length = m)
    (h : WO P C n ops Q rest (St.put ⟨st.f, ij gs st.gen gs b1 ++ st.bx, (List.range k).map (b0.length + · + st.gen) ++ st.lv.filter (fun g => !os.any (Nat.beq g)), b0.length + k + st.gen⟩ o.dst (back gs st.gen r))) : WO P C n ops Q (o :: rest) st := by
  subst hm
  subst harg
  refine WO.step hg fun tmps w ⟨G, hs⟩ => ?_
  obtain ⟨fn, hfn, hname, hbody⟩ := hf.ok
  have hr := hs.av hx
  generalize hv : Act.eval ⟨tmps, []⟩ x = v at hr
  cases hr with
  | clo _ vs _ hsz hcd =>
  obtain ⟨h1, h2⟩ := iR hs xs.toList as' hxs
  have hrun : (execOp (Act.eval ⟨tmps, []⟩) o).run P w = .ok (.enter fid (xs.map (Act.eval ⟨tmps, []⟩) ++ vs)) w := by
    unfold execOp
    rw [ho]
    show Sem.run P (do let d ← resolve (Act.eval ⟨tmps, []⟩) ⟨.value x, xs, tys⟩ o.type; invoke d.target d.args) w = _
    simp only [resolve, hv, Deferred.ofValue, Sem.run_bind, Sem.run_pure, Result.andThen_ok, invoke, callFunc, run_program, hfn, hname, hbody, Bool.false_eq_true, if_false, Array.empty_append]
  obtain ⟨hlen, hent⟩ := hs.ue (gs := gs) (os := os) (iQ hgs) (iQ hos) (fun g hg => by
    obtain ⟨y, hy, he⟩ := List.any_eq_true.1 (List.all_eq_true.1 hov g hg)
    exact Nat.eq_of_beq_eq_true he ▸ hy) hb
  have hbl := (jE hb).1
  unfold cF
  have hrun' : (execOp (Act.eval { tmps := tmps, defers := [] }) o).run P w = .ok (.enter fid (xs.map (Act.eval ⟨tmps, []⟩) ++ vs)) w := hrun
  rw [hrun']
  refine (hf.calls (dU C G w gs os) (gJ G gs os) _ w (GC.xC hs) rfl hlen rfl (vA rfl) hent (by simp at h1; simp [hsz, h1]) (fun i u a hu ha => ?_)).mono fun e w' ⟨v, G', he, h3, h4⟩ => ?_
  · simp only [List.getElem?_map, Option.map_eq_some_iff] at ha
    obtain ⟨y, hy, rfl⟩ := ha
    refine aS.ue hs gs os (by omega) 5 u y ?_
    simp only [Array.getElem?_append] at hu
    split at hu
    · rename_i hlt
      simp only [Array.size_map] at hlt
      have hlt' : i < as'.length := by simp at h1; omega
      rw [List.getElem?_append_left hlt'] at hy
      obtain ⟨z, hz, hzr⟩ := h2 i y hy
      simp only [Array.getElem?_map, Option.map_eq_some_iff] at hu
      obtain ⟨z', hz', rfl⟩ := hu
      have : z = z' := by simp at hz; rw [hz'] at hz; exact (Option.some.inj hz).symm
      subst this
      exact hzr
    · rename_i hge
      simp only [Array.size_map] at hge hu
      have hge' : as'.length ≤ i := by simp at h1; omega
      rw [List.getElem?_append_right hge'] at hy
      refine hcd (i - xs.size) u y hu ?_
      have : xs.size = as'.length := by simpa using h1
      rw [this]
      exact hy
  · obtain ⟨G2, hbk, hs2⟩ := hs.xF hb hf.len h3
    exact ⟨v, he, _, ⟨G2, hs2.put (cB hd) (hbk v r h4)⟩, h⟩
end
end Go.Ab
namespace Go.Ab
open Go.RowKit
section
variable {P : Program} {C : Ctx} {n : Nat} {ops : Array Oper} {Q : Exit → St → Prop} {rest : List Oper} {c : Code}
variable {f : List (Nat × A)} {bx : List (Nat × List A)} {lv : List Nat} {gen : Nat} {d : Nat} {op : Op} {ty : TypeId} {pos : String} {af : Array Edge} {a : A} {dst : Option Nat}
theorem aP.wz {st : St} {G : Gh} {tmps : Array Value} {w : World} (h : aP C n st G tmps w) {g : Nat} {cells cells' : List A} (hb : ax st.bx g = some cells) (hl : cells'.length = cells.length)
    (hr : ∀ (i : Nat) (u : Value) (a a' : A), cells[i]? = some a → cells'[i]? = some a' → aS (aB C G st.gen w) u a → aS (aB C G st.gen w) u a') : aP C n { st with bx := (g, cells') :: st.bx } G tmps w := by
  refine { h with box := fun g' c hc => ?_ }
  simp only [bQ] at hc
  split at hc
  · rename_i e
    subst e
    simp only [Option.some.injEq] at hc
    subst hc
    obtain ⟨b, cs, T, h1, h2, h3, h4, h5⟩ := h.box g cells hb
    refine ⟨b, cs, T, h1, h2, by omega, h4, fun i u a hu ha => ?_⟩
    have hlt : i < cells.length := by rw [← hl]; exact (List.getElem?_eq_some_iff.1 ha).1
    exact hr i u cells[i] a (by simp [hlt]) ha (h5 i u cells[i] hu (by simp [hlt]))
  · exact h.box g' c hc
def isNil : A → Bool
  | .d (.v (.slice none 0 0)) => true
  | _ => false
theorem vS {a : A} (h : isNil a = true) : a = .d (.v (.slice none 0 0)) := by
  unfold isNil at h
  split at h
  · rfl
  · cases h
theorem gH.eY {st : St} {tmps : Array Value} {w : World} (h : gH C n st tmps w) {g j : Nat} {cells : List A} (hb : ax st.bx g = some cells) (hj : cells[j]? = some (.d (.v (.slice none 0 0)))) :
    gH C n ⟨st.f, (g, cells.set j (.own st.gen [])) :: st.bx, st.gen :: st.lv, st.gen + 1⟩ tmps w := by
  obtain ⟨G, h⟩ := h
  obtain ⟨⟨G', _, hs, hv⟩⟩ := h.nw false st.lv (fun _ h => h)
  refine ⟨G', aP.wz (st := { st with lv := st.gen :: st.lv, gen := st.gen + 1 }) hs hb (by simp) (fun i u a a' ha ha' hr => ?_)⟩
  rw [List.getElem?_set] at ha'
  split at ha'
  · rename_i e
    subst e
    rw [hj] at ha
    simp only [Option.some.injEq] at ha
    subst ha
    split at ha'
    · simp only [Option.some.injEq] at ha'
      subst ha'
      cases hr with | d hr => cases hr; exact hv
    · cases ha'
  · rw [ha] at ha'
    simp only [Option.some.injEq] at ha'
    subst ha'
    exact hr
theorem eY (g j : Nat) {cells cells' : List A} (hb : ax bx g = some cells) (hj : cells[j]? = some (.d (.v (.slice none 0 0)))) (hc : cells.set j (.own gen []) = cells') (h : W P C n c Q ⟨f, (g, cells') :: bx, gen :: lv, gen + 1⟩) : W P C n c Q ⟨f, bx, lv, gen⟩ := by
  subst hc
  exact fun tmps w hs => h tmps w (hs.eY hb hj)
theorem oI (g j : Nat) {cells cells' : List A} (hb : ax bx g = some cells) (hj : cells[j]? = some (.d (.v (.slice none 0 0)))) (hc : cells.set j (.own gen []) = cells') (h : WO P C n ops Q rest ⟨f, (g, cells') :: bx, gen :: lv, gen + 1⟩) : WO P C n ops Q rest ⟨f, bx, lv, gen⟩ := by
  subst hc
  exact fun tmps w hs => h tmps w (hs.eY hb hj)
theorem jG [eK P] [GC P C] {x : Operand} {xs : Array Operand} {tys : Array TypeId} {fid : FuncId} {caps as' args : List A} {b0 b1 : List (List A)} {r : A} {m k : Nat} {r' : A} {bx' : List (Nat × List A)} {lv' : List Nat} {gen' : Nat} (gs os : List Nat) (hx : av f x = some (.clo fid caps)) (hxs : iJ f xs.toList = some as')
    (harg : (as' ++ caps).map (dJ bx gs os 5) = args) (hb : iy bx gs os gs = some b0) (hm : os.length = m) (hf : cU P fid args b0 m r b1 k)
    (hgs : fV gs = true) (hos : fV os = true) (hov : (os.all fun g => lv.any fun h => Nat.beq h g) = true) (hd : Nat.blt d n = true)
    (hr : back gs gen r = r') (hbx : ij gs gen gs b1 ++ bx = bx') (hlv : (List.range k).map (b0.length + · + gen) ++ lv.filter (fun g => !os.any (Nat.beq g)) = lv') (hgen : b0.length + k + gen = gen')
    (h : WO P C n ops Q rest ⟨(d, r') :: f, bx', lv', gen'⟩) :
    WO P C n ops Q (⟨some d, .call ⟨.value x, xs, tys⟩, ty, pos, af, none⟩ :: rest) ⟨f, bx, lv, gen⟩ := by
  subst hr; subst hbx; subst hlv; subst hgen
  exact WO.jG (st := ⟨f, bx, lv, gen⟩) rfl hd rfl hx hxs gs os hgs hos hov hf harg hb hm h
def qg (order : List Nat) (bx : List (Nat × List A)) : Nat → List (List A) → Prop
  | _, [] => True
  | i, c :: r => (match ax bx i with | some c0 => some (eQ order c0) | none => none) = some c ∧ qg order bx (i + 1) r
theorem qg.get {order : List Nat} {bx : List (Nat × List A)} : ∀ {l : List (List A)} {k : Nat}, qg order bx k l → ∀ (i : Nat) (c : List A), l[i]? = some c → ∃ c0, ax bx (k + i) = some c0 ∧ eQ order c0 = c
  | [], _, _, i, c, h => by simp at h
  | b :: l, k, hh, i, c, h => by
    cases i with
    | zero =>
      simp at h
      subst h
      have := hh.1
      split at this
      · rename_i c0 hc0
        exact ⟨c0, hc0, Option.some.inj this⟩
      · cases this
    | succ i =>
      have := qg.get hh.2 i c (by simpa using h)
      rwa [Nat.add_assoc, Nat.add_comm 1 i] at this
theorem fQ.end (T : cd P) {rs : List RV} {r : A} {b1 : List (List A)} {k : Nat} {e : Exit} {l : List A} (order : List Nat) (he : match e with | .normal => True | .ret => True | _ => False) (hl : jY T f bx rs = some l)
    (hk : order.length = k) (hnd : fV (gx b1.length order) = true) (hov : (order.all fun g => lv.any fun h => Nat.beq h g) = true) (hb : qg (gx b1.length order) bx 0 b1)
    (hr : bG (gx b1.length order) (az l) = r) : fQ T rs r b1 k e ⟨f, bx, lv, gen⟩ :=
  fQ.ret (st := ⟨f, bx, lv, gen⟩) T order he hl hk hnd hov (fun i c hc => by have := hb.get i c hc; simpa using this) hr
end
end Go.Ab
namespace Go.Ab
open Go.RowKit
abbrev Bt := Nat → Option (List A)
def dk (β : Bt) : Option (Nat × List A) → Bt
  | some (g, c) => fun h => if h = g then some c else β h
  | none => β
def iI (o : Oper) : Bool := match o.op with | .alloc _ => true | .box _ _ => true | _ => false
def yG (o : Oper) : Bool := match o.op with | .store _ _ _ => true | _ => false
def j7 (o : Oper) : Option Nat := match o.op with | .store _ (.tmp d) _ => some d | _ => none
def cv : List Oper → Nat → Nat
  | [], _ => 0
  | _ :: _, 0 => 0
  | o :: r, i + 1 => (bif iI o then 1 else 0) + cv r i
theorem qp : ∀ (l : List Oper) {i j : Nat}, i ≤ j → cv l i ≤ cv l j
  | [], i, j, _ => by simp [cv]
  | o :: r, 0, j, _ => by simp [cv]
  | o :: r, i + 1, 0, h => by omega
  | o :: r, i + 1, j + 1, h => by have := qp r (i := i) (j := j) (by omega); simp only [cv]; omega
theorem nJ : ∀ {l : List Oper} {i : Nat} {o : Oper}, l[i]? = some o → iI o = true → cv l (i + 1) = cv l i + 1
  | [], i, o, h, _ => by simp at h
  | x :: r, 0, o, h, hn => by
    simp at h
    subst h
    cases r <;> simp [cv, hn]
  | x :: r, i + 1, o, h, hn => by
    have := nJ (l := r) (i := i) (by simpa using h) hn
    simp only [cv] at this ⊢
    rw [this]
    omega
theorem qM {l : List Oper} {i j : Nat} {o : Oper} (h : l[i]? = some o) (hn : iI o = true) (hij : i < j) : cv l i < cv l j := by
  have h1 := nJ h hn
  have h2 := qp l (i := i + 1) (j := j) (by omega)
  omega
section
variable {P : Program} (T : cd P) {C : Ctx} {n : Nat} {bx : List (Nat × List A)} {lv : List Nat} {gen r : Nat} {ops : Array Oper} {md : Region.Mode} {m : Nat}
abbrev Sg := cS × Bt
structure fe (C : Ctx) (n : Nat) (bx : List (Nat × List A)) (lv : List Nat) (gen r : Nat) (σ : Sg) (G : Gh) (tmps : Array Value) (w : World) : Prop where
  s : aP C n ⟨[], bx, lv, gen + r⟩ G tmps w
  f : ∀ t a, σ.1 t = some a → ∃ v, tmps[t]? = some v ∧ aS (aB C G (gen + r) w) v a
  b : ∀ g cells, σ.2 g = some cells → gen ≤ g ∧ ∃ b cs T, G.box g = some b ∧ w.heap[b]? = some (.cells cs T (0, 0)) ∧ cs.size = cells.length ∧
    (∀ (i : Nat) (u : Value), cs[i]? = some u → u.oneCell' = true) ∧ ∀ (i : Nat) (u : Value) (a : A), cs[i]? = some u → cells[i]? = some a → aS (aB C G (gen + r) w) u a
  n : ∀ g, gen ≤ g → σ.2 g = none → G.box g = none
  o : ∀ g, gen ≤ g → ∀ c, ax bx g ≠ some c
theorem fe.jQ {σ : Sg} {G : Gh} {tmps : Array Value} {w : World} (h : fe C n bx lv gen r σ G tmps w) {f : List (Nat × A)} {bn : List (Nat × List A)} (hf : ∀ t a, look f t = some a → σ.1 t = some a) (hb : ∀ g c, ax bn g = some c → σ.2 g = some c) :
    aP C n ⟨f, bn ++ bx, lv, gen + r⟩ G tmps w :=
  { h.s with frame := fun t a ha => h.f t a (hf t a ha), box := fun g c hc => (ir hc).elim (fun h1 => (h.b g c (hb g c h1)).2) (h.s.box g c) }
theorem fe.vq {f : List (Nat × A)} {G : Gh} {tmps : Array Value} {w : World} (h : aP C n ⟨f, bx, lv, gen⟩ G tmps w) : fe C n bx lv gen r (look f, fun _ => none) G tmps w := by
  have h2 : aP C n ⟨f, bx, lv, gen + r⟩ G tmps w := aP.wk (st := ⟨f, bx, lv, gen⟩) h (Nat.le_add_right _ _)
  refine ⟨{ h2 with frame := fun t a ha => by simp [look] at ha }, h2.frame, (fun g c hc => nomatch hc), fun g hg _ => ?_, fun g hg c hc => ?_⟩
  rotate_left
  · obtain ⟨b, _, _, h1, _⟩ := h.box g c hc
    have := (h.gbox g b h1).1
    simp only at this
    omega
  cases hb : G.box g with
  | none => rfl
  | some b => have := (h.gbox g b hb).1; simp only at this; omega
theorem fe.step {σ : Sg} {G : Gh} {tmps : Array Value} {w w' : World} (h : fe C n bx lv gen r σ G tmps w) (hb : Below w.heap.size w w') {dst : Option Nat} (hd : dD n dst = true) {v : Value} {a : A} (hr : aS (aB C G (gen + r) w') v a) :
    fe C n bx lv gen r (bz σ.1 dst a, σ.2) G (Act.put ⟨tmps, []⟩ dst v).tmps w' := by
  obtain ⟨hle, hs⟩ := h.s.iq hb
  have hbx : ∀ g cells, σ.2 g = some cells → gen ≤ g ∧ ∃ b cs T, G.box g = some b ∧ w'.heap[b]? = some (.cells cs T (0, 0)) ∧ cs.size = cells.length ∧
    (∀ (i : Nat) (u : Value), cs[i]? = some u → u.oneCell' = true) ∧ ∀ (i : Nat) (u : Value) (a : A), cs[i]? = some u → cells[i]? = some a → aS (aB C G (gen + r) w') u a := by
    intro g cells hg
    obtain ⟨h0, b, cs, T, h1, h2, h3, h4, h5⟩ := h.b g cells hg
    exact ⟨h0, b, cs, T, h1, by rw [hb.block b (h.s.gbox g b h1).2.1]; exact h2, h3, h4, fun i u a hu ha => (h5 i u a hu ha).mono hle⟩
  cases dst with
  | none => exact ⟨hs, fun t a ha => let ⟨v, h1, h2⟩ := h.f t a ha; ⟨v, h1, h2.mono hle⟩, hbx, h.n, h.o⟩
  | some d =>
    refine ⟨{ hs with size := by have := hs.size; simpa [Act.put] using this, frame := fun t a ha => by simp [look] at ha }, fun t b hb' => ?_, hbx, h.n, h.o⟩
    simp only [bz] at hb'
    split at hb'
    · rename_i e
      subst e
      simp only [Option.some.injEq] at hb'
      subst hb'
      exact ⟨v, by simp [Act.put, Array.getElem?_setIfInBounds, hs.size, cB hd], hr⟩
    · rename_i e
      obtain ⟨u, h1, h2⟩ := h.f t b hb'
      exact ⟨u, by simp only [Act.put]; rw [Array.getElem?_setIfInBounds_ne (Ne.symm e)]; exact h1, h2.mono hle⟩
theorem fe.pc {σ : Sg} {G : Gh} {tmps : Array Value} {w : World} (h : fe C n bx lv gen r σ G tmps w) {g : Nat} (hg : gen ≤ g) (hgr : g < gen + r) (hn : σ.2 g = none) (cs : Array Value) (T : TypeId) (cells : List A) (hrc : b7 (aB C G (gen + r) w) cs cells)
    {d : Nat} (hd : d < n) : ∃ G', fe C n bx lv gen r (bz σ.1 (some d) (.ptr g 0), dk σ.2 (some (g, cells))) G' (tmps.setIfInBounds d (.pointer (some ⟨w.heap.size, 0, none⟩))) (w.alloc (.cells cs T)) := by
  obtain ⟨hs, h1, hc'⟩ := hrc
  have hgn := h.n g hg hn
  have hb : Below w.heap.size w (w.alloc (.cells cs T)) := (Below.refl _ w).alloc (Nat.le_refl _) _
  let G' : Gh := ⟨fun g' => if g' = g then some w.heap.size else G.box g', G.own⟩
  have hsz : w.heap.size < (w.alloc (.cells cs T)).heap.size := by simp
  have hGe : ∀ {g' b}, G.box g' = some b → G'.box g' = some b := by
    intro g' b hb'
    simp only [G']
    rw [if_neg (by rintro rfl; rw [hgn] at hb'; cases hb')]
    exact hb'
  have hle : (aB C G (gen + r) w).le (aB C G' (gen + r) (w.alloc (.cells cs T))) := by
    refine ⟨fun b o u hu hn' => ?_, fun b o u hu ho => ?_, fun g' b hb' => hGe hb', fun _ _ _ h => h, Nat.le_refl _, fun g b len cap sz pub _ hr => hb.block b (by obtain ⟨_, _, _, cur, T, h3, _⟩ := h.s.row g b len cap sz pub hr; exact (Array.getElem?_eq_some_iff.1 h3).1), fun g' b _ hr => ?_, .below hb⟩
    · have hlt := dI hu
      refine ⟨by show cellAt (w.alloc _) b o = _; rw [b8 (hb.block b hlt)]; exact hu, fun hp => hn' ?_⟩
      rcases hp with hp | ⟨g', hp⟩ | hp
      · exact .inl hp
      · simp only [G'] at hp
        split at hp
        · simp only [Option.some.injEq] at hp
          have : b < w.heap.size := hlt
          omega
        · exact .inr (.inl ⟨g', hp⟩)
      · exact .inr (.inr hp)
    · have hlt := dI hu
      exact ⟨by show cellAt (w.alloc _) b o = _; rw [b8 (hb.block b hlt)]; exact hu, ho⟩
    · obtain ⟨_, _, _, me, clock, h3⟩ := h.s.mrow g' b hr
      exact hb.block b (Array.getElem?_eq_some_iff.1 h3).1
  have hrow0 : ∀ g' b len cap sz pub, G.own g' = some (.blk b len cap sz pub) → b < w.heap.size := fun g' b len cap sz pub hr => by
    obtain ⟨_, _, _, cur, T', h4, _⟩ := h.s.row g' b len cap sz pub hr
    exact (Array.getElem?_eq_some_iff.1 h4).1
  refine ⟨G', { s := { size := (by have := h.s.size; simpa using this), frame := (fun t a ha => by simp [look] at ha), xold := h.s.xold, kold := h.s.kold, lent := (fun i b hb => hGe (h.s.lent i b hb)), fr := h.s.fr.below hb, live := h.s.live, gown := h.s.gown, box := fun g' c hc => ?_, gbox := fun g' b hb' => ?_, inj := fun g1 g2 b hb1 hb2 => ?_, row := fun g' b len cap sz pub hr => ?_, mrow := fun g' b hr => ?_ }, f := fun t a ha => ?_, b := fun g' c hc => ?_, n := fun g' hg' hn' => ?_, o := h.o }⟩
  · obtain ⟨b, cs', T', h1', h2, h3, h4, h5⟩ := h.s.box g' c hc
    exact ⟨b, cs', T', hGe h1', by rw [hb.block b (h.s.gbox g' b h1').2.1]; exact h2, h3, h4, fun i u a hu ha => (h5 i u a hu ha).mono hle⟩
  · simp only [G'] at hb'
    split at hb'
    · rename_i e
      subst e
      simp only [Option.some.injEq] at hb'
      subst hb'
      exact ⟨hgr, hsz, .inl h.s.fr.size, fun o ho => absurd (h.s.kold _ o ho) (by have := h.s.fr.size; omega)⟩
    · obtain ⟨h6, h7, h8⟩ := h.s.gbox g' b hb'
      exact ⟨h6, by simp; omega, h8⟩
  · simp only [G'] at hb1 hb2
    split at hb1 <;> split at hb2
    · simp_all
    · simp only [Option.some.injEq] at hb1; have := (h.s.gbox g2 b hb2).2.1; omega
    · simp only [Option.some.injEq] at hb2; have := (h.s.gbox g1 b hb1).2.1; omega
    · exact h.s.inj g1 g2 b hb1 hb2
  · obtain ⟨h1', h2, h3, cur, T', h4, h5⟩ := h.s.row g' b len cap sz pub hr
    refine ⟨h1', fun g2 hg2 => ?_, h3, cur, T', by rw [hb.block b (hrow0 g' b len cap sz pub hr)]; exact h4, h5⟩
    simp only [G'] at hg2
    split at hg2
    · simp only [Option.some.injEq] at hg2; have := hrow0 g' b len cap sz pub hr; omega
    · exact h2 g2 hg2
  · obtain ⟨h1', h2, h3, me, clock, h4⟩ := h.s.mrow g' b hr
    have hlt := (Array.getElem?_eq_some_iff.1 h4).1
    refine ⟨h1', fun g2 hg2 => ?_, h3, me, clock, by rw [hb.block b hlt]; exact h4⟩
    simp only [G'] at hg2
    split at hg2
    · simp only [Option.some.injEq] at hg2; omega
    · exact h2 g2 hg2
  · simp only [bz] at ha
    split at ha
    · rename_i e
      subst e
      simp only [Option.some.injEq] at ha
      subst ha
      exact ⟨_, by have := h.s.size; simp [Array.getElem?_setIfInBounds, this, hd], .ptr _ g 0 w.heap.size (by simp [aB]; omega) (by simp [aB, G']) rfl⟩
    · rename_i e
      obtain ⟨u, h6, h7⟩ := h.f t a ha
      exact ⟨u, by rw [Array.getElem?_setIfInBounds_ne (Ne.symm e)]; exact h6, h7.mono hle⟩
  · simp only [dk] at hc
    split at hc
    · rename_i e
      subst e
      simp only [Option.some.injEq] at hc
      subst hc
      exact ⟨hg, w.heap.size, cs, T, by simp [G'], heap_alloc_new w _, hs, h1, fun i u a hu ha => (hc' i u a hu ha).mono hle⟩
    · obtain ⟨h0, b, cs', T', h1', h2, h3, h4, h5⟩ := h.b g' c hc
      exact ⟨h0, b, cs', T', hGe h1', by rw [hb.block b (h.s.gbox g' b h1').2.1]; exact h2, h3, h4, fun i u a hu ha => (h5 i u a hu ha).mono hle⟩
  · simp only [dk] at hn'
    split at hn'
    · cases hn'
    · rename_i e
      simp only [G']
      rw [if_neg e]
      exact h.n g' hg' hn'
theorem fe.store {σ : Sg} {G : Gh} {tmps : Array Value} {w : World} (h : fe C n bx lv gen r σ G tmps w) {g b : Nat} {cs cs' : Array Value} {T : TypeId} {cells cells' : List A} (hb : σ.2 g = some cells) (hg : G.box g = some b) (hw : w.heap[b]? = some (.cells cs T (0, 0)))
    (hr : b7 (aB C G (gen + r) w) cs' cells') : fe C n bx lv gen r (σ.1, dk σ.2 (some (g, cells'))) G tmps (w.setRow b cs') := by
  have hgg := (h.b g cells hb).1
  have hb' : w.heap[b]? ≠ none := by rw [hw]; simp
  have hm := (h.s.gbox g b hg).2.2
  have hfr : Fr C (w.setRow b cs') := ⟨h.s.fr.os, h.s.fr.tape, h.s.fr.output, by rw [size_setRow]; exact h.s.fr.size, fun b' h1 h2 => by
    rw [setRow_other w b b' cs' (fun e => by subst e; exact hm.1.elim (fun hm => by omega) h2)]; exact h.s.fr.block b' h1 h2, fun b' o u hk hu => by
    rw [b8 (setRow_other w b b' cs' (fun e => by subst e; exact absurd (hm.2 o hk) (Nat.not_lt_zero _)))]; exact h.s.fr.cells b' o u hk hu, h.s.fr.ty.trans (.setRow w b cs')⟩
  have hle : (aB C G (gen + r) w).le (aB C G (gen + r) (w.setRow b cs')) := by
    refine lJ (st := ⟨[], bx, lv, gen + r⟩) h.s.fr hfr (fun b' o u hu hn => ⟨?_, hn⟩) (fun _ _ h => h) (fun _ _ _ h => h) (Nat.le_refl _) (fun g' b' len cap sz pub _ hr => ?_) (fun g' b' _ hr => ?_) (.setRow w b cs')
    · have : b' ≠ b := fun e => hn (.inr (.inl ⟨g, by rw [e]; exact hg⟩))
      rw [b8 (setRow_other w b b' cs' this)]
      exact hu
    · have : b' ≠ b := fun e => (h.s.row g' b' len cap sz pub hr).2.1 g (by rw [e]; exact hg)
      exact setRow_other w b b' cs' this
    · exact setRow_other w b b' cs' (fun e => (h.s.mrow g' b' hr).2.1 g (by rw [e]; exact hg))
  refine { s := { size := h.s.size, frame := fun t a ha => by simp [look] at ha, inj := h.s.inj, xold := h.s.xold, kold := h.s.kold, lent := h.s.lent, fr := hfr, live := h.s.live, gown := h.s.gown, box := fun g' c hc => ?_, gbox := fun g' b' hgb => ?_, row := fun g' b' len cap sz pub hgb => ?_, mrow := fun g' b' hr => ?_ }, f := fun t a ha => let ⟨v, h1, h2⟩ := h.f t a ha; ⟨v, h1, h2.mono hle⟩, b := fun g' c hc => ?_, n := fun g' hg' hn' => ?_, o := h.o }
  · obtain ⟨b', cs2, T', h1, h2, h3, h4, h5⟩ := h.s.box g' c hc
    by_cases e : b' = b
    · subst e
      have e2 := h.s.inj g' g b' h1 hg
      subst e2
      exact absurd hc (h.o g' hgg c)
    · exact ⟨b', cs2, T', h1, by rw [setRow_other w b b' cs' e]; exact h2, h3, h4, fun i u a hu ha => (h5 i u a hu ha).mono hle⟩
  · obtain ⟨h1, h2, h3⟩ := h.s.gbox g' b' hgb
    exact ⟨h1, by rw [size_setRow]; exact h2, h3⟩
  · obtain ⟨h1, h2, h3, cur, T', h4, h5⟩ := h.s.row g' b' len cap sz pub hgb
    have hne : b' ≠ b := fun e => h2 g (by rw [e]; exact hg)
    exact ⟨h1, h2, h3, cur, T', by rw [setRow_other w b b' cs' hne]; exact h4, h5⟩
  · obtain ⟨h1, h2, h3, me, clock, h4⟩ := h.s.mrow g' b' hr
    have hne : b' ≠ b := fun e => h2 g (by rw [e]; exact hg)
    exact ⟨h1, h2, h3, me, clock, by rw [setRow_other w b b' cs' hne]; exact h4⟩
  · simp only [dk] at hc
    split at hc
    · rename_i e
      subst e
      simp only [Option.some.injEq] at hc
      subst hc
      exact ⟨hgg, b, cs', T, hg, setRow_heap w b cs cs' T (0, 0) hw, hr.1, hr.2.1, fun i u a hu ha => (hr.2.2 i u a hu ha).mono hle⟩
    · rename_i e
      obtain ⟨h0, b', cs2, T', h1, h2, h3, h4, h5⟩ := h.b g' c hc
      have hne : b' ≠ b := fun e' => e (h.s.inj g' g b (e' ▸ h1) hg)
      exact ⟨h0, b', cs2, T', h1, by rw [setRow_other w b b' cs' hne]; exact h2, h3, h4, fun i u a hu ha => (h5 i u a hu ha).mono hle⟩
  · simp only [dk] at hn'
    split at hn'
    · cases hn'
    · exact h.n g' hg' hn'
def YE (P : Program) (T : cd P) (C : Ctx) (n : Nat) (bx : List (Nat × List A)) (lv : List Nat) (gen r : Nat) (ops : Array Oper) (i : Nat) (o : Oper) (a : A) (u : Option (Nat × List A)) (σ : Sg) : Prop :=
  dD n o.dst = true ∧
    ((iI o = false ∧ u = none ∧ YA P C n bx lv (gen + r) ops o a σ.1) ∨
     (iI o = true ∧ o.guard = none ∧ σ.2 (gen + cv ops.toList i) = none ∧ cv ops.toList i < r ∧ a = .ptr (gen + cv ops.toList i) 0 ∧ ∃ d cells, o.dst = some d ∧ u = some (gen + cv ops.toList i, cells) ∧
        ((∃ e dt, o.op = .alloc e ∧ ax T.l e = some dt ∧ cells = dt.z.map fun v => A.d (.v v)) ∨
         (∃ e x f y, o.op = .box e x ∧ (∀ t z, look f t = some z → σ.1 t = some z ∧ t ∈ o.looksAt ops) ∧ av f x = some y ∧ cellsOf bx y = some cells))) ∨
     (yG o = true ∧ o.guard = none ∧ o.dst = none ∧ a = .any ∧ ∃ t dx y k ok f z cells cs, o.op = .store t (.tmp dx) y ∧ ops[k]? = some ok ∧ iI ok = true ∧ ok.dst = some dx ∧ (∀ t z, look f t = some z → σ.1 t = some z ∧ t ∈ o.looksAt ops) ∧
        σ.1 dx = some (.ptr (gen + cv ops.toList k) 0) ∧ av f y = some z ∧ cellsOf bx z = some cs ∧ cn T t = cs.length ∧ cs.length ≠ 0 ∧ cs.length ≤ cells.length ∧ σ.2 (gen + cv ops.toList k) = some cells ∧
        u = some (gen + cv ops.toList k, setAt cells 0 cs)))
def mb (ops : Array Oper) (x y : Oper) : Prop := x.apart ops y = true ∧ ∀ d, j7 x = some d → j7 y ≠ some d
theorem mP {dx : Nat} {t : TypeId} {y : Operand} {o : Oper} (h : o.op = .store t (.tmp dx) y) : dx ∈ o.looksAt ops := by
  unfold Oper.looksAt
  rw [h]
  exact List.mem_append.2 (.inl (by simp [Op.operands]))
section
variable {T}
theorem YE.name {i : Nat} {o : Oper} {a : A} {g : Nat} {c : List A} {σ : Sg} (hi : ops[i]? = some o) (h : YE P T C n bx lv gen r ops i o a (some (g, c)) σ) :
    ∃ k ok dx, ops[k]? = some ok ∧ iI ok = true ∧ ok.dst = some dx ∧ g = gen + cv ops.toList k ∧ ((k = i) ∨ (j7 o = some dx ∧ dx ∈ o.looksAt ops)) := by
  rcases h with ⟨_, ⟨_, h, _⟩ | ⟨h1, _, _, _, _, d, cells, h2, h3, _⟩ | ⟨h1, _, _, _, t, dx, y, k, ok, f, z, cells, cs, h2, h3, h4, h5, _, _, _, _, _, _, _, _, h6⟩⟩
  · cases h
  · simp only [Option.some.injEq, Prod.mk.injEq] at h3
    exact ⟨i, o, d, hi, h1, h2, h3.1, .inl rfl⟩
  · simp only [Option.some.injEq, Prod.mk.injEq] at h6
    exact ⟨k, ok, dx, h3, h4, h5, h6.1, .inr ⟨by unfold j7; rw [h2], mP h2⟩⟩
theorem wX {k k' : Nat} {o o' : Oper} (hk : ops[k]? = some o) (hk' : ops[k']? = some o') (hn : iI o = true) (hn' : iI o' = true) (h : cv ops.toList k = cv ops.toList k') : k = k' := by
  rcases Nat.lt_trichotomy k k' with hlt | he | hgt
  · have := qM (l := ops.toList) (by simpa using hk) hn hlt; omega
  · exact he
  · have := qM (l := ops.toList) (by simpa using hk') hn' hgt; omega
theorem oq {i j : Nat} {oi oj : Oper} {a b : A} {g g' : Nat} {c c' : List A} {σ σ' : Sg} (hi : ops[i]? = some oi) (hj : ops[j]? = some oj) (hij : i ≠ j) (hap : mb ops oi oj) (h : YE P T C n bx lv gen r ops i oi a (some (g, c)) σ)
    (h' : YE P T C n bx lv gen r ops j oj b (some (g', c')) σ') : g ≠ g' := by
  rintro rfl
  obtain ⟨k, ok, dx, h1, h2, h3, h4, h5⟩ := YE.name hi h
  obtain ⟨k', ok', dx', h1', h2', h3', h4', h5'⟩ := YE.name hj h'
  have e : k = k' := wX h1 h1' h2 h2' (by omega)
  subst e
  rw [h1] at h1'
  simp only [Option.some.injEq] at h1'
  subst h1'
  rw [h3] at h3'
  simp only [Option.some.injEq] at h3'
  subst h3'
  obtain ⟨ha, hs⟩ := hap
  obtain ⟨a1, a2, a3⟩ := Oper.apart_spec ha
  rcases h5 with e | ⟨e, hm⟩ <;> rcases h5' with e' | ⟨e', hm'⟩
  · exact hij (e.symm.trans e')
  · subst e
    rw [hi] at h1
    simp only [Option.some.injEq] at h1
    subst h1
    exact a1 dx h3 hm'
  · subst e'
    rw [hj] at h1
    simp only [Option.some.injEq] at h1
    subst h1
    exact a3 dx h3 hm
  · exact hs dx e e'
theorem eG {φ : cS} {o : Oper} {dst : Option Nat} {x : A} (hd : ∀ d, dst = some d → d ∉ o.looksAt ops) {t : Nat} (ht : t ∈ o.looksAt ops) : bz φ dst x t = φ t := by
  cases dst with
  | none => rfl
  | some e =>
    have : t ≠ e := fun h => by subst h; exact hd t rfl ht
    simp [bz, this]
theorem ya {i j : Nat} {oi oj : Oper} {a b : A} {u v : Option (Nat × List A)} {σ σ' : Sg} (hi : ops[i]? = some oi) (hj : ops[j]? = some oj) (hij : i ≠ j) (hap : mb ops oi oj) (h : YE P T C n bx lv gen r ops i oi a u σ) (hj' : YE P T C n bx lv gen r ops j oj b v σ') :
    YE P T C n bx lv gen r ops i oi a u (bz σ.1 oj.dst b, dk σ.2 v) := by
  obtain ⟨a1, a2, a3⟩ := Oper.apart_spec hap.1
  have hv : ∀ {g c}, u = some (g, c) → dk σ.2 v g = σ.2 g := by
    intro g c hu
    cases v with
    | none => rfl
    | some x =>
      obtain ⟨g', c'⟩ := x
      subst hu
      have := oq hi hj hij hap h hj'
      simp [dk, this]
  obtain ⟨h0, h | h | h⟩ := id h
  · exact ⟨h0, .inl ⟨h.1, h.2.1, (dy a3).2 h.2.2⟩⟩
  · obtain ⟨h1, h2, h3, h4, h5, d, cells, h6, h7, h8⟩ := h
    refine ⟨h0, .inr (.inl ⟨h1, h2, (hv h7).trans h3, h4, h5, d, cells, h6, h7, h8.imp id ?_⟩)⟩
    rintro ⟨e, x, f, y, g1, g2, g3⟩
    exact ⟨e, x, f, y, g1, fun t z hz => ⟨(eG a3 (g2 t z hz).2).trans (g2 t z hz).1, (g2 t z hz).2⟩, g3⟩
  · obtain ⟨h1, h2, h3, h4, t, dx, y, k, ok, f, z, cells, cs, g1, g2, g3, g4, g5, g6, g7, g8, g9, g10, g11, g12, g13⟩ := h
    exact ⟨h0, .inr (.inr ⟨h1, h2, h3, h4, t, dx, y, k, ok, f, z, cells, cs, g1, g2, g3, g4, fun t z hz => ⟨(eG a3 (g5 t z hz).2).trans (g5 t z hz).1, (g5 t z hz).2⟩,
      (eG a3 (mP g1)).trans g6, g7, g8, g9, g10, g11, (hv g13).trans g12, g13⟩)⟩
theorem xN {i j : Nat} {oi oj : Oper} {a b : A} {u v : Option (Nat × List A)} {σ σ' : Sg} (hi : ops[i]? = some oi) (hj : ops[j]? = some oj) (hij : i ≠ j) (hap : mb ops oi oj) (hi' : YE P T C n bx lv gen r ops i oi a u σ')
    (h : YE P T C n bx lv gen r ops j oj b v (bz σ.1 oi.dst a, dk σ.2 u)) : YE P T C n bx lv gen r ops j oj b v σ := by
  obtain ⟨a1, a2, a3⟩ := Oper.apart_spec hap.1
  have hv : ∀ {g c}, v = some (g, c) → dk σ.2 u g = σ.2 g := by
    intro g c hu
    cases u with
    | none => rfl
    | some x =>
      obtain ⟨g', c'⟩ := x
      subst hu
      have := oq hi hj hij hap hi' h
      simp [dk, Ne.symm this]
  obtain ⟨h0, h | h | h⟩ := id h
  · exact ⟨h0, .inl ⟨h.1, h.2.1, (dy a1).1 h.2.2⟩⟩
  · obtain ⟨h1, h2, h3, h4, h5, d, cells, h6, h7, h8⟩ := h
    refine ⟨h0, .inr (.inl ⟨h1, h2, (hv h7).symm.trans h3, h4, h5, d, cells, h6, h7, h8.imp id ?_⟩)⟩
    rintro ⟨e, x, f, y, g1, g2, g3⟩
    exact ⟨e, x, f, y, g1, fun t z hz => ⟨(eG a1 (g2 t z hz).2).symm.trans (g2 t z hz).1, (g2 t z hz).2⟩, g3⟩
  · obtain ⟨h1, h2, h3, h4, t, dx, y, k, ok, f, z, cells, cs, g1, g2, g3, g4, g5, g6, g7, g8, g9, g10, g11, g12, g13⟩ := h
    exact ⟨h0, .inr (.inr ⟨h1, h2, h3, h4, t, dx, y, k, ok, f, z, cells, cs, g1, g2, g3, g4, fun t z hz => ⟨(eG a1 (g5 t z hz).2).symm.trans (g5 t z hz).1, (g5 t z hz).2⟩,
      (eG a1 (mP g1)).symm.trans g6, g7, g8, g9, g10, g11, (hv g13).symm.trans g12, g13⟩)⟩
theorem u5 {β : Bt} {u v : Option (Nat × List A)} (h : ∀ g c g' c', u = some (g, c) → v = some (g', c') → g ≠ g') : dk (dk β u) v = dk (dk β v) u := by
  cases u with
  | none => rfl
  | some x =>
    cases v with
    | none => rfl
    | some y =>
      obtain ⟨g, c⟩ := x
      obtain ⟨g', c'⟩ := y
      have := h g c g' c' rfl rfl
      funext t
      simp only [dk]
      split <;> split <;> simp_all
end
def qE (P : Program) (T : cd P) (C : Ctx) (n : Nat) (bx : List (Nat × List A)) (lv : List Nat) (gen r : Nat) (ops : Array Oper) (i : Nat) (K : Sg → Prop) (σ : Sg) : Prop :=
  match ops[i]? with
  | none => K σ
  | some o => ∃ a u, YE P T C n bx lv gen r ops i o a u σ ∧ K (bz σ.1 o.dst a, dk σ.2 u)
theorem w8 {i : Nat} {σ : Sg} {K K' : Sg → Prop} (h : ∀ σ, K σ → K' σ) (hh : qE P T C n bx lv gen r ops i K σ) : qE P T C n bx lv gen r ops i K' σ := by
  unfold qE at *
  split
  · exact h _ (by simpa [*] using hh)
  · rename_i o ho
    simp only [ho] at hh
    obtain ⟨a, u, h1, h2⟩ := hh
    exact ⟨a, u, h1, h _ h2⟩
theorem xR {i j : Nat} {oi oj : Oper} {a : A} {u : Option (Nat × List A)} (hi : ops[i]? = some oi) (hj : ops[j]? = some oj) (hij : i ≠ j) (hap : mb ops oi oj) {K : Sg → Prop} {σ : Sg} (hy : YE P T C n bx lv gen r ops i oi a u σ)
    (h : qE P T C n bx lv gen r ops j K (bz σ.1 oi.dst a, dk σ.2 u)) : qE P T C n bx lv gen r ops j (fun σ' => YE P T C n bx lv gen r ops i oi a u σ' ∧ K (bz σ'.1 oi.dst a, dk σ'.2 u)) σ := by
  obtain ⟨a1, a2, a3⟩ := Oper.apart_spec hap.1
  unfold qE at *
  simp only [hj] at h ⊢
  obtain ⟨b, v, hb, hk⟩ := h
  have hb' := xN hi hj hij hap hy hb
  refine ⟨b, v, hb', ya hi hj hij hap hy hb', ?_⟩
  have e1 := kr σ.1 a b a2
  have e2 : dk (dk σ.2 u) v = dk (dk σ.2 v) u := u5 (fun g c g' c' hu hv => by subst hu; subst hv; exact oq hi hj hij hap hy hb')
  rw [← e1, ← e2]
  exact hk
def Split (m : Nat) (ops : Array Oper) (listed : Array Bool) : Prop := listed.size = ops.size ∧ (∀ j, j < m → listed.getD j false = true) ∧ ∀ j, m ≤ j → j < ops.size → listed.getD j true = false
def uP (P : Program) (T : cd P) (C : Ctx) (n : Nat) (bx : List (Nat × List A)) (lv : List Nat) (gen r m : Nat) (md : Region.Mode) (ops : Array Oper) (Q : Sg → Prop) : Nat → Array Bool → Sg → Prop
  | 0, listed, σ => Split m ops listed ∧ Q σ
  | fuel + 1, listed, σ => Region.ready md ops listed ≠ [] ∧ ∀ i ∈ Region.ready md ops listed, qE P T C n bx lv gen r ops i (uP P T C n bx lv gen r m md ops Q fuel (listed.setIfInBounds i true)) σ
def bK (md : Region.Mode) (ops : Array Oper) (j i : Nat) : Bool :=
  match ops[j]? with
  | some o => o.after.toList.any fun e => Nat.beq e.on i && Region.binds md e
  | none => false
theorem jV {j i : Nat} {oj : Oper} (hj : ops[j]? = some oj) (h : bK md ops j i = true) : ∃ e ∈ oj.after, Region.binds md e = true ∧ e.on = i := by
  unfold bK at h
  rw [hj] at h
  obtain ⟨e, he, hb⟩ := List.any_eq_true.1 h
  simp only [Bool.and_eq_true] at hb
  exact ⟨e, by simpa using he, hb.2, Nat.eq_of_beq_eq_true hb.1⟩
theorem dA {listed : Array Bool} {i : Nat} (h : listed.getD i true = false) : listed.getD i false = false := by
  rcases Nat.lt_or_ge i listed.size with h' | h'
  · simp [h'] at h ⊢; exact h
  · simp [Array.getElem?_eq_none h'] at h
def pA (md : Region.Mode) (ops : Array Oper) (m : Nat) : Bool := (List.range ops.size).all fun j => decide (j < m) || (List.range j).all fun i => bK md ops j i
def uy : List Nat → Bool
  | [] => true
  | a :: r => !(r.any (Nat.beq a)) && uy r
def gT (l : List Oper) : Bool := uy (l.filterMap j7)
theorem waits {j : Nat} (h : pA md ops m = true) (hm : m ≤ j) {i : Nat} (hij : i < j) {listed : Array Bool} (hj : j ∈ Region.ready md ops listed) : listed.getD i false = true := by
  obtain ⟨_, oj, hoj, hall⟩ := mem_ready.1 hj
  have hlt : j < ops.size := (Array.getElem?_eq_some_iff.1 hoj).1
  have h1 := List.all_eq_true.1 h j (by simpa using hlt)
  simp only [Bool.or_eq_true, decide_eq_true_eq] at h1
  have h2 := List.all_eq_true.1 (h1.resolve_left (by omega)) i (by simpa using hij)
  obtain ⟨e, he, hb, heq⟩ := jV hoj h2
  rw [← heq]
  exact hall e he hb
theorem pQ : ∀ {l : List Oper} (_ : gT l = true) {i j : Nat} {oi oj : Oper} (_ : l[i]? = some oi) (_ : l[j]? = some oj) (_ : i < j) {d : Nat} (_ : j7 oi = some d), j7 oj ≠ some d
  | [], _, i, j, oi, oj, h, _, _, _, _ => by simp at h
  | z :: l, h, 0, j + 1, oi, oj, hi, hj, _, d, hd => by
    simp at hi
    subst hi
    intro he
    simp only [gT, List.filterMap_cons, hd, uy, Bool.and_eq_true, Bool.not_eq_true'] at h
    have h1 : (l.filterMap j7).any (Nat.beq d) = true := List.any_eq_true.2 ⟨d, List.mem_filterMap.2 ⟨oj, List.mem_of_getElem? (by simpa using hj), he⟩, Nat.beq_refl d⟩
    rw [h1] at h
    cases h.1
  | z :: l, h, i + 1, j + 1, oi, oj, hi, hj, hij, d, hd => by
    refine pQ (l := l) ?_ (i := i) (j := j) (by simpa using hi) (by simpa using hj) (by omega) hd
    simp only [gT, List.filterMap_cons] at h ⊢
    cases hz : j7 z with
    | none => simpa only [hz] using h
    | some e =>
      simp only [hz, uy, Bool.and_eq_true] at h
      exact h.2
  | z :: l, _, i, 0, oi, oj, _, _, hij, _, _ => by omega
theorem vH {l : List Oper} (h : gT l = true) {i j : Nat} {oi oj : Oper} (hi : l[i]? = some oi) (hj : l[j]? = some oj) (hij : i ≠ j) (d : Nat) (hd : j7 oi = some d) : j7 oj ≠ some d := by
  rcases Nat.lt_or_ge i j with hlt | hge
  · exact pQ h hi hj hlt hd
  · exact fun he => pQ h hj hi (by omega) he hd
theorem uY {Q : Sg → Prop} {i : Nat} {oi : Oper} {a : A} {u : Option (Nat × List A)} (hone : gT (ops.toList.take m) = true) (hw : pA md ops m = true) (him : i < m) (hi : ops[i]? = some oi) :
    ∀ (fuel : Nat) (listed : Array Bool) (σ : Sg),
      (∀ j oj, ops[j]? = some oj → j ≠ i → listed.getD j true = false → (∀ e ∈ oj.after, Region.binds md e = true → e.on ≠ i) → oi.apart ops oj = true) →
      i ∈ Region.ready md ops listed → YE P T C n bx lv gen r ops i oi a u σ →
      uP P T C n bx lv gen r m md ops Q fuel (listed.setIfInBounds i true) (bz σ.1 oi.dst a, dk σ.2 u) → uP P T C n bx lv gen r m md ops Q (fuel + 1) listed σ := by
  have take : ∀ {K : Sg → Prop} {σ : Sg}, YE P T C n bx lv gen r ops i oi a u σ → K (bz σ.1 oi.dst a, dk σ.2 u) → qE P T C n bx lv gen r ops i K σ := by
    intro K σ hy hk
    unfold qE
    simp only [hi]
    exact ⟨a, u, hy, hk⟩
  have unl : ∀ {listed : Array Bool}, i ∈ Region.ready md ops listed → listed.getD i false = false := by
    intro listed hr
    exact dA (mem_ready.1 hr).1
  intro fuel
  induction fuel with
  | zero =>
    intro listed σ _ hr hy H
    refine ⟨fun h => (by rw [h] at hr; cases hr), fun j hj => ?_⟩
    by_cases hji : j = i
    · subst hji; exact take hy H
    · exfalso
      obtain ⟨⟨_, h1, h2⟩, _⟩ := H
      have hj1 := (mem_ready.1 hj).1
      by_cases hjm : j < m
      · have := h1 j hjm
        rw [getD_set_ne false (Ne.symm hji)] at this
        rw [dA hj1] at this
        cases this
      · have := waits hw (by omega) (show i < j by omega) hj
        rw [unl hr] at this
        cases this
  | succ fuel ih =>
    intro listed σ hfree hr hy H
    refine ⟨fun h => (by rw [h] at hr; cases hr), fun j hj => ?_⟩
    by_cases hji : j = i
    · subst hji; exact take hy H
    · have h1 := H.2 j (ready_mono hj hji)
      obtain ⟨hjun, oj, hoj, hall⟩ := mem_ready.1 hj
      have hnot : ∀ e ∈ oj.after, Region.binds md e = true → e.on ≠ i := fun e he hb heq => by
        have h1 := hall e he hb
        rw [heq, unl hr] at h1
        cases h1
      have hjm : j < m := by
        rcases Nat.lt_or_ge j m with h | h
        · exact h
        · have := waits hw h (show i < j by omega) hj
          rw [unl hr] at this
          cases this
      have hap : mb ops oi oj := by
        refine ⟨hfree j oj hoj hji hjun hnot, vH (i := i) (j := j) hone ?_ ?_ (Ne.symm hji)⟩
        · rw [List.getElem?_take, if_pos him]; simpa using hi
        · rw [List.getElem?_take, if_pos hjm]; simpa using hoj
      have h2 := xR T hi hoj (Ne.symm hji) hap hy h1
      have hfree' : ∀ k ok, ops[k]? = some ok → k ≠ i → (listed.setIfInBounds j true).getD k true = false →
          (∀ e ∈ ok.after, Region.binds md e = true → e.on ≠ i) → oi.apart ops ok = true := fun k ok hk hki hun hno => by
        refine hfree k ok hk hki ?_ hno
        by_cases hjk : j = k
        · subst hjk; exact hjun
        · rw [getD_set_ne true hjk] at hun; exact hun
      refine w8 T (fun σ' h3 => ih (listed.setIfInBounds j true) σ' hfree' (ready_mono hr (Ne.symm hji)) h3.1 ?_) h2
      rw [Array.setIfInBounds_comm _ _ hji]
      exact h3.2
def xU (P : Program) (T : cd P) (C : Ctx) (n : Nat) (bx : List (Nat × List A)) (lv : List Nat) (gen r : Nat) (ops : Array Oper) (Q : Sg → Prop) : List Oper → Nat → Sg → Prop
  | [], _, σ => Q σ
  | o :: rest, i, σ => ∃ a u, YE P T C n bx lv gen r ops i o a u σ ∧ xU P T C n bx lv gen r ops Q rest (i + 1) (bz σ.1 o.dst a, dk σ.2 u)
def lu (md : Region.Mode) (ops : Array Oper) : Nat → Nat → Array Bool → Bool
  | 0, _, _ => true
  | t + 1, k, listed => (Region.ready md ops listed).contains k && Region.free md ops listed k && lu md ops t (k + 1) (listed.setIfInBounds k true)
theorem sC {Q : Sg → Prop} (hone : gT (ops.toList.take m) = true) (hw : pA md ops m = true) : ∀ (l : List Oper) (k : Nat) (listed : Array Bool) (σ : Sg), k + l.length = m → (∀ j, j < l.length → l[j]? = ops[k + j]?) →
    listed.size = ops.size → (∀ j, j < k → listed.getD j false = true) → (∀ j, k ≤ j → j < ops.size → listed.getD j true = false) →
    lu md ops l.length k listed = true → xU P T C n bx lv gen r ops Q l k σ → uP P T C n bx lv gen r m md ops Q l.length listed σ
  | [], k, listed, σ, hk, _, hs, h1, h2, _, h => ⟨⟨hs, fun j hj => h1 j (by simp at hk; omega), fun j hj hj' => h2 j (by simp at hk; omega) hj'⟩, h⟩
  | o :: l, k, listed, σ, hk, hl, hs, h1, h2, hB, h => by
    have h0 : ops[k]? = some o := by simpa using (hl 0 (by simp)).symm
    have hks : k < ops.size := (Array.getElem?_eq_some_iff.1 h0).1
    simp only [List.length_cons, lu, Bool.and_eq_true] at hB
    obtain ⟨⟨hr, hf⟩, hB'⟩ := hB
    obtain ⟨a, u, hy, hK⟩ := h
    have hkm : k < m := by simp at hk; omega
    refine uY T hone hw hkm h0 l.length listed σ (Region.free_spec h0 hf) (by simpa using hr) hy
      (sC hone hw l (k + 1) _ _ (by simp at hk; omega) (fun j hj => by have := hl (j + 1) (by simpa using hj); simpa [Nat.add_assoc, Nat.add_comm 1 j] using this) (by simpa using hs) (fun j hj => ?_) (fun j hj hj' => ?_) hB' hK)
    · rcases Nat.lt_succ_iff_lt_or_eq.1 hj with hlt | rfl
      · exact getD_set_true (h1 j hlt)
      · simp [hs, hks]
    · rw [getD_set_ne true (by omega)]
      exact h2 j (by omega) hj'
theorem tM {i : Nat} {σ : Sg} {K : Sg → Prop} {K' : Act → World → Prop} {Q' : Exit → Act → World → Prop} {G : Gh} {tmps : Array Value} {w : World} (hs : fe C n bx lv gen r σ G tmps w)
    (h : ∀ σ G tmps w, fe C n bx lv gen r σ G tmps w → K σ → K' ⟨tmps, C.ds⟩ w) (hh : qE P T C n bx lv gen r ops i K σ) : wpOp P ops Q' i K' ⟨tmps, C.ds⟩ w := by
  unfold qE at hh
  unfold wpOp
  split
  · rename_i ho; simp only [ho] at hh; exact h _ _ _ _ hs hh
  · rename_i o ho
    simp only [ho] at hh
    obtain ⟨a, u, ⟨hd, hy⟩, hk⟩ := hh
    have hsF : dC C n bx lv (gen + r) σ.1 G tmps w := ⟨hs.s, hs.f⟩
    rcases hy with ⟨_, rfl, _, hy⟩ | ⟨_, hgd, hnone, hr, rfl, d, cells, hdst, rfl, hy⟩ | ⟨_, hgd, hdst, rfl, t, dx, y, k, ok, f, z, cells, cs, hop, hok, hon, hod, hf, hx, hav, hcs, hsz, hz, hle, hcell, rfl⟩
    · rcases hy with ⟨hw, f, hf, hp⟩ | ⟨hw, rfl⟩
      · rw [e6 hsF hw]
        simp only [if_true]
        refine .inl ?_
        have hg : cF P o ⟨tmps, []⟩ w fun v w' => Below w.heap.size w w' ∧ aS (aB C G (gen + r) w') v a := hp G tmps w (hsF.jQ fun t x hx => (hf t x hx).1)
        refine hg.ds.wp fun v w' ⟨hb, hr⟩ => ?_
        rw [Act.fv]
        exact h _ _ _ _ (hs.step hb hd hr) hk
      · rw [e6 hsF hw]
        simp only [Bool.false_eq_true, if_false]
        rw [Act.fv]
        exact h _ _ _ _ (hs.step (Below.refl _ _) hd (.tup #[] [] rfl (by simp))) hk
    · have hwt : Region.wanted o (yielded ops tmps) = true := by simp [Region.wanted, hgd]
      rw [hwt]
      simp only [if_true]
      refine .inl ?_
      rw [hdst] at hk
      have hdl : d < n := cB hd d hdst
      rcases hy with ⟨e, dt, hop, he, rfl⟩ | ⟨e, x, f, y, hop, hf, hav, hc⟩
      · obtain ⟨i', zz, hi, _, _, hzz, hzc, hzl, hzk, _⟩ := T.info he
        have hall : ∀ (i : Nat) (u : Value), zz.cells[i]? = some u → dr u = true := fun i u hu => by
          have : u ∈ dt.z := by rw [← hzc, List.mem_iff_getElem?]; exact ⟨i, by simpa using hu⟩
          exact List.all_eq_true.1 hzk u this
        obtain ⟨G', hs'⟩ := hs.pc (Nat.le_add_right _ _) (by omega) hnone zz.cells e (dt.z.map fun v => .d (.v v)) ⟨by rw [List.length_map, ← hzc]; simp, fun i u hu => jN (hall i u hu), fun i u a hu ha => by
          simp only [List.getElem?_map, Option.map_eq_some_iff] at ha
          obtain ⟨y, hy, rfl⟩ := ha
          rw [← hzc] at hy
          have : y = u := by simp at hy; rw [hu] at hy; exact (Option.some.inj hy).symm
          subst this
          exact .d (.v _ (hall i y hu))⟩ hdl
        refine (cI (v := .pointer (some ⟨w.heap.size, 0, none⟩)) (w' := w.alloc (.cells zz.cells e)) (R := fun v w' => v = .pointer (some ⟨w.heap.size, 0, none⟩) ∧ w' = w.alloc (.cells zz.cells e)) ?_ ⟨rfl, rfl⟩ : cF P o ⟨tmps, []⟩ w _).ds.wp ?_
        · unfold execOp
          rw [hop]
          show Sem.run P _ w = _
          simp only [Instr.alloc, zeroValue, typeInfo, hi, hzz, newVar, newRow, Sem.run_bind, run_program, run_newObj, Result.andThen_ok, Sem.run_pure]
          rfl
        · rintro v w' ⟨rfl, rfl⟩
          rw [hdst]
          exact h _ G' _ _ hs' hk
      · have hcr := gF (hsF.jQ fun t x hx => (hf t x hx).1) hc (aP.av (hsF.jQ fun t x hx => (hf t x hx).1) hav)
        obtain ⟨G', hs'⟩ := hs.pc (Nat.le_add_right _ _) (by omega) hnone (Act.eval ⟨tmps, []⟩ x).cells e cells hcr hdl
        refine (cI (v := .pointer (some ⟨w.heap.size, 0, none⟩)) (w' := w.alloc (.cells (Act.eval ⟨tmps, []⟩ x).cells e)) (R := fun v w' => v = .pointer (some ⟨w.heap.size, 0, none⟩) ∧ w' = w.alloc (.cells (Act.eval ⟨tmps, []⟩ x).cells e)) ?_ ⟨rfl, rfl⟩ : cF P o ⟨tmps, []⟩ w _).ds.wp ?_
        · unfold execOp
          rw [hop]
          show Sem.run P _ w = _
          simp only [Instr.box, newVar, newRow, Sem.run_bind, run_newObj, Result.andThen_ok, Sem.run_pure]
          rfl
        · rintro v w' ⟨rfl, rfl⟩
          rw [hdst]
          exact h _ G' _ _ hs' hk
    · have hwt : Region.wanted o (yielded ops tmps) = true := by simp [Region.wanted, hgd]
      rw [hwt]
      simp only [if_true]
      refine .inl ?_
      rw [hdst] at hk
      obtain ⟨_, b, cur, T', h1, h2, h3, h4, h5⟩ := hs.b _ cells hcell
      obtain ⟨v, hv1, hv2⟩ := hs.f dx _ hx
      have hv : Act.eval ⟨tmps, []⟩ (.tmp dx) = .pointer (some ⟨b, 0, none⟩) := by
        have e : Act.eval ⟨tmps, []⟩ (.tmp dx) = v := by simp [Act.eval, hv1]
        rw [e]
        cases hv2 with
        | ptr _ _ _ b0 _ hb0 hx0 => exact mf hb0 hx0 b h1
      have hG := hsF.jQ (f := f) fun t x hx => (hf t x hx).1
      have hrc := gF hG hcs (aP.av hG hav)
      have hst := run_storeCells_at P b 0 T' (Act.eval ⟨tmps, []⟩ y).cells.toList 0 cur w h2 (by have := hrc.1; simp at this ⊢; omega) (fun v hv => by
        obtain ⟨i, hi⟩ := List.mem_iff_getElem?.1 hv
        exact hrc.2.1 i v (by simpa using hi))
      obtain ⟨dt, hdt, hdn⟩ : ∃ d, ax T.l t = some d ∧ d.n = cs.length := by
        unfold cn at hsz
        split at hsz
        · rename_i d hdt; exact ⟨d, hdt, hsz⟩
        · exact absurd hsz.symm hz
      have hs' := hs.store hcell h1 h2 (b7.setAt (off := 0) ⟨h3, h4, h5⟩ hrc (by omega))
      refine (lH (R := fun v w' => v = undef ∧ w' = w.setRow b (cur.toList.take 0 ++ (Act.eval ⟨tmps, []⟩ y).cells.toList ++ cur.toList.drop (0 + (Act.eval ⟨tmps, []⟩ y).cells.toList.length)).toArray) ?_ ⟨rfl, rfl⟩ : cF P o ⟨tmps, []⟩ w _).ds.wp ?_
      · unfold execOp
        rw [hop]
        show Sem.run P _ w = _
        simp only [hv, Instr.storeAt, Instr.sureAddr, storeVar, Sem.run_bind, Sem.run_pure, Result.andThen_ok, T.sizeOf hdt]
        rw [if_neg (by rw [hdn]; simp; exact hrc.1)]
        simp only [Nat.add_zero] at hst
        simp only [hst, Result.andThen_ok]
      · rintro v w' ⟨rfl, rfl⟩
        rw [hdst]
        exact h _ G _ _ hs' hk
theorem pn {Q : Sg → Prop} {Q' : Exit → Act → World → Prop} {t : Nat} (hQ : ∀ listed σ G tmps w, fe C n bx lv gen r σ G tmps w → Split m ops listed → Q σ → wpAny P md ops Q' t listed ⟨tmps, C.ds⟩ w) :
    ∀ (fuel : Nat) (listed : Array Bool) (σ : Sg) (G : Gh) (tmps : Array Value) (w : World), fe C n bx lv gen r σ G tmps w → uP P T C n bx lv gen r m md ops Q fuel listed σ → wpAny P md ops Q' (fuel + t) listed ⟨tmps, C.ds⟩ w
  | 0, _, _, _, _, _, hs, h => by rw [Nat.zero_add]; exact hQ _ _ _ _ _ hs h.1 h.2
  | fuel + 1, _, _, _, _, _, hs, h => by
    rw [Nat.add_right_comm]
    exact ⟨fun h0 => absurd h0 h.1, fun i hi => tM T hs (fun σ G tmps w hs' => pn hQ fuel _ σ G tmps w hs') (h.2 i hi)⟩
theorem pH {Q' : Exit → Act → World → Prop} (hw : pA md ops m = true) (hrd : ∀ k, m ≤ k → ∀ o, ops[k]? = some o → ∀ e ∈ o.after, Region.binds md e = true → e.on < k) :
    ∀ (l : List Oper) (k : Nat) (listed : Array Bool) (act : Act) (w : World), m ≤ k → k + l.length = ops.size → (∀ j, l[j]? = ops[k + j]?) → listed.size = ops.size → (∀ j, j < k → listed.getD j false = true) → (∀ j, k ≤ j → j < ops.size → listed.getD j true = false) →
      gm P ops Q' l act w → wpAny P md ops Q' l.length listed act w
  | [], k, listed, act, w, hm, hk, _, hs, h1, h2, h => by
    refine ⟨?_, h⟩
    refine List.eq_nil_iff_forall_not_mem.2 fun j hj => ?_
    obtain ⟨h3, oj, hoj, _⟩ := mem_ready.1 hj
    have hlt := (Array.getElem?_eq_some_iff.1 hoj).1
    have := h1 j (by simp at hk; omega)
    rw [dA h3] at this
    cases this
  | o :: l, k, listed, act, w, hm, hk, hl, hs, h1, h2, h => by
    have h0 : ops[k]? = some o := by simpa using (hl 0).symm
    have hks : k < ops.size := (Array.getElem?_eq_some_iff.1 h0).1
    have hready : k ∈ Region.ready md ops listed := mem_ready.2 ⟨h2 k (Nat.le_refl _) hks, o, h0, fun e he hb => h1 _ (hrd k hm o h0 e he hb)⟩
    refine ⟨fun hn => (by rw [hn] at hready; cases hready), fun i hi => ?_⟩
    have hik : i = k := by
      obtain ⟨h3, oi, hoi, _⟩ := mem_ready.1 hi
      rcases Nat.lt_trichotomy i k with hlt | he | hgt
      · have := h1 i hlt; rw [dA h3] at this; cases this
      · exact he
      · have := waits hw (by omega) hgt hi
        rw [dA (h2 k (Nat.le_refl _) hks)] at this
        cases this
    subst hik
    have ih := fun act w => pH (Q' := Q') hw hrd l (i + 1) (listed.setIfInBounds i true) act w (by omega) (by simp at hk; omega) (fun j => by have := hl (j + 1); simpa [Nat.add_assoc, Nat.add_comm 1 j] using this) (by simpa using hs)
      (fun j hj => by
        rcases Nat.lt_succ_iff_lt_or_eq.1 hj with hlt | rfl
        · exact getD_set_true (h1 j hlt)
        · simp [hs, hks]) (fun j hj hj' => by rw [getD_set_ne true (by omega)]; exact h2 j (by omega) hj')
    simp only [gm] at h
    unfold wpOp
    simp only [h0]
    split
    · rename_i hw'
      rw [if_pos hw'] at h
      exact .inl (Oper.wp_mono ih h)
    · rename_i hw'
      rw [if_neg hw'] at h
      exact ih _ _ h
def uA (md : Region.Mode) (ops : Array Oper) (m : Nat) : Bool := (List.range ops.size).all fun k => decide (k < m) || match ops[k]? with | some o => o.after.toList.all fun e => !Region.binds md e || decide (e.on < k) | none => true
theorem lO (h : uA md ops m = true) : ∀ k, m ≤ k → ∀ o, ops[k]? = some o → ∀ e ∈ o.after, Region.binds md e = true → e.on < k := by
  intro k hm o ho e he hb
  have hlt := (Array.getElem?_eq_some_iff.1 ho).1
  have h1 := List.all_eq_true.1 h k (by simpa using hlt)
  simp only [Bool.or_eq_true, decide_eq_true_eq] at h1
  have h2 := h1.resolve_left (by omega)
  rw [ho] at h2
  have h3 := List.all_eq_true.1 h2 e (by simpa using he)
  simp only [Bool.or_eq_true, Bool.not_eq_true', decide_eq_true_eq] at h3
  rcases h3 with h3 | h3
  · rw [hb] at h3; cases h3
  · exact h3
def CE (P : Program) (T : cd P) (C : Ctx) (n : Nat) (bx : List (Nat × List A)) (lv : List Nat) (gen r : Nat) (ops : Array Oper) (Q : St → Prop) (l : List Oper) (i : Nat) (f : List (Nat × A)) (bn : List (Nat × List A)) : Prop :=
  xU P T C n bx lv gen r ops (fun σ => ∃ f' bn', (∀ t, look f' t = σ.1 t) ∧ (∀ g, ax bn' g = σ.2 g) ∧ Q ⟨f', bn' ++ bx, lv, gen + r⟩) l i (look f, ax bn)
def qP (m r : Nat) (ops : Array Oper) : Bool :=
  Nat.ble m ops.size && gT (ops.toList.take m) && pA .any ops m && uA .any ops m && lu .any ops m 0 (Array.replicate ops.size false) && Nat.beq (cv ops.toList m) r
theorem W.eW {id : Nat} {l l1 l2 : List Oper} {f : List (Nat × A)} {Q : Exit → St → Prop} (m r : Nat) (hB : qP m r l.toArray = true) (h1 : l.take m = l1) (h2 : l.drop m = l2)
    (h : CE P T C n bx lv gen r l.toArray (WO P C n l.toArray Q l2) l1 0 f []) : W P C n (.region id l.toArray true) Q ⟨f, bx, lv, gen⟩ := by
  subst h1; subst h2
  intro tmps w ⟨G, hs⟩
  simp only [qP, Bool.and_eq_true] at hB
  obtain ⟨⟨⟨⟨⟨hm, hone⟩, hw⟩, hfore⟩, hlex⟩, hr⟩ := hB
  have hm : m ≤ l.length := by simpa using Nat.le_of_ble_eq_true hm
  have hb : Below w.heap.size w { w with drawn := w.drawn + 1 } := (Below.refl _ w).drew
  have hs' : fe C n bx lv gen r (look f, fun _ => none) G tmps { w with drawn := w.drawn + 1 } := fe.vq (hs.iq hb).2
  have hlen : (l.take m).length = m := by simp; omega
  refine wp_region_any T.mixed ?_
  have hsz : l.toArray.size = (l.take m).length + (l.drop m).length := by simp; omega
  rw [hsz]
  refine pn T (m := m) (Q := fun σ => ∃ f' bn', (∀ t, look f' t = σ.1 t) ∧ (∀ g, ax bn' g = σ.2 g) ∧ WO P C n l.toArray Q (l.drop m) ⟨f', bn' ++ bx, lv, gen + r⟩) (fun listed σ G tmps w hs hsp ⟨f', bn', e1, e2, hq⟩ => ?_) _ _ _ G _ _ hs' ?_
  · refine pH hw (lO hfore) (l.drop m) m listed ⟨tmps, C.ds⟩ w (Nat.le_refl _) (by simp; omega) (fun j => by simp [List.getElem?_drop]) hsp.1 hsp.2.1 hsp.2.2 ?_
    exact hq tmps w ⟨G, hs.jQ (fun t a ha => by rw [← e1]; exact ha) (fun g c hc => by rw [← e2]; exact hc)⟩
  · refine sC T hone hw (l.take m) 0 _ _ (by rw [hlen]; omega) (fun j hj => ?_) (by simp; omega) (fun j hj => by omega) (fun j _ hj => ?_) (by rw [hlen]; rw [hsz, hlen] at hlex; exact hlex) h
    · rw [hlen] at hj
      rw [Nat.zero_add]
      simp [List.getElem?_take, hj]
    · have hj' : j < l.length := by simpa using hj
      have e : min m l.length + (l.length - m) = l.length := by omega
      simp [e, hj']
variable {T}
variable {op : Op} {ty : TypeId} {pos : String} {af : Array Edge} {a : A} {d i : Nat} {rest : List Oper} {f : List (Nat × A)} {bn : List (Nat × List A)} {Q : St → Prop}
theorem CE.nil (h : Q ⟨f, bn ++ bx, lv, gen + r⟩) : CE P T C n bx lv gen r ops Q [] i f bn := ⟨f, bn, fun _ => rfl, fun _ => rfl, h⟩
theorem aM (hn : iI ⟨some d, op, ty, pos, af, none⟩ = false) (hp : Pu P C n ⟨cf f (slotsOf op), bx, lv, gen + r⟩ ⟨some d, op, ty, pos, af, none⟩ a) (hd : Nat.blt d n = true) (h : CE P T C n bx lv gen r ops Q rest (i + 1) ((d, a) :: f) bn) :
    CE P T C n bx lv gen r ops Q (⟨some d, op, ty, pos, af, none⟩ :: rest) i f bn := by
  unfold CE at *
  rw [eJ] at h
  refine ⟨a, none, ⟨hd, .inl ⟨hn, rfl, hd, .inl ⟨rfl, _, fun t x hx => ?_, hp⟩⟩⟩, h⟩
  obtain ⟨h1, h2⟩ := dE hx
  exact ⟨h1, List.mem_append.2 (.inl h2)⟩
theorem qo {g : Nat} {c : List A} : ax ((g, c) :: bn) = dk (ax bn) (some (g, c)) := by
  funext t
  rw [bQ]
  simp only [dk]
  split <;> split <;> simp_all
theorem ey {e : TypeId} {dt : bW} {l : List A} (c : Nat) (hg : Nat.beq (cv ops.toList i) c = true) (hr : Nat.blt c r = true) (hno : ax bn (gen + c) = none) (he : ax T.l e = some dt) (hl : (dt.z.map fun v => A.d (.v v)) = l) (hd : Nat.blt d n = true)
    (h : CE P T C n bx lv gen r ops Q rest (i + 1) ((d, .ptr (gen + c) 0) :: f) ((gen + c, l) :: bn)) : CE P T C n bx lv gen r ops Q (⟨some d, .alloc e, ty, pos, af, none⟩ :: rest) i f bn := by
  unfold CE at *
  rw [eJ, qo] at h
  have hg := Nat.eq_of_beq_eq_true hg
  subst hg; subst hl
  exact ⟨_, _, ⟨hd, .inr (.inl ⟨rfl, rfl, hno, Nat.le_of_ble_eq_true hr, rfl, d, _, rfl, rfl, .inl ⟨e, dt, rfl, he, rfl⟩⟩)⟩, h⟩
theorem iS {t : TypeId} {y : Operand} {dx : Nat} {ok : Oper} {z : A} {cells cs cells' : List A} (k c : Nat) (hx : look f dx = some (.ptr (gen + c) 0)) (hk : ops[k]? = some ok) (hkn : iI ok = true) (hkd : ok.dst = some dx) (hkg : Nat.beq (cv ops.toList k) c = true)
    (hb : ax bn (gen + c) = some cells) (hav : av (cf f (slotsOf (.store t (.tmp dx) y))) y = some z) (hc : cellsOf bx z = some cs) (hsz : cn T t = cs.length) (hz : Nat.blt 0 cs.length = true) (hle : Nat.ble cs.length cells.length = true) (hs : setAt cells 0 cs = cells')
    (h : CE P T C n bx lv gen r ops Q rest (i + 1) f ((gen + c, cells') :: bn)) : CE P T C n bx lv gen r ops Q (⟨none, .store t (.tmp dx) y, ty, pos, af, none⟩ :: rest) i f bn := by
  unfold CE at *
  rw [qo] at h
  have hkg := Nat.eq_of_beq_eq_true hkg
  subst hs; subst hkg
  have hz := Nat.le_of_ble_eq_true hz
  refine ⟨.any, _, ⟨rfl, .inr (.inr ⟨rfl, rfl, rfl, rfl, t, dx, y, k, ok, _, z, cells, cs, rfl, hk, hkn, hkd, fun t' z' hz' => ?_, hx, hav, hc, hsz, by omega, Nat.le_of_ble_eq_true hle, hb, rfl⟩)⟩, h⟩
  obtain ⟨h1, h2⟩ := dE hz'
  exact ⟨h1, List.mem_append.2 (.inl h2)⟩
end
end Go.Ab
namespace Go.Ab
open Go.RowKit
section
variable {P : Program} (T : cd P) {C : Ctx} {n : Nat} {ops : Array Oper} {Q : Exit → St → Prop} {rest : List Oper} {c : Code}
variable {f : List (Nat × A)} {bx : List (Nat × List A)} {lv : List Nat} {gen d : Nat} {ty : TypeId} {pos : String} {af : Array Edge} {a : A} {dst : Option Nat}
theorem lz {t e t' : Nat} {x : Operand} {td : bW} {es : List (List D)} (hx : av f x = some a) (hes : gu a = some es) (ht : ax T.l t = some td) (hk : td.k = .slice e) (hd : Nat.blt d n = true)
    (h : ∀ b, (b = true → es = []) → WO P C n ops Q rest ⟨(d, .d (.v (.bool b))) :: f, bx, lv, gen⟩) :
    WO P C n ops Q (⟨some d, .binOp .eql t x (.const (.slice none 0 0)) t', ty, pos, af, none⟩ :: rest) ⟨f, bx, lv, gen⟩ := by
  refine WO.step rfl fun tmps' w' ⟨G', hs'⟩ => ?_
  have hr' := gR hes (hs'.av hx)
  generalize hv' : Act.eval ⟨tmps', []⟩ x = v' at hr'
  have key' : ∃ ad l cp, v' = .slice ad l cp ∧ (ad.isNone = true → es = []) := by
    cases hr' with
    | nil => exact ⟨none, 0, 0, rfl, fun _ => rfl⟩
    | emp ad cp _ => exact ⟨some ad, 0, cp, rfl, fun h => by cases h⟩
    | sl b off len cap sz _ u _ _ _ _ _ _ => exact ⟨some ⟨b, off, none⟩, len, cap, rfl, fun h => by cases h⟩
  obtain ⟨ad', l', cp', rfl, hn'⟩ := key'
  refine cI (v := .bool ad'.isNone) (w' := w') ?_ ⟨⟨(d, .d (.v (.bool ad'.isNone))) :: f, bx, lv, gen⟩, ⟨G', hs'.set (cB (dst := some d) hd d rfl) (.d (.v _ rfl))⟩, h _ hn'⟩
  unfold execOp
  show Sem.run P _ w' = _
  have he : Act.eval ⟨tmps', []⟩ (.const (.slice none 0 0)) = .slice none 0 0 := rfl
  have hq := run_equal_slice_nil (P := P) w' t e ad' l' cp' (T.dL ht hk)
  simp only [hv', he, eqGuard, binOp, Sem.run_bind, Sem.run_pure, Result.andThen_ok]
  simp only [Bool.not_true, Bool.false_eq_true, if_false, Sem.run_pure, Result.andThen_ok]
  rw [hq]
  rfl
theorem yp {t : Nat} (hl : look f t = some (.d (.v (.slice none 0 0)))) (h : W P C n c Q ⟨(t, .d (.sl [])) :: f, bx, lv, gen⟩) : W P C n c Q ⟨f, bx, lv, gen⟩ := by
  intro tmps w ⟨G, hs⟩
  refine h tmps w ⟨G, { hs with frame := fun s b hb => ?_ }⟩
  simp only [bp] at hb
  split at hb
  · rename_i e
    subst e
    simp only [Option.some.injEq] at hb
    subst hb
    obtain ⟨v, hv, hr⟩ := hs.frame _ _ hl
    cases hr with | d hr => cases hr; exact ⟨_, hv, .d .nil⟩
  · exact hs.frame s b hb
end
end Go.Ab
namespace Go.Tb
open Go.Ab
abbrev ci (n : Int) : D := .v (.int .i64 n)
abbrev cs (s : ByteArray) : D := .v (.string s)
structure aD where
  kind : Int
  n : Int
  s : ByteArray
  deriving DecidableEq
@[reducible] def aD.c (x : aD) : List D := [ci x.kind, ci x.n, cs x.s]
structure Col where
  name : ByteArray
  type : Int
  deriving DecidableEq
@[reducible] def Col.c (x : Col) : List D := [cs x.name, ci x.type]
inductive Ex where
  | mk (op : Int) (name : ByteArray) (v : aD) (kids : List Ex)
def Ex.op : Ex → Int | .mk a _ _ _ => a
def Ex.name : Ex → ByteArray | .mk _ a _ _ => a
def Ex.v : Ex → aD | .mk _ _ a _ => a
def Ex.kids : Ex → List Ex | .mk _ _ _ a => a
mutual
def Ex.kc : Ex → List (List D)
  | .mk _ _ _ kids => Ex.wo kids
def Ex.wo : List Ex → List (List D)
  | [] => []
  | e :: r => [ci e.op, cs e.name, ci e.v.kind, ci e.v.n, cs e.v.s, .sl (Ex.kc e)] :: Ex.wo r
end
@[reducible] def Ex.c (e : Ex) : List D := [ci e.op, cs e.name, ci e.v.kind, ci e.v.n, cs e.v.s, .sl e.kc]
theorem Ex.u0 : ∀ l, Ex.wo l = l.map Ex.c
  | [] => rfl
  | e :: r => by simp [Ex.wo, Ex.u0 r]
theorem Ex.wj (e : Ex) : e.kc = e.kids.map Ex.c := by cases e; simp [Ex.kc, Ex.kids, Ex.u0]
theorem Ex.aF (e : Ex) : e.kc.length = e.kids.length := by simp [Ex.wj]
theorem Ex.rB {e : Ex} {i : Nat} {k : Ex} (h : e.kids[i]? = some k) : e.kc[i]? = some k.c := by rw [Ex.wj]; exact aH h
theorem Ex.ind {p : Ex → Prop} (h : ∀ e, (∀ k ∈ e.kids, p k) → p e) : ∀ e, p e := by
  intro e
  induction hn : _root_.SizeOf.sizeOf e using Nat.strongRecOn generalizing e with
  | _ m ih =>
    subst hn
    refine h e fun k hk => ih (_root_.SizeOf.sizeOf k) ?_ k rfl
    cases e with
    | mk op name v kids =>
      have := List.sizeOf_lt_of_mem (show k ∈ kids from hk)
      simp; omega
structure mW where
  e : Ex
  name : ByteArray
@[reducible] def mW.c (x : mW) : List D := [ci x.e.op, cs x.e.name, ci x.e.v.kind, ci x.e.v.n, cs x.e.v.s, .sl x.e.kc, cs x.name]
structure qw where
  fn : ByteArray
  col : ByteArray
  name : ByteArray
@[reducible] def qw.c (x : qw) : List D := [cs x.fn, cs x.col, cs x.name]
structure qk where
  col : ByteArray
  desc : Bool
@[reducible] def qk.c (x : qk) : List D := [cs x.col, .v (.bool x.desc)]
@[reducible] def sc (s : ByteArray) : List D := [cs s]
structure fx where
  op : Int
  cond : Ex
  items : List mW
  ab : List ByteArray
  aggs : List qw
  sorts : List qk
  n : Int
  table : ByteArray
@[reducible] def fx.c (x : fx) : List D := [ci x.op, ci x.cond.op, cs x.cond.name, ci x.cond.v.kind, ci x.cond.v.n, cs x.cond.v.s, .sl x.cond.kc,
  .sl (x.items.map mW.c), .sl (x.ab.map sc), .sl (x.aggs.map qw.c), .sl (x.sorts.map qk.c), ci x.n, cs x.table]
structure bj where
  ab : List Col
  rows : List (List aD)
@[reducible] def rc (r : List aD) : List D := [.sl (r.map aD.c)]
@[reducible] def bj.c (x : bj) : List D := [.sl (x.ab.map Col.c), .sl (x.rows.map rc)]
structure kF where
  name : ByteArray
  table : bj
@[reducible] def kF.c (x : kF) : List D := [cs x.name, .sl (x.table.ab.map Col.c), .sl (x.table.rows.map rc)]
structure yx where
  from_ : ByteArray
  steps : List fx
@[reducible] def yx.c (x : yx) : List D := [cs x.from_, .sl (x.steps.map fx.c)]
@[reducible] def ic (k : Int) : List D := [ci k]
/- ### typed data out of a reading -/
section
variable {P : Program} {T : cd P}
theorem qB {α : Type} {f : α → List D} {t : Nat} : ∀ {es : List (List D)}, (∀ x ∈ es, cc T t x) → (∀ x, x ∈ es → cc T t x → ∃ a, x = f a) → ∃ l : List α, es = l.map f
  | [], _, _ => ⟨[], rfl⟩
  | x :: r, h, hf => by
    obtain ⟨a, ha⟩ := hf x (by simp) (h x (by simp))
    obtain ⟨l, hl⟩ := qB (fun y hy => h y (by simp [hy])) (fun y hy => hf y (by simp [hy])) (es := r)
    exact ⟨a :: l, by rw [ha, hl]; rfl⟩
theorem rU {t a b : Nat} {oa ob : Nat} {na nb : String} {l : List D} (h : cc T t l) (hk : bJ T t = .st [(oa, a, na), (ob, b, nb)]) : ∃ p q, l = p ++ q ∧ cc T a p ∧ cc T b q := by
  obtain ⟨ps, rfl, hl, hc⟩ := h.xG hk
  match ps, hl with
  | [p, q], _ => exact ⟨p, q, by simp, hc 0 _ _ _ p rfl rfl, hc 1 _ _ _ q rfl rfl⟩
theorem vR {t a b c : Nat} {oa ob oc : Nat} {na nb nc : String} {l : List D} (h : cc T t l) (hk : bJ T t = .st [(oa, a, na), (ob, b, nb), (oc, c, nc)]) : ∃ p q r, l = p ++ (q ++ r) ∧ cc T a p ∧ cc T b q ∧ cc T c r := by
  obtain ⟨ps, rfl, hl, hc⟩ := h.xG hk
  match ps, hl with
  | [p, q, r], _ => exact ⟨p, q, r, by simp, hc 0 _ _ _ p rfl rfl, hc 1 _ _ _ q rfl rfl, hc 2 _ _ _ r rfl rfl⟩
variable {tv tk ti ts tc tcs te teo tes : Nat} {o1 o2 o3 o4 o5 o6 o7 o8 : Nat} {n1 n2 n3 n4 n5 n6 n7 n8 : String} {l : List D}
theorem nW (h : cc T ti l) (hk : bJ T ti = .int .i64) : ∃ n, l = [ci n] := let ⟨n, h, _⟩ := h.toInt hk; ⟨n, h⟩
theorem od (h : cc T ts l) (hk : bJ T ts = .str) : ∃ n, l = [cs n] := let ⟨n, h, _⟩ := h.toStr hk; ⟨n, h⟩
theorem vB (h : cc T tv l) (hv : bJ T tv = .st [(o1, tk, n1), (o2, ti, n2), (o3, ts, n3)]) (hk : bJ T tk = .int .i64) (hi : bJ T ti = .int .i64) (hs : bJ T ts = .str) : ∃ x : aD, l = x.c := by
  obtain ⟨p, q, r, rfl, h1, h2, h3⟩ := vR h hv
  obtain ⟨a, rfl⟩ := nW h1 hk
  obtain ⟨b, rfl⟩ := nW h2 hi
  obtain ⟨c, rfl⟩ := od h3 hs
  exact ⟨⟨a, b, c⟩, rfl⟩
theorem vV (h : cc T tc l) (hv : bJ T tc = .st [(o1, ts, n1), (o2, tk, n2)]) (hs : bJ T ts = .str) (hk : bJ T tk = .int .i64) : ∃ x : Col, l = x.c := by
  obtain ⟨p, q, rfl, h1, h2⟩ := rU h hv
  obtain ⟨a, rfl⟩ := od h1 hs
  obtain ⟨b, rfl⟩ := nW h2 hk
  exact ⟨⟨a, b⟩, rfl⟩
theorem m9 {α : Type} {f : α → List D} {t e : Nat} (h : cc T t l) (hk : bJ T t = .slice e) (hf : ∀ x, cc T e x → ∃ a, x = f a) : ∃ r : List α, l = [.sl (r.map f)] := by
  obtain ⟨es, rfl, h1, _⟩ := h.toSlice hk
  obtain ⟨r, rfl⟩ := qB h1 (fun x _ hx => hf x hx)
  exact ⟨r, rfl⟩
end
end Go.Tb
namespace Go.Tb
open Go.Ab
def Still (caps : List A) : Prop := (∀ bx k, caps.map (conv bx (k + 2)) = caps) ∧ dQ caps = true
def idx (o : Option Nat) : Int := match o with | some i => i | none => -1
theorem dh {α : Type} {l : List α} {p : α → Bool} : decide (0 ≤ idx (l.findIdx? p)) = l.any p := by
  cases h : l.findIdx? p with
  | none =>
    have := List.findIdx?_eq_none_iff.1 h
    simp only [idx]
    rw [Bool.eq_iff_iff]
    simp only [decide_eq_true_eq, List.any_eq_true]
    constructor
    · intro h; exact absurd h (by decide)
    · rintro ⟨x, hx, hp⟩; rw [this x hx] at hp; cases hp
  | some i =>
    obtain ⟨hi, hp, _⟩ := List.findIdx?_eq_some_iff_getElem.1 h
    simp only [idx]
    rw [Bool.eq_iff_iff]
    simp only [decide_eq_true_eq, List.any_eq_true]
    exact ⟨fun _ => ⟨_, List.getElem_mem hi, hp⟩, fun _ => decide_eq_true (Int.natCast_nonneg i)⟩
def bH {α : Type} (p : α → Bool) (l : List α) (k : Nat) : Prop := ∀ j x, j < k → l[j]? = some x → p x = false
theorem bH.zero {α : Type} {p : α → Bool} {l : List α} : bH p l 0 := fun _ _ h => by omega
theorem bH.step {α : Type} {p : α → Bool} {l : List α} {k : Nat} {x : α} (h : bH p l k) (hx : l[k]? = some x) (hp : p x = false) : bH p l (k + 1) := by
  intro j y hj hy
  rcases Nat.lt_succ_iff_lt_or_eq.1 hj with hlt | rfl
  · exact h j y hlt hy
  · rw [hx] at hy; simp only [Option.some.injEq] at hy; subst hy; exact hp
theorem bH.found {α : Type} {p : α → Bool} {l : List α} {k : Nat} {x : α} (h : bH p l k) (hx : l[k]? = some x) (hp : p x = true) : l.findIdx? p = some k := by
  rw [List.findIdx?_eq_some_iff_getElem]
  obtain ⟨hk', hx'⟩ := List.getElem?_eq_some_iff.1 hx
  refine ⟨hk', by rw [hx']; exact hp, fun j hj => ?_⟩
  rw [h j (l[j]) hj (by simp)]
  simp
theorem bH.end_ {α : Type} {p : α → Bool} {l : List α} {k : Nat} (h : bH p l k) (hk : k = l.length) : l.findIdx? p = none := by
  rw [List.findIdx?_eq_none_iff]
  intro x hx
  obtain ⟨j, hj⟩ := List.mem_iff_getElem?.1 hx
  exact h j x (by rw [hk]; exact (List.getElem?_eq_some_iff.1 hj).1) hj
def fits (k w : Int) : Bool := decide (k = w) || decide (k = 0)
def l6 (n : Int) : Bool := decide (-1000000000000000 ≤ n) && decide (n ≤ 1000000000000000)
abbrev B (l : Array UInt8) : ByteArray := ⟨l⟩
def gU : ByteArray := B #[109, 105, 110]
def gN : ByteArray := B #[109, 97, 120]
def jC : ByteArray := B #[104, 97, 115]
def ew : ByteArray := B #[115, 116, 97, 114, 116, 115]
def gw : ByteArray := B #[97, 98, 115]
def gr : ByteArray := B #[108, 101, 110]
def words : List ByteArray := [B #[97, 110, 100], B #[111, 114], B #[110, 111, 116], B #[110, 117, 108, 108], B #[116, 114, 117, 101], B #[102, 97, 108, 115, 101]]
def arity (s : ByteArray) : Int := if s = gU ∨ s = gN ∨ s = jC ∨ s = ew then 2 else if s = gw ∨ s = gr then 1 else 0
def bF (op : Int) : Int := if op = 1 ∨ op = 2 then 0 else if op = 3 ∨ op = 4 then 1 else if op = 16 then -1 else 2
def bU (k : Int) (v : aD) : Int :=
  if v.kind ≠ 0 ∧ (v.kind ≠ k ∨ k < 1 ∨ 3 < k) then 14
  else if (v.kind = 1 ∧ (v.n < 0 ∨ 1 < v.n)) ∨ (v.kind = 2 ∧ l6 v.n = false) then 2
  else if v.kind = 3 ∧ 200 < v.s.size then 7
  else if (v.kind ≠ 3 ∧ v.s ≠ B #[]) ∨ ((v.kind = 0 ∨ v.kind = 3) ∧ v.n ≠ 0) then 1
  else 0
def lower (b : UInt8) : Bool := decide (97 ≤ b.toNat) && decide (b.toNat ≤ 122)
def mx (b : UInt8) : Bool := lower b || (decide (48 ≤ b.toNat) && decide (b.toNat ≤ 57)) || decide (b.toNat = 95)
def dv (s : ByteArray) : List UInt8 := s.data.toList
def fR (s : ByteArray) : Bool := !decide (s = B #[]) && decide (s.size ≤ 40) && lower ((dv s).headD 0) && (dv s).all mx && !(words.any fun w => decide (s = w))
def kW (b : UInt8) : Bool := decide (b.toNat < 32) || decide (126 < b.toNat) || decide (b.toNat = 34)
def ki (v : aD) : Int := if bU v.kind v ≠ 0 then bU v.kind v else if (dv v.s).any kW then 10 else 0
def marks : List UInt8 := [95, 46, 58, 47, 60, 62, 36, 42, 126, 45]
def lg (b : UInt8) : Bool := lower b || (decide (65 ≤ b.toNat) && decide (b.toNat ≤ 90)) || (decide (48 ≤ b.toNat) && decide (b.toNat ≤ 57)) || marks.any fun c => decide (c = b)
def ec (s : ByteArray) : Int := if s = B #[] ∨ 40 < s.size ∨ (dv s).all lg = false then 3 else 0
end Go.Tb
namespace Go.Tb
open Go.Ab
theorem lr {s : ByteArray} (h : dr (.string s) = true) : (dv s).length ≤ maxLen := by simpa [dr, dv] using h
theorem aK (s : ByteArray) : (dv s).length = s.size := by simp [dv]
theorem lZ (c : UInt8) : ∀ l : List UInt8, (0 ≤ Lib.indexByte l c) ↔ c ∈ l
  | [] => by simp [Lib.indexByte]
  | b :: l => by
    have ih := lZ c l
    have h1 := Lib.indexByte_ge l c
    simp only [Lib.indexByte, List.mem_cons]
    grind
theorem qW (l : List UInt8) (c : UInt8) : decide (0 ≤ Lib.indexByte l c) = l.any fun x => decide (x = c) := by
  rw [Bool.eq_iff_iff]
  simp [lZ]
theorem lT (c : UInt8) : ∀ l : List UInt8, Lib.indexByte l c ≤ l.length
  | [] => by simp [Lib.indexByte]
  | b :: l => by
    have ih := lT c l
    simp only [Lib.indexByte, List.length_cons]
    grind
theorem rD {s : ByteArray} (h : dr (.string s) = true) (c : UInt8) : dr (.int .i64 (Lib.indexByte (dv s) c)) = true := by
  have h1 := Lib.indexByte_ge (dv s) c
  have h2 := lT c (dv s)
  have h3 := lr h
  have h4 : maxLen = 9223372036854775807 := rfl
  simp only [dr, Bool.and_eq_true, decide_eq_true_eq]
  refine ⟨?_, ?_⟩
  · show -9223372036854775808 ≤ _; omega
  · show _ ≤ 9223372036854775807; omega
theorem qu {s : ByteArray} (h : s ≠ B #[]) : s[((0 : Int)).toNat]? = some ((dv s).headD 0) := by
  refine lq (k := 0) ?_
  have : dv s ≠ [] := by
    intro hb
    apply h
    have : s.data = #[] := by simpa [dv] using hb
    cases s; simp_all [B]
  show (dv s)[0]? = _
  cases hb : dv s with
  | nil => exact absurd hb this
  | cons b l => rfl
theorem jc {s : ByteArray} : s = B #[] ↔ dv s = [] := by
  constructor
  · rintro rfl; rfl
  · intro hb
    have : s.data = #[] := by simpa [dv] using hb
    cases s; simp_all [B]
end Go.Tb
namespace Go.Tb
open Go.Ab
section
variable {P : Program} {C : Ctx} {n : Nat} {Q : Exit → St → Prop} {c : Code} {f : List (Nat × A)} {bx : List (Nat × List A)} {lv : List Nat} {gen : Nat}
end
end Go.Tb
namespace Go.Tb
open Go.Ab
theorem yO {α : Type} {l : List α} {k : Nat} (h : k < l.length) : ∃ x, l[k]? = some x ∧ l.drop k = x :: l.drop (k + 1) := ⟨l[k], by simp [h], List.drop_eq_getElem_cons h⟩
theorem bL {P : Program} {C : Ctx} {n : Nat} {st : St} {o : Oper} {k : IntKind} {x y : Int} (h : Pu P C n st o (.d (.v (.int k x)))) (e : x = y) : Pu P C n st o (.d (.v (.int k y))) := e ▸ h
end Go.Tb
namespace Go.Tb
open Go.Ab
section
variable {P : Program} {C : Ctx} {n : Nat} {Q : Exit → St → Prop} {c : Code} {f : List (Nat × A)} {bx : List (Nat × List A)} {lv : List Nat} {gen : Nat}
theorem l5 {g j : Nat} {cells : List A} {es : List (List D)} (hb : ax bx g = some cells) (hv : cells[j]? = some (.d (.sl es))) (h : es.length ≤ maxLen → W P C n c Q ⟨f, bx, lv, gen⟩) : W P C n c Q ⟨f, bx, lv, gen⟩ := by
  intro tmps w ⟨G, hs⟩
  obtain ⟨b, cs, T, h1, h2, h3, h4, h5⟩ := hs.box g cells hb
  have hj : j < cs.size := by rw [h3]; exact (List.getElem?_eq_some_iff.1 hv).1
  have := h5 j cs[j] _ (by simp [hj]) hv
  generalize cs[j] = u at this
  cases this with | d hd => exact h hd.len.choose_spec.choose_spec.2 tmps w ⟨G, hs⟩
end
end Go.Tb
namespace Go.Tb
open Go.Ab
theorem Ex.w4 (op : Int) (name : ByteArray) (v : aD) (kids : List Ex) : (Ex.mk op name v kids).kids = kids := rfl
mutual
def gn : Ex → Int → Int × Int
  | .mk _ _ _ kids, n => ((fE kids (n + 1) 0).1, (fE kids (n + 1) 0).2 + 1)
def fE : List Ex → Int → Int → Int × Int
  | [], n, d => (n, d)
  | k :: r, n, d => if 200 < n then (n, d) else fE r (gn k n).1 (if d < (gn k n).2 then (gn k n).2 else d)
end
theorem vp (e : Ex) (n : Int) : gn e n = ((fE e.kids (n + 1) 0).1, (fE e.kids (n + 1) 0).2 + 1) := by cases e; simp [gn, Ex.w4]
mutual
def sW : Ex → Int
  | .mk _ _ _ kids => se kids 0 + 1
def se : List Ex → Int → Int
  | [], d => d
  | k :: r, d => se r (if d < sW k then sW k else d)
end
mutual
def nO : Ex → Int
  | .mk _ _ _ kids => ke kids + 1
def ke : List Ex → Int
  | [] => 0
  | k :: r => nO k + ke r
end
mutual
theorem sF : ∀ e : Ex, 1 ≤ nO e
  | .mk _ _ _ kids => by have := n0 kids; simp only [nO]; omega
theorem n0 : ∀ l : List Ex, 0 ≤ ke l
  | [] => by simp [ke]
  | k :: r => by have := sF k; have := n0 r; simp only [ke]; omega
end
mutual
theorem om : ∀ (e : Ex) (n : Int), 0 ≤ n → n ≤ 200 → n < (gn e n).1 ∧ (gn e n).1 ≤ 201 ∧ 1 ≤ (gn e n).2 ∧ (gn e n).2 ≤ (gn e n).1 - n ∧
    (n + nO e ≤ 200 → gn e n = (n + nO e, sW e)) ∧ (200 < n + nO e → 200 < (gn e n).1)
  | .mk op name v kids, n, h0, h1 => by
    have := qh kids (n + 1) 0 (by omega) (by omega) (by omega)
    simp only [gn, nO, sW]
    refine ⟨by omega, by omega, by omega, by omega, fun h => ?_, fun h => ?_⟩
    · have := this.2.2.2.2.1 (by omega)
      rw [this]; simp; omega
    · have := this.2.2.2.2.2 (by omega)
      omega
theorem qh : ∀ (l : List Ex) (n d : Int), 0 ≤ n → n ≤ 201 → 0 ≤ d → n ≤ (fE l n d).1 ∧ (fE l n d).1 ≤ 201 ∧ d ≤ (fE l n d).2 ∧ (fE l n d).2 ≤ d + ((fE l n d).1 - n) ∧
    (n + ke l ≤ 200 → fE l n d = (n + ke l, se l d)) ∧ (200 < n + ke l → 200 < (fE l n d).1)
  | [], n, d, h0, h1, h2 => by simp only [fE, ke, se]; refine ⟨by omega, by omega, by omega, by omega, fun h => by simp, fun h => by omega⟩
  | k :: r, n, d, h0, h1, h2 => by
    simp only [fE]
    have c1 := sF k
    have c2 := n0 r
    split
    · simp only [ke]; refine ⟨by omega, by omega, by omega, by omega, fun h => by omega, fun h => by omega⟩
    · rename_i hn
      obtain ⟨a1, a2, a3, a4, a5, a6⟩ := om k n h0 (by omega)
      generalize hd' : (if d < (gn k n).2 then (gn k n).2 else d) = d'
      have hd1 : d ≤ d' ∧ d' ≤ d + ((gn k n).1 - n) ∧ 0 ≤ d' := by rw [← hd']; split <;> omega
      obtain ⟨b1, b2, b3, b4, b5, b6⟩ := qh r (gn k n).1 d' (by omega) (by omega) (by omega)
      simp only [ke, se]
      refine ⟨by omega, by omega, by omega, by omega, fun h => ?_, fun h => ?_⟩
      · have e := a5 (by omega)
        rw [e] at b5 hd' ⊢
        simp only at b5 hd' ⊢
        rw [b5 (by omega), ← hd']
        simp; omega
      · by_cases hk : n + nO k ≤ 200
        · have e := a5 hk
          rw [e] at b6 ⊢
          exact b6 (by simp only; omega)
        · have := a6 (by omega)
          omega
end
mutual
def deep : Ex → Int → Int → Int
  | .mk op name v kids, level, left => if level < 1 ∨ left - 1 < 0 ∨ 300 < name.size ∨ 300 < v.s.size then -1 else wq kids level (left - 1)
def wq : List Ex → Int → Int → Int
  | [], _, left => left
  | k :: r, level, left => if deep k (level - 1) left < 0 then -1 else wq r level (deep k (level - 1) left)
end
def small (e : Ex) : Bool := decide (0 ≤ deep e 40 300)
def zeroV (v : aD) : Bool := decide (v.kind = 0) && (decide (v.n = 0) && (decide (v.s = B #[]) && true))
def bc (e : Ex) : Int :=
  if e.op < 1 ∨ 16 < e.op then 1
  else if (e.op ≠ 2 ∧ e.op ≠ 16 ∧ e.name ≠ B #[]) ∨ (e.op ≠ 1 ∧ zeroV e.v = false) ∨ (0 ≤ bF e.op ∧ (e.kids.length : Int) ≠ bF e.op) then 1
  else if e.op = 1 then ki e.v
  else if e.op = 2 then if fR e.name then 0 else 3
  else if e.op = 16 then
    if fR e.name = false then 3 else if arity e.name = 0 then 5 else if (e.kids.length : Int) ≠ arity e.name then 1 else 0
  else 0
mutual
def db : Ex → Int
  | .mk op name v kids => if bc (.mk op name v kids) ≠ 0 then bc (.mk op name v kids) else eE kids
def eE : List Ex → Int
  | [] => 0
  | k :: r => if db k ≠ 0 then db k else eE r
end
theorem kR (e : Ex) : db e = if bc e ≠ 0 then bc e else eE e.kids := by cases e; simp [db, Ex.kids]
def fZ (e : Ex) : Int := if 200 < nO e then 7 else if 16 < sW e then 20 else db e
end Go.Tb
namespace Go.Tb
open Go.Ab
def both (a b w : Int) : Bool := fits a w && fits b w
def cD (ok : Bool) (k : Int) : Int × Int := (if ok then k else 0, if ok then 0 else 14)
def gf (name : ByteArray) (a b : Int) : Int × Bool :=
  if name = gw then (2, fits a 2) else if name = gr then (2, fits a 3)
  else if name = jC ∨ name = ew then (1, both a b 3) else (if a < b then b else a, both a b 2 || both a b 3)
def gC (op : Int) (name : ByteArray) (a b : Int) : Int × Bool :=
  if op = 3 then (1, fits a 1) else if op = 14 ∨ op = 15 then (1, both a b 1) else if op = 4 then (2, fits a 2)
  else if op = 10 ∨ op = 11 then (1, fits a b || fits b a) else if op = 12 ∨ op = 13 then (1, both a b 2 || both a b 3)
  else if op = 16 then gf name a b else (2, both a b 2)
def aV (ab : List Col) (name : ByteArray) : Option Col := ab.find? fun x => decide (x.name = name)
mutual
def eX (ab : List Col) : Ex → Int × Int
  | .mk op name v kids =>
    if op = 1 then (v.kind, 0)
    else if op = 2 then (match aV ab name with | some c => (c.type, 0) | none => (0, 16))
    else if (fL ab kids []).1 ≠ 0 then (0, (fL ab kids []).1)
    else cD (gC op name ((fL ab kids []).2.getD 0 0) ((fL ab kids []).2.getD 1 0)).2 (gC op name ((fL ab kids []).2.getD 0 0) ((fL ab kids []).2.getD 1 0)).1
def fL (ab : List Col) : List Ex → List Int → Int × List Int
  | [], ks => (0, ks)
  | k :: r, ks => if (eX ab k).2 ≠ 0 then ((eX ab k).2, []) else fL ab r (ks ++ [(eX ab k).1])
end
theorem xE (ab : List Col) (e : Ex) : eX ab e = (
    if e.op = 1 then (e.v.kind, 0)
    else if e.op = 2 then (match aV ab e.name with | some c => (c.type, 0) | none => (0, 16))
    else if (fL ab e.kids []).1 ≠ 0 then (0, (fL ab e.kids []).1)
    else cD (gC e.op e.name ((fL ab e.kids []).2.getD 0 0) ((fL ab e.kids []).2.getD 1 0)).2 (gC e.op e.name ((fL ab e.kids []).2.getD 0 0) ((fL ab e.kids []).2.getD 1 0)).1 : Int × Int) := by
  cases e; simp only [eX]; rfl
theorem uj {e : Ex} (h : bc e = 0) : (e.op = 1 ∨ e.op = 2 → e.kids = []) ∧ (e.op = 3 ∨ e.op = 4 → e.kids.length = 1) ∧ (e.op = 16 → (e.kids.length : Int) = arity e.name ∧ arity e.name ≠ 0) ∧
    (e.op ≠ 1 → e.op ≠ 2 → e.op ≠ 3 → e.op ≠ 4 → e.op ≠ 16 → e.kids.length = 2) ∧ e.kids.length ≤ 2 ∧ 1 ≤ e.op ∧ e.op ≤ 16 := by
  simp only [bc, bF] at h
  have ha : arity e.name ≤ 2 := by simp only [arity]; split <;> (try split) <;> omega
  have h0 : e.kids = [] ↔ e.kids.length = 0 := List.length_eq_zero_iff.symm
  grind (splits := 30)
theorem oN {k : Ex} : ∀ {l : List Ex}, eE l = 0 → k ∈ l → db k = 0
  | [], _, hk => by simp at hk
  | a :: r, h, hk => by
    simp only [eE] at h
    by_cases ha : db a = 0
    · rw [if_neg (by simpa using ha)] at h
      rcases List.mem_cons.1 hk with rfl | hk
      · exact ha
      · exact oN h hk
    · rw [if_pos ha] at h; exact absurd h ha
theorem vg {e k : Ex} (h : db e = 0) (hk : k ∈ e.kids) : db k = 0 := by
  rw [kR] at h
  by_cases ha : bc e = 0
  · rw [if_neg (by simpa using ha)] at h; exact oN h hk
  · rw [if_pos ha] at h; exact absurd h ha
theorem ui {e : Ex} (h : db e = 0) : bc e = 0 := by
  rw [kR] at h
  by_cases ha : bc e = 0
  · exact ha
  · rw [if_pos ha] at h; exact absurd h ha
end Go.Tb
namespace Go.Tb
open Go.Ab
theorem tm {α : Type} {l : List α} (h : l.length = 1) : ∃ a, l = [a] := by
  match l, h with
  | [a], _ => exact ⟨a, rfl⟩
theorem bT {α : Type} {l : List α} (h : l.length = 2) : ∃ a b, l = [a, b] := by
  match l, h with
  | [a, b], _ => exact ⟨a, b, rfl⟩
theorem va {s : ByteArray} (h : s = gw ∨ s = gr) : arity s = 1 := by
  rcases h with rfl | rfl <;> decide
theorem xJ {s : ByteArray} (h : arity s ≠ 0) (h1 : s ≠ gw) (h2 : s ≠ gr) : arity s = 2 := by
  simp only [arity] at *
  split
  · rfl
  · simp_all
theorem ql {s : ByteArray} (h : s = gU ∨ s = gN) (a b : Int) : gf s a b = (if a < b then b else a, both a b 2 || both a b 3) := by
  rcases h with rfl | rfl <;> simp [gf, gU, gN, gw, gr, jC, ew]
theorem vm {s : ByteArray} (h : arity s ≠ 0) (h1 : s ≠ gU) (h2 : s ≠ gN) (h3 : s ≠ gw) (h4 : s ≠ gr) (a b : Int) : gf s a b = (1, both a b 3) := by
  have : s = jC ∨ s = ew := by
    simp only [arity] at h
    by_cases h5 : s = jC
    · exact .inl h5
    · by_cases h6 : s = ew
      · exact .inr h6
      · simp_all
  simp [gf, h3, h4, this]
theorem jk {α : Type} {l : List α} {p : α → Bool} (h : ¬ idx (l.findIdx? p) < 0) : ∃ i c, l.findIdx? p = some i ∧ l[i]? = some c ∧ l.find? p = some c ∧ p c = true := by
  cases hf : l.findIdx? p with
  | none => rw [hf] at h; exact absurd (by decide : idx none < 0) h
  | some i =>
    obtain ⟨hi, hp, hmin⟩ := List.findIdx?_eq_some_iff_getElem.1 hf
    refine ⟨i, l[i], rfl, by simp [hi], ?_, hp⟩
    rw [List.find?_eq_some_iff_getElem]
    exact ⟨hp, i, hi, rfl, fun j hj => by simpa using hmin j hj⟩
theorem jq {α : Type} {l : List α} {p : α → Bool} (h : idx (l.findIdx? p) < 0) : l.find? p = none := by
  cases hf : l.findIdx? p with
  | some i => rw [hf] at h; exact absurd h (by simp [idx])
  | none => rw [List.findIdx?_eq_none_iff] at hf; rw [List.find?_eq_none]; intro x hx; simp [hf x hx]
end Go.Tb
namespace Go.Tb
open Go.Ab
theorem wy {ks : List Int} (h : 1 ≤ ks.length) : (ks.map ic)[((0 : Int)).toNat]? = some (ic (ks.getD 0 0)) := by
  match ks, h with
  | a :: _, _ => rfl
theorem wC {ks : List Int} (h : 2 ≤ ks.length) : (ks.map ic)[((1 : Int)).toNat]? = some (ic (ks.getD 1 0)) := by
  match ks, h with
  | _ :: b :: _, _ => rfl
theorem da {ks : List Int} (h : ks.length ≤ 2) : ks = [] ∨ (∃ a, ks = [a]) ∨ ∃ a b, ks = [a, b] := by
  match ks, h with
  | [], _ => exact .inl rfl
  | [a], _ => exact .inr (.inl ⟨a, rfl⟩)
  | [a, b], _ => exact .inr (.inr ⟨a, b, rfl⟩)
end Go.Tb
namespace Go.Tb
theorem mw {e : Ex} (h : fZ e = 0) : db e = 0 := by
  simp only [fZ] at h
  by_cases h1 : 200 < nO e
  · rw [if_pos h1] at h; exact absurd h (by decide)
  · rw [if_neg h1] at h
    by_cases h2 : 16 < sW e
    · rw [if_pos h2] at h; exact absurd h (by decide)
    · rw [if_neg h2] at h; exact h
end Go.Tb
namespace Go.Tb
open Go.Ab
theorem wrap_zero {x : Int} (h0 : 0 ≤ x) (h1 : x < 18446744073709551616) : (IntKind.i64.wrap x = 0) ↔ x = 0 := by
  simp only [IntKind.wrap, IntKind.signed, IntKind.bits]
  simp
  omega
def cO (ks : List ByteArray) (s : ByteArray) : Int := if fR s = false then 3 else if ks.any (fun x => decide (s = x)) then 4 else 0
def et (ks : List ByteArray) (s : ByteArray) : List ByteArray := if cO ks s = 0 then ks ++ [s] else ks
def dH : List ByteArray → List ByteArray → Int
  | _, [] => 0
  | ks, s :: r => if cO ks s ≠ 0 then cO ks s else dH (ks ++ [s]) r
def iv : List ByteArray → List ByteArray → List ByteArray
  | ks, [] => ks
  | ks, s :: r => if cO ks s ≠ 0 then ks else iv (ks ++ [s]) r
theorem rm : ∀ (ks l : List ByteArray), dH ks l = 0 → iv ks l = ks ++ l
  | ks, [], _ => by simp [iv]
  | ks, s :: r, h => by
    simp only [dH] at h
    split at h
    · rename_i h1; exact absurd h h1
    · rename_i h1
      simp only [iv]
      rw [if_neg h1, rm (ks ++ [s]) r h]
      simp
def dZ (n least : Int) : Int := if n < least then 8 else if 16 < n then 7 else 0
def dG (l : List ByteArray) (least : Int) : Int := if dZ l.length least ≠ 0 then dZ l.length least else dH [] l
def gG : List ByteArray → List mW → Int
  | _, [] => 0
  | ks, x :: r => if fZ x.e ≠ 0 then fZ x.e else if cO ks x.name ≠ 0 then cO ks x.name else gG (ks ++ [x.name]) r
def jm : ByteArray := B #[99, 111, 117, 110, 116]
def nU : ByteArray := B #[115, 117, 109]
def uN : ByteArray := B #[102, 105, 114, 115, 116]
def aJ : ByteArray := B #[102, 114, 111, 109]
def br : ByteArray := B #[116, 111]
def oy (a : qw) : Bool := decide (a.fn = nU) || decide (a.fn = gU) || decide (a.fn = gN) || decide (a.fn = uN)
def mz (a : qw) : Bool := if a.fn = jm then !decide (a.col = B #[]) else !oy a || decide (a.col = B #[])
def kj : List ByteArray → List qw → Int
  | _, [] => 0
  | ks, a :: r => if mz a = true then 5 else if a.col ≠ B #[] ∧ fR a.col = false then 3 else if cO ks a.name ≠ 0 then cO ks a.name else kj (ks ++ [a.name]) r
def iM (s : fx) : Int :=
  if s.ab.length + s.aggs.length = 0 then 8 else if 16 < s.ab.length ∨ 16 < s.aggs.length then 7
  else if dH [] s.ab ≠ 0 then dH [] s.ab else kj s.ab s.aggs
def uf (e : Ex) : Bool := decide (e.op = 0) && decide (e.name = B #[]) && zeroV e.v && decide (e.kids.length = 0)
def fz (op : Int) : Bool := decide (op = 6) || decide (op = 7) || decide (op = 8)
def gI (s : fx) : Bool :=
  !(decide (s.op < 1) || decide (9 < s.op)) &&
  !(!decide (s.op = 1) && !uf s.cond) && !(!decide (s.op = 2) && decide (0 < s.items.length)) && !(!decide (s.op = 3) && decide (0 < s.aggs.length)) &&
  !(!decide (s.op = 4) && decide (0 < s.sorts.length)) && !(!decide (s.op = 5) && !decide (s.n = 0)) && !(!fz s.op && !decide (s.table = B #[])) &&
  (decide (s.op = 3) || fz s.op || decide (s.op = 9) || decide (s.ab.length = 0))
def b9 (s : fx) : Int :=
  if gI s = false then 1
  else if s.op = 1 then fZ s.cond
  else if s.op = 2 then (if dZ s.items.length 1 ≠ 0 then dZ s.items.length 1 else gG [] s.items)
  else if s.op = 3 then iM s
  else if s.op = 4 then dG (s.sorts.map qk.col) 1
  else if s.op = 5 then (if s.n < 0 ∨ 20000 < s.n then 2 else 0)
  else if s.op = 9 then dG s.ab 0
  else if fR s.table = false then 3
  else dG s.ab (if s.op = 6 then 1 else 0)
/-! tables -/
def eS (ab : List Col) (k : Nat) (c : Col) : Int :=
  if ec c.name ≠ 0 then ec c.name else if (ab.take k).any (fun x => decide (x.name = c.name)) then 4 else if c.type ≠ 1 ∧ c.type ≠ 2 ∧ c.type ≠ 3 then 14 else 0
def ez (ab : List Col) : Nat → List Col → Int
  | _, [] => 0
  | k, c :: r => if eS ab k c ≠ 0 then eS ab k c else ez ab (k + 1) r
def dq : List Col → List aD → Int
  | c :: ab, v :: r => if bU c.type v ≠ 0 then bU c.type v else dq ab r
  | _, _ => 0
def eP (ab : List Col) : List (List aD) → Int
  | [] => 0
  | x :: r => if x.length ≠ ab.length then 10 else if dq ab x ≠ 0 then dq ab x else eP ab r
def bu (t : bj) : Int := if 32 < t.ab.length ∨ 20000 < t.rows.length then 7 else if ez t.ab 0 t.ab ≠ 0 then ez t.ab 0 t.ab else eP t.ab t.rows
def eD (d : List kF) (name : ByteArray) : Option bj := (d.find? fun x => decide (x.name = name)).map kF.table
end Go.Tb
namespace Go.Ab
open Go.RowKit
section
variable {P : Program} (T : cd P) {C : Ctx} {n : Nat} {ops : Array Oper} {Q : Exit → St → Prop} {rest : List Oper} {c : Code}
variable {f : List (Nat × A)} {bx : List (Nat × List A)} {lv : List Nat} {gen d : Nat} {ty : TypeId} {pos : String} {af : Array Edge} {a : A} {dst : Option Nat}
theorem wA {α : Type} {fn : α → List D} {l : List α} {t e k : Nat} {x hi : Operand} {td ed : bW} {kh : IntKind} (hx : av f x = some a) (hes : gu a = some (l.map fn)) (hhi : av f hi = some (.d (.v (.int kh (k : Int))))) (ht : ax T.l t = some td) (hk : td.k = .slice e)
    (he : ax T.l e = some ed) (hl : ∀ a, (fn a).length = ed.n) (h1 : k ≤ l.length) : Pu P C n ⟨f, bx, lv, gen⟩ ⟨dst, .slice t x none (some hi) none, ty, pos, af, none⟩ (.d (.sl ((l.take k).map fn))) := by
  have := yI T (C := C) (n := n) (bx := bx) (lv := lv) (gen := gen) (ty := ty) (pos := pos) (af := af) (dst := dst) hx hes hhi ht hk he (Int.natCast_nonneg k) (by simpa using h1) (wG hl)
  simpa [List.map_take] using this
end
end Go.Ab
namespace Go.Tb
open Go.Ab
abbrev CT := List Col × Int
def bX (ab : List Col) : List Col → List ByteArray → CT
  | out, [] => (out, 0)
  | out, s :: r => match aV ab s with
    | none => ([], 16)
    | some c => bX ab (out ++ [c]) r
def cH (ab : List Col) (name : ByteArray) : Int := match aV ab name with
  | none => 16
  | some c => if c.type ≠ 2 then 14 else 0
def mI (ab : List Col) : List Col → List mW → CT
  | out, [] => (out, 0)
  | out, x :: r => if (eX ab x.e).2 ≠ 0 then ([], (eX ab x.e).2) else if (eX ab x.e).1 = 0 then ([], 14) else mI ab (out ++ [⟨x.name, (eX ab x.e).1⟩]) r
def oh (ab : List Col) : List Col → List qw → CT
  | out, [] => (out, 0)
  | out, a :: r => if a.fn = jm then oh ab (out ++ [⟨a.name, 2⟩]) r
    else match aV ab a.col with
      | none => ([], 16)
      | some c => if a.fn = nU ∧ c.type ≠ 2 then ([], 14) else oh ab (out ++ [⟨a.name, c.type⟩]) r
def k9 (ab : List Col) (s : fx) : CT := if (bX ab [] s.ab).2 ≠ 0 then ([], (bX ab [] s.ab).2) else oh ab (bX ab [] s.ab).1 s.aggs
def gg (ab : List Col) (s : fx) : CT :=
  if s.ab.any (fun x => decide (aJ = x)) || s.ab.any (fun x => decide (br = x)) then ([], 4)
  else if (bX ab [] s.ab).2 ≠ 0 then ([], (bX ab [] s.ab).2)
  else if cH ab aJ ≠ 0 then ([], cH ab aJ)
  else if cH ab br ≠ 0 then ([], cH ab br)
  else ((bX ab [] s.ab).1 ++ [⟨aJ, 2⟩, ⟨br, 2⟩], 0)
def aZ (op : Int) : List ByteArray := if op = 7 then [aJ, br] else if op = 8 then [aJ] else []
def eO (ab right : List Col) : List ByteArray → Int
  | [] => 0
  | s :: r => match aV ab s, aV right s with
    | some a, some b => if a.type ≠ b.type then 14 else eO ab right r
    | _, _ => 16
def dd (ab : List Col) : List ByteArray → Int
  | [] => 0
  | s :: r => if cH ab s ≠ 0 then cH ab s else dd ab r
def eT (on spans : List ByteArray) (right : List Col) : List Col := right.filter fun c => !(on.any fun x => decide (c.name = x)) && !(spans.any fun x => decide (c.name = x))
def gh : List Col → Nat → List Col → Bool
  | _, _, [] => false
  | all, k, c :: r => (all.take k).any (fun x => decide (x.name = c.name)) || gh all (k + 1) r
def vP (out : List Col) : CT := if gh out 0 out = true then ([], 4) else if 32 < out.length then ([], 7) else (out, 0)
def pC (ab right : List Col) (s : fx) : CT :=
  if (aZ s.op).any (fun n => s.ab.any fun x => decide (n = x)) then ([], 4)
  else if eO ab right s.ab ≠ 0 then ([], eO ab right s.ab)
  else if dd ab (aZ s.op) ≠ 0 then ([], dd ab (aZ s.op))
  else if dd right (aZ s.op) ≠ 0 then ([], dd right (aZ s.op))
  else vP (ab ++ eT s.ab (aZ s.op) right)
def hH (d : List kF) (ab : List Col) (s : fx) : CT := match eD d s.table with
  | none => ([], 17)
  | some t => pC ab t.ab s
def iV (ab : List Col) (e : Ex) : Int := if (eX ab e).2 = 0 ∧ fits (eX ab e).1 1 = false then 14 else (eX ab e).2
def jO (ab : List Col) (l : List qk) : Bool := l.any fun x => !(ab.any fun c => decide (c.name = x.col))
def eh (d : List kF) (ab : List Col) (s : fx) : CT :=
  if b9 s ≠ 0 then ([], b9 s)
  else if s.op = 1 then (if iV ab s.cond ≠ 0 then ([], iV ab s.cond) else (ab, 0))
  else if s.op = 2 then mI ab [] s.items
  else if s.op = 3 then k9 ab s
  else if s.op = 4 then (if jO ab s.sorts = true then ([], 16) else (ab, 0))
  else if s.op = 9 then gg ab s
  else if s.op = 6 ∨ s.op = 7 ∨ s.op = 8 then hH d ab s
  else (ab, 0)
end Go.Tb
namespace Go.Ab
open Go.RowKit
section
variable {P : Program} (T : cd P) {C : Ctx} {n : Nat} {ops : Array Oper} {Q : Exit → St → Prop} {rest : List Oper} {c : Code}
variable {f : List (Nat × A)} {bx : List (Nat × List A)} {lv : List Nat} {gen d : Nat} {ty : TypeId} {pos : String} {af : Array Edge} {a : A} {dst : Option Nat}
theorem fW {α : Type} {fn : α → List D} {l l2 : List α} {x y : Operand} {t e : Nat} {td ed : bW} {g : Nat} {b : A} (hx : av f x = some (.own g (l.map fn))) (hy : av f y = some b) (hb2 : gu b = some (l2.map fn)) (ht : ax T.l t = some td) (hk : td.k = .slice e)
    (he : ax T.l e = some ed) (hgl : (lv.any fun h => Nat.beq h g) = true) (hz : Nat.blt 0 ed.n = true) (hb0 : Nat.blt 0 ed.b = true) (hd : Nat.blt d n = true) (hl : ∀ a, (fn a).length = ed.n) (hb : (l.length + l2.length) * ed.b ≤ 140737488355328)
    (h : WO P C n ops Q rest ⟨(d, .own gen ((l ++ l2).map fn)) :: f, bx, gen :: dz lv g, gen + 1⟩) : WO P C n ops Q (⟨some d, .call ⟨.builtin .append, #[x, y], #[t, t]⟩, ty, pos, af, none⟩ :: rest) ⟨f, bx, lv, gen⟩ := by
  obtain ⟨g', hg1, hg2⟩ := List.any_eq_true.1 hgl
  have hgm : g ∈ lv := Nat.eq_of_beq_eq_true hg2 ▸ hg1
  refine s7 T hx hy hb2 ht hk he hgm hz hb0 hd (fun z hzm => ?_) (by simpa using hb) ?_
  · rcases List.mem_append.1 hzm with h | h <;> (obtain ⟨a', _, rfl⟩ := List.mem_map.1 h; exact hl a')
  · rw [List.map_append] at h
    exact h
theorem re {t e len : Nat} {parts : Array (Nat × Operand)} {td ed : bW} {es : List (List D)} (ht : ax T.l t = some td) (hk : td.k = .slice e) (he : ax T.l e = some ed) (hes : jA f 0 parts.toList = some es) (hlen : es.length = len)
    (hz : Nat.blt 0 ed.n = true) (hsm : Nat.ble (len * ed.n) 16777216 = true) (hl : pf ed.n es = true) (hd : Nat.blt d n = true)
    (h : WO P C n ops Q rest ⟨(d, .own gen es) :: f, bx, gen :: lv, gen + 1⟩) : WO P C n ops Q (⟨some d, .buildSlice t len parts, ty, pos, af, none⟩ :: rest) ⟨f, bx, lv, gen⟩ :=
  WO.buildSlice (st := ⟨f, bx, lv, gen⟩) T rfl hd rfl ht hk he hes hlen hz hsm (mv hl) h
end
end Go.Ab
namespace Go.Ab
open Go.RowKit
def pG (bx : List (Nat × List A)) : List Nat → List (Nat × List A)
  | [] => []
  | g :: r => match ax bx g with
    | some c => (g, c) :: pG bx r
    | none => pG bx r
section
variable {P : Program} {C : Ctx} {n : Nat} {Q : Exit → St → Prop} {c : Code} {st : St}
variable {f f' fi : List (Nat × A)} {bx bx' bi : List (Nat × List A)} {lv lv' : List Nat} {gen gen' : Nat}
def QC (C : Ctx) (n : Nat) (S : St) (Q : Exit → St → Prop) : Exit → St → Prop
  | .normal, st => ∀ (tmps : Array Value) (w : World), gH C n st tmps w → gH C n S tmps w
  | e, st => Q e st
theorem W.tj (V : List (Nat × A)) (ts : List Nat) (B : List (Nat × List A)) (bs : List Nat) (lv' : List Nat) (gen' : Nat) (h : W P C n c (QC C n ⟨V ++ cf f ts, B ++ pG bx bs, lv', gen'⟩ Q) ⟨f, bx, lv, gen⟩)
    (hq : Q .normal ⟨V ++ cf f ts, B ++ pG bx bs, lv', gen'⟩) : W P C n c Q ⟨f, bx, lv, gen⟩ :=
  fun tmps w hs => wp_mono (h tmps w hs) fun e act w ⟨hd, st', hs, he⟩ => by
    cases e with
    | normal => exact ⟨hd, _, he _ _ hs, hq⟩
    | _ => exact ⟨hd, st', hs, he⟩
theorem iC {nb : Nat} [hnb : NB C nb] (order : List Nat) (ho : j6 order gen' nb = true) (hf : mq order f f') (hfi : mU f fi) (hb : ja order bx bx') (hbi : kD order bx bi) (hl : qF order lv lv' = true) :
    QC C n ⟨f' ++ fi, bx' ++ bi, lv', gen'⟩ Q .normal ⟨f, bx, lv, gen⟩ := fun _ _ h => gH.bG order ho hf hfi hb hbi hl h
end
end Go.Ab
namespace Go.Tb
open Go.Ab
end Go.Tb
namespace Go.Ab
open Go.RowKit
mutual
def kL : D → D
  | .v x => bif isNil (.d (.v x)) then .sl [] else .v x
  | .sl es => .sl (oU es)
def nx : List D → List D
  | [] => []
  | x :: r => kL x :: nx r
def oU : List (List D) → List (List D)
  | [] => []
  | x :: r => nx x :: oU r
end
theorem jv : ∀ l, nx l = l.map kL
  | [] => rfl
  | x :: r => by simp [nx, jv r]
theorem pa : ∀ l, oU l = l.map nx
  | [] => rfl
  | x :: r => by simp [oU, pa r]
theorem bm.kL {w : World} {pv : Nat → Nat → Prop} {v : Value} {d : D} (h : bm w pv v d) : bm w pv v (Ab.kL d) := by
  induction h with
  | v x hx =>
    simp only [Ab.kL]
    cases hn : isNil (.d (.v x)) with
    | true =>
      have := vS hn
      simp only [A.d.injEq, D.v.injEq] at this
      subst this
      exact .nil
    | false => exact .v x hx
  | nil => exact .nil
  | emp a cap hm => exact .emp a cap hm
  | sl b off len cap sz es u hl hc hm hs hu _ ih =>
    simp only [Ab.kL, pa]
    refine .sl b off len cap sz _ u (by simpa using hl) hc hm (fun i e he => ?_) hu (fun i j e d he hd => ?_)
    · rw [List.getElem?_map, Option.map_eq_some_iff] at he
      obtain ⟨e0, he0, rfl⟩ := he
      rw [jv, List.length_map]
      exact hs i e0 he0
    · rw [List.getElem?_map, Option.map_eq_some_iff] at he
      obtain ⟨e0, he0, rfl⟩ := he
      rw [jv, List.getElem?_map, Option.map_eq_some_iff] at hd
      obtain ⟨d0, hd0, rfl⟩ := hd
      exact ih i j e0 d0 he0 hd0
def nZ : A → A
  | .d x => .d (kL x)
  | .ag l => .ag (nx l)
  | a => a
theorem aS.nZ {E : En} {v : Value} {a : A} (h : aS E v a) : aS E v (Ab.nZ a) := by
  cases h with
  | d hd => exact .d hd.kL
  | ag vs l hs hd =>
    refine .ag vs _ (by rw [jv]; simpa using hs) (fun i u x hu hx => ?_)
    rw [jv, List.getElem?_map, Option.map_eq_some_iff] at hx
    obtain ⟨y, hy, rfl⟩ := hx
    exact (hd i u y hu hy).kL
  | any => exact .any _
  | ni t x => exact .ni t x
  | fl _ es hd hfl => exact .fl _ es hd hfl
  | own _ g es hd hg hr => exact .own _ g es hd hg hr
  | agg vs l hs ho hd => exact .agg vs l hs ho hd
  | tup vs l hs hd => exact .tup vs l hs hd
  | rowd b off l u hc hd => exact .rowd b off l u hc hd
  | row b off l u hc hd => exact .row b off l u hc hd
  | ptr _ g off b hg hb hp => exact .ptr _ g off b hg hb hp
  | xs _ g es hg h1 hx => exact .xs _ g es hg h1 hx
  | xp _ g i off l hg h1 hx => exact .xp _ g i off l hg h1 hx
  | mp _ g es hg h1 hx => exact .mp _ g es hg h1 hx
  | bf _ g T s hg h1 hx => exact .bf _ g T s hg h1 hx
  | np _ g T b hg hb hT u hx => exact .np _ g T b hg hb hT u hx
  | sb _ g n c b hg hb hn hx => exact .sb _ g n c b hg hb hn hx
  | clo f vs l hs hd => exact .clo f vs l hs hd
  | bnd f vs l hs hd => exact .bnd f vs l hs hd
theorem aw.nZ {P : Program} [eK P] {f : FuncId} {args : List A} {r : A} {k : Nat} (h : aw P f (args.map Ab.nZ) r k) : aw P f args r k :=
  ⟨h.ok, fun C vals w hG hw hp hx hsz hrep => h.calls C vals w hG hw hp hx (by simpa using hsz) (fun i u a hu ha => by
    rw [List.getElem?_map, Option.map_eq_some_iff] at ha
    obtain ⟨y, hy, rfl⟩ := ha
    exact (hrep i u y hu hy).nZ)⟩
section
variable {P : Program} {C : Ctx} {n : Nat} {ops : Array Oper} {Q : Exit → St → Prop} {rest : List Oper} {c : Code}
variable {f : List (Nat × A)} {bx : List (Nat × List A)} {lv : List Nat} {gen d : Nat} {ty : TypeId} {pos : String} {af : Array Edge} {a : A} {dst : Option Nat}
theorem qb [eK P] [GC P C] {x : Operand} {xs : Array Operand} {tys : Array TypeId} {fid : FuncId} {caps as' args : List A} (hx : av f x = some (.clo fid caps)) (hxs : iJ f xs.toList = some as') (harg : ((as' ++ caps).map (conv bx 5)).map nZ = args) (hf : aw P fid args a 0) (hr : dg a = true) :
    Pu P C n ⟨f, bx, lv, gen⟩ ⟨dst, .call ⟨.value x, xs, tys⟩, ty, pos, af, none⟩ a := by
  subst harg
  exact Pu.call (st := ⟨f, bx, lv, gen⟩) rfl hx hxs hf.nZ hr
end
end Go.Ab
namespace Go.Tb
open Go.Ab
section
variable {P : Program} {T : cd P} {l : List D}
variable {ts ti tk tc tcs tv tr trs tt tn te teo tes tit titl ttl tag tagl tso tsol tb top tst tstl tq : Nat}
variable {o1 o2 o3 o4 o5 o6 o7 o8 p1 p2 p3 p4 p5 p6 p7 p8 q1 q2 q3 q4 q5 q6 q7 q8 r1 r2 r3 r4 r5 : Nat}
variable {n1 n2 n3 n4 n5 n6 n7 n8 m1 m2 m3 m4 m5 m6 m7 m8 k1 k2 k3 k4 k5 k6 k7 k8 j1 j2 j3 j4 j5 : String}
theorem vC (h : cc T tt l) (ht : bJ T tt = .st [(o1, tcs, n1), (o2, trs, n2)]) (hcs : bJ T tcs = .slice tc) (hc : bJ T tc = .st [(o3, ts, n3), (o4, tk, n4)]) (hs : bJ T ts = .str) (hk : bJ T tk = .int .i64)
    (hrs : bJ T trs = .slice tr) (hr : bJ T tr = .slice tv) (hv : bJ T tv = .st [(o5, tk, n5), (o6, ti, n6), (o7, ts, n7)]) (hi : bJ T ti = .int .i64) : ∃ x : bj, l = x.c := by
  obtain ⟨p, q, rfl, h1, h2⟩ := rU h ht
  obtain ⟨ab, rfl⟩ := m9 h1 hcs (fun x hx => vV hx hc hs hk)
  obtain ⟨rows, rfl⟩ := m9 (f := rc) h2 hrs (fun x hx => by
    obtain ⟨r, rfl⟩ := m9 hx hr (fun y hy => vB hy hv hk hi hs)
    exact ⟨r, rfl⟩)
  exact ⟨⟨ab, rows⟩, rfl⟩
end
end Go.Tb
namespace Go.Ab
open Go.RowKit
section
variable {P : Program} {C : Ctx} {n : Nat}
variable {f : List (Nat × A)} {bx : List (Nat × List A)} {lv : List Nat} {gen : Nat} {ty : TypeId} {pos : String} {af : Array Edge} {dst : Option Nat}
theorem tY {t t' : Nat} {x y : Operand} {k k' : IntKind} {p q : Int} (hx : av f x = some (.d (.v (.int k p)))) (hy : av f y = some (.d (.v (.int k' q)))) (hq : 0 ≤ q) {r : Int}
    (hr : p.fdiv (2 ^ (min q.toNat k.bits)) = r) (ho : dr (.int k r) = true) :
    Pu P C n ⟨f, bx, lv, gen⟩ ⟨dst, .binOp .shr t x y t', ty, pos, af, none⟩ (.d (.v (.int k r))) := by
  subst hr
  refine dO.pu fun G tmps w hs => ?_
  have hrx := hs.av hx
  have hry := hs.av hy
  generalize hvx : Act.eval ⟨tmps, []⟩ x = vx at hrx
  generalize hvy : Act.eval ⟨tmps, []⟩ y = vy at hry
  cases hrx with | d hrx => cases hrx with | v _ _ =>
  cases hry with | d hry => cases hry with | v _ _ =>
  refine ⟨_, ?_, .d (.v _ ho)⟩
  unfold execOp
  show Sem.run P _ w = _
  have : ¬ q < 0 := by omega
  simp only [hvx, hvy, eqGuard, binOp, Op.shift, this, if_false]
  rfl
end
end Go.Ab
namespace Go.Tb
open Go.Ab
instance : Inhabited aD := ⟨⟨0, 0, B #[]⟩⟩
def fg : aD := ⟨0, 0, B #[]⟩
def uO (b : Bool) : aD := ⟨1, if b then 1 else 0, B #[]⟩
def xL (n : Int) : aD := ⟨2, n, B #[]⟩
def xQ (s : ByteArray) : aD := ⟨3, 0, s⟩
theorem tg {k : Int} {v : aD} : bU k v = 0 ↔ v = fg ∨ (k = 1 ∧ ∃ b, v = uO b) ∨ (k = 2 ∧ ∃ n, l6 n = true ∧ v = xL n) ∨ (k = 3 ∧ ∃ s : ByteArray, s.size ≤ 200 ∧ v = xQ s) := by
  obtain ⟨vk, vn, vs⟩ := v
  simp only [bU, fg, uO, xL, xQ, aD.mk.injEq]
  constructor
  · intro h
    split at h; · simp at h
    split at h; · simp at h
    split at h; · simp at h
    split at h; · simp at h
    rename_i h1 h2 h3 h4
    by_cases h0 : vk = 0
    · left; refine ⟨h0, ?_, ?_⟩ <;> grind
    · right
      have hk : vk = k := by grind
      subst hk
      rcases (by omega : vk = 1 ∨ vk = 2 ∨ vk = 3) with rfl | rfl | rfl
      · left
        refine ⟨rfl, decide (vn = 1), rfl, ?_, by grind⟩
        have : ¬ (vn < 0 ∨ 1 < vn) := fun h => h2 (.inl ⟨rfl, h⟩)
        by_cases hn : vn = 1
        · simp [hn]
        · simp [hn]; omega
      · right; left
        refine ⟨rfl, vn, ?_, rfl, rfl, by grind⟩
        cases hi : l6 vn
        · exact absurd (.inr ⟨rfl, hi⟩) h2
        · rfl
      · right; right
        refine ⟨rfl, vs, by omega, rfl, ?_, rfl⟩
        by_cases hn : vn = 0
        · exact hn
        · exact absurd (.inr ⟨.inr rfl, hn⟩) h4
  · rintro (⟨rfl, rfl, rfl⟩ | ⟨rfl, b, rfl, rfl, rfl⟩ | ⟨rfl, n, hn, rfl, rfl, rfl⟩ | ⟨rfl, s, hs, rfl, rfl, hz⟩)
    · simp
    · cases b <;> simp
    · simp [hn]
    · subst hz
      simp [show ¬ 200 < vs.size by omega]
def cG (a b : Int) : Int := if a < b then -1 else if b < a then 1 else 0
def eU (a b : ByteArray) : Int := if Op.bytesLess a.toList b.toList then -1 else if a = b then 0 else 1
def cR (a b : aD) : Int := if a.kind ≠ b.kind then cG a.kind b.kind else if a.kind = 3 then eU a.s b.s else if a.kind = 1 ∨ a.kind = 2 then cG a.n b.n else 0
end Go.Tb
namespace Go.Tb
open Go.Ab
end Go.Tb
namespace Go.Tb
open Go.Ab
abbrev cu (n : Int) : D := .v (.int .u64 n)
structure yy where
  m : Bool
  n : Nat
@[reducible] def yy.c (x : yy) : List D := [.v (.bool x.m), cu ((x.n / 18446744073709551616 : Nat) : Int), cu ((x.n % 18446744073709551616 : Nat) : Int)]
end Go.Tb
namespace Go.Tb
open Go.Ab
def yw (n : Int) : Int := n / 4294967296
def yv (n : Int) : Int := n % 4294967296
theorem parts (n : Int) : yw n * 4294967296 + yv n = n := by simp only [yw, yv]; omega
end Go.Tb
namespace Go.Ab
open Go.RowKit
def wx (P : Program) [eK P] (w : World) : Prop := ∃ W : World, (W.ShapedOpen P ∧ eK.met P W) ∧ W.heap.size ≤ w.heap.size ∧ ∀ b, b < W.heap.size → w.heap[b]? = W.heap[b]?
theorem wx.cell {P : Program} [eK P] {w : World} (h : wx P w) {b : Nat} (hc : ∀ W : World, W.ShapedOpen P → ∃ m, W.cell? ⟨b, 0, none⟩ = some (.int .i64 m)) : ∃ m, w.cell? ⟨b, 0, none⟩ = some (.int .i64 m) := by
  obtain ⟨W, h1, _, h3⟩ := h
  obtain ⟨m, hm⟩ := hc W h1.1
  have hlt : b < W.heap.size := dI (o := 0) hm
  exact ⟨m, (b8 (h3 b hlt) 0).trans hm⟩
end Go.Ab
namespace Go.Tb
open Go.Ab
theorem pW (l : List UInt8) : Op.bytesLess l l = false := by
  induction l with
  | nil => rfl
  | cons a r ih => simp [Op.bytesLess, ih]
theorem js (a : ByteArray) : eU a a = 0 := by simp [eU, pW]
end Go.Tb
namespace Go.Ab
section
variable {P : Program} {C : Ctx} {n : Nat} {Q : Exit → St → Prop} {c : Code} {f : List (Nat × A)} {bx : List (Nat × List A)} {lv : List Nat} {gen : Nat}
theorem cC (g j : Nat) {cells cells' : List A} (hb : ax bx g = some cells) (hj : cells[j]? = some (.d (.v (.slice none 0 0)))) (hc : cells.set j (.d (.sl [])) = cells') (h : W P C n c Q ⟨f, (g, cells') :: bx, lv, gen⟩) : W P C n c Q ⟨f, bx, lv, gen⟩ := by
  subst hc
  intro tmps w ⟨G, hs⟩
  refine h tmps w ⟨G, aP.wz hs hb (by simp) (fun i u a a' ha ha' hr => ?_)⟩
  rw [List.getElem?_set] at ha'
  split at ha'
  · rename_i e
    subst e
    rw [hj] at ha
    simp only [Option.some.injEq] at ha
    subst ha
    split at ha'
    · simp only [Option.some.injEq] at ha'
      subst ha'
      cases hr with | d hr => cases hr with | v _ _ => exact .d .nil
    · cases ha'
  · rw [ha] at ha'
    simp only [Option.some.injEq] at ha'
    subst ha'
    exact hr
end
end Go.Ab
namespace Go.Ab
open Go.RowKit
/-! ### whatever the states are -/
section
variable {P : Program} {ops : Array Oper} {md : Region.Mode} {m : Nat} {S E : Type} (Y : Nat → E → S → Prop) (ef : Nat → E → S → S)
def en (md : Region.Mode) (ops : Array Oper) (listed : Array Bool) : Prop :=
  ∀ j oj, ops[j]? = some oj → listed.getD j false = true → ∀ e ∈ oj.after, Region.binds md e = true → listed.getD e.on false = true
def cr (md : Region.Mode) (ops : Array Oper) : Nat → Nat → Nat → Bool
  | 0, _, _ => false
  | k + 1, j, i => bK md ops j i || (match ops[j]? with | some o => o.after.toList.any fun e => Region.binds md e && cr md ops k e.on i | none => false)
theorem ka {listed : Array Bool} (hc : en md ops listed) : ∀ (k j i : Nat), cr md ops k j i = true → (∀ oj, ops[j]? = some oj → ∀ e ∈ oj.after, Region.binds md e = true → listed.getD e.on false = true) → listed.getD i false = true
  | 0, _, _, h, _ => by simp [cr] at h
  | k + 1, j, i, h, hj => by
    simp only [cr, Bool.or_eq_true] at h
    cases hoj : ops[j]? with
    | none =>
      rw [hoj] at h
      simp [bK, hoj] at h
    | some oj =>
      rcases h with h | h
      · obtain ⟨e, he, hb, heq⟩ := jV hoj h
        rw [← heq]
        exact hj oj hoj e he hb
      · rw [hoj] at h
        obtain ⟨e, he, hb⟩ := List.any_eq_true.1 h
        simp only [Bool.and_eq_true] at hb
        have he' : e ∈ oj.after := by simpa using he
        have hl := hj oj hoj e he' hb.1
        exact ka hc k e.on i hb.2 fun o ho e' he'' hb' => hc e.on o ho hl e' he'' hb'
def lB (md : Region.Mode) (ops : Array Oper) (m : Nat) : Bool := (List.range ops.size).all fun j => decide (j < m) || (List.range j).all fun i => cr md ops ops.size j i
theorem mn {j : Nat} (h : lB md ops m = true) (hm : m ≤ j) {i : Nat} (hij : i < j) {listed : Array Bool} (hc : en md ops listed) (hj : j ∈ Region.ready md ops listed) : listed.getD i false = true := by
  obtain ⟨_, oj, hoj, hall⟩ := mem_ready.1 hj
  have hlt : j < ops.size := (Array.getElem?_eq_some_iff.1 hoj).1
  have h1 := List.all_eq_true.1 h j (by simpa using hlt)
  simp only [Bool.or_eq_true, decide_eq_true_eq] at h1
  have h2 := List.all_eq_true.1 (h1.resolve_left (by omega)) i (by simpa using hij)
  exact ka hc _ j i h2 fun o ho e he hb => by rw [hoj] at ho; cases ho; exact hall e he hb
theorem en.add {listed : Array Bool} (hc : en md ops listed) {i : Nat} (hi : i ∈ Region.ready md ops listed) : en md ops (listed.setIfInBounds i true) := by
  intro j oj hoj hl e he hb
  obtain ⟨_, oi, hoi, hall⟩ := mem_ready.1 hi
  by_cases hji : i = j
  · subst hji
    rw [hoi] at hoj
    cases hoj
    exact getD_set_true (hall e he hb)
  · rw [getD_set_ne false hji] at hl
    exact getD_set_true (hc j oj hoj hl e he hb)
def qT (m : Nat) (md : Region.Mode) (ops : Array Oper) (Q : S → Prop) : Nat → Array Bool → S → Prop
  | 0, listed, σ => Split m ops listed ∧ Q σ
  | fuel + 1, listed, σ => Region.ready md ops listed ≠ [] ∧ ∀ i ∈ Region.ready md ops listed, ∃ e, Y i e σ ∧ qT m md ops Q fuel (listed.setIfInBounds i true) (ef i e σ)
def mL (i j : Nat) : Prop := ∀ e e' σ, Y i e σ → Y j e' (ef i e σ) → Y j e' σ ∧ Y i e (ef j e' σ) ∧ ef j e' (ef i e σ) = ef i e (ef j e' σ)
variable {Y} {ef}
theorem uS {Q : S → Prop} {i : Nat} {oi : Oper} {e : E} (hw : lB md ops m = true) (him : i < m) (hi : ops[i]? = some oi) :
    ∀ (fuel : Nat) (listed : Array Bool) (σ : S), en md ops listed →
      (∀ j oj, ops[j]? = some oj → j ≠ i → j < m → listed.getD j true = false → (∀ e ∈ oj.after, Region.binds md e = true → e.on ≠ i) → mL Y ef i j) →
      i ∈ Region.ready md ops listed → Y i e σ → qT Y ef m md ops Q fuel (listed.setIfInBounds i true) (ef i e σ) → qT Y ef m md ops Q (fuel + 1) listed σ := by
  have unl : ∀ {listed : Array Bool}, i ∈ Region.ready md ops listed → listed.getD i false = false := fun hr => dA (mem_ready.1 hr).1
  intro fuel
  induction fuel with
  | zero =>
    intro listed σ hc _ hr hy H
    refine ⟨fun h => (by rw [h] at hr; cases hr), fun j hj => ?_⟩
    by_cases hji : j = i
    · subst hji; exact ⟨e, hy, H⟩
    · exfalso
      obtain ⟨⟨_, h1, h2⟩, _⟩ := H
      have hj1 := (mem_ready.1 hj).1
      by_cases hjm : j < m
      · have := h1 j hjm
        rw [getD_set_ne false (Ne.symm hji)] at this
        rw [dA hj1] at this
        cases this
      · have := mn hw (by omega) (show i < j by omega) hc hj
        rw [unl hr] at this
        cases this
  | succ fuel ih =>
    intro listed σ hc hfree hr hy H
    refine ⟨fun h => (by rw [h] at hr; cases hr), fun j hj => ?_⟩
    by_cases hji : j = i
    · subst hji; exact ⟨e, hy, H⟩
    · obtain ⟨e', hy', H'⟩ := H.2 j (ready_mono hj hji)
      obtain ⟨hjun, oj, hoj, hall⟩ := mem_ready.1 hj
      have hnot : ∀ e ∈ oj.after, Region.binds md e = true → e.on ≠ i := fun e he hb heq => by
        have h1 := hall e he hb
        rw [heq, unl hr] at h1
        cases h1
      have hjm : j < m := by
        rcases Nat.lt_or_ge j m with h | h
        · exact h
        · have := mn hw h (show i < j by omega) hc hj
          rw [unl hr] at this
          cases this
      obtain ⟨s1, s2, s3⟩ := hfree j oj hoj hji hjm hjun hnot e e' σ hy hy'
      have hfree' : ∀ k ok, ops[k]? = some ok → k ≠ i → k < m → (listed.setIfInBounds j true).getD k true = false → (∀ e ∈ ok.after, Region.binds md e = true → e.on ≠ i) → mL Y ef i k := fun k ok hk hki hkm hun hno => by
        refine hfree k ok hk hki hkm ?_ hno
        by_cases hjk : j = k
        · subst hjk; exact hjun
        · rw [getD_set_ne true hjk] at hun; exact hun
      refine ⟨e', s1, ih (listed.setIfInBounds j true) _ (hc.add hj) hfree' (ready_mono hr (Ne.symm hji)) s2 ?_⟩
      rw [Array.setIfInBounds_comm _ _ hji, ← s3]
      exact H'
def uF (Y : Nat → E → S → Prop) (ef : Nat → E → S → S) (Q : S → Prop) : List Oper → Nat → S → Prop
  | [], _, σ => Q σ
  | _ :: rest, i, σ => ∃ e, Y i e σ ∧ uF Y ef Q rest (i + 1) (ef i e σ)
theorem s5 {Q : S → Prop} (hw : lB md ops m = true)
    (hsw : ∀ i j oi oj, ops[i]? = some oi → ops[j]? = some oj → i ≠ j → i < m → j < m → oi.apart ops oj = true → (∀ e ∈ oj.after, Region.binds md e = true → e.on ≠ i) → mL Y ef i j) :
    ∀ (l : List Oper) (k : Nat) (listed : Array Bool) (σ : S), k + l.length = m → (∀ j, j < l.length → l[j]? = ops[k + j]?) → en md ops listed →
    listed.size = ops.size → (∀ j, j < k → listed.getD j false = true) → (∀ j, k ≤ j → j < ops.size → listed.getD j true = false) →
    lu md ops l.length k listed = true → uF Y ef Q l k σ → qT Y ef m md ops Q l.length listed σ
  | [], k, listed, σ, hk, _, _, hs, h1, h2, _, h => ⟨⟨hs, fun j hj => h1 j (by simp at hk; omega), fun j hj hj' => h2 j (by simp at hk; omega) hj'⟩, h⟩
  | o :: l, k, listed, σ, hk, hl, hc, hs, h1, h2, hB, h => by
    have h0 : ops[k]? = some o := by simpa using (hl 0 (by simp)).symm
    have hks : k < ops.size := (Array.getElem?_eq_some_iff.1 h0).1
    simp only [List.length_cons, lu, Bool.and_eq_true] at hB
    obtain ⟨⟨hr, hf⟩, hB'⟩ := hB
    have hr' : k ∈ Region.ready md ops listed := by simpa using hr
    obtain ⟨e, hy, hK⟩ := h
    have hkm : k < m := by simp at hk; omega
    refine uS hw hkm h0 l.length listed σ hc (fun j oj hoj hjk hjm hun hno => hsw k j o oj h0 hoj (Ne.symm hjk) hkm hjm (Region.free_spec h0 hf j oj hoj hjk hun hno) hno) hr' hy
      (s5 hw hsw l (k + 1) _ _ (by simp at hk; omega) (fun j hj => by have := hl (j + 1) (by simpa using hj); simpa [Nat.add_assoc, Nat.add_comm 1 j] using this) (hc.add hr') (by simpa using hs) (fun j hj => ?_) (fun j hj hj' => ?_) hB' hK)
    · rcases Nat.lt_succ_iff_lt_or_eq.1 hj with hlt | rfl
      · exact getD_set_true (h1 j hlt)
      · simp [hs, hks]
    · rw [getD_set_ne true (by omega)]
      exact h2 j (by omega) hj'
theorem lk {Sm : S → Act → World → Prop} {Q : S → Prop} {Q' : Exit → Act → World → Prop} {t : Nat}
    (hS : ∀ i e σ act w K, Sm σ act w → Y i e σ → (∀ act w, Sm (ef i e σ) act w → K act w) → wpOp P ops Q' i K act w)
    (hQ : ∀ listed σ act w, Sm σ act w → en md ops listed → Split m ops listed → Q σ → wpAny P md ops Q' t listed act w) :
    ∀ (fuel : Nat) (listed : Array Bool) (σ : S) (act : Act) (w : World), Sm σ act w → en md ops listed → qT Y ef m md ops Q fuel listed σ → wpAny P md ops Q' (fuel + t) listed act w
  | 0, _, _, _, _, hs, hc, h => by rw [Nat.zero_add]; exact hQ _ _ _ _ hs hc h.1 h.2
  | fuel + 1, _, _, _, _, hs, hc, h => by
    rw [Nat.add_right_comm]
    refine ⟨fun h0 => absurd h0 h.1, fun i hi => ?_⟩
    obtain ⟨e, hy, hK⟩ := h.2 i hi
    exact hS i e _ _ _ _ hs hy fun act w hs' => lk hS hQ fuel _ _ _ _ hs' (hc.add hi) hK
theorem kI {Q' : Exit → Act → World → Prop} (hw : lB md ops m = true) (hrd : ∀ k, m ≤ k → ∀ o, ops[k]? = some o → ∀ e ∈ o.after, Region.binds md e = true → e.on < k) :
    ∀ (l : List Oper) (k : Nat) (listed : Array Bool) (act : Act) (w : World), m ≤ k → k + l.length = ops.size → (∀ j, l[j]? = ops[k + j]?) → en md ops listed → listed.size = ops.size → (∀ j, j < k → listed.getD j false = true) → (∀ j, k ≤ j → j < ops.size → listed.getD j true = false) →
      gm P ops Q' l act w → wpAny P md ops Q' l.length listed act w
  | [], k, listed, act, w, hm, hk, _, _, hs, h1, h2, h => by
    refine ⟨?_, h⟩
    refine List.eq_nil_iff_forall_not_mem.2 fun j hj => ?_
    obtain ⟨h3, oj, hoj, _⟩ := mem_ready.1 hj
    have hlt := (Array.getElem?_eq_some_iff.1 hoj).1
    have := h1 j (by simp at hk; omega)
    rw [dA h3] at this
    cases this
  | o :: l, k, listed, act, w, hm, hk, hl, hc, hs, h1, h2, h => by
    have h0 : ops[k]? = some o := by simpa using (hl 0).symm
    have hks : k < ops.size := (Array.getElem?_eq_some_iff.1 h0).1
    have hready : k ∈ Region.ready md ops listed := mem_ready.2 ⟨h2 k (Nat.le_refl _) hks, o, h0, fun e he hb => h1 _ (hrd k hm o h0 e he hb)⟩
    refine ⟨fun hn => (by rw [hn] at hready; cases hready), fun i hi => ?_⟩
    have hik : i = k := by
      obtain ⟨h3, oi, hoi, _⟩ := mem_ready.1 hi
      rcases Nat.lt_trichotomy i k with hlt | he | hgt
      · have := h1 i hlt; rw [dA h3] at this; cases this
      · exact he
      · have := mn hw (by omega) hgt hc hi
        rw [dA (h2 k (Nat.le_refl _) hks)] at this
        cases this
    subst hik
    have ih := fun act w => kI (Q' := Q') hw hrd l (i + 1) (listed.setIfInBounds i true) act w (by omega) (by simp at hk; omega) (fun j => by have := hl (j + 1); simpa [Nat.add_assoc, Nat.add_comm 1 j] using this) (hc.add hready) (by simpa using hs)
      (fun j hj => by
        rcases Nat.lt_succ_iff_lt_or_eq.1 hj with hlt | rfl
        · exact getD_set_true (h1 j hlt)
        · simp [hs, hks]) (fun j hj hj' => by rw [getD_set_ne true (by omega)]; exact h2 j (by omega) hj')
    simp only [gm] at h
    unfold wpOp
    simp only [h0]
    split
    · rename_i hw'
      rw [if_pos hw'] at h
      exact .inl (Oper.wp_mono ih h)
    · rename_i hw'
      rw [if_neg hw'] at h
      exact ih _ _ h
end
/-! ### one operation that turns the ghost -/
theorem Oper.wM {P : Program} {o : Oper} {a : Act} {w : World} {K K' : Act → World → Prop} {Q Q' : Exit → Act → World → Prop} (hp : ∀ c a w, ¬ Q (.panic c) a w) (hL : ¬ LetsOut Q) (hK : ∀ a w, K a w → K' a w) (h : o.wp P a w K Q) : o.wp P a w K' Q' := by
  unfold Oper.wp at *
  generalize (execOp a.eval o).run P w = r at *
  cases r with
  | ok n w' =>
    cases n <;> simp only [Oper.upon] at h ⊢ <;> first
      | exact hK _ _ h
      | exact Calls.mono h (fun e w'' he => by
          cases e with
          | returned v => exact hK _ _ he
          | panicked c => exact absurd he (hp _ _ _)
          | outgrown => exact absurd he hL)
      | exact Rows.mono h (fun _ _ he => hK _ _ he)
      | exact h
  | halt x w' =>
    cases x <;> simp only [Oper.upon] at h ⊢ <;> first
      | exact absurd h (hp _ _ _)
      | exact h
theorem Oper.qL {P : Program} {o : Oper} {a : Act} {w : World} {K K' : Act → World → Prop} {Q Q' : Exit → Act → World → Prop} (hp : ∀ c a w, Q (.panic c) a w → Q' (.panic c) a w) (hL : ¬ LetsOut Q) (hK : ∀ a w, K a w → K' a w) (h : o.wp P a w K Q) : o.wp P a w K' Q' := by
  unfold Oper.wp at *
  generalize (execOp a.eval o).run P w = r at *
  cases r with
  | ok n w' =>
    cases n <;> simp only [Oper.upon] at h ⊢ <;> first
      | exact hK _ _ h
      | exact Calls.mono h (fun e w'' he => by
          cases e with
          | returned v => exact hK _ _ he
          | panicked c => exact hp _ _ _ he
          | outgrown => exact absurd he hL)
      | exact Rows.mono h (fun _ _ he => hK _ _ he)
      | exact h
  | halt x w' =>
    cases x <;> simp only [Oper.upon] at h ⊢ <;> first
      | exact hp _ _ _ h
      | exact h
end Go.Ab
namespace Go.Ab
open Go.RowKit
structure uQ where
  bx0 : List (Nat × List A)
  bx1 : List (Nat × List A)
  lv0 : List Nat
  lv1 : List Nat
  gen0 : Nat
  gen1 : Nat
section
variable {P : Program} {C : Ctx} {n : Nat} (S : uQ) {ops : Array Oper} (c : Nat)
abbrev SC := cS × Bool
def xV (C : Ctx) (n : Nat) (S : uQ) (σ : SC) (act : Act) (w : World) : Prop :=
  act.defers = C.ds ∧ ∃ G, if σ.2 = true then dC C n S.bx1 S.lv1 S.gen1 σ.1 G act.tmps w else dC C n S.bx0 S.lv0 S.gen0 σ.1 G act.tmps w
def xu (P : Program) (C : Ctx) (n : Nat) (S : uQ) (ops : Array Oper) (o : Oper) (a : A) (φ : cS) : Prop :=
  o.guard = none ∧ ∃ p, (∀ t x, look p t = some x → φ t = some x ∧ t ∈ o.looksAt ops) ∧
    ∀ g, WO P C n ops (fun e st => e = .normal ∧ st = St.put ⟨p ++ g, S.bx1, S.lv1, S.gen1⟩ o.dst a) [o] ⟨p ++ g, S.bx0, S.lv0, S.gen0⟩
def YC (P : Program) (C : Ctx) (n : Nat) (S : uQ) (ops : Array Oper) (c : Nat) (i : Nat) (a : A) (σ : SC) : Prop :=
  ∃ o, ops[i]? = some o ∧ dD n o.dst = true ∧ ((i = c ∧ σ.2 = false ∧ xu P C n S ops o a σ.1) ∨
    (i ≠ c ∧ (bK .any ops i c = false → YA P C n S.bx0 S.lv0 S.gen0 ops o a σ.1) ∧ (bK .any ops c i = false → YA P C n S.bx1 S.lv1 S.gen1 ops o a σ.1) ∧
      (σ.2 = false → bK .any ops i c = false) ∧ (σ.2 = true → bK .any ops c i = false)))
def sA (ops : Array Oper) (c : Nat) (i : Nat) (a : A) (σ : SC) : SC :=
  match ops[i]? with
  | none => σ
  | some o => (bz σ.1 o.dst a, if i = c then true else σ.2)
variable {S} {c}
theorem sR {o : Oper} {a : A} {φ : cS} {dst : Option Nat} {x : A} (hd : ∀ d, dst = some d → d ∉ o.looksAt ops) : xu P C n S ops o a (bz φ dst x) ↔ xu P C n S ops o a φ := by
  constructor
  · rintro ⟨h0, p, h1, h2⟩
    exact ⟨h0, p, fun t y hy => ⟨(eG hd (h1 t y hy).2).symm.trans (h1 t y hy).1, (h1 t y hy).2⟩, h2⟩
  · rintro ⟨h0, p, h1, h2⟩
    exact ⟨h0, p, fun t y hy => ⟨(eG hd (h1 t y hy).2).trans (h1 t y hy).1, (h1 t y hy).2⟩, h2⟩
theorem tL {j i : Nat} {oj : Oper} (hj : ops[j]? = some oj) (h : ∀ e ∈ oj.after, Region.binds .any e = true → e.on ≠ i) : bK .any ops j i = false := by
  cases q : bK .any ops j i with
  | false => rfl
  | true =>
    obtain ⟨e, he, hb, heq⟩ := jV hj q
    exact absurd heq (h e he hb)
theorem gz {i : Nat} {o : Oper} (h : ops[i]? = some o) (a : A) (σ : SC) : sA ops c i a σ = (bz σ.1 o.dst a, if i = c then true else σ.2) := by unfold sA; rw [h]
theorem yl {i j : Nat} {oi oj : Oper} (hi : ops[i]? = some oi) (hj : ops[j]? = some oj) (hij : i ≠ j) (hap : oi.apart ops oj = true) (hno : ∀ e ∈ oj.after, Region.binds .any e = true → e.on ≠ i) :
    mL (YC P C n S ops c) (sA ops c) i j := by
  obtain ⟨a1, a2, a3⟩ := Oper.apart_spec hap
  have hnb := tL hj hno
  rintro a b ⟨φ, ph⟩ ⟨oi', hi', di, hyi⟩ ⟨oj', hj', dj, hyj⟩
  rw [hi] at hi'
  cases hi'
  rw [hj] at hj'
  cases hj'
  rw [gz hi] at hyj
  rw [gz hi, gz hj, gz hj, gz hi]
  have hcomm : bz (bz φ oi.dst a) oj.dst b = bz (bz φ oj.dst b) oi.dst a := kr φ a b a2
  simp only at hyi hyj ⊢
  rcases hyi with ⟨rfl, hph, hx⟩ | ⟨hic, y0, y1, y2, y3⟩
  · -- the operation itself stands first
    subst hph
    rcases hyj with ⟨e, _⟩ | ⟨hjc, z0, z1, z2, z3⟩
    · exact absurd e.symm hij
    · refine ⟨⟨oj, hj, dj, .inr ⟨hjc, fun h => (dy a1).1 (z0 h), fun h => (dy a1).1 (z1 h), fun _ => hnb, fun h => by cases h⟩⟩, ⟨oi, hi, di, .inl ⟨rfl, ?_, (sR a3).2 hx⟩⟩, ?_⟩
      · rw [if_neg hjc]
      · rw [if_pos rfl, if_neg hjc, hcomm]
        simp
  · rcases hyj with ⟨rfl, hph, hx⟩ | ⟨hjc, z0, z1, z2, z3⟩
    · rw [if_neg hic] at hph
      subst hph
      refine ⟨⟨oj, hj, dj, .inl ⟨rfl, rfl, (sR a1).1 hx⟩⟩, ⟨oi, hi, di, .inr ⟨hic, fun h => (dy a3).2 (y0 h), fun h => (dy a3).2 (y1 h), fun h => ?_, fun _ => hnb⟩⟩, ?_⟩
      · rw [if_pos rfl] at h; cases h
      · rw [if_pos rfl, if_neg hic, hcomm]
        simp
    · rw [if_neg hic] at z2 z3
      refine ⟨⟨oj, hj, dj, .inr ⟨hjc, fun h => (dy a1).1 (z0 h), fun h => (dy a1).1 (z1 h), z2, z3⟩⟩, ⟨oi, hi, di, .inr ⟨hic, fun h => (dy a3).2 (y0 h), fun h => (dy a3).2 (y1 h), ?_, ?_⟩⟩, ?_⟩
      · rw [if_neg hjc]; exact y2
      · rw [if_neg hjc]; exact y3
      · rw [if_neg hic, if_neg hjc, hcomm, if_neg hic]
def dT (n : Nat) (φ : cS) : List (Nat × A) := (List.range n).filterMap fun t => (φ t).map fun a => (t, a)
theorem kG (φ : cS) : ∀ (l : List Nat) (t : Nat), look (l.filterMap fun t => (φ t).map fun a => (t, a)) t = if t ∈ l then φ t else none
  | [], t => rfl
  | s :: l, t => by
    rw [List.filterMap_cons]
    cases hs : φ s with
    | none =>
      simp only [Option.map_none]
      rw [kG φ l t]
      by_cases e : t = s
      · subst e; simp [hs]
      · simp [e]
    | some a =>
      simp only [Option.map_some, bp]
      by_cases e : s = t
      · subst e; simp [hs]
      · rw [if_neg e, kG φ l t]
        simp [Ne.symm e]
theorem ri (p g : List (Nat × A)) (t : Nat) : look (p ++ g) t = match look p t with | some a => some a | none => look g t := by
  induction p with
  | nil => rfl
  | cons x p ih =>
    obtain ⟨s, a⟩ := x
    rw [List.cons_append, bp, bp]
    split
    · rfl
    · exact ih
theorem xk (i : Nat) (a : A) (σ : SC) (act : Act) (w : World) (K : Act → World → Prop) {Q' : Exit → Act → World → Prop} (hs : xV C n S σ act w) (hy : YC P C n S ops c i a σ) (hK : ∀ act w, xV C n S (sA ops c i a σ) act w → K act w) : wpOp P ops Q' i K act w := by
  obtain ⟨tmps, dfs⟩ := act
  obtain ⟨rfl, G, hs⟩ := hs
  obtain ⟨φ, ph⟩ := σ
  obtain ⟨o, ho, hd, hy⟩ := hy
  rw [gz ho] at hK
  simp only at hs hy hK
  unfold wpOp
  simp only [ho]
  rcases hy with ⟨rfl, rfl, hg, p, hp, hx⟩ | ⟨hic, y0, y1, y2, y3⟩
  · simp only [Bool.false_eq_true, if_false] at hs
    have hw : Region.wanted o (yielded ops tmps) = true := by simp [Region.wanted, hg]
    rw [hw, if_pos rfl]
    refine .inl ?_
    have hlt : ∀ t x, φ t = some x → t < n := fun t x hx => by
      obtain ⟨v, h1, _⟩ := hs.2 t x hx
      have := (Array.getElem?_eq_some_iff.1 h1).1
      rw [hs.1.size] at this
      exact this
    have hlook : ∀ t, look (p ++ dT n φ) t = φ t := fun t => by
      rw [ri]
      cases q : look p t with
      | some x => exact (hp t x q).1.symm
      | none =>
        simp only
        unfold dT
        rw [kG]
        cases e : φ t with
        | none => split <;> rfl
        | some x => rw [if_pos (List.mem_range.2 (hlt t x e))]
    have hs' := hs.jQ (f := p ++ dT n φ) fun t x hx => by rw [← hlook]; exact hx
    have h := hx (dT n φ) tmps w ⟨G, hs'⟩
    simp only [gm, hw, if_true] at h
    refine Oper.wM (fun c a w hq => ?_) (fun hl => ?_) (fun act2 w2 hq => ?_) h
    · obtain ⟨_, st', _, he, _⟩ := hq
      cases he
    · obtain ⟨_, _, hq⟩ := hl
      obtain ⟨_, st', _, he, _⟩ := hq
      cases he
    · obtain ⟨hdf, st', ⟨G', hs2⟩, _, rfl⟩ := hq
      refine hK act2 w2 ⟨hdf, G', ?_⟩
      simp only [if_true]
      show dC C n S.bx1 S.lv1 S.gen1 (bz φ o.dst a) G' act2.tmps w2
      cases hdst : o.dst with
      | none =>
        rw [hdst] at hs2
        refine ⟨{ hs2 with frame := fun t a ha => by simp [look] at ha }, fun t x hx => hs2.frame t x ?_⟩
        show look (p ++ dT n φ) t = some x
        rw [hlook]
        exact hx
      | some d =>
        rw [hdst] at hs2
        refine ⟨{ hs2 with frame := fun t a ha => by simp [look] at ha }, fun t x hx => hs2.frame t x ?_⟩
        show look ((d, a) :: (p ++ dT n φ)) t = some x
        rw [bp]
        simp only [bz] at hx
        by_cases e : t = d
        · subst e
          rw [if_pos rfl] at hx ⊢
          exact hx
        · rw [if_neg e] at hx
          rw [if_neg (Ne.symm e), hlook]
          exact hx
  · rw [if_neg hic] at hK
    have key : ∀ {bx : List (Nat × List A)} {lv : List Nat} {gen : Nat}, dC C n bx lv gen φ G tmps w → YA P C n bx lv gen ops o a φ → (∀ tmps w, dC C n bx lv gen (bz φ o.dst a) G tmps w → K ⟨tmps, C.ds⟩ w) →
        (if Region.wanted o (yielded ops tmps) = true then o.wp P ⟨tmps, C.ds⟩ w K Q' ∨ (o.asks P ⟨tmps, C.ds⟩ w ∧ LetsOut Q') else K (Act.put ⟨tmps, C.ds⟩ o.dst undef) w) := by
      intro bx lv gen hsF hya hk
      obtain ⟨_, ⟨hw, f, hf, hp⟩ | ⟨hw, rfl⟩⟩ := hya
      · rw [e6 hsF hw]
        simp only [if_true]
        refine .inl ?_
        have hg : cF P o ⟨tmps, []⟩ w fun v w' => Below w.heap.size w w' ∧ aS (aB C G gen w') v a := hp G tmps w (hsF.jQ fun t x hx => (hf t x hx).1)
        refine hg.ds.wp fun v w' ⟨hb, hr⟩ => ?_
        rw [Act.fv]
        exact hk _ _ (hsF.step hb hd hr)
      · rw [e6 hsF hw]
        simp only [Bool.false_eq_true, if_false]
        rw [Act.fv]
        exact hk _ _ (hsF.step (Below.refl _ _) hd (.tup #[] [] rfl (by simp)))
    cases ph with
    | false =>
      simp only [Bool.false_eq_true, if_false] at hs
      exact key hs (y0 (y2 rfl)) fun tmps w h => hK _ _ ⟨rfl, G, by simpa using h⟩
    | true =>
      simp only [if_true] at hs
      exact key hs (y1 (y3 rfl)) fun tmps w h => hK _ _ ⟨rfl, G, by simpa using h⟩
def CC (P : Program) (C : Ctx) (n : Nat) (S : uQ) (ops : Array Oper) (c : Nat) (Q : St → Prop) (l : List Oper) (i : Nat) (f : List (Nat × A)) (ph : Bool) : Prop :=
  uF (YC P C n S ops c) (sA ops c) (fun σ => ∃ f', (∀ t, look f' t = σ.1 t) ∧ σ.2 = true ∧ Q ⟨f', S.bx1, S.lv1, S.gen1⟩) l i (look f, ph)
def jr (m : Nat) (ops : Array Oper) : Bool := Nat.ble m ops.size && lB .any ops m && uA .any ops m && lu .any ops m 0 (Array.replicate ops.size false)
theorem W.iU (T : cd P) {id : Nat} {l l1 l2 : List Oper} {f : List (Nat × A)} {bx bx1 : List (Nat × List A)} {lv lv1 : List Nat} {gen gen1 : Nat} {Q : Exit → St → Prop} (m c : Nat) (hB : jr m l.toArray = true) (h1 : l.take m = l1) (h2 : l.drop m = l2)
    (h : CC P C n ⟨bx, bx1, lv, lv1, gen, gen1⟩ l.toArray c (WO P C n l.toArray Q l2) l1 0 f false) : W P C n (.region id l.toArray true) Q ⟨f, bx, lv, gen⟩ := by
  subst h1; subst h2
  intro tmps w ⟨G, hs⟩
  simp only [jr, Bool.and_eq_true] at hB
  obtain ⟨⟨⟨hm, hw⟩, hfore⟩, hlex⟩ := hB
  have hm : m ≤ l.length := by simpa using Nat.le_of_ble_eq_true hm
  have hb : Below w.heap.size w { w with drawn := w.drawn + 1 } := (Below.refl _ w).drew
  have hs' : dC C n bx lv gen (look f) G tmps { w with drawn := w.drawn + 1 } := dC.vq (hs.iq hb).2
  have hlen : (l.take m).length = m := by simp; omega
  refine wp_region_any T.mixed ?_
  have hsz : l.toArray.size = (l.take m).length + (l.drop m).length := by simp; omega
  rw [hsz]
  have hcl : en .any l.toArray (Array.replicate ((l.take m).length + (l.drop m).length) false) := fun j oj _ hl _ _ _ => by
    by_cases q : j < (l.take m).length + (l.drop m).length
    · simp only [Array.getD_eq_getD_getElem?, Array.getElem?_replicate] at hl
      rw [if_pos q] at hl
      cases hl
    · simp only [Array.getD_eq_getD_getElem?, Array.getElem?_replicate] at hl
      rw [if_neg q] at hl
      cases hl
  refine lk (m := m) (Sm := xV C n ⟨bx, bx1, lv, lv1, gen, gen1⟩) (Y := YC P C n ⟨bx, bx1, lv, lv1, gen, gen1⟩ l.toArray c) (ef := sA l.toArray c) (Q := fun σ => ∃ f', (∀ t, look f' t = σ.1 t) ∧ σ.2 = true ∧ WO P C n l.toArray Q (l.drop m) ⟨f', bx1, lv1, gen1⟩)
    (fun i e σ act w K hs hy hk => xk i e σ act w K hs hy hk) (fun listed σ act w hs hc hsp ⟨f', e1, e2, hq⟩ => ?_) _ _ (look f, false) ⟨tmps, C.ds⟩ _ ⟨rfl, G, by simpa using hs'⟩ hcl ?_
  · obtain ⟨tmps, dfs⟩ := act
    obtain ⟨rfl, G, hs⟩ := hs
    rw [e2] at hs
    simp only [if_true] at hs
    refine kI hw (lO hfore) (l.drop m) m listed ⟨tmps, C.ds⟩ w (Nat.le_refl _) (by simp; omega) (fun j => by simp [List.getElem?_drop]) hc hsp.1 hsp.2.1 hsp.2.2 ?_
    exact hq tmps w ⟨G, hs.jQ (fun t a ha => by rw [← e1]; exact ha)⟩
  · refine s5 hw (fun i j oi oj hi hj hij him hjm hap hno => yl hi hj hij hap hno) (l.take m) 0 _ _ (by rw [hlen]; omega) (fun j hj => ?_) hcl (by simp; omega) (fun j hj => by omega) (fun j _ hj => ?_) (by rw [hlen]; rw [hsz, hlen] at hlex; exact hlex) h
    · rw [hlen] at hj
      rw [Nat.zero_add]
      simp [List.getElem?_take, hj]
    · have hj' : j < l.length := by simpa using hj
      have e : min m l.length + (l.length - m) = l.length := by omega
      simp [e, hj']
variable {op : Op} {ty : TypeId} {pos : String} {af : Array Edge} {a : A} {d i : Nat} {rest : List Oper} {f : List (Nat × A)} {Q : St → Prop} {o : Oper} {ph : Bool}
theorem CC.yz (h : Q ⟨f, S.bx1, S.lv1, S.gen1⟩) : CC P C n S ops c Q [] i f true := ⟨f, fun _ => rfl, rfl, h⟩
theorem YA.q9 {bx : List (Nat × List A)} {lv : List Nat} {gen : Nat} (hp : Pu P C n ⟨cf f (slotsOf op), bx, lv, gen⟩ ⟨some d, op, ty, pos, af, none⟩ a) (hd : Nat.blt d n = true) : YA P C n bx lv gen ops ⟨some d, op, ty, pos, af, none⟩ a (look f) :=
  ⟨hd, .inl ⟨rfl, _, fun t x hx => by
    obtain ⟨h1, h2⟩ := dE hx
    exact ⟨h1, List.mem_append.2 (.inl h2)⟩, hp⟩⟩
theorem yb (h1 : Pu P C n ⟨cf f (slotsOf op), S.bx1, S.lv1, S.gen1⟩ ⟨some d, op, ty, pos, af, none⟩ a) (h0 : Pu P C n ⟨cf f (slotsOf op), S.bx0, S.lv0, S.gen0⟩ ⟨some d, op, ty, pos, af, none⟩ a)
    (hi : ops[i]? = some ⟨some d, op, ty, pos, af, none⟩) (hc : Nat.beq i c = false) (b0 : bK .any ops i c = false) (b1 : bK .any ops c i = false) (hd : Nat.blt d n = true)
    (h : CC P C n S ops c Q rest (i + 1) ((d, a) :: f) ph) : CC P C n S ops c Q (⟨some d, op, ty, pos, af, none⟩ :: rest) i f ph := by
  have hic : i ≠ c := fun e => by subst e; simp at hc
  refine ⟨a, ⟨_, hi, hd, .inr ⟨hic, fun _ => YA.q9 h0 hd, fun _ => YA.q9 h1 hd, fun _ => b0, fun _ => b1⟩⟩, ?_⟩
  rw [gz hi]
  simp only [if_neg hic]
  unfold CC at h
  rw [eJ] at h
  exact h
theorem xZ (h0 : Pu P C n ⟨cf f (slotsOf op), S.bx0, S.lv0, S.gen0⟩ ⟨some d, op, ty, pos, af, none⟩ a)
    (hi : ops[i]? = some ⟨some d, op, ty, pos, af, none⟩) (hc : Nat.beq i c = false) (b0 : bK .any ops i c = false) (b1 : bK .any ops c i = true) (hd : Nat.blt d n = true)
    (h : CC P C n S ops c Q rest (i + 1) ((d, a) :: f) false) : CC P C n S ops c Q (⟨some d, op, ty, pos, af, none⟩ :: rest) i f false := by
  have hic : i ≠ c := fun e => by subst e; simp at hc
  refine ⟨a, ⟨_, hi, hd, .inr ⟨hic, fun _ => YA.q9 h0 hd, (fun h => by rw [b1] at h; cases h), fun _ => b0, fun h => by cases h⟩⟩, ?_⟩
  rw [gz hi]
  simp only [if_neg hic]
  unfold CC at h
  rw [eJ] at h
  exact h
theorem yh (hx : ∀ g, WO P C n ops (fun e st => e = .normal ∧ st = ⟨cf f (slotsOf op) ++ g, S.bx1, S.lv1, S.gen1⟩) [⟨none, op, ty, pos, af, none⟩] ⟨cf f (slotsOf op) ++ g, S.bx0, S.lv0, S.gen0⟩)
    (hi : ops[i]? = some ⟨none, op, ty, pos, af, none⟩) (hc : Nat.beq i c = true) (h : CC P C n S ops c Q rest (i + 1) f true) : CC P C n S ops c Q (⟨none, op, ty, pos, af, none⟩ :: rest) i f false := by
  have hic : i = c := Nat.eq_of_beq_eq_true hc
  refine ⟨.any, ⟨_, hi, rfl, .inl ⟨hic, rfl, rfl, cf f (slotsOf op), fun t x hx => ?_, fun g => hx g⟩⟩, ?_⟩
  · obtain ⟨h1, h2⟩ := dE hx
    exact ⟨h1, List.mem_append.2 (.inl h2)⟩
  · rw [gz hi]
    simp only [if_pos hic]
    exact h
variable {bx0 bx1 : List (Nat × List A)} {lv0 lv1 : List Nat} {gen0 gen1 : Nat}
theorem CC.nil (h : Q ⟨f, bx1, lv1, gen1⟩) : CC P C n ⟨bx0, bx1, lv0, lv1, gen0, gen1⟩ ops c Q [] i f true :=
  CC.yz (S := ⟨bx0, bx1, lv0, lv1, gen0, gen1⟩) h
theorem bR (h1 : Pu P C n ⟨cf f (slotsOf op), bx1, lv1, gen1⟩ ⟨some d, op, ty, pos, af, none⟩ a) (h0 : Pu P C n ⟨cf f (slotsOf op), bx0, lv0, gen0⟩ ⟨some d, op, ty, pos, af, none⟩ a)
    (hi : ops[i]? = some ⟨some d, op, ty, pos, af, none⟩) (hc : Nat.beq i c = false) (b0 : bK .any ops i c = false) (b1 : bK .any ops c i = false) (hd : Nat.blt d n = true)
    (h : CC P C n ⟨bx0, bx1, lv0, lv1, gen0, gen1⟩ ops c Q rest (i + 1) ((d, a) :: f) ph) : CC P C n ⟨bx0, bx1, lv0, lv1, gen0, gen1⟩ ops c Q (⟨some d, op, ty, pos, af, none⟩ :: rest) i f ph :=
  yb (S := ⟨bx0, bx1, lv0, lv1, gen0, gen1⟩) h1 h0 hi hc b0 b1 hd h
theorem bo (h0 : Pu P C n ⟨cf f (slotsOf op), bx0, lv0, gen0⟩ ⟨some d, op, ty, pos, af, none⟩ a)
    (hi : ops[i]? = some ⟨some d, op, ty, pos, af, none⟩) (hc : Nat.beq i c = false) (b0 : bK .any ops i c = false) (b1 : bK .any ops c i = true) (hd : Nat.blt d n = true)
    (h : CC P C n ⟨bx0, bx1, lv0, lv1, gen0, gen1⟩ ops c Q rest (i + 1) ((d, a) :: f) false) : CC P C n ⟨bx0, bx1, lv0, lv1, gen0, gen1⟩ ops c Q (⟨some d, op, ty, pos, af, none⟩ :: rest) i f false :=
  xZ (S := ⟨bx0, bx1, lv0, lv1, gen0, gen1⟩) h0 hi hc b0 b1 hd h
theorem lM (hx : ∀ g, WO P C n ops (fun e st => e = .normal ∧ st = ⟨cf f (slotsOf op) ++ g, bx1, lv1, gen1⟩) [⟨none, op, ty, pos, af, none⟩] ⟨cf f (slotsOf op) ++ g, bx0, lv0, gen0⟩)
    (hi : ops[i]? = some ⟨none, op, ty, pos, af, none⟩) (hc : Nat.beq i c = true) (h : CC P C n ⟨bx0, bx1, lv0, lv1, gen0, gen1⟩ ops c Q rest (i + 1) f true) : CC P C n ⟨bx0, bx1, lv0, lv1, gen0, gen1⟩ ops c Q (⟨none, op, ty, pos, af, none⟩ :: rest) i f false :=
  yh (S := ⟨bx0, bx1, lv0, lv1, gen0, gen1⟩) hx hi hc h
end
end Go.Ab
namespace Go.Ab
open Go.RowKit
/-! ### whatever the states are: with paths in place of edges -/
section
variable {P : Program} {ops : Array Oper} {md : Region.Mode} {m : Nat} {S E : Type} {Y : Nat → E → S → Prop} {ef : Nat → E → S → S}
def loose (md : Region.Mode) (ops : Array Oper) (i j : Nat) : Prop := cr md ops ops.size i j = false ∧ cr md ops ops.size j i = false
theorem th {j i : Nat} {oj : Oper} {e : Edge} (hj : ops[j]? = some oj) (he : e ∈ oj.after) (hb : Region.binds md e = true) (h : e.on = i) : bK md ops j i = true := by
  unfold bK
  rw [hj]
  exact List.any_eq_true.2 ⟨e, by simpa using he, by simp [hb, h]⟩
theorem rl {j i : Nat} (h : cr md ops ops.size j i = false) (hj : j < ops.size) : bK md ops j i = false := by
  cases q : ops.size with
  | zero => omega
  | succ k =>
    rw [q] at h
    simp only [cr, Bool.or_eq_false_iff] at h
    exact h.1
theorem nD {i j : Nat} {listed : Array Bool} (hc : en md ops listed) (hi : i ∈ Region.ready md ops listed) (hj : listed.getD j true = false) : cr md ops ops.size i j = false := by
  obtain ⟨_, oi, hoi, hall⟩ := mem_ready.1 hi
  cases q : cr md ops ops.size i j with
  | false => rfl
  | true =>
    have := ka hc _ i j q fun o ho e he hb => by rw [hoi] at ho; cases ho; exact hall e he hb
    rw [dA hj] at this
    cases this
theorem tp {Q : S → Prop} {i : Nat} {oi : Oper} {e : E} (hw : lB md ops m = true) (him : i < m) (hi : ops[i]? = some oi) :
    ∀ (fuel : Nat) (listed : Array Bool) (σ : S), en md ops listed →
      (∀ j oj, ops[j]? = some oj → j ≠ i → j < m → listed.getD j true = false → cr md ops ops.size j i = false → mL Y ef i j) →
      i ∈ Region.ready md ops listed → Y i e σ → qT Y ef m md ops Q fuel (listed.setIfInBounds i true) (ef i e σ) → qT Y ef m md ops Q (fuel + 1) listed σ := by
  have unl : ∀ {listed : Array Bool}, i ∈ Region.ready md ops listed → listed.getD i false = false := fun hr => dA (mem_ready.1 hr).1
  intro fuel
  induction fuel with
  | zero =>
    intro listed σ hc _ hr hy H
    refine ⟨fun h => (by rw [h] at hr; cases hr), fun j hj => ?_⟩
    by_cases hji : j = i
    · subst hji; exact ⟨e, hy, H⟩
    · exfalso
      obtain ⟨⟨_, h1, h2⟩, _⟩ := H
      have hj1 := (mem_ready.1 hj).1
      by_cases hjm : j < m
      · have := h1 j hjm
        rw [getD_set_ne false (Ne.symm hji)] at this
        rw [dA hj1] at this
        cases this
      · have := mn hw (by omega) (show i < j by omega) hc hj
        rw [unl hr] at this
        cases this
  | succ fuel ih =>
    intro listed σ hc hfree hr hy H
    refine ⟨fun h => (by rw [h] at hr; cases hr), fun j hj => ?_⟩
    by_cases hji : j = i
    · subst hji; exact ⟨e, hy, H⟩
    · obtain ⟨e', hy', H'⟩ := H.2 j (ready_mono hj hji)
      obtain ⟨hjun, oj, hoj, hall⟩ := mem_ready.1 hj
      have hnot : cr md ops ops.size j i = false := nD hc hj (mem_ready.1 hr).1
      have hjm : j < m := by
        rcases Nat.lt_or_ge j m with h | h
        · exact h
        · have := mn hw h (show i < j by omega) hc hj
          rw [unl hr] at this
          cases this
      obtain ⟨s1, s2, s3⟩ := hfree j oj hoj hji hjm hjun hnot e e' σ hy hy'
      have hfree' : ∀ k ok, ops[k]? = some ok → k ≠ i → k < m → (listed.setIfInBounds j true).getD k true = false → cr md ops ops.size k i = false → mL Y ef i k := fun k ok hk hki hkm hun hno => by
        refine hfree k ok hk hki hkm ?_ hno
        by_cases hjk : j = k
        · subst hjk; exact hjun
        · rw [getD_set_ne true hjk] at hun; exact hun
      refine ⟨e', s1, ih (listed.setIfInBounds j true) _ (hc.add hj) hfree' (ready_mono hr (Ne.symm hji)) s2 ?_⟩
      rw [Array.setIfInBounds_comm _ _ hji, ← s3]
      exact H'
theorem rO {Q : S → Prop} (hw : lB md ops m = true)
    (hsw : ∀ i j oi oj, ops[i]? = some oi → ops[j]? = some oj → i ≠ j → i < m → j < m → oi.apart ops oj = true → loose md ops i j → mL Y ef i j) :
    ∀ (l : List Oper) (k : Nat) (listed : Array Bool) (σ : S), k + l.length = m → (∀ j, j < l.length → l[j]? = ops[k + j]?) → en md ops listed →
    listed.size = ops.size → (∀ j, j < k → listed.getD j false = true) → (∀ j, k ≤ j → j < ops.size → listed.getD j true = false) →
    lu md ops l.length k listed = true → uF Y ef Q l k σ → qT Y ef m md ops Q l.length listed σ
  | [], k, listed, σ, hk, _, _, hs, h1, h2, _, h => ⟨⟨hs, fun j hj => h1 j (by simp at hk; omega), fun j hj hj' => h2 j (by simp at hk; omega) hj'⟩, h⟩
  | o :: l, k, listed, σ, hk, hl, hc, hs, h1, h2, hB, h => by
    have h0 : ops[k]? = some o := by simpa using (hl 0 (by simp)).symm
    have hks : k < ops.size := (Array.getElem?_eq_some_iff.1 h0).1
    simp only [List.length_cons, lu, Bool.and_eq_true] at hB
    obtain ⟨⟨hr, hf⟩, hB'⟩ := hB
    have hr' : k ∈ Region.ready md ops listed := by simpa using hr
    obtain ⟨e, hy, hK⟩ := h
    have hkm : k < m := by simp at hk; omega
    refine tp hw hkm h0 l.length listed σ hc (fun j oj hoj hjk hjm hun hno => hsw k j o oj h0 hoj (Ne.symm hjk) hkm hjm (Region.free_spec h0 hf j oj hoj hjk hun fun e he hb heq => ?_) ⟨nD hc hr' hun, hno⟩) hr' hy
      (rO hw hsw l (k + 1) _ _ (by simp at hk; omega) (fun j hj => by have := hl (j + 1) (by simpa using hj); simpa [Nat.add_assoc, Nat.add_comm 1 j] using this) (hc.add hr') (by simpa using hs) (fun j hj => ?_) (fun j hj hj' => ?_) hB' hK)
    · have h3 := rl hno (Array.getElem?_eq_some_iff.1 hoj).1
      rw [th hoj he hb heq] at h3
      cases h3
    · rcases Nat.lt_succ_iff_lt_or_eq.1 hj with hlt | rfl
      · exact getD_set_true (h1 j hlt)
      · simp [hs, hks]
    · rw [getD_set_ne true (by omega)]
      exact h2 j (by omega) hj'
end
/-! ### what a renumbering leaves as it is -/
mutual
theorem pZ {o o' : List Nat} (h : ∀ g, pos o g = some g → pos o' g = some g) : ∀ a, bG o a = a → bG o' a = a
  | .own g es, e => by
    simp only [bG] at e ⊢
    cases q : pos o g with
    | none => rw [q] at e; cases e
    | some i =>
      rw [q] at e
      simp only [A.own.injEq, and_true] at e
      subst e
      rw [h _ q]
  | .ptr g off, e => by
    simp only [bG] at e ⊢
    cases q : pos o g with
    | none => rw [q] at e; cases e
    | some i =>
      rw [q] at e
      simp only [A.ptr.injEq, and_true] at e
      subst e
      rw [h _ q]
  | .xs g es, e => by
    simp only [bG] at e ⊢
    cases q : pos o g with
    | none => rw [q] at e; cases e
    | some i =>
      rw [q] at e
      simp only [A.xs.injEq, and_true] at e
      subst e
      rw [h _ q]
  | .xp g i off l, e => by
    simp only [bG] at e ⊢
    cases q : pos o g with
    | none => rw [q] at e; cases e
    | some j =>
      rw [q] at e
      simp only [A.xp.injEq, and_true] at e
      subst e
      rw [h _ q]
  | .mp g es, e => by
    simp only [bG] at e ⊢
    cases q : pos o g with
    | none => rw [q] at e; cases e
    | some i =>
      rw [q] at e
      simp only [A.mp.injEq, and_true] at e
      subst e
      rw [h _ q]
  | .sb g n c, e => by
    simp only [bG] at e ⊢
    cases q : pos o g with
    | none => rw [q] at e; cases e
    | some i =>
      rw [q] at e
      simp only [A.sb.injEq, and_true] at e
      subst e
      rw [h _ q]
  | .np g T u, e => by
    simp only [bG] at e ⊢
    cases q : pos o g with
    | none => rw [q] at e; cases e
    | some i =>
      rw [q] at e
      simp only [A.np.injEq, and_true] at e
      subst e
      rw [h _ q]
  | .bf g T s, e => by
    simp only [bG] at e ⊢
    cases q : pos o g with
    | none => rw [q] at e; cases e
    | some i =>
      rw [q] at e
      simp only [A.bf.injEq, and_true] at e
      subst e
      rw [h _ q]
  | .agg l, e => by simp only [bG, A.agg.injEq] at e ⊢; exact iN h l e
  | .tup l, e => by simp only [bG, A.tup.injEq] at e ⊢; exact iN h l e
  | .row l, e => by simp only [bG, A.row.injEq] at e ⊢; exact iN h l e
  | .clo f l, e => by simp only [bG, A.clo.injEq, true_and] at e ⊢; exact iN h l e
  | .bnd f l, e => by simp only [bG, A.bnd.injEq, true_and] at e ⊢; exact iN h l e
  | .d _, _ => rfl
  | .ag _, _ => rfl
  | .rowd _, _ => rfl
  | .ni, _ => rfl
  | .fl _, _ => rfl
  | .any, _ => rfl
theorem iN {o o' : List Nat} (h : ∀ g, pos o g = some g → pos o' g = some g) : ∀ l, eQ o l = l → eQ o' l = l
  | [], _ => rfl
  | a :: l, e => by
    simp only [eQ, List.cons.injEq] at e ⊢
    exact ⟨pZ h a e.1, iN h l e.2⟩
end
def tR (o o' : List Nat) : Bool := (List.range o.length).all fun g => !(pos o g == some g) || pos o' g == some g
theorem tT {o o' : List Nat} (h : tR o o' = true) (g : Nat) (hg : pos o g = some g) : pos o' g = some g := by
  have hlt := (List.getElem?_eq_some_iff.1 (cA hg)).1
  have := List.all_eq_true.1 h g (List.mem_range.2 hlt)
  simp only [hg, beq_self_eq_true, Bool.not_true, Bool.false_or, beq_iff_eq] at this
  exact this
end Go.Ab
namespace Go.Ab
open Go.RowKit
theorem oQ (cur : Array Value) (c : List Value) (p i : Nat) (h : p + c.length ≤ cur.size) :
    (cur.toList.take p ++ c ++ cur.toList.drop (p + c.length)).toArray[i]? = if p ≤ i ∧ i < p + c.length then c[i - p]? else cur[i]? := by
  have e1 : (cur.toList.take p).length = p := by simp; omega
  rw [List.getElem?_toArray]
  rcases Nat.lt_or_ge i p with hi | hi
  · rw [if_neg (by omega), List.append_assoc, List.getElem?_append_left (by omega), List.getElem?_take, if_pos hi]; simp
  · rcases Nat.lt_or_ge i (p + c.length) with hi2 | hi2
    · rw [if_pos ⟨hi, hi2⟩, List.append_assoc, List.getElem?_append_right (by omega), List.getElem?_append_left (by omega), e1]
    · rw [if_neg (by omega), List.append_assoc, List.getElem?_append_right (by omega), List.getElem?_append_right (by omega), List.getElem?_drop, e1]
      have : p + c.length + (i - p - c.length) = i := by omega
      rw [this]; simp
theorem sm (cur : Array Value) (c : List Value) (p : Nat) (h : p + c.length ≤ cur.size) : (cur.toList.take p ++ c ++ cur.toList.drop (p + c.length)).toArray.size = cur.size := by
  simp; omega
def gS (e : List D) (off : Nat) (cs : List D) : List D := e.take off ++ cs ++ e.drop (off + cs.length)
theorem rk {e cs : List D} {off : Nat} (h : off + cs.length ≤ e.length) : (gS e off cs).length = e.length := by simp [gS]; omega
theorem wb {e cs : List D} {off i : Nat} (h : off + cs.length ≤ e.length) : (gS e off cs)[i]? = if off ≤ i ∧ i < off + cs.length then cs[i - off]? else e[i]? := by
  have e1 : (e.take off).length = off := by simp; omega
  unfold gS
  rcases Nat.lt_or_ge i off with hi | hi
  · rw [if_neg (by omega), List.append_assoc, List.getElem?_append_left (by omega), List.getElem?_take, if_pos hi]
  · rcases Nat.lt_or_ge i (off + cs.length) with hi2 | hi2
    · rw [if_pos ⟨hi, hi2⟩, List.append_assoc, List.getElem?_append_right (by omega), List.getElem?_append_left (by omega), e1]
    · rw [if_neg (by omega), List.append_assoc, List.getElem?_append_right (by omega), List.getElem?_append_right (by omega), List.getElem?_drop, e1]
      have : off + cs.length + (i - off - cs.length) = i := by omega
      rw [this]
theorem gP {tmps : Array Value} {d : Nat} {v : Value} (h : tmps[d]? = some v) : tmps.setIfInBounds d v = tmps := by
  apply Array.ext_getElem?
  intro i
  rw [Array.getElem?_setIfInBounds]
  split
  · rename_i e
    subst e
    split
    · exact h.symm
    · rename_i hlt; exact absurd (Array.getElem?_eq_some_iff.1 h).1 hlt
  · rfl
section
variable {C : Ctx} {n : Nat} {st : St} {G : Gh} {tmps : Array Value} {w : World}
theorem fD.len (hs : aP C n st G tmps w) {g : Nat} {r : Row} (hg : G.own g = some r) {pv : Nat → Nat → Prop} {v : Value} {es : List (List D)} (h : fD w pv r v es) :
    ∃ a cap, v = .slice a es.length cap ∧ es.length ≤ cap ∧ es.length ≤ maxLen := by
  cases r with
  | nil => obtain ⟨rfl, rfl⟩ := h; exact ⟨none, 0, rfl, Nat.le_refl _, by simp⟩
  | zero b => obtain ⟨rfl, rfl⟩ := h; exact ⟨_, 0, rfl, Nat.le_refl _, by simp⟩
  | mp b => exact h.elim
  | blk b len cap sz pub =>
    obtain ⟨rfl, h2, _⟩ := h
    obtain ⟨_, _, _, _, _, _, _, h3, h4, _⟩ := hs.row g b len cap sz pub hg
    exact ⟨_, cap, by rw [h2], by omega, by omega⟩
theorem aP.wJ (h : aP C n st G tmps w) {g : Nat} {r : Row} (hg : G.own g = some r) {es : List (List D)} {v : Value} (hx : fD w (bC C G) r v es) (lv : List Nat) (hlv : ∀ g' ∈ lv, g' ∈ st.lv ∧ g' ≠ g) :
    kg false C n st G tmps lv es v w w := by
  cases r with
  | mp b => exact hx.elim
  | nil =>
    obtain ⟨rfl, rfl⟩ := hx
    exact h.mC (m := false) hg ⟨.nil, 0, by simp, rfl, rfl⟩ lv hlv
  | zero b =>
    obtain ⟨rfl, rfl⟩ := hx
    exact h.mC (m := false) hg ⟨.emp _ 0 (by simp), 0, by simp, 0, rfl⟩ lv hlv
  | blk b len cap sz pub =>
    obtain ⟨rfl, hlen, rfl, hl, hr⟩ := hx
    obtain ⟨hmine, hnb, huniq, cur, T, hcur, hcs, hlc, hcm, hz, hpos, _, hone⟩ := h.row g b len cap sz 0 hg
    let own' : Nat → Option Row := fun g' => if g' = st.gen then some (.blk b len cap sz (len * sz)) else if g' = g then none else G.own g'
    have hgl := h.gown g _ hg
    have hpv : ∀ b' o, bC C ⟨G.box, own'⟩ b' o → bC C G b' o := by
      rintro b' o (hp | hp | ⟨g', len', cap', sz', pub', hp, hl'⟩)
      · exact .inl hp
      · exact .inr (.inl hp)
      · simp only [own'] at hp
        split at hp
        · simp only [Option.some.injEq, Row.blk.injEq] at hp
          obtain ⟨rfl, rfl, rfl, rfl, rfl⟩ := hp
          exact .inr (.inr ⟨g, len, cap, sz, 0, hg, Nat.zero_le _⟩)
        · split at hp
          · cases hp
          · exact .inr (.inr ⟨g', len', cap', sz', pub', hp, hl'⟩)
    have hle : (aB C G st.gen w).le (aB C ⟨G.box, own'⟩ (st.gen + 1) w) := lJ h.fr h.fr (fun b o u hu hn => ⟨hu, fun hp => hn (hpv b o hp)⟩) (fun _ _ h => h)
      (fun g' r' hg' hr' => by
        simp only [own', if_neg (Nat.ne_of_lt hg')] at hr'
        split at hr'
        · cases hr'
        · exact hr') (Nat.le_succ _) (fun _ _ _ _ _ _ _ _ => rfl) (fun _ _ _ _ => rfl) (.refl w)
    refine ⟨⟨⟨G.box, own'⟩, rfl, { size := h.size, frame := h.dS hle, inj := h.inj, xold := h.xold, kold := h.kold, lent := h.lent, fr := h.fr, box := ?_, gbox := ?_, live := ?_, gown := ?_, row := ?_, mrow := ?_ }, ?_⟩⟩
    · intro g' cells hc
      obtain ⟨b, cs, T, h1, h2, h3, h4, h5⟩ := h.box g' cells hc
      exact ⟨b, cs, T, h1, h2, h3, h4, fun i u a hu ha => (h5 i u a hu ha).mono hle⟩
    · intro g' b hb
      obtain ⟨h1, h2⟩ := h.gbox g' b hb
      exact ⟨Nat.lt_succ_of_lt h1, h2⟩
    · intro g' hg'
      rcases List.mem_cons.1 hg' with rfl | hg'
      · exact ⟨_, by simp [own']; rfl⟩
      · obtain ⟨h1, h2⟩ := hlv g' hg'
        obtain ⟨r', hr'⟩ := h.live g' h1
        exact ⟨r', by simp only [own', if_neg (Nat.ne_of_lt (h.gown g' r' hr')), if_neg h2]; exact hr'⟩
    · intro g' r' hr'
      simp only [own'] at hr'
      split at hr'
      · simp only; omega
      · split at hr'
        · cases hr'
        · exact Nat.lt_succ_of_lt (h.gown g' r' hr')
    · intro g' b' len' cap' sz' pub' hr'
      simp only [own'] at hr'
      split at hr'
      · rename_i e
        simp only [Option.some.injEq, Row.blk.injEq] at hr'
        obtain ⟨rfl, rfl, rfl, rfl, rfl⟩ := hr'
        refine ⟨⟨hmine.1, fun o ho => absurd (hmine.2 o ho) (Nat.not_lt_zero _)⟩, hnb, fun g2 bT cap2 sz2 pub2 h2 => ?_, cur, T, hcur, hcs, hlc, hcm, hz, hpos, Nat.le_refl _, hone⟩
        simp only [own'] at h2
        split at h2
        · omega
        · split at h2
          · cases h2
          · rename_i e1 e2; exact absurd (huniq g2 bT cap2 sz2 pub2 h2) e2
      · split at hr'
        · cases hr'
        · rename_i e1 e2
          obtain ⟨h4, h5, h6, h7⟩ := h.row g' b' len' cap' sz' pub' hr'
          have hne : b' ≠ b := fun e => by subst e; exact e2 (huniq g' len' cap' sz' pub' hr')
          refine ⟨h4, h5, fun g2 bT cap2 sz2 pub2 h2 => ?_, h7⟩
          simp only [own'] at h2
          split at h2
          · simp only [Option.some.injEq, Row.blk.injEq] at h2; exact absurd h2.1.symm hne
          · split at h2
            · cases h2
            · exact h6 g2 bT cap2 sz2 pub2 h2
    · intro g' b' hr'
      have un : ∀ g2, own' g2 = some (.mp b') → G.own g2 = some (.mp b') := by
        intro g2 h2
        simp only [own'] at h2
        split at h2
        · cases h2
        · split at h2
          · cases h2
          · exact h2
      obtain ⟨h4, h4b, h5, h6⟩ := h.mrow g' b' (un g' hr')
      exact ⟨h4, h4b, fun g2 h2 => h5 g2 (un g2 h2), h6⟩
    · subst hlen
      refine .own _ _ es (bm.ofRow hcur hlc hcm hl (fun t ht hp => ?_) (fun i j e d hi hj => ?_)) (by simp [aB]) (fun r' hr' => ?_)
      · rcases (hp : bC C ⟨G.box, own'⟩ b t) with hp | ⟨g', hp⟩ | ⟨g', len', cap', sz', pub', hp, hl'⟩
        · have := h.xold _ _ hp; rcases hmine.1 with hm | hm
          · omega
          · exact this.2 hm
        · exact hnb g' hp
        · simp only [own'] at hp
          split at hp
          · simp only [Option.some.injEq, Row.blk.injEq] at hp
            obtain ⟨_, rfl, rfl, rfl, rfl⟩ := hp
            omega
          · split at hp
            · cases hp
            · rename_i e1 e2; exact e2 (huniq g' len' cap' sz' pub' hp)
      · obtain ⟨u, h1, h2⟩ := hr i j e d hi hj
        rw [bP hcur] at h1
        exact ⟨u, h1, h2.mono hle.cell⟩
      · have hr2 : own' st.gen = some r' := hr'
        simp only [own', if_true, Option.some.injEq] at hr2
        subst hr2
        exact ⟨sz, hl, rfl, rfl, rfl, rfl⟩
theorem aP.yJ (h : aP C n st G tmps w) {g b len cap sz : Nat} (hg : G.own g = some (.blk b len cap sz 0)) {es : List (List D)} {v : Value} (hx : fD w (bC C G) (.blk b len cap sz 0) v es) {j off : Nat} {e cs : List D} (he : es[j]? = some e)
    {vc : Array Value} (hc : b7 (aB C G st.gen w) vc (cs.map .d)) (hle : off + cs.length ≤ e.length) (lv : List Nat) (hlv : ∀ g' ∈ lv, g' ∈ st.lv ∧ g' ≠ g) :
    ∃ cur T, w.heap[b]? = some (.cells cur T (0, 0)) ∧ (j * sz + off) + vc.toList.length ≤ cur.size ∧
      kg true C n st G tmps lv (es.set j (gS e off cs)) v w (w.setRow b (cur.toList.take (j * sz + off) ++ vc.toList ++ cur.toList.drop ((j * sz + off) + vc.toList.length)).toArray) := by
  obtain ⟨rfl, hlen, _, hl, hr⟩ := hx
  obtain ⟨hmine, hnb, huniq, cur, T, hcur, hcs, hlc, hcm, hz, hpos, _, hone⟩ := h.row g b len cap sz 0 hg
  have hj : j < len := by rw [← hlen]; exact (List.getElem?_eq_some_iff.1 he).1
  have hel : e.length = sz := hl e (List.mem_of_getElem? he)
  have hvc : vc.toList.length = cs.length := by have := hc.1; simpa using this
  have hfit : (j * sz + off) + vc.toList.length ≤ cur.size := by
    rw [hvc, hcs]
    have h1 : (j + 1) * sz ≤ cap * sz := Nat.mul_le_mul_right _ (by omega)
    rw [Nat.succ_mul] at h1
    omega
  refine ⟨cur, T, hcur, hfit, ?_⟩
  have hlen' : (es.set j (gS e off cs)).length = len := by rw [List.length_set]; exact hlen
  have := h.pV true (g := g) (b := b) (len := len) (cap := cap) (sz := sz) (es := es.set j (gS e off cs)) (by simpa [eL] using hg) hcur (sm cur vc.toList _ hfit) (kJ hone fun u hu => by obtain ⟨i, hi⟩ := List.mem_iff_getElem?.1 hu; exact hc.2.1 i u (by simpa using hi)) (fun t ht => by simp [eL] at ht) (by omega) (by omega) (fun x hx => ?_) (fun i k x d hi hk => ?_) lv hlv
  · rw [hlen'] at this
    exact this
  · rcases List.mem_or_eq_of_mem_set hx with hx | rfl
    · exact hl x hx
    · rw [rk hle]; exact hel
  · rw [List.getElem?_set] at hi
    have hcell : ∀ i k u, cellAt w b (i * sz + k) = some u → cur[i * sz + k]? = some u := fun i k u hu => by rw [bP hcur] at hu; exact hu
    by_cases hij : j = i
    · subst hij
      rw [if_pos rfl, if_pos (by omega)] at hi
      simp only [Option.some.injEq] at hi
      subst hi
      rw [wb hle] at hk
      rw [oQ cur vc.toList _ _ hfit, hvc]
      by_cases hin : off ≤ k ∧ k < off + cs.length
      · rw [if_pos hin] at hk
        rw [if_pos (by omega)]
        have e1 : j * sz + k - (j * sz + off) = k - off := by omega
        rw [e1]
        have hlt : k - off < vc.size := by have := (List.getElem?_eq_some_iff.1 hk).1; simp at hvc; omega
        have hu : vc[k - off]? = some vc[k - off] := by simp [hlt]
        have h3 := hc.2.2 (k - off) _ (.d d) hu (by rw [List.getElem?_map, hk]; rfl)
        revert h3 hu
        generalize vc[k - off] = u
        intro hu h3
        cases h3 with
        | d h3 => exact ⟨_, by rw [Array.getElem?_toList]; exact hu, h3⟩
      · rw [if_neg hin] at hk
        rw [if_neg (by omega)]
        obtain ⟨u, h1, h2⟩ := hr j k e d he hk
        exact ⟨u, hcell j k u h1, h2⟩
    · rw [if_neg hij] at hi
      obtain ⟨u, h1, h2⟩ := hr i k x d hi hk
      have hil : i < len := by rw [← hlen]; exact (List.getElem?_eq_some_iff.1 hi).1
      have hkl : k < sz := by rw [← hl x (List.mem_of_getElem? hi)]; exact (List.getElem?_eq_some_iff.1 hk).1
      rw [oQ cur vc.toList _ _ hfit, hvc, if_neg]
      · exact ⟨u, hcell i k u h1, h2⟩
      · rintro ⟨h3, h4⟩
        rcases Nat.lt_or_gt_of_ne hij with hlt | hgt
        · have : (j + 1) * sz ≤ i * sz := Nat.mul_le_mul_right _ hlt
          rw [Nat.succ_mul] at this
          omega
        · have : (i + 1) * sz ≤ j * sz := Nat.mul_le_mul_right _ hgt
          rw [Nat.succ_mul] at this
          omega
end
section
variable {P : Program} (T : cd P) {C : Ctx} {n : Nat} {tmps : Array Value} {w : World} {G : Gh} {ops : Array Oper} {Q : Exit → St → Prop} {st : St} {o : Oper} {rest : List Oper}
theorem WO.wY (hg : o.guard = none) (hd : dD n o.dst = true) {x y : Operand} {t e : Nat} {td ed : bW} (ho : o.op = .call ⟨.builtin .append, #[x, y], #[t, t]⟩) (ht : ax T.l t = some td) (hk : td.k = .slice e) (he : ax T.l e = some ed)
    {g : Nat} {es es2 : List (List D)} (hx : av st.f x = some (.xs g es)) (hgl : g ∈ st.lv) {b : A} (hy : av st.f y = some b) (hb2 : gu b = some es2) (hz : Nat.blt 0 ed.n = true) (hb0 : Nat.blt 0 ed.b = true)
    (hl : ∀ (x : List D), x ∈ es ++ es2 → x.length = ed.n) (hb : (es.length + es2.length) * ed.b ≤ 140737488355328)
    (h : WO P C n ops Q rest (St.put { st with lv := st.gen :: dz st.lv g, gen := st.gen + 1 } o.dst (.xs st.gen (es ++ es2)))) : WO P C n ops Q (o :: rest) st := by
  refine WO.step hg fun tmps w ⟨G, hs⟩ => ?_
  have hr := hs.av hx
  have hr2 := gR hb2 (hs.av hy)
  obtain ⟨r, hgr⟩ := hs.live g hgl
  generalize hv : Act.eval ⟨tmps, []⟩ x = v at hr
  cases hr with
  | xs _ _ _ hgg h1 hrow =>
  have hx0 := hrow r hgr
  obtain ⟨a, cap, h2, h3, _⟩ := fD.len hs hgr hx0
  obtain ⟨v', w', hrun, ⟨G', _, hs', hv'⟩⟩ := nG T true hs ht hk he ⟨a, cap, h2, h3⟩ hr2 (.own g r hgr ⟨h1, hx0⟩) hl (Nat.le_of_ble_eq_true hz) (Nat.le_of_ble_eq_true hb0) hb o.type
  rw [← hv] at hrun
  exact cI (nE ho hrun) ⟨_, ⟨G', hs'.put (cB hd) hv'⟩, h⟩
theorem W.nk {c : Code} {d : Nat} (hl : look st.f d = some (.d (.v (.slice none 0 0)))) (hd : Nat.blt d n = true) (h : W P C n c Q (St.set { st with lv := st.gen :: st.lv, gen := st.gen + 1 } d (.xs st.gen []))) : W P C n c Q st := by
  intro tmps w ⟨G, hs⟩
  obtain ⟨v, hv, hr⟩ := hs.frame _ _ hl
  cases hr with | d hr => cases hr with | v _ _ =>
  obtain ⟨⟨G', _, hs', hv'⟩⟩ := hs.nw true st.lv (fun _ h => h)
  refine h tmps w ⟨G', ?_⟩
  have := hs'.set (d := d) (Nat.le_of_ble_eq_true hd) hv'
  rwa [gP hv] at this
theorem W.freeze {c : Code} {d g : Nat} {es : List (List D)} (hl : look st.f d = some (.xs g es)) (hgl : g ∈ st.lv) (hd : Nat.blt d n = true)
    (h : W P C n c Q (St.set { st with lv := st.gen :: dz st.lv g, gen := st.gen + 1 } d (.own st.gen es))) : W P C n c Q st := by
  intro tmps w ⟨G, hs⟩
  obtain ⟨v, hv, hr⟩ := hs.frame _ _ hl
  obtain ⟨r, hgr⟩ := hs.live g hgl
  cases hr with
  | xs _ _ _ hgg h1 hrow =>
  obtain ⟨⟨G', _, hs', hv'⟩⟩ := hs.wJ hgr (hrow r hgr) (dz st.lv g) (fun g' hg' => eB hg')
  refine h tmps w ⟨G', ?_⟩
  have := hs'.set (d := d) (Nat.le_of_ble_eq_true hd) hv'
  rwa [gP hv] at this
theorem Pu.ua {x : Operand} {t e : Nat} {td : bW} (ho : o.op = .call ⟨.builtin .len, #[x], #[t]⟩) (ht : ax T.l t = some td) (hk : td.k = .slice e) {g : Nat} {es : List (List D)} (hx : av st.f x = some (.xs g es)) (hgl : g ∈ st.lv) :
    Pu P C n st o (.d (.v (.int .i64 es.length))) := by
  refine dO.pu fun G tmps w hs => ?_
  have hr := hs.av hx
  obtain ⟨r, hgr⟩ := hs.live g hgl
  generalize hv : Act.eval ⟨tmps, []⟩ x = v at hr
  cases hr with
  | xs _ _ _ hgg h1 hrow =>
  obtain ⟨a, cap, h2, _, hlen⟩ := fD.len hs hgr (hrow r hgr)
  refine ⟨.int .i64 es.length, ?_, .d (.v _ ?_)⟩
  · unfold execOp
    rw [ho]
    show Sem.run P (do let d ← resolve (Act.eval ⟨tmps, []⟩) ⟨.builtin .len, #[x], #[t]⟩ o.type; invoke d.target d.args) w = _
    simp only [resolve, List.map_toArray, List.map_cons, List.map_nil, hv, h2, Sem.run_bind, Sem.run_pure, Result.andThen_ok, invoke, builtin, Builtin.len_]
    simp [run_underlying (T.dL ht hk), goInt]
    rfl
  · simp only [maxLen] at hlen
    simp [dr, IntKind.min, IntKind.max, IntKind.signed, IntKind.bits]
    omega
theorem Pu.fu {t e : Nat} {x ix : Operand} (ho : o.op = .indexAddr t x ix) {td ed : bW} (ht : ax T.l t = some td) (hk : td.k = .slice e) (he : ax T.l e = some ed) {g : Nat} {es : List (List D)} (hx : av st.f x = some (.xs g es)) (hgl : g ∈ st.lv)
    {k : IntKind} {i : Int} (hi : av st.f ix = some (.d (.v (.int k i)))) (h0 : 0 ≤ i) {l : List D} (hl : es[i.toNat]? = some l) (hlen : l.length = ed.n) : Pu P C n st o (.xp g i.toNat 0 l) := by
  refine dO.pu fun G tmps w hs => ?_
  have hu := T.dL ht hk
  have hrx := hs.av hx
  have hri := hs.av hi
  obtain ⟨r, hgr⟩ := hs.live g hgl
  generalize hvi : Act.eval ⟨tmps, []⟩ ix = vi at hri
  cases hri with | d hri => cases hri with | v _ _ =>
  have hlt : i.toNat < es.length := (List.getElem?_eq_some_iff.1 hl).1
  generalize hvx : Act.eval ⟨tmps, []⟩ x = vx at hrx
  cases hrx with
  | xs _ _ _ hgg h1 hrow =>
  have hx0 := hrow r hgr
  cases r with
  | nil => obtain ⟨_, h2⟩ := hx0; rw [h2] at hlt; simp at hlt
  | zero b => obtain ⟨_, h2⟩ := hx0; rw [h2] at hlt; simp at hlt
  | mp b => exact hx0.elim
  | blk b len cap sz pub =>
    obtain ⟨rfl, h2, h3, h4, h5⟩ := hx0
    have hsz : sz = ed.n := by rw [← h4 _ (List.mem_of_getElem? hl), hlen]
    subst hsz
    refine ⟨.pointer (some ⟨b, i.toNat * ed.n, none⟩), ?_, .xp _ g _ 0 l hgg rfl (fun r' hr' => ?_)⟩
    · unfold execOp
      rw [ho]
      show Sem.run P _ w = .ok _ w
      have hc2 : 0 ≤ i ∧ i < (len : Int) := ⟨h0, by omega⟩
      simp only [hvi, hvx, Instr.indexAt, asIntOf, Sem.run_bind, Sem.run_pure, Result.andThen_ok, run_underlying hu, hc2, and_self, if_true, T.sizeOf he]
      unfold Addr.add
      split
      · rename_i e; rw [e]
      · simp
    · have e2 : r' = .blk b len cap ed.n pub := Option.some.inj ((hr' : G.own g = some r').symm.trans hgr)
      subst e2
      refine ⟨rfl, by omega, by rw [Nat.zero_add]; exact hlen, fun j d hj => ?_⟩
      obtain ⟨u, h6, h7⟩ := h5 _ _ _ _ hl hj
      exact ⟨u, by rw [Nat.add_zero]; exact h6, h7⟩
theorem Pu.dc {t i : Nat} {x : Operand} (ho : o.op = .fieldAddr t x i) {fo ft m : Nat} (hf : ll T t i = some (fo, ft)) (hsz : cn T ft = m + 1) {g j off : Nat} {l : List D} (hx : av st.f x = some (.xp g j off l)) (hgl : g ∈ st.lv) (hle : fo ≤ l.length) :
    Pu P C n st o (.xp g j (off + fo) (l.drop fo)) := by
  refine dO.pu fun G tmps w hs => ?_
  have hr := hs.av hx
  obtain ⟨r, hgr⟩ := hs.live g hgl
  generalize hv : Act.eval ⟨tmps, []⟩ x = v at hr
  cases hr with
  | xp _ _ _ _ _ hgg h1 hrow =>
  have hx0 := hrow r hgr
  cases r with
  | nil => exact hx0.elim
  | zero b => exact hx0.elim
  | mp b => exact hx0.elim
  | blk b len cap sz pub =>
    obtain ⟨rfl, h2, h3, h4⟩ := hx0
    have hrun : (Instr.fieldAt t (.pointer (some ⟨b, j * sz + off, none⟩)) i).run P w = .ok (.pointer (some ⟨b, j * sz + (off + fo), none⟩)) w := by
      have := iZ T hf hsz b (j * sz + off) w
      rwa [Nat.add_assoc] at this
    refine ⟨.pointer (some ⟨b, j * sz + (off + fo), none⟩), ?_, .xp _ g j (off + fo) (l.drop fo) hgg rfl (fun r' hr' => ?_)⟩
    · unfold execOp
      rw [ho]
      show Sem.run P _ w = .ok _ w
      simp only [hv, Sem.run_bind, hrun, Result.andThen_ok, Sem.run_pure]
    · have e2 : r' = .blk b len cap sz pub := Option.some.inj ((hr' : G.own g = some r').symm.trans hgr)
      subst e2
      refine ⟨rfl, h2, by simp; omega, fun k d hk => ?_⟩
      rw [List.getElem?_drop] at hk
      obtain ⟨u, h5, h6⟩ := h4 _ _ hk
      refine ⟨u, ?_, h6⟩
      have e3 : j * sz + (off + fo) + k = j * sz + off + (fo + k) := by omega
      rw [e3]
      exact h5
theorem Pu.jb {t : Nat} {x : Operand} (ho : o.op = .load t x) {g j off : Nat} {l : List D} (hx : av st.f x = some (.xp g j off l)) (hgl : g ∈ st.lv) {a : A} (ha : ib T t l = some a) : Pu P C n st o a := by
  refine dO.pu fun G tmps w hs => ?_
  have hr := hs.av hx
  obtain ⟨r, hgr⟩ := hs.live g hgl
  generalize hv : Act.eval ⟨tmps, []⟩ x = v at hr
  cases hr with
  | xp _ _ _ _ _ hgg h1 hrow =>
  have hx0 := hrow r hgr
  cases r with
  | nil => exact hx0.elim
  | zero b => exact hx0.elim
  | mp b => exact hx0.elim
  | blk b len cap sz pub =>
    obtain ⟨rfl, h2, h3, h4⟩ := hx0
    have hcell : ∀ k, k < l.length → ∃ u, cellAt w b (j * sz + off + k) = some u := fun k hk => by
      obtain ⟨u, h5, _⟩ := h4 k l[k] (by simp [hk])
      exact ⟨u, h5⟩
    have key := iz (E := aB C G st.gen w) T (t := t) (a := a) (b := b) (off := j * sz + off) (l := l) (u := fun k => (cellAt w b (j * sz + off + k)).getD default)
      (fun k hk => by obtain ⟨u, hu⟩ := hcell k hk; show cellAt w b _ = _; rw [hu]; rfl) (fun k y hk => by
        obtain ⟨u, h5, h6⟩ := h4 k y hk
        have h5' : cellAt w b (j * sz + off + k) = some u := h5
        rw [h5']
        exact h6) ha
    obtain ⟨v, h5, h6⟩ := key
    refine ⟨v, ?_, h6⟩
    rw [gA ho]
    show Sem.run P _ w = .ok _ w
    have h5' : (Instr.loadAt t (.pointer (some ⟨b, j * sz + off, none⟩))).run P w = .ok v w := h5
    simp only [hv, Sem.run_bind, h5', Result.andThen_ok, Sem.run_pure]
theorem sq {G : Gh} {tmps : Array Value} {w : World} (hs : aP C n st G tmps w) {t : TypeId} {x y : Operand} (ho : o.op = .store t x y) {g j off : Nat} {l : List D} (hx : av st.f x = some (.xp g j off l)) (hgl : g ∈ st.lv)
    {v : Value} {es : List (List D)} (hv : aS (aB C G st.gen w) v (.xs g es)) {e : List D} (he : es[j]? = some e) (hoff : off + l.length = e.length) {a : A} (ha : av st.f y = some a) {cs : List D} (hc : sB a = some cs)
    (hsz : cn T t = cs.length) (hz : cs.length ≠ 0) (hle : cs.length ≤ l.length) :
    ∃ w', (execOp (Act.eval ⟨tmps, []⟩) o).run P w = .ok .skip w' ∧ kg true C n st G tmps (dz st.lv g) (es.set j (gS e off cs)) v w w' ∧ ∀ b' g', G.box g' = some b' → w'.heap[b']? = w.heap[b']? := by
  obtain ⟨r, hgr⟩ := hs.live g hgl
  have hrx := hs.av hx
  generalize hvx : Act.eval ⟨tmps, []⟩ x = vx at hrx
  cases hv with
  | xs _ _ _ _ _ hrow =>
  cases hrx with
  | xp _ _ _ _ _ _ _ hrow2 =>
  have hx1 := hrow r hgr
  have hx2 := hrow2 r hgr
  cases r with
  | nil => exact hx2.elim
  | zero b => exact hx2.elim
  | mp b => exact hx2.elim
  | blk b len cap sz pub =>
    have hp0 : pub = 0 := hx1.2.2.1
    subst hp0
    obtain ⟨rfl, _, _, _⟩ := hx2
    have hrc := sI hc (hs.av ha)
    obtain ⟨cur, T', hcur, hfit, hgrew⟩ := hs.yJ hgr hx1 he (off := off) hrc (by omega) (dz st.lv g) (fun g' hg' => eB hg')
    have hst := run_storeCells_at P b (j * sz + off) T' (Act.eval ⟨tmps, []⟩ y).cells.toList 0 cur w hcur (by simpa using hfit) (fun u hu => by
      obtain ⟨i, hi⟩ := List.mem_iff_getElem?.1 hu
      exact hrc.2.1 i u (by simpa using hi))
    obtain ⟨d, hdt, hdn⟩ : ∃ d, ax T.l t = some d ∧ d.n = cs.length := by
      unfold cn at hsz
      split at hsz
      · rename_i d hdt; exact ⟨d, hdt, hsz⟩
      · exact absurd hsz.symm hz
    refine ⟨_, ?_, hgrew, fun b' g' hb' => setRow_other w b b' _ (fun e => (hs.row g b len cap sz 0 hgr).2.1 g' (e ▸ hb'))⟩
    unfold execOp
    rw [ho]
    show Sem.run P _ w = _
    simp only [hvx, Instr.storeAt, Instr.sureAddr, storeVar, Sem.run_bind, Sem.run_pure, Result.andThen_ok, T.sizeOf hdt]
    rw [if_neg (by rw [hdn]; have := hrc.1; simp at this ⊢; exact this)]
    simp only [Nat.add_zero] at hst
    simp only [hst, Result.andThen_ok]
theorem WO.oM (s : Nat) (hg : o.guard = none) (hd : dD n o.dst = true) {t : TypeId} {x y : Operand} (ho : o.op = .store t x y) {g j off : Nat} {l : List D} (hx : av st.f x = some (.xp g j off l)) (hgl : g ∈ st.lv)
    {es : List (List D)} (hl : look st.f s = some (.xs g es)) (hsn : Nat.blt s n = true) {e : List D} (he : es[j]? = some e) (hoff : off + l.length = e.length) {a : A} (ha : av st.f y = some a) {cs : List D} (hc : sB a = some cs)
    (hsz : cn T t = cs.length) (hz : Nat.blt 0 cs.length = true) (hle : cs.length ≤ l.length)
    (h : WO P C n ops Q rest (St.put (St.set { st with lv := st.gen :: dz st.lv g, gen := st.gen + 1 } s (.xs st.gen (es.set j (gS e off cs)))) o.dst .any)) : WO P C n ops Q (o :: rest) st := by
  refine WO.step hg fun tmps w ⟨G, hs⟩ => ?_
  obtain ⟨v, hv, hr⟩ := hs.frame s _ hl
  obtain ⟨w', hrun, ⟨G', _, hs', hv'⟩, _⟩ := sq (P := P) T hs ho hx hgl hr he hoff ha hc hsz (by have := Nat.le_of_ble_eq_true hz; omega) hle
  refine lH hrun ⟨_, ⟨G', aP.put ?_ (cB hd) (.any _)⟩, h⟩
  have := hs'.set (d := s) (Nat.le_of_ble_eq_true hsn) hv'
  rwa [gP hv] at this
end
end Go.Ab
namespace Go.Ab
open Go.RowKit
section
variable {P : Program} (T : cd P) {C : Ctx} {n : Nat} {ops : Array Oper} {Q : Exit → St → Prop} {rest : List Oper}
variable {f : List (Nat × A)} {bx : List (Nat × List A)} {lv : List Nat} {gen : Nat} {d : Nat} {op : Op} {ty : TypeId} {pos : String} {af : Array Edge} {a : A} {dst : Option Nat} {c : Code}
theorem jx {lv : List Nat} {g : Nat} (h : (lv.any fun h => Nat.beq h g) = true) : g ∈ lv := by
  obtain ⟨g', h1, h2⟩ := List.any_eq_true.1 h
  have : g' = g := Nat.eq_of_beq_eq_true h2
  exact this ▸ h1
theorem xz {t e len : Nat} {parts : Array (Nat × Operand)} {td ed : bW} {es : List (List D)} (ht : ax T.l t = some td) (hk : td.k = .slice e) (he : ax T.l e = some ed) (hes : jA f 0 parts.toList = some es) (hlen : es.length = len)
    (hz : Nat.blt 0 ed.n = true) (hsm : Nat.ble (len * ed.n) 16777216 = true) (hl : ∀ (x : List D), x ∈ es → x.length = ed.n) (hd : Nat.blt d n = true)
    (h : WO P C n ops Q rest ⟨(d, .xs gen es) :: f, bx, gen :: lv, gen + 1⟩) : WO P C n ops Q (⟨some d, .buildSlice t len parts, ty, pos, af, none⟩ :: rest) ⟨f, bx, lv, gen⟩ :=
  WO.nN (st := ⟨f, bx, lv, gen⟩) T true rfl hd rfl ht hk he hes hlen hz hsm hl h
theorem iL {x y : Operand} {t e : Nat} {td ed : bW} {g : Nat} {es es2 : List (List D)} {b : A} (hx : av f x = some (.xs g es)) (hy : av f y = some b) (hb2 : gu b = some es2) (ht : ax T.l t = some td) (hk : td.k = .slice e) (he : ax T.l e = some ed)
    (hgl : (lv.any fun h => Nat.beq h g) = true) (hz : Nat.blt 0 ed.n = true) (hb0 : Nat.blt 0 ed.b = true) (hd : Nat.blt d n = true) {r : List (List D)} (hr : es ++ es2 = r) (hl : ∀ (x : List D), x ∈ es ++ es2 → x.length = ed.n)
    (hb : (es.length + es2.length) * ed.b ≤ 140737488355328) {lv' : List Nat} (hlv : gen :: dz lv g = lv')
    (h : WO P C n ops Q rest ⟨(d, .xs gen r) :: f, bx, lv', gen + 1⟩) : WO P C n ops Q (⟨some d, .call ⟨.builtin .append, #[x, y], #[t, t]⟩, ty, pos, af, none⟩ :: rest) ⟨f, bx, lv, gen⟩ := by
  subst hr; subst hlv
  exact WO.wY (st := ⟨f, bx, lv, gen⟩) T rfl hd rfl ht hk he hx (jx hgl) hy hb2 hz hb0 hl hb h
theorem ua {x : Operand} {t e : Nat} {td : bW} {g : Nat} {es : List (List D)} (hx : av f x = some (.xs g es)) (ht : ax T.l t = some td) (hk : td.k = .slice e) (hgl : (lv.any fun h => Nat.beq h g) = true) :
    Pu P C n ⟨f, bx, lv, gen⟩ ⟨dst, .call ⟨.builtin .len, #[x], #[t]⟩, ty, pos, af, none⟩ (.d (.v (.int .i64 es.length))) :=
  Pu.ua (st := ⟨f, bx, lv, gen⟩) T rfl ht hk hx (jx hgl)
theorem fu {t e : Nat} {x ix : Operand} {td ed : bW} {g : Nat} {es : List (List D)} {k : IntKind} {i : Int} {l : List D} (hx : av f x = some (.xs g es)) (hi : av f ix = some (.d (.v (.int k i)))) (ht : ax T.l t = some td) (hk : td.k = .slice e) (he : ax T.l e = some ed)
    (hgl : (lv.any fun h => Nat.beq h g) = true) (h0 : 0 ≤ i) (hl : es[i.toNat]? = some l) (hlen : l.length = ed.n) :
    Pu P C n ⟨f, bx, lv, gen⟩ ⟨dst, .indexAddr t x ix, ty, pos, af, none⟩ (.xp g i.toNat 0 l) :=
  Pu.fu (st := ⟨f, bx, lv, gen⟩) T rfl ht hk he hx (jx hgl) hi h0 hl hlen
theorem dc {t i : Nat} {x : Operand} {fo ft m : Nat} {g j off : Nat} {l : List D} (hx : av f x = some (.xp g j off l)) (hf : ll T t i = some (fo, ft)) (hsz : cn T ft = m + 1) (hgl : (lv.any fun h => Nat.beq h g) = true) (hle : Nat.ble fo l.length = true) {l' : List D} (hl' : l.drop fo = l') :
    Pu P C n ⟨f, bx, lv, gen⟩ ⟨dst, .fieldAddr t x i, ty, pos, af, none⟩ (.xp g j (off + fo) l') :=
  hl' ▸ Pu.dc (st := ⟨f, bx, lv, gen⟩) T rfl hf hsz hx (jx hgl) (Nat.le_of_ble_eq_true hle)
theorem jb {t : Nat} {x : Operand} {g j off : Nat} {l : List D} (hx : av f x = some (.xp g j off l)) (hgl : (lv.any fun h => Nat.beq h g) = true) (ha : ib T t l = some a) :
    Pu P C n ⟨f, bx, lv, gen⟩ ⟨dst, .load t x, ty, pos, af, none⟩ a :=
  Pu.jb (st := ⟨f, bx, lv, gen⟩) T rfl hx (jx hgl) ha
theorem oM (s : Nat) {t : TypeId} {x y : Operand} {g j off : Nat} {l : List D} {es : List (List D)} {e : List D} {cs : List D} (hx : av f x = some (.xp g j off l)) (hl : look f s = some (.xs g es)) (ha : av f y = some a) (hc : sB a = some cs) (he : es[j]? = some e) (hoff : off + l.length = e.length)
    (hgl : (lv.any fun h => Nat.beq h g) = true) (hsn : Nat.blt s n = true) (hsz : cn T t = cs.length) (hz : Nat.blt 0 cs.length = true) (hle : Nat.ble cs.length l.length = true) {es' : List (List D)} (hes : es.set j (gS e off cs) = es') {lv' : List Nat} (hlv : gen :: dz lv g = lv')
    (h : WO P C n ops Q rest ⟨(s, .xs gen es') :: f, bx, lv', gen + 1⟩) : WO P C n ops Q (⟨none, .store t x y, ty, pos, af, none⟩ :: rest) ⟨f, bx, lv, gen⟩ := by
  subst hes; subst hlv
  exact WO.oM (st := ⟨f, bx, lv, gen⟩) T s rfl rfl rfl hx (jx hgl) hl hsn he hoff ha hc hsz hz (Nat.le_of_ble_eq_true hle) h
theorem qa (s : Nat) {g : Nat} {es : List (List D)} (hl : look f s = some (.xs g es)) (hgl : (lv.any fun h => Nat.beq h g) = true) (hsn : Nat.blt s n = true) {lv' : List Nat} (hlv : gen :: dz lv g = lv')
    (h : W P C n c Q ⟨(s, .own gen es) :: f, bx, lv', gen + 1⟩) : W P C n c Q ⟨f, bx, lv, gen⟩ := by
  subst hlv
  exact W.freeze (st := ⟨f, bx, lv, gen⟩) hl (jx hgl) hsn h
theorem aP.cellAt {st : St} {G : Gh} {tmps : Array Value} {w : World} (hs : aP C n st G tmps w) {g0 i : Nat} {cells : List A} (hb : ax st.bx g0 = some cells) {x : A} (hi : cells[i]? = some x) :
    ∃ v, aS (aB C G st.gen w) v x ∧ ∀ b cs T', G.box g0 = some b → w.heap[b]? = some (.cells cs T' (0, 0)) → cs[i]? = some v := by
  obtain ⟨b, cs, T', h1, h2, h3, _, h5⟩ := hs.box g0 cells hb
  have hlt : i < cs.size := by rw [h3]; exact (List.getElem?_eq_some_iff.1 hi).1
  have hv : cs[i]? = some cs[i] := by simp [hlt]
  refine ⟨cs[i], h5 i _ x hv hi, fun b' cs' T2 h1' h2' => ?_⟩
  have e : b' = b := Option.some.inj (h1'.symm.trans h1)
  subst e
  have e2 := Option.some.inj (h2'.symm.trans h2)
  injection e2 with e3 _ _
  rw [e3]
  exact hv
end
end Go.Ab
namespace Go.Ab
open Go.RowKit
def pU : D → D
  | .v x => bif isNil (.d (.v x)) then .sl [] else .v x
  | .sl es => .sl es
theorem bm.pU {w : World} {pv : Nat → Nat → Prop} {v : Value} {d : D} (h : bm w pv v d) : bm w pv v (Ab.pU d) := by
  cases d with
  | v x => exact h.kL
  | sl es => exact h
def ug : A → A
  | .d x => .d (pU x)
  | .ag l => .ag (l.map pU)
  | a => a
theorem aS.ug {E : En} {v : Value} {a : A} (h : aS E v a) : aS E v (Ab.ug a) := by
  cases a with
  | d x => cases h with | d hd => exact .d hd.pU
  | ag l =>
    cases h with
    | ag vs _ hs hd =>
      refine .ag vs _ (by simpa using hs) (fun i u x hu hx => ?_)
      rw [List.getElem?_map, Option.map_eq_some_iff] at hx
      obtain ⟨y, hy, rfl⟩ := hx
      exact (hd i u y hu hy).pU
  | _ => exact h
section
variable {P : Program} {C : Ctx} {n : Nat} {ops : Array Oper} {Q : Exit → St → Prop} {f : List (Nat × A)} {bx : List (Nat × List A)} {lv : List Nat} {gen : Nat}
theorem xo (s : Nat) {a a' : A} {l : List Oper} (hl : look f s = some a) (hsn : Nat.blt s n = true) (ha : Ab.ug a = a') (h : WO P C n ops Q l ⟨(s, a') :: f, bx, lv, gen⟩) : WO P C n ops Q l ⟨f, bx, lv, gen⟩ := by
  subst ha
  intro tmps w ⟨G, hs⟩
  obtain ⟨v, hv, hr⟩ := hs.frame s _ hl
  refine h tmps w ⟨G, ?_⟩
  have := hs.set (d := s) (Nat.le_of_ble_eq_true hsn) hr.ug
  rwa [gP hv] at this
end
end Go.Ab
