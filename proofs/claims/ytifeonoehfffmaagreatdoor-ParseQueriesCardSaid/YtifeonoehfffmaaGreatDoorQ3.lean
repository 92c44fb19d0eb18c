import Derived.Test.YtifeonoehfffmaaGreatDoorQ2
namespace Go.Ab
open Go.RowKit
structure Par where
  bx0 : List (Nat × List A)
  bx1 : List (Nat × List A)
  lv0 : List Nat
  lv1 : List Nat
  gen0 : Nat
  gen1 : Nat
section
variable {P : Program} {C : Ctx} {n : Nat} (S : Par) {ops : Array Oper} (c : Nat)
abbrev SC := Fr' × Bool
def SmC (C : Ctx) (n : Nat) (S : Par) (σ : SC) (act : Act) (w : World) : Prop :=
  act.defers = [] ∧ ∃ G, if σ.2 = true then SimF C n S.bx1 S.lv1 S.gen1 σ.1 G act.tmps w else SimF C n S.bx0 S.lv0 S.gen0 σ.1 G act.tmps w
def XEv (P : Program) (C : Ctx) (n : Nat) (S : Par) (ops : Array Oper) (o : Oper) (a : A) (φ : Fr') : Prop :=
  o.guard = none ∧ ∃ p, (∀ t x, look p t = some x → φ t = some x ∧ t ∈ o.looksAt ops) ∧
    ∀ g, WO P C n ops (fun e st => e = .normal ∧ st = St.put ⟨p ++ g, S.bx1, S.lv1, S.gen1⟩ o.dst a) [o] ⟨p ++ g, S.bx0, S.lv0, S.gen0⟩
def YC (P : Program) (C : Ctx) (n : Nat) (S : Par) (ops : Array Oper) (c : Nat) (i : Nat) (a : A) (σ : SC) : Prop :=
  ∃ o, ops[i]? = some o ∧ dstOK n o.dst = true ∧ ((i = c ∧ σ.2 = false ∧ XEv P C n S ops o a σ.1) ∨
    (i ≠ c ∧ (behindB .any ops i c = false → YA P C n S.bx0 S.lv0 S.gen0 ops o a σ.1) ∧ (behindB .any ops c i = false → YA P C n S.bx1 S.lv1 S.gen1 ops o a σ.1) ∧
      (σ.2 = false → behindB .any ops i c = false) ∧ (σ.2 = true → behindB .any ops c i = false)))
def efC (ops : Array Oper) (c : Nat) (i : Nat) (a : A) (σ : SC) : SC :=
  match ops[i]? with
  | none => σ
  | some o => (putF σ.1 o.dst a, if i = c then true else σ.2)
variable {S} {c}
theorem XEv_put {o : Oper} {a : A} {φ : Fr'} {dst : Option Nat} {x : A} (hd : ∀ d, dst = some d → d ∉ o.looksAt ops) : XEv P C n S ops o a (putF φ dst x) ↔ XEv P C n S ops o a φ := by
  constructor
  · rintro ⟨h0, p, h1, h2⟩
    exact ⟨h0, p, fun t y hy => ⟨(putF_key hd (h1 t y hy).2).symm.trans (h1 t y hy).1, (h1 t y hy).2⟩, h2⟩
  · rintro ⟨h0, p, h1, h2⟩
    exact ⟨h0, p, fun t y hy => ⟨(putF_key hd (h1 t y hy).2).trans (h1 t y hy).1, (h1 t y hy).2⟩, h2⟩
theorem not_behind {j i : Nat} {oj : Oper} (hj : ops[j]? = some oj) (h : ∀ e ∈ oj.after, Region.binds .any e = true → e.on ≠ i) : behindB .any ops j i = false := by
  cases q : behindB .any ops j i with
  | false => rfl
  | true =>
    obtain ⟨e, he, hb, heq⟩ := behindB_spec hj q
    exact absurd heq (h e he hb)
theorem efC_at {i : Nat} {o : Oper} (h : ops[i]? = some o) (a : A) (σ : SC) : efC ops c i a σ = (putF σ.1 o.dst a, if i = c then true else σ.2) := by unfold efC; rw [h]
theorem swapC {i j : Nat} {oi oj : Oper} (hi : ops[i]? = some oi) (hj : ops[j]? = some oj) (hij : i ≠ j) (hap : oi.apart ops oj = true) (hno : ∀ e ∈ oj.after, Region.binds .any e = true → e.on ≠ i) :
    Swap (YC P C n S ops c) (efC ops c) i j := by
  obtain ⟨a1, a2, a3⟩ := Oper.apart_spec hap
  have hnb := not_behind hj hno
  rintro a b ⟨φ, ph⟩ ⟨oi', hi', di, hyi⟩ ⟨oj', hj', dj, hyj⟩
  rw [hi] at hi'
  cases hi'
  rw [hj] at hj'
  cases hj'
  rw [efC_at hi] at hyj
  rw [efC_at hi, efC_at hj, efC_at hj, efC_at hi]
  have hcomm : putF (putF φ oi.dst a) oj.dst b = putF (putF φ oj.dst b) oi.dst a := putF_comm φ a b a2
  simp only at hyi hyj ⊢
  rcases hyi with ⟨rfl, hph, hx⟩ | ⟨hic, y0, y1, y2, y3⟩
  · -- the operation itself stands first
    subst hph
    rcases hyj with ⟨e, _⟩ | ⟨hjc, z0, z1, z2, z3⟩
    · exact absurd e.symm hij
    · refine ⟨⟨oj, hj, dj, .inr ⟨hjc, fun h => (YA_put a1).1 (z0 h), fun h => (YA_put a1).1 (z1 h), fun _ => hnb, fun h => by cases h⟩⟩, ⟨oi, hi, di, .inl ⟨rfl, ?_, (XEv_put a3).2 hx⟩⟩, ?_⟩
      · rw [if_neg hjc]
      · rw [if_pos rfl, if_neg hjc, hcomm]
        simp
  · rcases hyj with ⟨rfl, hph, hx⟩ | ⟨hjc, z0, z1, z2, z3⟩
    · rw [if_neg hic] at hph
      subst hph
      refine ⟨⟨oj, hj, dj, .inl ⟨rfl, rfl, (XEv_put a1).1 hx⟩⟩, ⟨oi, hi, di, .inr ⟨hic, fun h => (YA_put a3).2 (y0 h), fun h => (YA_put a3).2 (y1 h), fun h => ?_, fun _ => hnb⟩⟩, ?_⟩
      · rw [if_pos rfl] at h; cases h
      · rw [if_pos rfl, if_neg hic, hcomm]
        simp
    · rw [if_neg hic] at z2 z3
      refine ⟨⟨oj, hj, dj, .inr ⟨hjc, fun h => (YA_put a1).1 (z0 h), fun h => (YA_put a1).1 (z1 h), z2, z3⟩⟩, ⟨oi, hi, di, .inr ⟨hic, fun h => (YA_put a3).2 (y0 h), fun h => (YA_put a3).2 (y1 h), ?_, ?_⟩⟩, ?_⟩
      · rw [if_neg hjc]; exact y2
      · rw [if_neg hjc]; exact y3
      · rw [if_neg hic, if_neg hjc, hcomm, if_neg hic]
def fallF (n : Nat) (φ : Fr') : List (Nat × A) := (List.range n).filterMap fun t => (φ t).map fun a => (t, a)
theorem look_fall (φ : Fr') : ∀ (l : List Nat) (t : Nat), look (l.filterMap fun t => (φ t).map fun a => (t, a)) t = if t ∈ l then φ t else none
  | [], t => rfl
  | s :: l, t => by
    rw [List.filterMap_cons]
    cases hs : φ s with
    | none =>
      simp only [Option.map_none]
      rw [look_fall φ l t]
      by_cases e : t = s
      · subst e; simp [hs]
      · simp [e]
    | some a =>
      simp only [Option.map_some, look_cons]
      by_cases e : s = t
      · subst e; simp [hs]
      · rw [if_neg e, look_fall φ l t]
        simp [Ne.symm e]
theorem look_app (p g : List (Nat × A)) (t : Nat) : look (p ++ g) t = match look p t with | some a => some a | none => look g t := by
  induction p with
  | nil => rfl
  | cons x p ih =>
    obtain ⟨s, a⟩ := x
    rw [List.cons_append, look_cons, look_cons]
    split
    · rfl
    · exact ih
theorem soundC (i : Nat) (a : A) (σ : SC) (act : Act) (w : World) (K : Act → World → Prop) {Q' : Exit → Act → World → Prop} (hs : SmC C n S σ act w) (hy : YC P C n S ops c i a σ) (hK : ∀ act w, SmC C n S (efC ops c i a σ) act w → K act w) : wpOp P ops Q' i K act w := by
  obtain ⟨tmps, dfs⟩ := act
  obtain ⟨rfl, G, hs⟩ := hs
  obtain ⟨φ, ph⟩ := σ
  obtain ⟨o, ho, hd, hy⟩ := hy
  rw [efC_at ho] at hK
  simp only at hs hy hK
  unfold wpOp
  simp only [ho]
  rcases hy with ⟨rfl, rfl, hg, p, hp, hx⟩ | ⟨hic, y0, y1, y2, y3⟩
  · simp only [Bool.false_eq_true, if_false] at hs
    have hw : Region.wanted o (yielded ops tmps) = true := by simp [Region.wanted, hg]
    rw [hw, if_pos rfl]
    refine .inl ?_
    have hlt : ∀ t x, φ t = some x → t < n := fun t x hx => by
      obtain ⟨v, h1, _⟩ := hs.2 t x hx
      have := (Array.getElem?_eq_some_iff.1 h1).1
      rw [hs.1.size] at this
      exact this
    have hlook : ∀ t, look (p ++ fallF n φ) t = φ t := fun t => by
      rw [look_app]
      cases q : look p t with
      | some x => exact (hp t x q).1.symm
      | none =>
        simp only
        unfold fallF
        rw [look_fall]
        cases e : φ t with
        | none => split <;> rfl
        | some x => rw [if_pos (List.mem_range.2 (hlt t x e))]
    have hs' := hs.toG (f := p ++ fallF n φ) fun t x hx => by rw [← hlook]; exact hx
    have h := hx (fallF n φ) tmps w ⟨G, hs'⟩
    simp only [wpL, hw, if_true] at h
    refine Oper.wp_only (fun c a w hq => ?_) (fun hl => ?_) (fun act2 w2 hq => ?_) h
    · obtain ⟨_, st', _, he, _⟩ := hq
      cases he
    · obtain ⟨_, _, hq⟩ := hl
      obtain ⟨_, st', _, he, _⟩ := hq
      cases he
    · obtain ⟨hdf, st', ⟨G', hs2⟩, _, rfl⟩ := hq
      refine hK act2 w2 ⟨hdf, G', ?_⟩
      simp only [if_true]
      show SimF C n S.bx1 S.lv1 S.gen1 (putF φ o.dst a) G' act2.tmps w2
      cases hdst : o.dst with
      | none =>
        rw [hdst] at hs2
        refine ⟨{ hs2 with frame := fun t a ha => by simp [look] at ha }, fun t x hx => hs2.frame t x ?_⟩
        show look (p ++ fallF n φ) t = some x
        rw [hlook]
        exact hx
      | some d =>
        rw [hdst] at hs2
        refine ⟨{ hs2 with frame := fun t a ha => by simp [look] at ha }, fun t x hx => hs2.frame t x ?_⟩
        show look ((d, a) :: (p ++ fallF n φ)) t = some x
        rw [look_cons]
        simp only [putF] at hx
        by_cases e : t = d
        · subst e
          rw [if_pos rfl] at hx ⊢
          exact hx
        · rw [if_neg e] at hx
          rw [if_neg (Ne.symm e), hlook]
          exact hx
  · rw [if_neg hic] at hK
    have key : ∀ {bx : List (Nat × List A)} {lv : List Nat} {gen : Nat}, SimF C n bx lv gen φ G tmps w → YA P C n bx lv gen ops o a φ → (∀ tmps w, SimF C n bx lv gen (putF φ o.dst a) G tmps w → K ⟨tmps, []⟩ w) →
        (if Region.wanted o (yielded ops tmps) = true then o.wp P ⟨tmps, []⟩ w K Q' ∨ (o.asks P ⟨tmps, []⟩ w ∧ LetsOut Q') else K (Act.put ⟨tmps, []⟩ o.dst undef) w) := by
      intro bx lv gen hsF hya hk
      obtain ⟨_, ⟨hw, f, hf, hp⟩ | ⟨hw, rfl⟩⟩ := hya
      · rw [wanted_of hsF hw]
        simp only [if_true]
        refine .inl ?_
        have hg : Gives P o ⟨tmps, []⟩ w fun v w' => Below w.heap.size w w' ∧ Rep (enOf C G gen w') v a := hp G tmps w (hsF.toG fun t x hx => (hf t x hx).1)
        refine hg.wp fun v w' ⟨hb, hr⟩ => ?_
        rw [Act.put_eq]
        exact hk _ _ (hsF.step hb hd hr)
      · rw [wanted_of hsF hw]
        simp only [Bool.false_eq_true, if_false]
        rw [Act.put_eq]
        exact hk _ _ (hsF.step (Below.refl _ _) hd (.tup #[] [] rfl (by simp)))
    cases ph with
    | false =>
      simp only [Bool.false_eq_true, if_false] at hs
      exact key hs (y0 (y2 rfl)) fun tmps w h => hK _ _ ⟨rfl, G, by simpa using h⟩
    | true =>
      simp only [if_true] at hs
      exact key hs (y1 (y3 rfl)) fun tmps w h => hK _ _ ⟨rfl, G, by simpa using h⟩
def CC (P : Program) (C : Ctx) (n : Nat) (S : Par) (ops : Array Oper) (c : Nat) (Q : St → Prop) (l : List Oper) (i : Nat) (f : List (Nat × A)) (ph : Bool) : Prop :=
  ceG (YC P C n S ops c) (efC ops c) (fun σ => ∃ f', (∀ t, look f' t = σ.1 t) ∧ σ.2 = true ∧ Q ⟨f', S.bx1, S.lv1, S.gen1⟩) l i (look f, ph)
def regionOKC (m : Nat) (ops : Array Oper) : Bool := Nat.ble m ops.size && waitT .any ops m && foreB .any ops m && lexE .any ops m 0 (Array.replicate ops.size false)
theorem W.regionC (T : Tab P) {id : Nat} {l l1 l2 : List Oper} {f : List (Nat × A)} {bx bx1 : List (Nat × List A)} {lv lv1 : List Nat} {gen gen1 : Nat} {Q : Exit → St → Prop} (m c : Nat) (hB : regionOKC m l.toArray = true) (h1 : l.take m = l1) (h2 : l.drop m = l2)
    (h : CC P C n ⟨bx, bx1, lv, lv1, gen, gen1⟩ l.toArray c (WO P C n l.toArray Q l2) l1 0 f false) : W P C n (.region id l.toArray true) Q ⟨f, bx, lv, gen⟩ := by
  subst h1; subst h2
  intro tmps w ⟨G, hs⟩
  simp only [regionOKC, Bool.and_eq_true] at hB
  obtain ⟨⟨⟨hm, hw⟩, hfore⟩, hlex⟩ := hB
  have hm : m ≤ l.length := by simpa using Nat.le_of_ble_eq_true hm
  have hb : Below w.heap.size w { w with drawn := w.drawn + 1 } := (Below.refl _ w).drew
  have hs' : SimF C n bx lv gen (look f) G tmps { w with drawn := w.drawn + 1 } := SimF.ofG (hs.evolve hb).2
  have hlen : (l.take m).length = m := by simp; omega
  refine wp_region_any T.mixed ?_
  have hsz : l.toArray.size = (l.take m).length + (l.drop m).length := by simp; omega
  rw [hsz]
  have hcl : Closed .any l.toArray (Array.replicate ((l.take m).length + (l.drop m).length) false) := fun j oj _ hl _ _ _ => by
    by_cases q : j < (l.take m).length + (l.drop m).length
    · simp only [Array.getD_eq_getD_getElem?, Array.getElem?_replicate] at hl
      rw [if_pos q] at hl
      cases hl
    · simp only [Array.getD_eq_getD_getElem?, Array.getElem?_replicate] at hl
      rw [if_neg q] at hl
      cases hl
  refine wpAny_of_G (m := m) (Sm := SmC C n ⟨bx, bx1, lv, lv1, gen, gen1⟩) (Y := YC P C n ⟨bx, bx1, lv, lv1, gen, gen1⟩ l.toArray c) (ef := efC l.toArray c) (Q := fun σ => ∃ f', (∀ t, look f' t = σ.1 t) ∧ σ.2 = true ∧ WO P C n l.toArray Q (l.drop m) ⟨f', bx1, lv1, gen1⟩)
    (fun i e σ act w K hs hy hk => soundC i e σ act w K hs hy hk) (fun listed σ act w hs hc hsp ⟨f', e1, e2, hq⟩ => ?_) _ _ (look f, false) ⟨tmps, []⟩ _ ⟨rfl, G, by simpa using hs'⟩ hcl ?_
  · obtain ⟨tmps, dfs⟩ := act
    obtain ⟨rfl, G, hs⟩ := hs
    rw [e2] at hs
    simp only [if_true] at hs
    refine wpAny_tailT hw (foreB_spec hfore) (l.drop m) m listed ⟨tmps, []⟩ w (Nat.le_refl _) (by simp; omega) (fun j => by simp [List.getElem?_drop]) hc hsp.1 hsp.2.1 hsp.2.2 ?_
    exact hq tmps w ⟨G, hs.toG (fun t a ha => by rw [← e1]; exact ha)⟩
  · refine wpG_lex hw (fun i j oi oj hi hj hij him hjm hap hno => swapC hi hj hij hap hno) (l.take m) 0 _ _ (by rw [hlen]; omega) (fun j hj => ?_) hcl (by simp; omega) (fun j hj => by omega) (fun j _ hj => ?_) (by rw [hlen]; rw [hsz, hlen] at hlex; exact hlex) h
    · rw [hlen] at hj
      rw [Nat.zero_add]
      simp [List.getElem?_take, hj]
    · have hj' : j < l.length := by simpa using hj
      have e : min m l.length + (l.length - m) = l.length := by omega
      simp [e, hj']
variable {op : Op} {ty : TypeId} {pos : String} {af : Array Edge} {a : A} {d i : Nat} {rest : List Oper} {f : List (Nat × A)} {Q : St → Prop} {o : Oper} {ph : Bool}
theorem CC.nil_ (h : Q ⟨f, S.bx1, S.lv1, S.gen1⟩) : CC P C n S ops c Q [] i f true := ⟨f, fun _ => rfl, rfl, h⟩
theorem YA.of_pu {bx : List (Nat × List A)} {lv : List Nat} {gen : Nat} (hp : Pu P C n ⟨restr f (slotsOf op), bx, lv, gen⟩ ⟨some d, op, ty, pos, af, none⟩ a) (hd : Nat.blt d n = true) : YA P C n bx lv gen ops ⟨some d, op, ty, pos, af, none⟩ a (look f) :=
  ⟨hd, .inl ⟨rfl, _, fun t x hx => by
    obtain ⟨h1, h2⟩ := restr_look hx
    exact ⟨h1, List.mem_append.2 (.inl h2)⟩, hp⟩⟩
theorem ccPu_ (h1 : Pu P C n ⟨restr f (slotsOf op), S.bx1, S.lv1, S.gen1⟩ ⟨some d, op, ty, pos, af, none⟩ a) (h0 : Pu P C n ⟨restr f (slotsOf op), S.bx0, S.lv0, S.gen0⟩ ⟨some d, op, ty, pos, af, none⟩ a)
    (hi : ops[i]? = some ⟨some d, op, ty, pos, af, none⟩) (hc : Nat.beq i c = false) (b0 : behindB .any ops i c = false) (b1 : behindB .any ops c i = false) (hd : Nat.blt d n = true)
    (h : CC P C n S ops c Q rest (i + 1) ((d, a) :: f) ph) : CC P C n S ops c Q (⟨some d, op, ty, pos, af, none⟩ :: rest) i f ph := by
  have hic : i ≠ c := fun e => by subst e; simp at hc
  refine ⟨a, ⟨_, hi, hd, .inr ⟨hic, fun _ => YA.of_pu h0 hd, fun _ => YA.of_pu h1 hd, fun _ => b0, fun _ => b1⟩⟩, ?_⟩
  rw [efC_at hi]
  simp only [if_neg hic]
  unfold CC at h
  rw [look_put] at h
  exact h
theorem ccPu0_ (h0 : Pu P C n ⟨restr f (slotsOf op), S.bx0, S.lv0, S.gen0⟩ ⟨some d, op, ty, pos, af, none⟩ a)
    (hi : ops[i]? = some ⟨some d, op, ty, pos, af, none⟩) (hc : Nat.beq i c = false) (b0 : behindB .any ops i c = false) (b1 : behindB .any ops c i = true) (hd : Nat.blt d n = true)
    (h : CC P C n S ops c Q rest (i + 1) ((d, a) :: f) false) : CC P C n S ops c Q (⟨some d, op, ty, pos, af, none⟩ :: rest) i f false := by
  have hic : i ≠ c := fun e => by subst e; simp at hc
  refine ⟨a, ⟨_, hi, hd, .inr ⟨hic, fun _ => YA.of_pu h0 hd, (fun h => by rw [b1] at h; cases h), fun _ => b0, fun h => by cases h⟩⟩, ?_⟩
  rw [efC_at hi]
  simp only [if_neg hic]
  unfold CC at h
  rw [look_put] at h
  exact h
theorem ccPu1_ (h1 : Pu P C n ⟨restr f (slotsOf op), S.bx1, S.lv1, S.gen1⟩ ⟨some d, op, ty, pos, af, none⟩ a)
    (hi : ops[i]? = some ⟨some d, op, ty, pos, af, none⟩) (hc : Nat.beq i c = false) (b0 : behindB .any ops i c = true) (b1 : behindB .any ops c i = false) (hd : Nat.blt d n = true)
    (h : CC P C n S ops c Q rest (i + 1) ((d, a) :: f) true) : CC P C n S ops c Q (⟨some d, op, ty, pos, af, none⟩ :: rest) i f true := by
  have hic : i ≠ c := fun e => by subst e; simp at hc
  refine ⟨a, ⟨_, hi, hd, .inr ⟨hic, (fun h => by rw [b0] at h; cases h), fun _ => YA.of_pu h1 hd, (fun h => by cases h), fun _ => b1⟩⟩, ?_⟩
  rw [efC_at hi]
  simp only [if_neg hic]
  unfold CC at h
  rw [look_put] at h
  exact h
theorem ccX_ (hx : ∀ g, WO P C n ops (fun e st => e = .normal ∧ st = ⟨(d, a) :: (restr f (slotsOf op) ++ g), S.bx1, S.lv1, S.gen1⟩) [⟨some d, op, ty, pos, af, none⟩] ⟨restr f (slotsOf op) ++ g, S.bx0, S.lv0, S.gen0⟩)
    (hi : ops[i]? = some ⟨some d, op, ty, pos, af, none⟩) (hc : Nat.beq i c = true) (hd : Nat.blt d n = true) (h : CC P C n S ops c Q rest (i + 1) ((d, a) :: f) true) : CC P C n S ops c Q (⟨some d, op, ty, pos, af, none⟩ :: rest) i f false := by
  have hic : i = c := Nat.eq_of_beq_eq_true hc
  refine ⟨a, ⟨_, hi, hd, .inl ⟨hic, rfl, rfl, restr f (slotsOf op), fun t x hx => ?_, fun g => hx g⟩⟩, ?_⟩
  · obtain ⟨h1, h2⟩ := restr_look hx
    exact ⟨h1, List.mem_append.2 (.inl h2)⟩
  · rw [efC_at hi]
    simp only [if_pos hic]
    unfold CC at h
    rw [look_put] at h
    exact h
theorem ccX0_ (hx : ∀ g, WO P C n ops (fun e st => e = .normal ∧ st = ⟨restr f (slotsOf op) ++ g, S.bx1, S.lv1, S.gen1⟩) [⟨none, op, ty, pos, af, none⟩] ⟨restr f (slotsOf op) ++ g, S.bx0, S.lv0, S.gen0⟩)
    (hi : ops[i]? = some ⟨none, op, ty, pos, af, none⟩) (hc : Nat.beq i c = true) (h : CC P C n S ops c Q rest (i + 1) f true) : CC P C n S ops c Q (⟨none, op, ty, pos, af, none⟩ :: rest) i f false := by
  have hic : i = c := Nat.eq_of_beq_eq_true hc
  refine ⟨.any, ⟨_, hi, rfl, .inl ⟨hic, rfl, rfl, restr f (slotsOf op), fun t x hx => ?_, fun g => hx g⟩⟩, ?_⟩
  · obtain ⟨h1, h2⟩ := restr_look hx
    exact ⟨h1, List.mem_append.2 (.inl h2)⟩
  · rw [efC_at hi]
    simp only [if_pos hic]
    exact h
variable {bx0 bx1 : List (Nat × List A)} {lv0 lv1 : List Nat} {gen0 gen1 : Nat}
theorem CC.nil (h : Q ⟨f, bx1, lv1, gen1⟩) : CC P C n ⟨bx0, bx1, lv0, lv1, gen0, gen1⟩ ops c Q [] i f true :=
  CC.nil_ (S := ⟨bx0, bx1, lv0, lv1, gen0, gen1⟩) h
theorem ccPu (h1 : Pu P C n ⟨restr f (slotsOf op), bx1, lv1, gen1⟩ ⟨some d, op, ty, pos, af, none⟩ a) (h0 : Pu P C n ⟨restr f (slotsOf op), bx0, lv0, gen0⟩ ⟨some d, op, ty, pos, af, none⟩ a)
    (hi : ops[i]? = some ⟨some d, op, ty, pos, af, none⟩) (hc : Nat.beq i c = false) (b0 : behindB .any ops i c = false) (b1 : behindB .any ops c i = false) (hd : Nat.blt d n = true)
    (h : CC P C n ⟨bx0, bx1, lv0, lv1, gen0, gen1⟩ ops c Q rest (i + 1) ((d, a) :: f) ph) : CC P C n ⟨bx0, bx1, lv0, lv1, gen0, gen1⟩ ops c Q (⟨some d, op, ty, pos, af, none⟩ :: rest) i f ph :=
  ccPu_ (S := ⟨bx0, bx1, lv0, lv1, gen0, gen1⟩) h1 h0 hi hc b0 b1 hd h
theorem ccPu0 (h0 : Pu P C n ⟨restr f (slotsOf op), bx0, lv0, gen0⟩ ⟨some d, op, ty, pos, af, none⟩ a)
    (hi : ops[i]? = some ⟨some d, op, ty, pos, af, none⟩) (hc : Nat.beq i c = false) (b0 : behindB .any ops i c = false) (b1 : behindB .any ops c i = true) (hd : Nat.blt d n = true)
    (h : CC P C n ⟨bx0, bx1, lv0, lv1, gen0, gen1⟩ ops c Q rest (i + 1) ((d, a) :: f) false) : CC P C n ⟨bx0, bx1, lv0, lv1, gen0, gen1⟩ ops c Q (⟨some d, op, ty, pos, af, none⟩ :: rest) i f false :=
  ccPu0_ (S := ⟨bx0, bx1, lv0, lv1, gen0, gen1⟩) h0 hi hc b0 b1 hd h
theorem ccPu1 (h1 : Pu P C n ⟨restr f (slotsOf op), bx1, lv1, gen1⟩ ⟨some d, op, ty, pos, af, none⟩ a)
    (hi : ops[i]? = some ⟨some d, op, ty, pos, af, none⟩) (hc : Nat.beq i c = false) (b0 : behindB .any ops i c = true) (b1 : behindB .any ops c i = false) (hd : Nat.blt d n = true)
    (h : CC P C n ⟨bx0, bx1, lv0, lv1, gen0, gen1⟩ ops c Q rest (i + 1) ((d, a) :: f) true) : CC P C n ⟨bx0, bx1, lv0, lv1, gen0, gen1⟩ ops c Q (⟨some d, op, ty, pos, af, none⟩ :: rest) i f true :=
  ccPu1_ (S := ⟨bx0, bx1, lv0, lv1, gen0, gen1⟩) h1 hi hc b0 b1 hd h
theorem ccX (hx : ∀ g, WO P C n ops (fun e st => e = .normal ∧ st = ⟨(d, a) :: (restr f (slotsOf op) ++ g), bx1, lv1, gen1⟩) [⟨some d, op, ty, pos, af, none⟩] ⟨restr f (slotsOf op) ++ g, bx0, lv0, gen0⟩)
    (hi : ops[i]? = some ⟨some d, op, ty, pos, af, none⟩) (hc : Nat.beq i c = true) (hd : Nat.blt d n = true) (h : CC P C n ⟨bx0, bx1, lv0, lv1, gen0, gen1⟩ ops c Q rest (i + 1) ((d, a) :: f) true) : CC P C n ⟨bx0, bx1, lv0, lv1, gen0, gen1⟩ ops c Q (⟨some d, op, ty, pos, af, none⟩ :: rest) i f false :=
  ccX_ (S := ⟨bx0, bx1, lv0, lv1, gen0, gen1⟩) hx hi hc hd h
theorem ccX0 (hx : ∀ g, WO P C n ops (fun e st => e = .normal ∧ st = ⟨restr f (slotsOf op) ++ g, bx1, lv1, gen1⟩) [⟨none, op, ty, pos, af, none⟩] ⟨restr f (slotsOf op) ++ g, bx0, lv0, gen0⟩)
    (hi : ops[i]? = some ⟨none, op, ty, pos, af, none⟩) (hc : Nat.beq i c = true) (h : CC P C n ⟨bx0, bx1, lv0, lv1, gen0, gen1⟩ ops c Q rest (i + 1) f true) : CC P C n ⟨bx0, bx1, lv0, lv1, gen0, gen1⟩ ops c Q (⟨none, op, ty, pos, af, none⟩ :: rest) i f false :=
  ccX0_ (S := ⟨bx0, bx1, lv0, lv1, gen0, gen1⟩) hx hi hc h
end
end Go.Ab
namespace Go.Ab
open Go.RowKit
def nilT : D → D
  | .v x => bif isNil (.d (.v x)) then .sl [] else .v x
  | .sl es => .sl es
theorem RepD.nilT {w : World} {pv : Nat → Nat → Prop} {v : Value} {d : D} (h : RepD w pv v d) : RepD w pv v (Ab.nilT d) := by
  cases d with
  | v x => exact h.nilD
  | sl es => exact h
def nilB : A → A
  | .d x => .d (nilT x)
  | .ag l => .ag (l.map nilT)
  | a => a
theorem Rep.nilB {E : En} {v : Value} {a : A} (h : Rep E v a) : Rep E v (Ab.nilB a) := by
  cases a with
  | d x => cases h with | d hd => exact .d hd.nilT
  | ag l =>
    cases h with
    | ag vs _ hs hd =>
      refine .ag vs _ (by simpa using hs) (fun i u x hu hx => ?_)
      rw [List.getElem?_map, Option.map_eq_some_iff] at hx
      obtain ⟨y, hy, rfl⟩ := hx
      exact (hd i u y hu hy).nilT
  | _ => exact h
section
variable {P : Program} {C : Ctx} {n : Nat} {ops : Array Oper} {Q : Exit → St → Prop} {f : List (Nat × A)} {bx : List (Nat × List A)} {lv : List Nat} {gen : Nat}
theorem nilS (s : Nat) {a a' : A} {l : List Oper} (hl : look f s = some a) (hsn : Nat.blt s n = true) (ha : Ab.nilB a = a') (h : WO P C n ops Q l ⟨(s, a') :: f, bx, lv, gen⟩) : WO P C n ops Q l ⟨f, bx, lv, gen⟩ := by
  subst ha
  intro tmps w ⟨G, hs⟩
  obtain ⟨v, hv, hr⟩ := hs.frame s _ hl
  refine h tmps w ⟨G, ?_⟩
  have := hs.set (d := s) (Nat.le_of_ble_eq_true hsn) hr.nilB
  rwa [set_same hv] at this
end
end Go.Ab
namespace Go.Tb
open Go.Ab
abbrev tx1 : ByteArray := B #[102, 114, 111, 109, 32, 115, 108, 105, 99, 101, 115, 32, 124, 32, 119, 104, 101, 114, 101, 32, 102, 114, 111, 109, 32, 60, 32, 53]
abbrev tx2 : ByteArray := B #[40, 45, 53, 41]
abbrev tx3 : ByteArray := B #[49, 32, 60]
abbrev exL : Ex := .mk 12 E0 Tb.v0 [.mk 2 (B #[102, 114, 111, 109]) Tb.v0 [], .mk 1 E0 ⟨2, 5, E0⟩ []]
abbrev ex5 : Ex := .mk 1 E0 ⟨2, -5, E0⟩ []
abbrev q1 : Qry := ⟨B #[115, 108, 105, 99, 101, 115], [{ stp0 1 with cond := exL }]⟩
theorem tx1_q : queryF true tx1 = (q1, 0, 0) := by kernel_rfl
theorem tx2_q : exprF true tx2 = (ex5, 0, 0) := by kernel_rfl
theorem tx3_q : (exprF true tx3).2 = (3, 15) := by kernel_rfl
theorem tx3_q1 : (exprF true tx3).2.1 = 3 := by rw [tx3_q]
theorem tx3_q2 : (exprF true tx3).2.2 = 15 := by rw [tx3_q]
end Go.Tb
namespace Go.Tb
open Go.Ab
theorem Wf.core {L : List Tk} (hw : Wf L) : Wf (L.map Tk.core) where
  ne := fun e => hw.ne (by simpa using e)
  last i t h := by
    rw [List.getElem?_map, Option.map_eq_some_iff] at h
    obtain ⟨t0, h1, rfl⟩ := h
    rw [List.length_map]
    exact hw.last i t0 h1
  ok t h := by
    obtain ⟨t0, h1, rfl⟩ := List.mem_map.1 h
    exact hw.ok t0 h1
end Go.Tb
namespace Go.Tb
open Go.Ab
end Go.Tb
namespace Go.Tb
open Go.Ab
theorem digB_acc : ∀ (n : Nat) (l : List UInt8), l.length = n → l ≠ [] → (∀ b ∈ l, isDig b = true) → (1 < l.length → l.head? ≠ some 48) → digB (accD 0 l) = l ∧ (l.head? ≠ some 48 → 0 < accD 0 l) := by
  intro n
  induction n with
  | zero => intro l h0 h1; exact absurd (List.length_eq_zero_iff.1 h0) h1
  | succ n ih =>
    intro l hl h1 hd hz
    obtain ⟨l', b, rfl⟩ : ∃ l' b, l = l' ++ [b] := ⟨l.dropLast, l.getLast h1, (List.dropLast_concat_getLast h1).symm⟩
    have hb := hd b (by simp)
    have hb' : 48 ≤ b.toNat ∧ b.toNat ≤ 57 := by simpa [isDig] using hb
    have e1 : accD 0 (l' ++ [b]) = 10 * accD 0 l' + (b.toNat - 48) := by rw [accD_append]; simp [accD, hb]
    have hbn : UInt8.ofNat (48 + (b.toNat - 48)) = b := UInt8.toNat_inj.1 (by rw [UInt8.toNat_ofNat']; omega)
    by_cases q : l' = []
    · subst q
      have e2 : accD 0 ([] ++ [b]) = b.toNat - 48 := by rw [e1]; simp [accD]
      rw [e2]
      refine ⟨by rw [digB_small (by omega), hbn]; rfl, fun h => ?_⟩
      have : b ≠ 48 := fun e => h (by rw [e]; rfl)
      have h2 : b.toNat ≠ 48 := fun e => this (UInt8.toNat_inj.1 e)
      omega
    · have hh : (l' ++ [b]).head? = l'.head? := by cases l' with | nil => exact absurd rfl q | cons x r => rfl
      have hlen : l'.length = n := by simpa using hl
      have hlp : 0 < l'.length := List.length_pos_iff.2 q
      have hz' : l'.head? ≠ some 48 := by rw [← hh]; exact hz (by simp; omega)
      obtain ⟨i1, i2⟩ := ih l' hlen q (fun x hx => hd x (by simp [hx])) (fun _ => hz')
      have i3 := i2 hz'
      rw [e1]
      refine ⟨?_, fun _ => by omega⟩
      rw [digB_big (by omega), show (10 * accD 0 l' + (b.toNat - 48)) / 10 = accD 0 l' by omega, show (10 * accD 0 l' + (b.toNat - 48)) % 10 = b.toNat - 48 by omega, i1, hbn]
theorem digB_head : ∀ u, u ≠ 0 → (digB u).head? ≠ some 48 := by
  refine digB_ind (fun u h h0 => ?_) (fun u h ih h0 => ?_)
  · rw [digB_small h]
    intro e
    simp only [List.head?_cons, Option.some.injEq] at e
    have := congrArg UInt8.toNat e
    rw [UInt8.toNat_ofNat'] at this
    have : (48 + u) % 256 = 48 := this
    omega
  · rw [digB_big h]
    have := ih (by omega)
    cases q : digB (u / 10) with
    | nil => exact absurd q (digB_ne _)
    | cons x r => rw [q] at this; exact this
def valR (s : ByteArray) : Int := if (numP s).2 then (numP s).1 else -1
theorem numP_digs {s : ByteArray} (hne : bys s ≠ []) (hd : ∀ b ∈ bys s, isDig b = true) :
    numP s = if 16 < (bys s).length ∨ (1 < (bys s).length ∧ (bys s).head? = some 48) ∨ 1000000000000000 < accD 0 (bys s) then (0, false) else ((accD 0 (bys s) : Int), true) := by
  by_cases q : 16 < (bys s).length ∨ (1 < (bys s).length ∧ (bys s).head? = some 48) ∨ 1000000000000000 < accD 0 (bys s)
  · rw [if_pos q]
    refine numP_none fun v hv e => ?_
    have hv' : -1000000000000000 ≤ v ∧ v ≤ 1000000000000000 := by simpa [inR] using hv
    have e2 : bys s = Lib.itoa v := by rw [e]; rfl
    rcases Int.lt_or_le v 0 with h | h
    · rw [numB_neg h] at e2
      have := hd 45 (by rw [e2]; simp)
      exact absurd this (by decide)
    · rw [numB_pos h] at e2
      rcases q with q | ⟨q, q2⟩ | q
      · have := digB_len v.toNat 15 (by have : (10 : Nat) ^ (15 + 1) = 10000000000000000 := by decide
                                        omega)
        rw [e2] at q
        omega
      · rw [e2] at q q2
        by_cases h0 : v.toNat = 0
        · rw [h0, digB_small (by decide)] at q; simp at q
        · exact digB_head _ h0 q2
      · rw [e2, accD_digB] at q
        omega
  · rw [if_neg q]
    have hz : 1 < (bys s).length → (bys s).head? ≠ some 48 := fun h1 h2 => q (.inr (.inl ⟨h1, h2⟩))
    have h3 := (digB_acc _ (bys s) rfl hne hd hz).1
    have h4 : accD 0 (bys s) ≤ 1000000000000000 := by omega
    have e : s = numB (accD 0 (bys s) : Int) := by
      rw [← ofL_bs' s]
      unfold numB ofL
      rw [numB_pos (by omega)]
      show (⟨(bys s).toArray⟩ : ByteArray) = ⟨(digB (accD 0 (bys s))).toArray⟩
      rw [h3]
    conv => lhs; rw [e]
    exact numP_num (by simp [inR]; omega)
 where
  ofL_bs' (s : ByteArray) : ofL (bys s) = s := (ofL_of rfl).symm
theorem valR_digs {s : ByteArray} (hne : bys s ≠ []) (hd : ∀ b ∈ bys s, isDig b = true) :
    valR s = if 16 < (bys s).length ∨ (1 < (bys s).length ∧ (bys s).head? = some 48) then -1 else if 1000000000000000 < accD 0 (bys s) then -1 else (accD 0 (bys s) : Int) := by
  have h := numP_digs hne hd
  unfold valR
  by_cases q1 : 16 < (bys s).length ∨ (1 < (bys s).length ∧ (bys s).head? = some 48)
  · have hq : 16 < (bys s).length ∨ (1 < (bys s).length ∧ (bys s).head? = some 48) ∨ 1000000000000000 < accD 0 (bys s) := q1.elim .inl fun h => .inr (.inl h)
    rw [if_pos hq] at h
    rw [h, if_pos q1]
    rfl
  · rw [if_neg q1]
    by_cases q2 : 1000000000000000 < accD 0 (bys s)
    · have hq : 16 < (bys s).length ∨ (1 < (bys s).length ∧ (bys s).head? = some 48) ∨ 1000000000000000 < accD 0 (bys s) := .inr (.inr q2)
      rw [if_pos hq] at h
      rw [h, if_pos q2]
      rfl
    · have hq : ¬ (16 < (bys s).length ∨ (1 < (bys s).length ∧ (bys s).head? = some 48) ∨ 1000000000000000 < accD 0 (bys s)) := fun h => h.elim (fun h => q1 (.inl h)) fun h => h.elim (fun h => q1 (.inr h)) q2
      rw [if_neg hq] at h
      rw [h, if_neg q2]
      rfl
theorem numP_ok {s : ByteArray} (hne : bys s ≠ []) (hd : ∀ b ∈ bys s, isDig b = true) : (numP s).2 = decide (0 ≤ valR s) := by
  have hn := numP_digs hne hd
  unfold valR
  cases q : (numP s).2 with
  | false => rfl
  | true =>
    show true = decide (0 ≤ (numP s).1)
    by_cases hq : 16 < (bys s).length ∨ (1 < (bys s).length ∧ (bys s).head? = some 48) ∨ 1000000000000000 < accD 0 (bys s)
    · rw [if_pos hq] at hn; rw [hn] at q; cases q
    · rw [if_neg hq] at hn
      rw [hn]
      symm
      rw [decide_eq_true_eq]
      exact Int.natCast_nonneg _
theorem run_digs {s : ByteArray} {k : Nat} {c : UInt8} (hc : (bys s)[k]? = some c) (hd : isDig c = true) : bys (s.extract k (runP isDig s k)) ≠ [] ∧ ∀ b ∈ bys (s.extract k (runP isDig s k)), isDig b = true := by
  rw [ext_runP]
  have e : bys (ofL (((bys s).drop k).takeWhile isDig)) = ((bys s).drop k).takeWhile isDig := by unfold bys ofL; simp
  rw [e]
  refine ⟨?_, fun b hb => List.all_eq_true.1 List.all_takeWhile b hb⟩
  have hlt := (List.getElem?_eq_some_iff.1 hc).1
  rw [List.drop_eq_getElem_cons hlt, (List.getElem?_eq_some_iff.1 hc).2, List.takeWhile_cons, if_pos hd]
  simp
end Go.Tb
namespace Go.Ab
open Go.RowKit
/-! ### whatever the states are: with paths in place of edges -/
section
variable {P : Program} {ops : Array Oper} {md : Region.Mode} {m : Nat} {S E : Type} {Y : Nat → E → S → Prop} {ef : Nat → E → S → S}
def loose (md : Region.Mode) (ops : Array Oper) (i j : Nat) : Prop := reachB md ops ops.size i j = false ∧ reachB md ops ops.size j i = false
end
/-! ### what a renumbering leaves as it is -/
def monoB (o o' : List Nat) : Bool := (List.range o.length).all fun g => !(pos o g == some g) || pos o' g == some g
end Go.Ab
namespace Go.Ab
open Go.RowKit
structure ParD where
  bxF : Nat → List (Nat × List A)
  bxT : Nat → List (Nat × List A)
  lv : Nat → List Nat
  gen : Nat → Nat
  ord : Nat → List Nat
  g0 : Nat
  z : List A
  cs : List Nat
  al : Nat
def ParD.bx (S : ParD) (k : Nat) (b : Bool) : List (Nat × List A) := bif b then S.bxT k else S.bxF k
def alw (S : ParD) (ops : Array Oper) (i k : Nat) (b : Bool) : Bool :=
  ((List.range S.cs.length).all fun j => bif Nat.blt j k then !reachB .any ops ops.size (S.cs.getD j 0) i else !reachB .any ops ops.size i (S.cs.getD j 0)) &&
  (bif b then !reachB .any ops ops.size S.al i else (Nat.blt S.al ops.size && !reachB .any ops ops.size i S.al))
theorem Pu.nilB {P : Program} {C : Ctx} {n : Nat} {st : St} {o : Oper} {a a' : A} (h : Pu P C n st o a) (e : Ab.nilB a = a') : Pu P C n st o a' := fun G tmps w hs => by
  subst e
  exact (h G tmps w hs).mono fun v w' ⟨h1, h2⟩ => ⟨h1, h2.nilB⟩
section
variable {P : Program} (T : Tab P) {C : Ctx} {n : Nat} (S : ParD) {ops : Array Oper}
abbrev SD := Fr' × Nat × Bool
def XEd (P : Program) (C : Ctx) (n : Nat) (S : ParD) (ops : Array Oper) (o : Oper) (a : A) (k : Nat) (b : Bool) (φ : Fr') : Prop :=
  o.guard = none ∧ ∃ p, (∀ t x, look p t = some x → φ t = some x ∧ t ∈ o.looksAt ops) ∧
    ∀ g, WO P C n ops (fun e st => e = .normal ∧ st = St.put ⟨p ++ g, S.bx (k + 1) b, S.lv (k + 1), S.gen (k + 1)⟩ o.dst a) [o] ⟨p ++ g, S.bx k b, S.lv k, S.gen k⟩
def YD (P : Program) (T : Tab P) (C : Ctx) (n : Nat) (S : ParD) (ops : Array Oper) (i : Nat) (a : A) (σ : SD) : Prop :=
  ∃ o, ops[i]? = some o ∧ dstOK n o.dst = true ∧ σ.2.1 ≤ S.cs.length ∧ alw S ops i σ.2.1 σ.2.2 = true ∧
    ((S.cs[σ.2.1]? = some i ∧ i ≠ S.al ∧ (∀ b, alw S ops i σ.2.1 b = true → XEd P C n S ops o a σ.2.1 b σ.1) ∧ (alw S ops i σ.2.1 false = true → ren (S.ord (σ.2.1 + 1)) a = a)) ∨
     (i ∉ S.cs ∧ i = S.al ∧ σ.2.2 = false ∧ o.guard = none ∧ a = .ptr S.g0 0 ∧ ∃ e d dt, o.op = .alloc e ∧ o.dst = some d ∧ look' T.l e = some dt ∧ S.z = dt.z.map fun v => A.d (.v v)) ∨
     (i ∉ S.cs ∧ i ≠ S.al ∧ ∀ k b, k ≤ S.cs.length → alw S ops i k b = true → YA P C n (S.bx k b) (S.lv k) (S.gen k) ops o a σ.1 ∧ (b = false → ren (S.ord k) a = a)))
def efD (S : ParD) (ops : Array Oper) (i : Nat) (a : A) (σ : SD) : SD :=
  match ops[i]? with
  | none => σ
  | some o => (putF σ.1 o.dst a, (if S.cs[σ.2.1]? = some i then σ.2.1 + 1 else σ.2.1), if i = S.al then true else σ.2.2)
variable {T} {S}
theorem loose.symm {md : Region.Mode} {i j : Nat} (h : loose md ops i j) : loose md ops j i := ⟨h.2, h.1⟩
def okD1 (S : ParD) (nb k : Nat) : Prop := (orderB (S.ord k) (S.gen k) nb = true ∧ pos (S.ord k) (S.gen k) = some S.g0) ∧ SubBR (S.ord k) ((S.gen k, S.z) :: S.bxF k) (S.bxT k) ∧ lvR (S.ord k) (S.lv k) (S.lv k) = true
def okD (S : ParD) (nb : Nat) : Nat → Prop
  | 0 => okD1 S nb 0
  | k + 1 => okD1 S nb (k + 1) ∧ monoB (S.ord k) (S.ord (k + 1)) = true ∧ okD S nb k
theorem okD.at {nb : Nat} : ∀ {m : Nat}, okD S nb m → ∀ k, k ≤ m → okD1 S nb k
  | 0, h, k, hk => by obtain rfl : k = 0 := by omega
                      exact h
  | m + 1, h, k, hk => by
    rcases Nat.lt_or_ge k (m + 1) with hlt | hge
    · exact okD.at h.2.2 k (by omega)
    · obtain rfl : k = m + 1 := by omega
      exact h.1
theorem okD.mono {nb : Nat} : ∀ {m : Nat}, okD S nb m → ∀ k, k < m → monoB (S.ord k) (S.ord (k + 1)) = true
  | 0, _, k, hk => absurd hk (Nat.not_lt_zero _)
  | m + 1, h, k, hk => by
    rcases Nat.lt_or_ge k m with hlt | hge
    · exact okD.mono h.2.2 k hlt
    · obtain rfl : k = m := by omega
      exact h.2.1
def CD (P : Program) (T : Tab P) (C : Ctx) (n : Nat) (S : ParD) (ops : Array Oper) (Q : St → Prop) (l : List Oper) (i : Nat) (f : List (Nat × A)) (k : Nat) (b : Bool) : Prop :=
  ceG (YD P T C n S ops) (efD S ops) (fun σ => ∃ f', (∀ t, look f' t = σ.1 t) ∧ σ.2 = (S.cs.length, true) ∧ Q ⟨f', S.bxT S.cs.length, S.lv S.cs.length, S.gen S.cs.length⟩) l i (look f, k, b)
def AllFix (o : List Nat) : List (Nat × A) → Prop
  | [] => True
  | (_, a) :: r => ren o a = a ∧ AllFix o r
theorem AllFix.at {o : List Nat} : ∀ {f : List (Nat × A)}, AllFix o f → ∀ t a, look f t = some a → ren o a = a
  | [], _, t, a, h => by simp [look] at h
  | (s, x) :: r, hf, t, a, h => by
    rw [look_cons] at h
    split at h
    · cases h; exact hf.1
    · exact hf.2.at t a h
variable {op : Op} {ty : TypeId} {pos : String} {af : Array Edge} {a : A} {d i k : Nat} {rest : List Oper} {f : List (Nat × A)} {Q : St → Prop} {b : Bool}
theorem CD.nil (h : Q ⟨f, S.bxT S.cs.length, S.lv S.cs.length, S.gen S.cs.length⟩) (hk : Nat.beq k S.cs.length = true) : CD P T C n S ops Q [] i f k true := by
  have := Nat.eq_of_beq_eq_true hk
  subst this
  exact ⟨f, fun _ => rfl, rfl, h⟩
def allD (p : Nat → Bool → Prop) : Nat → Prop
  | 0 => p 0 false ∧ p 0 true
  | k + 1 => p (k + 1) false ∧ p (k + 1) true ∧ allD p k
theorem allD.at {p : Nat → Bool → Prop} : ∀ {m : Nat}, allD p m → ∀ k b, k ≤ m → p k b
  | 0, h, k, b, hk => by
    obtain rfl : k = 0 := by omega
    cases b
    · exact h.1
    · exact h.2
  | m + 1, h, k, b, hk => by
    rcases Nat.lt_or_ge k (m + 1) with hlt | hge
    · exact h.2.2.at k b (by omega)
    · obtain rfl : k = m + 1 := by omega
      cases b
      · exact h.1
      · exact h.2.1
end
end Go.Ab
