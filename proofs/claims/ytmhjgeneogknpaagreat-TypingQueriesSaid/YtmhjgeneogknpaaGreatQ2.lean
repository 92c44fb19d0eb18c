import Derived.Test.YtmhjgeneogknpaaGreatQ1
import Derived.WalkKit
import Derived.ProofKit
import Derived.OpenShut
import Derived.Carry
import Derived.ChangeOld
import Derived.ChangeSame
import Derived.ChangeArms
import Derived.Still
/- The rules in the form in which a walk meets them. -/
namespace Go.Ab
open Go.RowKit

section
variable {P : Program} (T : Tab P) {C : Ctx} {n : Nat} {ops : Array Oper} {Q : Exit → St → Prop} {rest : List Oper}
variable {f : List (Nat × A)} {bx : List (Nat × List A)} {lv : List Nat} {gen : Nat} {d : Nat} {op : Op} {ty : TypeId} {pos : String} {af : Array Edge} {a : A} {dst : Option Nat}

theorem ev (h : evPu T f bx op = some a) : Pu P C n ⟨f, bx, lv, gen⟩ ⟨dst, op, ty, pos, af, none⟩ a := Pu.ev (st := ⟨f, bx, lv, gen⟩) T h

theorem pu (hp : Pu P C n ⟨f, bx, lv, gen⟩ ⟨some d, op, ty, pos, af, none⟩ a) (hd : Nat.blt d n = true) (h : WO P C n ops Q rest ⟨(d, a) :: f, bx, lv, gen⟩) : WO P C n ops Q (⟨some d, op, ty, pos, af, none⟩ :: rest) ⟨f, bx, lv, gen⟩ :=
  WO.pu rfl hd hp h

theorem goG {j e : Nat} {want : Bool} (hj : gslot ops j = some e) (hl : look f e = some (.d (.v (.bool want)))) (h : WO P C n ops Q (⟨dst, op, ty, pos, af, none⟩ :: rest) ⟨f, bx, lv, gen⟩) : WO P C n ops Q (⟨dst, op, ty, pos, af, some (j, want)⟩ :: rest) ⟨f, bx, lv, gen⟩ :=
  WO.go (st := ⟨f, bx, lv, gen⟩) rfl hj hl h

theorem skipG {j e : Nat} {want b : Bool} (hj : gslot ops j = some e) (hl : look f e = some (.d (.v (.bool b)))) (hb : (b == want) = false) (hd : Nat.blt d n = true) (h : WO P C n ops Q rest ⟨(d, .any) :: f, bx, lv, gen⟩) :
    WO P C n ops Q (⟨some d, op, ty, pos, af, some (j, want)⟩ :: rest) ⟨f, bx, lv, gen⟩ :=
  WO.skip (st := ⟨f, bx, lv, gen⟩) rfl hj hl hb hd h

theorem skipG0 {j e : Nat} {want b : Bool} (hj : gslot ops j = some e) (hl : look f e = some (.d (.v (.bool b)))) (hb : (b == want) = false) (h : WO P C n ops Q rest ⟨f, bx, lv, gen⟩) :
    WO P C n ops Q (⟨none, op, ty, pos, af, some (j, want)⟩ :: rest) ⟨f, bx, lv, gen⟩ :=
  WO.skip (st := ⟨f, bx, lv, gen⟩) rfl hj hl hb rfl h

theorem splitG {j e : Nat} {want b : Bool} (hj : gslot ops j = some e) (hl : look f e = some (.d (.v (.bool b)))) (ht : b = true → WO P C n ops Q (⟨dst, op, ty, pos, af, some (j, want)⟩ :: rest) ⟨(e, .d (.v (.bool true))) :: f, bx, lv, gen⟩)
    (hf : b = false → WO P C n ops Q (⟨dst, op, ty, pos, af, some (j, want)⟩ :: rest) ⟨(e, .d (.v (.bool false))) :: f, bx, lv, gen⟩) : WO P C n ops Q (⟨dst, op, ty, pos, af, some (j, want)⟩ :: rest) ⟨f, bx, lv, gen⟩ :=
  WO.split (st := ⟨f, bx, lv, gen⟩) hl ht hf

theorem boxR {e : TypeId} {x : Operand} {l : List A} (ha : av f x = some a) (hc : cellsOf bx a = some l) (hd : Nat.blt d n = true) (h : WO P C n ops Q rest ⟨(d, .ptr gen 0) :: f, (gen, l) :: bx, lv, gen + 1⟩) :
    WO P C n ops Q (⟨some d, .box e x, ty, pos, af, none⟩ :: rest) ⟨f, bx, lv, gen⟩ := WO.box (st := ⟨f, bx, lv, gen⟩) rfl hd rfl ha hc h

theorem allocR {e : TypeId} {dt : TyD} {l : List A} (he : look' T.l e = some dt) (hl : (dt.z.map fun v => A.d (.v v)) = l) (hd : Nat.blt d n = true) (h : WO P C n ops Q rest ⟨(d, .ptr gen 0) :: f, (gen, l) :: bx, lv, gen + 1⟩) :
    WO P C n ops Q (⟨some d, .alloc e, ty, pos, af, none⟩ :: rest) ⟨f, bx, lv, gen⟩ := by
  subst hl
  exact WO.alloc (st := ⟨f, bx, lv, gen⟩) T rfl hd rfl he h

theorem storeR {t : TypeId} {x y : Operand} {g off : Nat} {cells cs cells' : List A} (hx : av f x = some (.ptr g off)) (hb : look' bx g = some cells) (ha : av f y = some a) (hc : cellsOf bx a = some cs) (hsz : szAt T t = cs.length) (hz : Nat.blt 0 cs.length = true)
    (hle : Nat.ble (off + cs.length) cells.length = true) (hs : setAt cells off cs = cells') (h : WO P C n ops Q rest ⟨f, (g, cells') :: bx, lv, gen⟩) : WO P C n ops Q (⟨none, .store t x y, ty, pos, af, none⟩ :: rest) ⟨f, bx, lv, gen⟩ := by
  subst hs
  exact WO.store (st := ⟨f, bx, lv, gen⟩) T rfl rfl rfl hx hb ha hc hsz (by have := Nat.le_of_ble_eq_true hz; omega) hle h

theorem callR {x : Operand} {xs : Array Operand} {tys : Array TypeId} {fid : FuncId} {caps as args : List A} (hx : av f x = some (.clo fid caps)) (hxs : avs f xs.toList = some as) (harg : (as ++ caps).map (conv bx 5) = args) {r : A} {k : Nat} (hf : Does P fid args r k)
    (hd : Nat.blt d n = true) {r' : A} (hr : shift gen r = r') {lv' : List Nat} (hlv : (List.range k).map (· + gen) ++ lv = lv') (h : WO P C n ops Q rest ⟨(d, r') :: f, bx, lv', gen + k⟩) :
    WO P C n ops Q (⟨some d, .call ⟨.value x, xs, tys⟩, ty, pos, af, none⟩ :: rest) ⟨f, bx, lv, gen⟩ := by
  subst harg; subst hr; subst hlv
  exact WO.call (st := ⟨f, bx, lv, gen⟩) rfl hd rfl hx hxs hf h

theorem puCall {x : Operand} {xs : Array Operand} {tys : Array TypeId} {fid : FuncId} {caps as args : List A} (hx : av f x = some (.clo fid caps)) (hxs : avs f xs.toList = some as) (harg : (as ++ caps).map (conv bx 5) = args) (hf : Does P fid args a 0) (hr : cleanA a = true) :
    Pu P C n ⟨f, bx, lv, gen⟩ ⟨dst, .call ⟨.value x, xs, tys⟩, ty, pos, af, none⟩ a := by
  subst harg
  exact Pu.call (st := ⟨f, bx, lv, gen⟩) rfl hx hxs hf hr

theorem appendR {x y : Operand} {t e : Nat} {td ed : TyD} {g : Nat} {es es2 : List (List D)} {b : A} (hx : av f x = some (.own g es)) (hy : av f y = some b) (hb2 : slOf b = some es2) (ht : look' T.l t = some td) (hk : td.k = .slice e) (he : look' T.l e = some ed) (hgl : g ∈ lv)
    (hz : Nat.blt 0 ed.n = true) (hb0 : Nat.blt 0 ed.b = true) (hd : Nat.blt d n = true) (hl : ∀ (x : List D), x ∈ es ++ es2 → x.length = ed.n) (hb : (es.length + es2.length) * ed.b ≤ 140737488355328)
    (h : WO P C n ops Q rest ⟨(d, .own gen (es ++ es2)) :: f, bx, gen :: dropId lv g, gen + 1⟩) : WO P C n ops Q (⟨some d, .call ⟨.builtin .append, #[x, y], #[t, t]⟩, ty, pos, af, none⟩ :: rest) ⟨f, bx, lv, gen⟩ :=
  WO.append (st := ⟨f, bx, lv, gen⟩) T rfl hd rfl ht hk he hx hgl hy hb2 hz hb0 hl hb h

theorem appendNilR {x y : Operand} {t e : Nat} {td ed : TyD} {es2 : List (List D)} {b : A} (hx : av f x = some (.d (.v (.slice none 0 0)))) (hy : av f y = some b) (hb2 : slOf b = some es2) (ht : look' T.l t = some td) (hk : td.k = .slice e) (he : look' T.l e = some ed)
    (hz : Nat.blt 0 ed.n = true) (hb0 : Nat.blt 0 ed.b = true) (hd : Nat.blt d n = true) (hl : ∀ (x : List D), x ∈ es2 → x.length = ed.n) (hb : es2.length * ed.b ≤ 140737488355328)
    (h : WO P C n ops Q rest ⟨(d, .own gen es2) :: f, bx, gen :: lv, gen + 1⟩) : WO P C n ops Q (⟨some d, .call ⟨.builtin .append, #[x, y], #[t, t]⟩, ty, pos, af, none⟩ :: rest) ⟨f, bx, lv, gen⟩ :=
  WO.appendNil (st := ⟨f, bx, lv, gen⟩) T rfl hd rfl ht hk he hx hy hb2 hz hb0 hl hb h

theorem buildSliceR {t e len : Nat} {parts : Array (Nat × Operand)} {td ed : TyD} {es : List (List D)} (ht : look' T.l t = some td) (hk : td.k = .slice e) (he : look' T.l e = some ed) (hes : elsA f 0 parts.toList = some es) (hlen : es.length = len)
    (hz : Nat.blt 0 ed.n = true) (hsm : Nat.ble (len * ed.n) 16777216 = true) (hd : Nat.blt d n = true) (hl : ∀ (x : List D), x ∈ es → x.length = ed.n) (h : WO P C n ops Q rest ⟨(d, .own gen es) :: f, bx, gen :: lv, gen + 1⟩) :
    WO P C n ops Q (⟨some d, .buildSlice t len parts, ty, pos, af, none⟩ :: rest) ⟨f, bx, lv, gen⟩ := WO.buildSlice (st := ⟨f, bx, lv, gen⟩) T rfl hd rfl ht hk he hes hlen hz hsm hl h

theorem build {t : Nat} {parts : Array (Nat × Operand)} {dt : TyD} {fs : List (Nat × Nat × String)} {cells : List A} (ht : look' T.l t = some dt) (hk : dt.k = .st fs) (hf : fillA bx f (plSt T fs) parts.toList (dt.z.map fun v => .d (.v v)) = some cells) (hr : mkAgg cells = a) :
    Pu P C n ⟨f, bx, lv, gen⟩ ⟨dst, .build t parts, ty, pos, af, none⟩ a := Pu.build (st := ⟨f, bx, lv, gen⟩) T rfl ht hk hf hr

theorem loadRow {t : Nat} {x : Operand} {td : TyD} {l : List D} (ht : look' T.l t = some td) (hk : td.k.agg = true) (hx : av f x = some (.rowd l)) (hlen : l.length = td.n) : Pu P C n ⟨f, bx, lv, gen⟩ ⟨dst, .load t x, ty, pos, af, none⟩ (.ag l) :=
  Pu.loadRow (st := ⟨f, bx, lv, gen⟩) T rfl ht hk hx hlen

theorem loadBox {t : Nat} {x : Operand} {td : TyD} {g : Nat} {l : List D} (ht : look' T.l t = some td) (hk : td.k.agg = true) (hx : av f x = some (.ptr g 0)) (hb : look' bx g = some (l.map A.d)) (hlen : l.length = td.n) : Pu P C n ⟨f, bx, lv, gen⟩ ⟨dst, .load t x, ty, pos, af, none⟩ (.ag l) :=
  Pu.loadBox (st := ⟨f, bx, lv, gen⟩) T rfl ht hk hx hb hlen

theorem indexAddr {t e : Nat} {x ix : Operand} {td ed : TyD} {es : List (List D)} {k : IntKind} {i : Int} {l : List D} (hx : av f x = some a) (hes : slOf a = some es) (hi : av f ix = some (.d (.v (.int k i)))) (ht : look' T.l t = some td) (hk : td.k = .slice e) (he : look' T.l e = some ed)
    (h0 : 0 ≤ i) (hl : es[i.toNat]? = some l) (hlen : l.length = ed.n) : Pu P C n ⟨f, bx, lv, gen⟩ ⟨dst, .indexAddr t x ix, ty, pos, af, none⟩ (.rowd l) :=
  Pu.indexAddr (st := ⟨f, bx, lv, gen⟩) T rfl ht hk he hx hes hi h0 hl hlen

theorem indexStr {t : Nat} {x ix : Operand} {td : TyD} {s : ByteArray} {k : IntKind} {i : Int} {b : UInt8} (hx : av f x = some (.d (.v (.string s)))) (hi : av f ix = some (.d (.v (.int k i)))) (ht : look' T.l t = some td) (hk : td.k = .str) (h0 : 0 ≤ i) (hb : s[i.toNat]? = some b) :
    Pu P C n ⟨f, bx, lv, gen⟩ ⟨dst, .index t x ix, ty, pos, af, none⟩ (.d (.v (.int .u8 b.toNat))) := Pu.indexStr (st := ⟨f, bx, lv, gen⟩) T rfl ht hk hx hi h0 hb

theorem condR {c : Operand} {x y : Code} {b : Bool} {st : St} (hc : av st.f c = some (.d (.v (.bool b)))) (ht : b = true → W P C n x Q st) (hf : b = false → W P C n y Q st) : W P C n (.cond c x y) Q st := W.cond hc ht hf
theorem qs {y : Code} {st : St} (h : W P C n y Q st) : QS P C n y Q .normal st := h
theorem qsRet {y : Code} {st : St} (h : Q .ret st) : QS P C n y Q .ret st := h
theorem qsExit {y : Code} {id : Nat} {st : St} (h : Q (.exit id) st) : QS P C n y Q (.exit id) st := h
theorem qbN {id : Nat} {st : St} (h : Q .normal st) : QB id Q .normal st := h
theorem qbRet {id : Nat} {st : St} (h : Q .ret st) : QB id Q .ret st := h
theorem qbExit {id : Nat} {st : St} (h : Q .normal st) : QB id Q (.exit id) st := by simp [QB]; exact h
theorem qbExit' {id i : Nat} {st : St} (hn : Nat.beq i id = false) (h : Q (.exit i) st) : QB id Q (.exit i) st := by
  simp only [QB]
  rw [if_neg (fun e => by subst e; simp at hn)]
  exact h
theorem qlRet {I : Nat → St → Prop} {m : Nat} {st : St} (h : Q .ret st) : QL I m Q .ret st := h
theorem qlExit {I : Nat → St → Prop} {m i : Nat} {st : St} (h : Q (.exit i) st) : QL I m Q (.exit i) st := h
theorem qlN {I : Nat → St → Prop} {m : Nat} {st : St} (k : Nat) (hk : k < m) (h : I k st) : QL I m Q .normal st := ⟨k, hk, h⟩
end
end Go.Ab
namespace Go.Ab
open Go.RowKit
/-- less said of a frame -/
def Sub (f : List (Nat × A)) : List (Nat × A) → Prop
  | [] => True
  | (t, a) :: r => look f t = some a ∧ Sub f r

theorem Sub.le {f : List (Nat × A)} : ∀ {f' : List (Nat × A)}, Sub f f' → ∀ t a, look f' t = some a → look f t = some a
  | [], _, t, a, h => by simp [look] at h
  | (s, b) :: r, hs, t, a, h => by
    rw [look_cons] at h
    split at h
    · rename_i e
      subst e
      simp only [Option.some.injEq] at h
      subst h
      exact hs.1
    · exact Sub.le hs.2 t a h

def SubB (bx : List (Nat × List A)) : List (Nat × List A) → Prop
  | [] => True
  | (t, a) :: r => look' bx t = some a ∧ SubB bx r

theorem SubB.le {f : List (Nat × List A)} : ∀ {f' : List (Nat × List A)}, SubB f f' → ∀ t a, look' f' t = some a → look' f t = some a
  | [], _, t, a, h => by simp [look'] at h
  | (s, b) :: r, hs, t, a, h => by
    rw [look'_cons] at h
    split at h
    · rename_i e
      subst e
      simp only [Option.some.injEq] at h
      subst h
      exact hs.1
    · exact SubB.le hs.2 t a h

section
variable {P : Program} {C : Ctx} {n : Nat} {Q : Exit → St → Prop} {c : Code}
variable {f f' : List (Nat × A)} {bx bx' : List (Nat × List A)} {lv lv' : List Nat} {gen gen' : Nat}

theorem SimG.later {st : St} {G : Gh} {tmps : Array Value} {w : World} (h : SimG C n st G tmps w) {g : Nat} (hg : st.gen ≤ g) : SimG C n { st with gen := g } G tmps w := by
  have hle : (enOf C G st.gen w).le (enOf C G g w) := ⟨fun _ _ _ h h' => ⟨h, h'⟩, fun _ _ _ h h' => ⟨h, h'⟩, fun _ _ h => h, fun _ _ _ h => h, hg⟩
  refine { h with frame := h.frame_mono hle, box := fun g' c hc => ?_, gbox := fun g' b hb => ?_, gown := fun g' r hr => Nat.lt_of_lt_of_le (h.gown g' r hr) hg }
  · obtain ⟨b, cs, T, h1, h2, h3, h4, h5⟩ := h.box g' c hc
    exact ⟨b, cs, T, h1, h2, h3, h4, fun i u a hu ha => (h5 i u a hu ha).mono hle⟩
  · obtain ⟨h1, h2⟩ := h.gbox g' b hb
    exact ⟨Nat.lt_of_lt_of_le h1 hg, h2⟩

theorem SimG.weak {G : Gh} {tmps : Array Value} {w : World} (h : SimG C n ⟨f, bx, lv, gen⟩ G tmps w) (hf : Sub f f') (hb : SubB bx bx') (hl : ∀ g ∈ lv', g ∈ lv) (hg : gen ≤ gen') : SimG C n ⟨f', bx', lv', gen'⟩ G tmps w :=
  SimG.later (st := ⟨f', bx', lv', gen⟩) (h.weaken ⟨hf.le, hb.le, hl, rfl⟩) hg

/-- go on with less -/
theorem W.weak (hf : Sub f f') (hb : SubB bx bx') (hl : ∀ g ∈ lv', g ∈ lv) (hg : gen ≤ gen') (hw : W P C n c Q ⟨f', bx', lv', gen'⟩) : W P C n c Q ⟨f, bx, lv, gen⟩ :=
  fun tmps w ⟨G, hs⟩ => hw tmps w ⟨G, hs.weak hf hb hl hg⟩

/-- what a loop's head says: 'S i' for some i, and how many rounds are left at the most -/
def LI (C : Ctx) (n : Nat) {ι : Type} (S : ι → St) (μ : ι → Nat) : Nat → St → Prop := fun m st => ∃ i, μ i = m ∧ ∀ (G : Gh) (tmps : Array Value) (w : World), SimG C n st G tmps w → SimG C n (S i) G tmps w

/-- A LOOP -/
theorem W.loopS {ι : Type} (S : ι → St) (μ : ι → Nat) (i : ι) (hS : S i = ⟨f', bx', lv', gen'⟩) (hf : Sub f f') (hb : SubB bx bx') (hl : ∀ g ∈ lv', g ∈ lv) (hg : gen ≤ gen') (hr : ∀ i, W P C n c (QL (LI C n S μ) (μ i) Q) (S i)) :
    W P C n (.loop c) Q ⟨f, bx, lv, gen⟩ := by
  refine W.loop (LI C n S μ) (fun m st ⟨i, hm, hle⟩ => ?_) (m := μ i) ⟨i, rfl, fun G tmps w h => by rw [hS]; exact h.weak hf hb hl hg⟩
  subst hm
  exact fun tmps w ⟨G, hs⟩ => hr i tmps w ⟨G, hle G tmps w hs⟩

theorem W.loopEnd {ι : Type} {S : ι → St} {μ : ι → Nat} {m : Nat} (i : ι) (hS : S i = ⟨f', bx', lv', gen'⟩) (hm : μ i < m) (hf : Sub f f') (hb : SubB bx bx') (hl : ∀ g ∈ lv', g ∈ lv) (hg : gen ≤ gen') :
    QL (LI C n S μ) m Q .normal ⟨f, bx, lv, gen⟩ :=
  ⟨μ i, hm, i, rfl, fun G tmps w h => by rw [hS]; exact h.weak hf hb hl hg⟩

/-- a slice is no longer than an int can tell -/
theorem W.len {t : Nat} {a : A} {es : List (List D)} (hl : look f t = some a) (hs : slOf a = some es) (h : es.length ≤ maxLen → W P C n c Q ⟨f, bx, lv, gen⟩) : W P C n c Q ⟨f, bx, lv, gen⟩ := by
  intro tmps w ⟨G, hg⟩
  obtain ⟨v, _, hr⟩ := hg.frame _ _ hl
  exact h (slOf_rep hs hr).len.choose_spec.choose_spec.2 tmps w ⟨G, hg⟩

/-- what a value's cell keeps to -/
theorem W.inRange {t : Nat} {v : Value} (hl : look f t = some (.d (.v v))) (h : okc v = true → W P C n c Q ⟨f, bx, lv, gen⟩) : W P C n c Q ⟨f, bx, lv, gen⟩ := by
  intro tmps w ⟨G, hg⟩
  obtain ⟨u, _, hr⟩ := hg.frame _ _ hl
  cases hr with | d hr => cases hr with | v _ ho =>
  exact h ho tmps w ⟨G, hg⟩
end

theorem wrap64 {x : Int} (h : -9223372036854775808 ≤ x ∧ x ≤ 9223372036854775807) : IntKind.i64.wrap x = x := IntWalk.i64_in x h

theorem wrap_nat {k n : Nat} (h : k < n) (hn : n ≤ maxLen) : IntKind.i64.wrap ((k : Int) + 1) = ((k + 1 : Nat) : Int) := by
  simp only [maxLen] at hn
  rw [wrap64 (by omega)]
  rfl

theorem step_nat {k n : Nat} (h : k < n) (hn : n ≤ maxLen) : some (A.d (.v (.int .i64 (IntKind.i64.wrap ((k : Int) + 1))))) = some (A.d (.v (.int .i64 ((k + 1 : Nat) : Int)))) := by rw [wrap_nat h hn]
end Go.Ab
/- From a row's reading of its arguments to abstract values; a law out of what its function gives. -/
namespace Go.Ab
open Go.RowKit Go.WideShapes Go.ChangeShapes Go.ChangeAt

section
variable {P : Program} (T : Tab P)

/-- cells that have a type's form -/
inductive Conf : Nat → List D → Prop
  | int {t : Nat} {k : IntKind} (n : Int) (h : kdAt T t = .int k) (ho : okc (.int k n) = true) : Conf t [.v (.int k n)]
  | bool {t : Nat} (b : Bool) (h : kdAt T t = .bool) : Conf t [.v (.bool b)]
  | str {t : Nat} (s : ByteArray) (h : kdAt T t = .str) (ho : s.size ≤ maxLen) : Conf t [.v (.string s)]
  | slice {t e : Nat} (es : List (List D)) (h : kdAt T t = .slice e) (hc : ∀ x ∈ es, Conf e x) (hl : es.length ≤ maxLen) : Conf t [.sl es]
  | st {t : Nat} {fs : List (Nat × Nat × String)} (parts : List (List D)) (h : kdAt T t = .st fs) (hl : parts.length = fs.length)
      (hc : ∀ (i : Nat) (o ft : Nat) (nm : String) (p : List D), fs[i]? = some (o, ft, nm) → parts[i]? = some p → Conf ft p) : Conf t parts.flatten

variable {T}
theorem Conf.toInt {t : Nat} {k : IntKind} {l : List D} (h : Conf T t l) (hk : kdAt T t = .int k) : ∃ n, l = [.v (.int k n)] ∧ okc (.int k n) = true := by
  cases h <;> rename_i hk' _ <;> first | (rw [hk] at hk'; cases hk'; exact ⟨_, rfl, by assumption⟩) | skip
  all_goals simp_all
theorem Conf.toBool {t : Nat} {l : List D} (h : Conf T t l) (hk : kdAt T t = .bool) : ∃ b, l = [.v (.bool b)] := by
  cases h <;> first | exact ⟨_, rfl⟩ | simp_all
theorem Conf.toStr {t : Nat} {l : List D} (h : Conf T t l) (hk : kdAt T t = .str) : ∃ s, l = [.v (.string s)] ∧ s.size ≤ maxLen := by
  cases h <;> first | exact ⟨_, rfl, by assumption⟩ | simp_all
theorem Conf.toSlice {t e : Nat} {l : List D} (h : Conf T t l) (hk : kdAt T t = .slice e) : ∃ es, l = [.sl es] ∧ (∀ x ∈ es, Conf T e x) ∧ es.length ≤ maxLen := by
  cases h with
  | slice es h hc hl => rw [hk] at h; cases h; exact ⟨es, rfl, hc, hl⟩
  | _ => simp_all
theorem Conf.toSt {t : Nat} {fs : List (Nat × Nat × String)} {l : List D} (h : Conf T t l) (hk : kdAt T t = .st fs) : ∃ parts : List (List D), l = parts.flatten ∧ parts.length = fs.length ∧
    ∀ (i : Nat) (o ft : Nat) (nm : String) (p : List D), fs[i]? = some (o, ft, nm) → parts[i]? = some p → Conf T ft p := by
  cases h with
  | st parts h hl hc => rw [hk] at h; cases h; exact ⟨parts, rfl, hl, hc⟩
  | _ => simp_all

variable (T)
/-- the types of which the reading is plain data, all in the table; a struct's fields lie one behind the other -/
def contig : Nat → List (Nat × Nat × String) → Bool
  | _, [] => true
  | o, (o', ft, _) :: r => o == o' && contig (o + szAt T ft) r
def sumSz : List (Nat × Nat × String) → Nat
  | [] => 0
  | (_, ft, _) :: r => szAt T ft + sumSz r
def goodT (gs : List Nat) : Bool := gs.all fun t => (look' T.l t).isSome && match kdAt T t with
  | .int _ | .bool | .str => true
  | .slice e => gs.contains e && Nat.blt 0 (szAt T e)
  | .st fs => fs.all (fun x => gs.contains x.2.1) && contig T 0 fs && sumSz T fs == szAt T t
  | _ => false

theorem goodT_mem {gs : List Nat} (h : goodT T gs = true) {t : Nat} (ht : t ∈ gs) : ∃ d, look' T.l t = some d ∧ d.k = kdAt T t ∧ (match kdAt T t with
  | .int _ | .bool | .str => true
  | .slice e => gs.contains e && Nat.blt 0 (szAt T e)
  | .st fs => fs.all (fun x => gs.contains x.2.1) && contig T 0 fs && sumSz T fs == szAt T t
  | _ => false) = true := by
  have := List.all_eq_true.1 h t ht
  simp only [Bool.and_eq_true] at this
  obtain ⟨d, hd⟩ := Option.isSome_iff_exists.1 this.1
  exact ⟨d, hd, by unfold kdAt; rw [hd], this.2⟩

theorem szAt_cells {t : Nat} {d : TyD} (h : look' T.l t = some d) : P.cellsOf t = szAt T t := by
  obtain ⟨i, _, hi, hn, _⟩ := T.info h
  unfold szAt Program.cellsOf
  rw [h, hi]
  exact hn

theorem flat_parts : ∀ (fs : List (Nat × Nat × String)) (o : Nat) (cs : List Value), contig T o fs = true → (fs.map fun x => (cs.drop x.1).take (szAt T x.2.1)).flatten = (cs.drop o).take (sumSz T fs)
  | [], o, cs, _ => by simp [sumSz]
  | (o', ft, nm) :: r, o, cs, h => by
    simp only [contig, Bool.and_eq_true, beq_iff_eq] at h
    obtain ⟨rfl, h⟩ := h
    simp only [List.map_cons, List.flatten_cons, sumSz]
    rw [flat_parts r _ cs h, List.take_add, List.drop_drop]

theorem RepL.append {E : En} {a b : List Value} {l m : List D} (h1 : RepL E a.toArray l) (h2 : RepL E b.toArray m) : RepL E (a ++ b).toArray (l ++ m) := by
  have e1 : a.length = l.length := by simpa using h1.1
  have e2 : b.length = m.length := by simpa using h2.1
  refine ⟨by simp [e1, e2], fun i u x hu hx => ?_⟩
  simp only [List.getElem?_toArray] at hu
  rcases Nat.lt_or_ge i a.length with h | h
  · rw [List.getElem?_append_left h] at hu
    rw [List.getElem?_append_left (by omega)] at hx
    exact h1.2 i u x (by simpa using hu) hx
  · rw [List.getElem?_append_right h] at hu
    rw [List.getElem?_append_right (by omega), ← e1] at hx
    exact h2.2 _ u x (by simpa using hu) hx

theorem RepL.flatten {E : En} : ∀ {as : List (List Value)} {ls : List (List D)}, as.length = ls.length → (∀ (i : Nat) (a : List Value) (l : List D), as[i]? = some a → ls[i]? = some l → RepL E a.toArray l) → RepL E as.flatten.toArray ls.flatten
  | [], [], _, _ => ⟨rfl, by simp⟩
  | a :: as, l :: ls, hl, h => by
    simp only [List.flatten_cons]
    exact RepL.append (h 0 a l (by simp) (by simp)) (RepL.flatten (by simpa using hl) (fun i a l ha hl => h (i + 1) a l (by simpa using ha) (by simpa using hl)))

theorem RepL.one {E : En} {v : Value} {x : D} (h : RepD E.w E.pv v x) : RepL E #[v] [x] := by
  refine ⟨rfl, fun i u y hu hy => ?_⟩
  cases i with
  | zero => simp at hu hy; subst hu; subst hy; exact h
  | succ i => simp at hu

theorem okc_of_wf {k : IntKind} {n : Int} (h : (Lit.int k n).wf = true) : okc (.int k n) = true := by
  simpa [Lit.wf, okc] using h

theorem conf_of_trod {H : Type} {enc : TypeId × Value → H} {gs : List Nat} (hg : goodT T gs = true) {w : World} {E : En} (hw : E.w = w) (hpv : ∀ b o, ¬ E.pv b o) : ∀ (fuel : Nat) (t : Nat) (cs : List Value) (d : DataW H) (ps : List MemPlace),
    t ∈ gs → DataW.trod enc P w 0 (fun _ => true) true fuel t cs = some (d, ps) → ∃ l, Conf T t l ∧ RepL E cs.toArray l := by
  intro fuel
  induction fuel with
  | zero => intro t cs d ps _ h; simp [DataW.trod] at h
  | succ fuel ih =>
    intro t cs d ps ht h
    obtain ⟨td, htd, htk, hgood⟩ := goodT_mem T hg ht
    cases hk : kdAt T t with
    | int k =>
      have hu := T.u_int htd (htk.trans hk)
      simp only [DataW.trod, hu] at h
      split at h <;> simp_all
      rename_i k' n _
      obtain ⟨⟨rfl, hwf⟩, _⟩ := h
      exact ⟨_, .int n hk (okc_of_wf hwf), RepL.one (.v _ (okc_of_wf hwf))⟩
    | bool =>
      have hu := T.u_bool htd (htk.trans hk)
      simp only [DataW.trod, hu] at h
      split at h <;> simp_all
      exact ⟨_, .bool _ hk, RepL.one (.v _ rfl)⟩
    | str =>
      have hu := T.u_str htd (htk.trans hk)
      simp only [DataW.trod, hu] at h
      split at h <;> simp_all
      exact ⟨_, .str _ hk h.1, RepL.one (.v _ (by simpa [okc] using h.1))⟩
    | slice e =>
      have hu := T.u_slice htd (htk.trans hk)
      rw [hk] at hgood
      simp only [Bool.and_eq_true] at hgood
      obtain ⟨he, hz⟩ := hgood
      have he : e ∈ gs := by simpa using he
      have hz : 0 < szAt T e := Nat.le_of_ble_eq_true hz
      obtain ⟨ed, hed, _, _⟩ := goodT_mem T hg he
      rcases DataW.trod_slice hu h with ⟨rfl, _⟩ | ⟨a, len, cap, elems, rest, m, hm, rfl, _, _, hlc, hcm, hlen, helem, _⟩
      · exact ⟨[.sl []], .slice [] hk (by simp) (by simp), RepL.one .nil⟩
      · have hm : m = fuel := by omega
        subst hm
        · have hget : ∀ i, i < len → ∃ x ccs, w.cells? 0 (a.add (i * P.cellsOf e)) (P.cellsOf e) = some ccs ∧ DataW.trod enc P w 0 (fun _ => true) true m e ccs = some x := by
            intro i hi
            have := helem i hi
            have hi' : i < elems.length := by omega
            have e1 : elems[i]? = some elems[i] := by simp [hi']
            rw [e1] at this
            obtain ⟨ccs, h1, h2⟩ := Option.bind_eq_some_iff.1 this
            exact ⟨_, ccs, h1, h2⟩
          have hsz : P.cellsOf e = szAt T e := szAt_cells T hed
          rcases Nat.eq_zero_or_pos len with h0 | hpos
          · subst h0
            exact ⟨[.sl []], .slice [] hk (by simp) (by simp), RepL.one (.emp a cap hcm)⟩
          · have hspot : a.spot = none := by
              obtain ⟨x, ccs, h1, _⟩ := hget 0 hpos
              obtain ⟨_, h3, h4⟩ := World.cells?_some h1
              have h5 := h4 0 (by omega)
              have h6 : (ccs[0]?).isSome := by simp; omega
              rw [← h5] at h6
              simp only [Nat.zero_mul, Addr.add, if_true] at h6
              unfold World.cell? at h6
              split at h6
              · cases hsp : a.spot with
                | none => rfl
                | some s => simp [hsp] at h6
              · cases h6
            obtain ⟨b, off, sp⟩ := a
            simp only at hspot
            subst hspot
            have hall : ∀ i, ∃ l ccs, i < len → (w.cells? 0 ((⟨b, off, none⟩ : Addr).add (i * szAt T e)) (szAt T e) = some ccs ∧ Conf T e l ∧ RepL E ccs.toArray l) := by
              intro i
              by_cases hi : i < len
              · obtain ⟨x, ccs, h1, h2⟩ := hget i hi
                obtain ⟨l, h3, h4⟩ := ih e ccs x.1 x.2 he h2
                exact ⟨l, ccs, fun _ => ⟨by rw [← hsz]; exact h1, h3, h4⟩⟩
              · exact ⟨[], [], fun h => absurd h hi⟩
            let L := fun i => (hall i).choose
            let CC := fun i => (hall i).choose_spec.choose
            have hLC : ∀ i, i < len → w.cells? 0 ((⟨b, off, none⟩ : Addr).add (i * szAt T e)) (szAt T e) = some (CC i) ∧ Conf T e (L i) ∧ RepL E (CC i).toArray (L i) := fun i hi => (hall i).choose_spec.choose_spec hi
            have hes : ∀ (i : Nat) (x : List D), ((List.range len).map L)[i]? = some x → i < len ∧ x = L i := by
              intro i x hx
              rcases Nat.lt_or_ge i len with hi | hi
              · simp [hi] at hx; exact ⟨hi, hx.symm⟩
              · rw [List.getElem?_eq_none (by simpa using hi)] at hx; cases hx
            have hccl : ∀ i, i < len → (CC i).length = szAt T e := fun i hi => (World.cells?_some (hLC i hi).1).2.1
            have hLl : ∀ i, i < len → (L i).length = szAt T e := fun i hi => by have := (hLC i hi).2.2.1; simp at this; rw [← this]; exact hccl i hi
            refine ⟨[.sl ((List.range len).map L)], .slice _ hk (fun x hx => ?_) (by simp; omega), RepL.one ?_⟩
            · obtain ⟨i, hi⟩ := List.mem_iff_getElem?.1 hx
              obtain ⟨h1, rfl⟩ := hes i x hi
              exact (hLC i h1).2.1
            · refine .sl b off len cap (szAt T e) _ (fun i j => ((CC i)[j]?).getD default) (by simp) hlc hcm (fun i x hx => ?_) (fun i j hi hj => ⟨?_, hpv _ _⟩) (fun i j x d hx hd => ?_)
              · obtain ⟨h1, rfl⟩ := hes i x hx
                exact hLl i h1
              · have h1 := (World.cells?_some (hLC i hi).1).2.2 j hj
                have h2 : j < (CC i).length := by rw [hccl i hi]; exact hj
                have e1 : (CC i)[j]? = some (CC i)[j] := by simp [h2]
                rw [e1] at h1 ⊢
                have e2 : ((⟨b, off, none⟩ : Addr).add (i * szAt T e)).add j = ⟨b, off + i * szAt T e + j, none⟩ := by
                  unfold Addr.add
                  split <;> split <;> simp_all
                rw [e2] at h1
                rw [hw]
                exact h1
              · obtain ⟨h1, rfl⟩ := hes i x hx
                have h2 : j < (CC i).length := by rw [hccl i h1, ← hLl i h1]; exact (List.getElem?_eq_some_iff.1 hd).1
                have e1 : (CC i)[j]? = some (CC i)[j] := by simp [h2]
                rw [e1]
                exact (hLC i h1).2.2.2 j _ d (by simp [h2]) hd
    | st fs =>
      obtain ⟨fl, hu, hfl, _⟩ := T.u_st htd (htk.trans hk)
      rw [hk] at hgood
      simp only [Bool.and_eq_true, beq_iff_eq] at hgood
      obtain ⟨⟨hall, hcon⟩, hsum⟩ := hgood
      obtain ⟨xs, m, hm, _, hcl, hxl, hxs⟩ := DataW.trod_struct hu h
      have hm : m = fuel := by omega
      subst hm
      rw [szAt_cells T htd] at hcl
      have hmem : ∀ (i : Nat) (o ft : Nat) (nm : String), fs[i]? = some (o, ft, nm) → ft ∈ gs := fun i o ft nm hi => by
        have := List.all_eq_true.1 hall _ (List.mem_of_getElem? hi)
        simpa using this
      have hfield : ∀ i : Nat, ∃ l, ∀ (o ft : Nat) (nm : String), fs[i]? = some (o, ft, nm) → Conf T ft l ∧ RepL E ((cs.drop o).take (szAt T ft)).toArray l := by
        intro i
        cases hi : fs[i]? with
        | none => exact ⟨[], fun o ft nm h => by cases h⟩
        | some x =>
          obtain ⟨o, ft, nm⟩ := x
          have hfi := hi
          rw [← hfl, List.getElem?_map, Option.map_eq_some_iff] at hfi
          obtain ⟨fd, hfd, he⟩ := hfi
          simp only [Prod.mk.injEq] at he
          obtain ⟨rfl, rfl, rfl⟩ := he
          have h1 := hxs i fd (by simpa using hfd)
          have hi2 : i < xs.length := by rw [hxl]; have := (List.getElem?_eq_some_iff.1 hfd).1; simpa using this
          have e1 : xs[i]? = some xs[i] := by simp [hi2]
          rw [e1] at h1
          obtain ⟨fdd, hfdd, _⟩ := goodT_mem T hg (hmem i _ _ _ hi)
          rw [szAt_cells T hfdd] at h1
          obtain ⟨l, h2, h3⟩ := ih fd.type _ _ _ (hmem i _ _ _ hi) h1
          exact ⟨l, fun o ft nm h => by simp only [Option.some.injEq, Prod.mk.injEq] at h; obtain ⟨rfl, rfl, rfl⟩ := h; exact ⟨h2, h3⟩⟩
      let L := fun i => (hfield i).choose
      have hL : ∀ (i o ft : Nat) (nm : String), fs[i]? = some (o, ft, nm) → Conf T ft (L i) ∧ RepL E ((cs.drop o).take (szAt T ft)).toArray (L i) := fun i => (hfield i).choose_spec
      refine ⟨((List.range fs.length).map L).flatten, .st _ hk (by simp) (fun i o ft nm p hi hp => ?_), ?_⟩
      · have hlt : i < fs.length := (List.getElem?_eq_some_iff.1 hi).1
        simp [hlt] at hp
        rw [← hp]
        exact (hL i o ft nm hi).1
      · have hf := flat_parts T fs 0 cs hcon
        rw [List.drop_zero, hsum, ← hcl, List.take_length] at hf
        rw [← hf]
        refine RepL.flatten (by simp) (fun i a l ha hl => ?_)
        simp only [List.getElem?_map, Option.map_eq_some_iff] at ha hl
        obtain ⟨⟨o, ft, nm⟩, hi, rfl⟩ := ha
        have hlt : i < fs.length := (List.getElem?_eq_some_iff.1 hi).1
        obtain ⟨i', hi', rfl⟩ := hl
        have : i' = i := by rw [List.getElem?_range hlt] at hi'; exact (Option.some.inj hi').symm
        subst this
        exact (hL i' o ft nm hi).2
    | ptr => rw [hk] at hgood; cases hgood
    | map => rw [hk] at hgood; cases hgood
    | leaf => rw [hk] at hgood; cases hgood

/-- an argument of a type -/
def valA (t : Nat) (l : List D) : A := match kdAt T t, l with
  | .st _, l => .ag l
  | _, [x] => .d x
  | _, _ => .any

inductive ConfA : List Nat → List A → Prop
  | nil : ConfA [] []
  | cons {t : Nat} {ts : List Nat} {l : List D} {as : List A} (h : Conf T t l) (r : ConfA ts as) : ConfA (t :: ts) (valA T t l :: as)

theorem confA_of {H : Type} {enc : TypeId × Value → H} {gs : List Nat} (hg : goodT T gs = true) {w : World} {base : Nat} {E : En} (hw : E.w = w) (hpv : ∀ b o, ¬ E.pv b o) : ∀ (ts : List Nat) (vs : List Value) (ds : List (DataW H)) (ps : List MemPlace),
    (∀ t ∈ ts, t ∈ gs) → DataW.TrodAll enc P w 0 (fun _ => true) true ts vs ds ps → (∀ (j : Nat) (t : Nat) (v : Value), ts[j]? = some t → vs[j]? = some v → Value.okWide P w .any base t v) →
    ds.length = ts.length ∧ vs.length = ts.length ∧ ∃ as, ConfA T ts as ∧ vs.length = as.length ∧ ∀ (i : Nat) (u : Value) (a : A), vs[i]? = some u → as[i]? = some a → Rep E u a
  | [], [], [], ps, _, _, _ => ⟨rfl, rfl, [], .nil, rfl, by simp⟩
  | t :: ts, v :: vs, d :: ds, ps, hm, h, hv => by
    obtain ⟨p, q, ⟨fuel, h1⟩, h2, _⟩ := h
    obtain ⟨e1, e2, as, h3, h4, h5⟩ := confA_of hg hw hpv ts vs ds q (fun t ht => hm t (List.mem_cons_of_mem _ ht)) h2 (fun j t v ht hv' => hv (j + 1) t v (by simpa using ht) (by simpa using hv'))
    have ht : t ∈ gs := hm t List.mem_cons_self
    obtain ⟨l, h6, h7⟩ := conf_of_trod T hg hw hpv fuel t _ d p ht h1
    have hok := hv 0 t v (by simp) (by simp)
    obtain ⟨td, htd, htk, hgood⟩ := goodT_mem T hg ht
    have hrep : Rep E v (valA T t l) := by
      unfold valA
      cases hk : kdAt T t with
      | st fs =>
        obtain ⟨fl, hu, _⟩ := T.u_st htd (htk.trans hk)
        simp only [Value.okWide, hu] at hok
        obtain ⟨cs, rfl, _, _⟩ := hok
        have h8 : RepL E cs l := by simpa [Value.cells] using h7
        exact .ag cs l h8.1 h8.2
      | int k =>
        obtain ⟨n, rfl, ho⟩ := h6.toInt hk
        have hu := T.u_int htd (htk.trans hk)
        obtain ⟨n', hn', _⟩ := DataW.trod_int hu h1
        have hv1 : v = .int k n' := by cases v <;> simp_all [Value.cells, Value.okWide, Cell.okWide, Cell.ok]
        have := h7.2 0 v (.v (.int k n)) (by rw [hv1]; simp [Value.cells]) (by simp)
        exact .d this
      | bool =>
        obtain ⟨b, rfl⟩ := h6.toBool hk
        have hu := T.u_bool htd (htk.trans hk)
        have hv1 : ∃ b', v = .bool b' := by
          simp only [Value.okWide, hu, Cell.okWide] at hok
          cases v <;> simp_all [Cell.ok]
        obtain ⟨b', hv1⟩ := hv1
        have := h7.2 0 v (.v (.bool b)) (by rw [hv1]; simp [Value.cells]) (by simp)
        exact .d this
      | str =>
        obtain ⟨s, rfl, ho⟩ := h6.toStr hk
        have hu := T.u_str htd (htk.trans hk)
        obtain ⟨s', hv1⟩ := okWide_string hu hok
        have := h7.2 0 v (.v (.string s)) (by rw [hv1]; simp [Value.cells]) (by simp)
        exact .d this
      | slice e =>
        obtain ⟨es, rfl, _⟩ := h6.toSlice hk
        have hu := T.u_slice htd (htk.trans hk)
        obtain ⟨a', len', cap', hv1⟩ := okWide_slice hu hok
        have := h7.2 0 v (.sl es) (by rw [hv1]; simp [Value.cells]) (by simp)
        exact .d this
      | ptr => rw [hk] at hgood; cases hgood
      | map => rw [hk] at hgood; cases hgood
      | leaf => rw [hk] at hgood; cases hgood
    refine ⟨by simp [e1], by simp [e2], _, .cons h6 h3, by simp [h4], fun i u a hu ha => ?_⟩
    cases i with
    | zero => simp at hu ha; subst hu; subst ha; exact hrep
    | succ i => exact h5 i u a (by simpa using hu) (by simpa using ha)
  | [], _ :: _, _, _, _, h, _ => by simp [DataW.TrodAll] at h
  | [], [], _ :: _, _, _, h, _ => by simp [DataW.TrodAll] at h
  | _ :: _, [], _, _, _, h, _ => by simp [DataW.TrodAll] at h
  | _ :: _, _ :: _, [], _, _, h, _ => by simp [DataW.TrodAll] at h

theorem trodAll_stays {H : Type} {enc : TypeId × Value → H} (hl : laidOutB P = true) {W W' : World} (hb : Below W.heap.size W W') : ∀ (ts : List Nat) (vs : List Value) (ds : List (DataW H)) (ps : List MemPlace),
    (∀ t ∈ ts, P.readableRec t = true ∧ t < P.types.size) → DataW.TrodAll enc P W 0 (fun _ => true) true ts vs ds ps → (∀ x ∈ ps, x.block < W.heap.size) →
    DataW.TrodAll enc P W' 0 (fun b => decide (b < W.heap.size)) true ts vs ds ps
  | [], [], [], ps, _, h, _ => h
  | t :: ts, v :: vs, d :: ds, ps, hr, h, hlt => by
    obtain ⟨p, q, h1, h2, rfl⟩ := h
    have := hr t List.mem_cons_self
    exact ⟨p, q, Below.trod hl this.1 this.2 h1 hb (fun x hx => hlt x (List.mem_append.2 (.inl hx))), trodAll_stays hl hb ts vs ds q (fun t ht => hr t (List.mem_cons_of_mem _ ht)) h2 (fun x hx => hlt x (List.mem_append.2 (.inr hx))), rfl⟩
  | [], _ :: _, _, _, _, h, _ => by simp [DataW.TrodAll] at h
  | [], [], _ :: _, _, _, h, _ => by simp [DataW.TrodAll] at h
  | _ :: _, [], _, _, _, h, _ => by simp [DataW.TrodAll] at h
  | _ :: _, _ :: _, [], _, _, h, _ => by simp [DataW.TrodAll] at h

/-- A LAW's CONTRACT: if its function gives true on all data of its arguments' types, it returns true and leaves what was there. -/
theorem law_contract {f : FuncId} {fn : Func} {s : ChangeSpec} {gs : List Nat} {tb : Nat} (hg : goodT T gs = true) (hin : ∀ t ∈ fn.params.toList, t ∈ gs) (hlaid : laidOutB P = true) (hrd : ∀ t ∈ fn.params.toList, P.readableRec t = true ∧ t < P.types.size)
    (hres : fn.resultTypes = #[tb]) (hb : P.underlying tb = some .bool) (hvars : s.vars = []) {H : Type} {enc : TypeId × Value → H} (hs : ∀ ds : List (DataW H), ds.length = fn.params.size → s.fn H ds = { results := [.lit (.bool true)], args := ds })
    (hd : ∀ as, ConfA T fn.params.toList as → Does P f as (.d (.v (.bool true))) 0)
    (W : World) (base : Nat) (args : Array Value) (ds gs' : List (DataW H)) (before : List MemPlace) (hval : ∀ (j : Nat) t v, fn.params[j]? = some t → args[j]? = some v → Value.okWide P W .any base t v)
    (hW : DataW.Whole enc P fn.params.toList s.vars false W args.toList ds gs' before) :
    Calls P f args W fun e W' => ∃ v, e = .returned v ∧ s.post enc P fn false true false false W args v W' := by
  have hW' := hW
  obtain ⟨p, q, hA, hV, rfl, hfz, hnd⟩ := hW
  rw [hvars] at hV
  obtain ⟨rfl, rfl⟩ := trodVars_none hV
  obtain ⟨e1, e2, as, hconf, hlen, hrep⟩ := confA_of T (E := enOf { w0 := W, fp := fun _ => False, x := fun _ _ => False } G0 0 W) hg rfl (fun b o hp => (pvOf_G0 _ b o).1 hp) fn.params.toList args.toList ds p hin hA
    (fun j t v ht hv => hval j t v (by simpa using ht) (by simpa using hv))
  refine ((hd as hconf).calls { w0 := W, fp := fun _ => False, x := fun _ _ => False } args W rfl ⟨fun _ h => h, fun _ _ h => h, rfl⟩ (fun _ _ h => h.elim) (by simpa using hlen) (fun i u a hu ha => hrep i u a (by simpa using hu) ha)).mono ?_
  rintro e W' ⟨v, G', rfl, hsim, hv⟩
  have bel : Below W.heap.size W W' := ⟨hsim.fr.os, hsim.fr.tape, hsim.fr.output, hsim.fr.size, fun b hb => hsim.fr.block b hb (fun h => h)⟩
  have hvt : v = .bool true := by cases hv with | d hv => cases hv; rfl
  subst hvt
  have hfn := hs (ds ++ []) (by simp [e1])
  have hlt : ∀ x ∈ p, x.block < W.heap.size := fun x hx => by simpa using hW'.lt x (by simpa using hx)
  refine ⟨_, rfl, ds, [], _, [], p, [], hW', ?_, ?_, ?_, bel.frame _, fun h => by cases h⟩
  · rw [hfn, hres]
    exact trodAll_mk1 (shut_bool hb _)
  · rw [hfn]
    simp only [List.append_nil]
    exact trodAll_stays hlaid bel _ _ _ _ hrd hA hlt
  · rw [hfn, hvars]
    rfl

variable {T}
theorem ConfA.inv {t : Nat} {ts : List Nat} {as : List A} (h : ConfA T (t :: ts) as) : ∃ l r, as = valA T t l :: r ∧ Conf T t l ∧ ConfA T ts r := by
  cases h with
  | cons h r => exact ⟨_, _, rfl, h, r⟩
theorem ConfA.inv0 {as : List A} (h : ConfA T [] as) : as = [] := by cases h; rfl
end
end Go.Ab
/- Regions that draw their order: one walk of the text's order serves every order, where each operation leaves the ghost as it is. -/
namespace Go.Ab
open Go.RowKit

abbrev Fr' := Nat → Option A
def putF (φ : Fr') : Option Nat → A → Fr'
  | some d, a => fun t => if t = d then some a else φ t
  | none, _ => φ

section
variable {P : Program} {C : Ctx} {n : Nat} {bx : List (Nat × List A)} {lv : List Nat} {gen : Nat} {ops : Array Oper} {md : Region.Mode}

/-- the state with its frame told by a function -/
def SimF (C : Ctx) (n : Nat) (bx : List (Nat × List A)) (lv : List Nat) (gen : Nat) (φ : Fr') (G : Gh) (tmps : Array Value) (w : World) : Prop :=
  SimG C n ⟨[], bx, lv, gen⟩ G tmps w ∧ ∀ t a, φ t = some a → ∃ v, tmps[t]? = some v ∧ Rep (enOf C G gen w) v a

theorem SimF.toG {φ : Fr'} {G : Gh} {tmps : Array Value} {w : World} (h : SimF C n bx lv gen φ G tmps w) {f : List (Nat × A)} (hf : ∀ t a, look f t = some a → φ t = some a) : SimG C n ⟨f, bx, lv, gen⟩ G tmps w :=
  { h.1 with frame := fun t a ha => h.2 t a (hf t a ha) }

theorem SimF.ofG {f : List (Nat × A)} {G : Gh} {tmps : Array Value} {w : World} (h : SimG C n ⟨f, bx, lv, gen⟩ G tmps w) : SimF C n bx lv gen (look f) G tmps w :=
  ⟨{ h with frame := fun t a ha => by simp [look] at ha }, h.frame⟩

theorem SimF.step {φ : Fr'} {G : Gh} {tmps : Array Value} {w w' : World} (h : SimF C n bx lv gen φ G tmps w) (hb : Below w.heap.size w w') {dst : Option Nat} (hd : dstOK n dst = true) {v : Value} {a : A} (hr : Rep (enOf C G gen w') v a) :
    SimF C n bx lv gen (putF φ dst a) G (Act.put ⟨tmps, []⟩ dst v).tmps w' := by
  obtain ⟨hle, hs⟩ := h.1.evolve hb
  cases dst with
  | none => exact ⟨hs, fun t a ha => let ⟨v, h1, h2⟩ := h.2 t a ha; ⟨v, h1, h2.mono hle⟩⟩
  | some d =>
    refine ⟨{ hs with size := by have := hs.size; simpa [Act.put] using this, frame := fun t a ha => by simp [look] at ha }, fun t b hb' => ?_⟩
    simp only [putF] at hb'
    split at hb'
    · rename_i e
      subst e
      simp only [Option.some.injEq] at hb'
      subst hb'
      exact ⟨v, by simp [Act.put, Array.getElem?_setIfInBounds, hs.size, dstOK_lt hd], hr⟩
    · rename_i e
      obtain ⟨u, h1, h2⟩ := h.2 t b hb'
      exact ⟨u, by simp only [Act.put]; rw [Array.getElem?_setIfInBounds_ne (Ne.symm e)]; exact h1, h2.mono hle⟩

/-- is the operation wanted, as far as the frame tells -/
def wantedA (ops : Array Oper) (o : Oper) (φ : Fr') (b : Bool) : Prop :=
  match o.guard with
  | none => b = true
  | some (j, want) => ∃ d x, gslot ops j = some d ∧ φ d = some x ∧ ((∃ c, x = .d (.v (.bool c)) ∧ b = (c == want)) ∨ (x = .tup [] ∧ b = false))

/-- in this frame the operation gives 'a' -/
def YA (P : Program) (C : Ctx) (n : Nat) (bx : List (Nat × List A)) (lv : List Nat) (gen : Nat) (ops : Array Oper) (o : Oper) (a : A) (φ : Fr') : Prop :=
  dstOK n o.dst = true ∧ ((wantedA ops o φ true ∧ ∃ f, (∀ t x, look f t = some x → φ t = some x ∧ t ∈ o.looksAt ops) ∧ Pu P C n ⟨f, bx, lv, gen⟩ (unguard o) a) ∨ (wantedA ops o φ false ∧ a = .tup []))

theorem wantedA_put {o : Oper} {φ : Fr'} {b : Bool} {dst : Option Nat} {x : A} (hd : ∀ d, dst = some d → d ∉ o.looksAt ops) : wantedA ops o (putF φ dst x) b ↔ wantedA ops o φ b := by
  unfold wantedA
  cases hg : o.guard with
  | none => exact Iff.rfl
  | some jw =>
    obtain ⟨j, want⟩ := jw
    have key : ∀ d, gslot ops j = some d → putF φ dst x d = φ d := by
      intro d hj
      cases dst with
      | none => rfl
      | some e =>
        have : d ≠ e := by
          intro h
          subst h
          refine hd d rfl ?_
          unfold Oper.looksAt
          rw [hg]
          unfold gslot at hj
          simp [hj]
        simp [putF, this]
    constructor
    · rintro ⟨d, c, h1, h2, h3⟩; exact ⟨d, c, h1, by rw [← key d h1]; exact h2, h3⟩
    · rintro ⟨d, c, h1, h2, h3⟩; exact ⟨d, c, h1, by rw [key d h1]; exact h2, h3⟩

theorem YA_put {o : Oper} {a : A} {φ : Fr'} {dst : Option Nat} {x : A} (hd : ∀ d, dst = some d → d ∉ o.looksAt ops) : YA P C n bx lv gen ops o a (putF φ dst x) ↔ YA P C n bx lv gen ops o a φ := by
  unfold YA
  rw [wantedA_put hd, wantedA_put hd]
  have key : ∀ t, t ∈ o.looksAt ops → putF φ dst x t = φ t := by
    intro t ht
    cases dst with
    | none => rfl
    | some e =>
      have : t ≠ e := fun h => by subst h; exact hd t rfl ht
      simp [putF, this]
  constructor
  · rintro ⟨h0, ⟨h1, f, h2, h3⟩ | h1⟩
    · exact ⟨h0, .inl ⟨h1, f, fun t y hy => ⟨by rw [← key t (h2 t y hy).2]; exact (h2 t y hy).1, (h2 t y hy).2⟩, h3⟩⟩
    · exact ⟨h0, .inr h1⟩
  · rintro ⟨h0, ⟨h1, f, h2, h3⟩ | h1⟩
    · exact ⟨h0, .inl ⟨h1, f, fun t y hy => ⟨by rw [key t (h2 t y hy).2]; exact (h2 t y hy).1, (h2 t y hy).2⟩, h3⟩⟩
    · exact ⟨h0, .inr h1⟩

theorem putF_comm (φ : Fr') {x y : Option Nat} (a b : A) (h : ∀ d, x = some d → y ≠ some d) : putF (putF φ x a) y b = putF (putF φ y b) x a := by
  cases x with
  | none => rfl
  | some d =>
    cases y with
    | none => rfl
    | some e =>
      have hne : d ≠ e := fun he => h d rfl (by rw [he])
      funext t
      simp only [putF]
      split <;> split <;> simp_all

def qA (P : Program) (C : Ctx) (n : Nat) (bx : List (Nat × List A)) (lv : List Nat) (gen : Nat) (ops : Array Oper) (i : Nat) (K : Fr' → Prop) (φ : Fr') : Prop :=
  match ops[i]? with
  | none => K φ
  | some o => ∃ a, YA P C n bx lv gen ops o a φ ∧ K (putF φ o.dst a)

theorem qA_mono {i : Nat} {φ : Fr'} {K K' : Fr' → Prop} (h : ∀ φ, K φ → K' φ) (hh : qA P C n bx lv gen ops i K φ) : qA P C n bx lv gen ops i K' φ := by
  unfold qA at *
  split
  · exact h _ (by simpa [*] using hh)
  · rename_i o ho
    simp only [ho] at hh
    obtain ⟨a, h1, h2⟩ := hh
    exact ⟨a, h1, h _ h2⟩

def wpAnyA (P : Program) (C : Ctx) (n : Nat) (bx : List (Nat × List A)) (lv : List Nat) (gen : Nat) (md : Region.Mode) (ops : Array Oper) (Q : Fr' → Prop) : Nat → Array Bool → Fr' → Prop
  | 0, listed, φ => Region.ready md ops listed = [] ∧ Q φ
  | fuel + 1, listed, φ =>
    (Region.ready md ops listed = [] → Q φ) ∧ ∀ i ∈ Region.ready md ops listed, qA P C n bx lv gen ops i (wpAnyA P C n bx lv gen md ops Q fuel (listed.setIfInBounds i true)) φ

theorem wanted_of {o : Oper} {φ : Fr'} {b : Bool} {G : Gh} {tmps : Array Value} {w : World} (hs : SimF C n bx lv gen φ G tmps w) (h : wantedA ops o φ b) : Region.wanted o (yielded ops tmps) = b := by
  unfold wantedA at h
  unfold Region.wanted
  cases hg : o.guard with
  | none => rw [hg] at h; exact h.symm
  | some jw =>
    obtain ⟨j, want⟩ := jw
    rw [hg] at h
    obtain ⟨d, x, h1, h2, h⟩ := h
    obtain ⟨v, h3, h4⟩ := hs.2 d _ h2
    rcases h with ⟨c, rfl, rfl⟩ | ⟨rfl, rfl⟩
    · cases h4 with | d h4 => cases h4 with | v _ _ =>
      simp only [yielded_of h1 h3]
      cases c <;> cases want <;> rfl
    · have hy : yielded ops tmps j = none := by
        unfold yielded
        unfold gslot at h1
        rw [h1]
        simp only [Option.bind_some, h3]
        cases h4; rfl
      simp only [hy]
      rfl

theorem wpOp_of_qA {i : Nat} {φ : Fr'} {K : Fr' → Prop} {K' : Act → World → Prop} {Q' : Exit → Act → World → Prop} {G : Gh} {tmps : Array Value} {w : World} (hs : SimF C n bx lv gen φ G tmps w)
    (h : ∀ φ tmps w, SimF C n bx lv gen φ G tmps w → K φ → K' ⟨tmps, []⟩ w) (hh : qA P C n bx lv gen ops i K φ) : wpOp P ops Q' i K' ⟨tmps, []⟩ w := by
  unfold qA at hh
  unfold wpOp
  split
  · rename_i ho; simp only [ho] at hh; exact h _ _ _ hs hh
  · rename_i o ho
    simp only [ho] at hh
    obtain ⟨a, ⟨hd, hy⟩, hk⟩ := hh
    rcases hy with ⟨hw, f, hf, hp⟩ | ⟨hw, rfl⟩
    · rw [wanted_of hs hw]
      simp only [if_true]
      refine .inl ?_
      have hg : Gives P o ⟨tmps, []⟩ w fun v w' => Below w.heap.size w w' ∧ Rep (enOf C G gen w') v a := hp G tmps w (hs.toG fun t x hx => (hf t x hx).1)
      refine hg.wp fun v w' ⟨hb, hr⟩ => ?_
      rw [Act.put_eq]
      exact h _ _ _ (hs.step hb hd hr) hk
    · rw [wanted_of hs hw]
      simp only [Bool.false_eq_true, if_false]
      rw [Act.put_eq]
      exact h _ _ _ (hs.step (Below.refl _ _) hd (.tup #[] [] rfl (by simp))) hk

theorem wpAny_of_A {Q : Fr' → Prop} {Q' : Exit → Act → World → Prop} {G : Gh} (hQ : ∀ φ tmps w, SimF C n bx lv gen φ G tmps w → Q φ → Q' .normal ⟨tmps, []⟩ w) : ∀ (fuel : Nat) (listed : Array Bool) (φ : Fr') (tmps : Array Value) (w : World), SimF C n bx lv gen φ G tmps w →
    wpAnyA P C n bx lv gen md ops Q fuel listed φ → wpAny P md ops Q' fuel listed ⟨tmps, []⟩ w
  | 0, _, _, _, _, hs, h => ⟨h.1, hQ _ _ _ hs h.2⟩
  | fuel + 1, _, _, _, _, hs, h => ⟨fun h0 => hQ _ _ _ hs (h.1 h0), fun i hi => wpOp_of_qA hs (fun φ tmps w hs' => wpAny_of_A hQ fuel _ φ tmps w hs') (h.2 i hi)⟩

theorem qA_put {j : Nat} {oi oj : Oper} {v : A} (hj : ops[j]? = some oj) (hap : oi.apart ops oj = true) {K : Fr' → Prop} {φ : Fr'} (hy : YA P C n bx lv gen ops oi v φ) (h : qA P C n bx lv gen ops j K (putF φ oi.dst v)) :
    qA P C n bx lv gen ops j (fun φ' => YA P C n bx lv gen ops oi v φ' ∧ K (putF φ' oi.dst v)) φ := by
  obtain ⟨h1, h2, h3⟩ := Oper.apart_spec hap
  unfold qA at *
  simp only [hj] at *
  obtain ⟨b, hb, hk⟩ := h
  exact ⟨b, (YA_put h1).1 hb, (YA_put h3).2 hy, by rw [← putF_comm φ v b h2]; exact hk⟩

theorem wpAnyA_first {Q : Fr' → Prop} {i : Nat} {oi : Oper} {v : A} (hi : ops[i]? = some oi) :
    ∀ (fuel : Nat) (listed : Array Bool) (φ : Fr'),
      (∀ j oj, ops[j]? = some oj → j ≠ i → listed.getD j true = false → (∀ e ∈ oj.after, Region.binds md e = true → e.on ≠ i) → oi.apart ops oj = true) →
      i ∈ Region.ready md ops listed → YA P C n bx lv gen ops oi v φ →
      wpAnyA P C n bx lv gen md ops Q fuel (listed.setIfInBounds i true) (putF φ oi.dst v) → wpAnyA P C n bx lv gen md ops Q (fuel + 1) listed φ := by
  have take : ∀ {K : Fr' → Prop} {φ : Fr'}, YA P C n bx lv gen ops oi v φ → K (putF φ oi.dst v) → qA P C n bx lv gen ops i K φ := by
    intro K φ hy hk
    unfold qA
    simp only [hi]
    exact ⟨v, hy, hk⟩
  intro fuel
  induction fuel with
  | zero =>
    intro listed φ _ hr hy H
    refine ⟨fun h => (by rw [h] at hr; cases hr), fun j hj => ?_⟩
    by_cases hji : j = i
    · subst hji; exact take hy H
    · have := ready_mono hj hji
      rw [H.1] at this
      cases this
  | succ fuel ih =>
    intro listed φ hfree hr hy H
    refine ⟨fun h => (by rw [h] at hr; cases hr), fun j hj => ?_⟩
    by_cases hji : j = i
    · subst hji; exact take hy H
    · have h1 := H.2 j (ready_mono hj hji)
      obtain ⟨hjun, oj, hoj, hall⟩ := mem_ready.1 hj
      have hnot : ∀ e ∈ oj.after, Region.binds md e = true → e.on ≠ i := fun e he hb heq => by
        have h1 := hall e he hb
        have h0 := (mem_ready.1 hr).1
        rw [heq] at h1
        rcases Nat.lt_or_ge i listed.size with h' | h'
        · simp [h'] at h0 h1; rw [h0] at h1; cases h1
        · simp [Array.getElem?_eq_none h'] at h1
      have h2 := qA_put hoj (hfree j oj hoj hji hjun hnot) hy h1
      have hfree' : ∀ k ok, ops[k]? = some ok → k ≠ i → (listed.setIfInBounds j true).getD k true = false →
          (∀ e ∈ ok.after, Region.binds md e = true → e.on ≠ i) → oi.apart ops ok = true := fun k ok hk hki hun hno => by
        refine hfree k ok hk hki ?_ hno
        by_cases hjk : j = k
        · subst hjk; exact hjun
        · rw [getD_set_ne true hjk] at hun; exact hun
      refine qA_mono (fun φ' h3 => ih (listed.setIfInBounds j true) φ' hfree' (ready_mono hr (Ne.symm hji)) h3.1 ?_) h2
      rw [Array.setIfInBounds_comm _ _ hji]
      exact h3.2

/-- the walk in the text's order -/
def chA (P : Program) (C : Ctx) (n : Nat) (bx : List (Nat × List A)) (lv : List Nat) (gen : Nat) (ops : Array Oper) (Q : Fr' → Prop) : List Oper → Fr' → Prop
  | [], φ => Q φ
  | o :: rest, φ => ∃ a, YA P C n bx lv gen ops o a φ ∧ chA P C n bx lv gen ops Q rest (putF φ o.dst a)

theorem wpAnyA_lex {Q : Fr' → Prop} : ∀ (l : List Oper) (k : Nat) (listed : Array Bool) (φ : Fr'), (∀ j, l[j]? = ops[k + j]?) →
    Region.lexFrom md ops l.length k listed = true → chA P C n bx lv gen ops Q l φ → wpAnyA P C n bx lv gen md ops Q l.length listed φ
  | [], _, _, _, _, hB, h => ⟨by simpa [Region.lexFrom] using hB, h⟩
  | o :: l, k, listed, φ, hl, hB, h => by
    have h0 : ops[k]? = some o := by simpa using (hl 0).symm
    simp only [List.length_cons, Region.lexFrom, Bool.and_eq_true] at hB
    obtain ⟨⟨hr, hf⟩, hB'⟩ := hB
    obtain ⟨v, hy, hK⟩ := h
    exact wpAnyA_first h0 l.length listed φ (Region.free_spec h0 hf) (by simpa using hr) hy
      (wpAnyA_lex l (k + 1) _ _ (fun j => by have := hl (j + 1); simpa [Nat.add_assoc, Nat.add_comm 1 j] using this) hB' hK)

/-- the walk of a region that draws, over frames that are lists -/
def CH (P : Program) (C : Ctx) (n : Nat) (bx : List (Nat × List A)) (lv : List Nat) (gen : Nat) (ops : Array Oper) (Q : St → Prop) (l : List Oper) (f : List (Nat × A)) : Prop :=
  chA P C n bx lv gen ops (fun φ => ∃ f', (∀ t, look f' t = φ t) ∧ Q ⟨f', bx, lv, gen⟩) l (look f)

theorem look_put {f : List (Nat × A)} {d : Nat} {a : A} : look ((d, a) :: f) = putF (look f) (some d) a := by
  funext t
  rw [look_cons]
  simp only [putF]
  split <;> split <;> simp_all

theorem CH.nil {Q : St → Prop} {f : List (Nat × A)} (h : Q ⟨f, bx, lv, gen⟩) : CH P C n bx lv gen ops Q [] f := ⟨f, fun _ => rfl, h⟩

def restr (f : List (Nat × A)) : List Nat → List (Nat × A)
  | [] => []
  | t :: r => match look f t with
    | some a => (t, a) :: restr f r
    | none => restr f r

theorem restr_look {f : List (Nat × A)} : ∀ {ts : List Nat} {t : Nat} {a : A}, look (restr f ts) t = some a → look f t = some a ∧ t ∈ ts
  | [], t, a, h => by simp [restr, look] at h
  | s :: ts, t, a, h => by
    simp only [restr] at h
    split at h
    · rename_i b hb
      rw [look_cons] at h
      split at h
      · rename_i e; subst e; simp only [Option.some.injEq] at h; subst h; exact ⟨hb, List.mem_cons_self⟩
      · obtain ⟨h1, h2⟩ := restr_look h; exact ⟨h1, List.mem_cons_of_mem _ h2⟩
    · obtain ⟨h1, h2⟩ := restr_look h; exact ⟨h1, List.mem_cons_of_mem _ h2⟩

variable {op : Op} {ty : TypeId} {pos : String} {af : Array Edge} {a : A} {d : Nat} {rest : List Oper} {f : List (Nat × A)} {Q : St → Prop}

def slotsOf (op : Op) : List Nat := op.operands.toList.filterMap fun | .tmp t => some t | _ => none

theorem chPu (hp : Pu P C n ⟨restr f (slotsOf op), bx, lv, gen⟩ ⟨some d, op, ty, pos, af, none⟩ a) (hd : Nat.blt d n = true) (h : CH P C n bx lv gen ops Q rest ((d, a) :: f)) : CH P C n bx lv gen ops Q (⟨some d, op, ty, pos, af, none⟩ :: rest) f := by
  unfold CH at *
  rw [look_put] at h
  refine ⟨a, ⟨hd, .inl ⟨rfl, _, fun t x hx => ?_, hp⟩⟩, h⟩
  obtain ⟨h1, h2⟩ := restr_look hx
  exact ⟨h1, List.mem_append.2 (.inl h2)⟩

theorem chGo {j e : Nat} {want : Bool} (hj : gslot ops j = some e) (hl : look f e = some (.d (.v (.bool want)))) (hp : Pu P C n ⟨restr f (slotsOf op), bx, lv, gen⟩ ⟨some d, op, ty, pos, af, none⟩ a) (hd : Nat.blt d n = true) (h : CH P C n bx lv gen ops Q rest ((d, a) :: f)) :
    CH P C n bx lv gen ops Q (⟨some d, op, ty, pos, af, some (j, want)⟩ :: rest) f := by
  unfold CH at *
  rw [look_put] at h
  refine ⟨a, ⟨hd, .inl ⟨⟨e, _, hj, hl, .inl ⟨want, rfl, by simp⟩⟩, _, fun t x hx => ?_, hp⟩⟩, h⟩
  obtain ⟨h1, h2⟩ := restr_look hx
  exact ⟨h1, List.mem_append.2 (.inl h2)⟩

theorem chSkip {j e : Nat} {want b : Bool} (hj : gslot ops j = some e) (hl : look f e = some (.d (.v (.bool b)))) (hb : (b == want) = false) (hd : Nat.blt d n = true) (h : CH P C n bx lv gen ops Q rest ((d, .tup []) :: f)) :
    CH P C n bx lv gen ops Q (⟨some d, op, ty, pos, af, some (j, want)⟩ :: rest) f := by
  unfold CH at *
  rw [look_put] at h
  exact ⟨.tup [], ⟨hd, .inr ⟨⟨e, _, hj, hl, .inl ⟨b, rfl, hb.symm⟩⟩, rfl⟩⟩, h⟩

theorem chSkipU {j e : Nat} {want : Bool} (hj : gslot ops j = some e) (hl : look f e = some (.tup [])) (hd : Nat.blt d n = true) (h : CH P C n bx lv gen ops Q rest ((d, .tup []) :: f)) :
    CH P C n bx lv gen ops Q (⟨some d, op, ty, pos, af, some (j, want)⟩ :: rest) f := by
  unfold CH at *
  rw [look_put] at h
  exact ⟨.tup [], ⟨hd, .inr ⟨⟨e, _, hj, hl, .inr ⟨rfl, rfl⟩⟩, rfl⟩⟩, h⟩

theorem chSplit {l : List Oper} {e : Nat} {b : Bool} (hl : look f e = some (.d (.v (.bool b)))) (ht : b = true → CH P C n bx lv gen ops Q l ((e, .d (.v (.bool true))) :: f)) (hf : b = false → CH P C n bx lv gen ops Q l ((e, .d (.v (.bool false))) :: f)) :
    CH P C n bx lv gen ops Q l f := by
  have key : ∀ c, b = c → look ((e, A.d (.v (.bool c))) :: f) = look f := by
    intro c hc
    subst hc
    funext t
    rw [look_cons]
    split
    · rename_i h; subst h; exact hl.symm
    · rfl
  cases b
  · have := hf rfl; unfold CH at *; rw [key false rfl] at this; exact this
  · have := ht rfl; unfold CH at *; rw [key true rfl] at this; exact this

/-- the guard's bool, told apart -/
theorem chSplitG {dst : Option Nat} {j e : Nat} {want b : Bool} (hj : gslot ops j = some e) (hl : look f e = some (.d (.v (.bool b)))) (ht : b = true → CH P C n bx lv gen ops Q (⟨dst, op, ty, pos, af, some (j, want)⟩ :: rest) ((e, .d (.v (.bool true))) :: f))
    (hf : b = false → CH P C n bx lv gen ops Q (⟨dst, op, ty, pos, af, some (j, want)⟩ :: rest) ((e, .d (.v (.bool false))) :: f)) : CH P C n bx lv gen ops Q (⟨dst, op, ty, pos, af, some (j, want)⟩ :: rest) f := chSplit hl ht hf

theorem W.regionD (T : Tab P) {id : Nat} {l : List Oper} {Q : Exit → St → Prop} (hB : Region.lexB .any l.toArray = true) (h : CH P C n bx lv gen l.toArray (Q .normal) l f) : W P C n (.region id l.toArray true) Q ⟨f, bx, lv, gen⟩ := by
  intro tmps w ⟨G, hs⟩
  simp only [Region.lexB, Bool.and_eq_true] at hB
  have hb : Below w.heap.size w { w with drawn := w.drawn + 1 } := (Below.refl _ w).drew
  have hs' : SimF C n bx lv gen (look f) G tmps { w with drawn := w.drawn + 1 } := SimF.ofG (hs.evolve hb).2
  refine wp_region_any T.mixed (wpAny_of_A (Q := fun φ => ∃ f', (∀ t, look f' t = φ t) ∧ Q .normal ⟨f', bx, lv, gen⟩) (fun φ tmps w hs ⟨f', h1, h2⟩ => ⟨rfl, _, ⟨G, hs.toG (f := f') fun t a ha => by rw [← h1]; exact ha⟩, h2⟩) _ _ _ _ _ hs' ?_)
  have := wpAnyA_lex (P := P) (C := C) (n := n) (bx := bx) (lv := lv) (gen := gen) (md := .any) (ops := l.toArray) l 0 (Array.replicate l.toArray.size false) (look f) (by simp) (by simpa using hB.2) h
  simpa using this

end
end Go.Ab
/- More rules: results in cells, a region's end told at once, the model's own functions on scalars, division, strings put together. -/
namespace Go.Ab
open Go.RowKit

inductive RV where
  | tmp (t : Nat)
  | cell (t ty : Nat)

def RV.var : RV → ResultVar
  | .tmp t => .tmp t
  | .cell t ty => .cell t ty

def rvRun (tmps : Array Value) : ResultVar → Sem Value
  | .tmp t => pure (tmps.getD t undef)
  | .cell a t => do loadVar t (← asAddr (tmps.getD a undef))

section
variable {P : Program} (T : Tab P)

def resV (f : List (Nat × A)) (bx : List (Nat × List A)) : List RV → Option (List A)
  | [] => some []
  | .tmp t :: r => match look f t, resV f bx r with
    | some a, some l => some (a :: l)
    | _, _ => none
  | .cell t ty :: r => match look f t with
    | some (.ptr g off) => (match look' bx g with
      | some cells => (match partA T ty (cells.drop off), resV f bx r with
        | some a, some l => some (a :: l)
        | _, _ => none)
      | none => none)
    | _ => none

def QV (rs : List RV) (r : A) (k : Nat) : Exit → St → Prop := fun e st =>
  (match e with | .normal => True | .ret => True | _ => False) ∧ ∃ l order, resV T st.f st.bx rs = some l ∧ norm order (oneA l) = r ∧ order.length = k ∧ order.Nodup ∧ ∀ g ∈ order, g ∈ st.lv

theorem run_resV {C : Ctx} {n : Nat} {st : St} {G : Gh} {tmps : Array Value} {w : World} (hs : SimG C n st G tmps w) : ∀ (rs : List RV) (l : List A), resV T st.f st.bx rs = some l →
    ∃ vs : List Value, ((rs.map RV.var).mapM (rvRun tmps)).run P w = .ok vs w ∧ vs.length = l.length ∧
      ∀ (i : Nat) (u : Value) (a : A), vs[i]? = some u → l[i]? = some a → Rep (enOf C G st.gen w) u a
  | [], l, h => by simp only [resV, Option.some.injEq] at h; subst h; exact ⟨[], by simp, rfl, by simp⟩
  | .tmp t :: r, l, h => by
    simp only [resV] at h
    split at h
    · rename_i a l' ha hl'
      simp only [Option.some.injEq] at h
      subst h
      obtain ⟨vs, h1, h2, h3⟩ := run_resV hs r l' hl'
      obtain ⟨v, hv, hr⟩ := hs.frame _ _ ha
      refine ⟨v :: vs, ?_, by simp [h2], fun i u a hu ha => ?_⟩
      · simp only [List.map_cons, RV.var, List.mapM_cons, Sem.run_bind, rvRun, Sem.run_pure, Result.andThen_ok, h1]
        simp [hv]
      · cases i with
        | zero => simp at hu ha; subst hu; subst ha; exact hr
        | succ i => exact h3 i u a (by simpa using hu) (by simpa using ha)
    · cases h
  | .cell t ty :: r, l, h => by
    simp only [resV] at h
    split at h
    · rename_i g off ht
      split at h
      · rename_i cells hb
        split at h
        · rename_i a l' ha hl'
          simp only [Option.some.injEq] at h
          subst h
          obtain ⟨vs, h1, h2, h3⟩ := run_resV hs r l' hl'
          obtain ⟨v, hv, hr⟩ := hs.frame _ _ ht
          obtain ⟨b, cs, T', h4, h5, h6, h7, h8⟩ := box_cells hs hb hr
          subst h4
          obtain ⟨u, hu1, hu2⟩ := load_partA (E := enOf C G st.gen w) T (t := ty) (b := b) (off := off) (u := fun j => cs[off + j]?.getD default) (l := cells.drop off) (fun j hj => by
              have hj' : off + j < cs.size := by simp at hj; omega
              have e : cs[off + j]? = some cs[off + j] := by simp [hj']
              exact ⟨by show cellAt w b (off + j) = _; rw [cellAt_row h5, e]; rfl, by rw [e]; exact h7 _ _ e⟩) (fun j y hy => by
              have hy' : cells[off + j]? = some y := by simpa using hy
              have hj' : off + j < cs.size := by rw [h6]; exact (List.getElem?_eq_some_iff.1 hy').1
              have e : cs[off + j]? = some cs[off + j] := by simp [hj']
              rw [e]
              exact h8 _ _ _ e hy') ha
          have hu1' : (loadVar ty ⟨b, off, none⟩).run P w = .ok u w := hu1
          refine ⟨u :: vs, ?_, by simp [h2], fun i x a hx ha => ?_⟩
          · have hg : tmps.getD t undef = .pointer (some ⟨b, off, none⟩) := by simp [hv]
            simp only [List.map_cons, RV.var, List.mapM_cons, rvRun, Sem.run_bind, Sem.run_pure, Result.andThen_ok, h1, hg, asAddr, hu1']
          · cases i with
            | zero => simp at hx ha; subst hx; subst ha; exact hu2
            | succ i => exact h3 i x a (by simpa using hx) (by simpa using ha)
        · cases h
      · cases h
    · cases h

theorem run_resultsV {fn : Func} {rs : List RV} (h : fn.results = (rs.map RV.var).toArray) {tmps : Array Value} {w : World} {vs : List Value}
    (hr : ((rs.map RV.var).mapM (rvRun tmps)).run P w = .ok vs w) :
    (results fn tmps).run P w = .ok (oneV vs) w := by
  have e : results fn tmps = (do
      let vs ← fn.results.mapM (rvRun tmps)
      pure (if h : vs.size = 1 then vs[0] else .tuple vs)) := by
    unfold results
    congr 2
    first | done | (congr 2; funext x; cases x <;> rfl)
  rw [e, h, Array.mapM_eq_mapM_toList]
  simp only [Sem.run_bind, Sem.run_map, hr, Result.andThen_ok, Sem.run_pure]
  match vs with
  | [] => simp [oneV]
  | [v] => simp [oneV]
  | v :: v2 :: vs => simp [oneV]

theorem Does.of_V {f : FuncId} {fn : Func} {c : Code} {rs : List RV} {n : Nat} {args : List A} {r : A} {k : Nat} (hf : P.funcs[f]? = some fn) (hname : (fn.name == "runtime.NumGoroutine") = false) (hb : fn.body = some c) (hn : fn.ntmps = n)
    (hr : fn.results = (rs.map RV.var).toArray) (hlen : Nat.ble args.length n = true) (h : ∀ C, NB C 0 → W P C n c (QV T rs r k) ⟨args0 0 args, [], [], 0⟩) : Does P f args r k := by
  have hlen := Nat.le_of_ble_eq_true hlen
  refine ⟨⟨fn, hf, hname, by rw [hb]; rfl⟩, fun C vals w hw hp hx hsz hrep => ?_⟩
  subst hw
  refine calls_of_wp hf hb (wp_mono (h C ⟨by rw [hp.2.2]; rfl⟩ (vals ++ Array.replicate (fn.ntmps - vals.size) undef) C.w0 ⟨G0, ?_⟩) ?_)
  · refine { size := by simp [hn]; omega, frame := fun t a ha => ?_, box := fun g cells hc => by simp [look'] at hc, gbox := fun g b hb => by simp [G0] at hb, inj := fun g g' b hb => by simp [G0] at hb,
             live := fun g hg => by simp at hg, gown := fun g r hr => by simp [G0] at hr, row := fun g b len cap sz hr => by simp [G0] at hr, xold := fun b o hb => ⟨hx b o hb, hp.1 b⟩, kold := fun b o hb => absurd hb (hp.2.1 b o), lent := fun i b hb => by rw [hp.2.2] at hb; simp at hb,
             fr := ⟨rfl, rfl, rfl, Nat.le_refl _, fun _ _ _ => rfl, fun _ _ _ hb => absurd hb (hp.2.1 _ _)⟩ }
    obtain ⟨_, h1⟩ := args0_look args 0 t a ha
    have h2 : t < args.length := (List.getElem?_eq_some_iff.1 (by simpa using h1)).1
    have h3 : t < vals.size := by omega
    have h4 : vals[t]? = some vals[t] := by simp [h3]
    exact ⟨vals[t], by rw [Array.getElem?_append_left h3]; exact h4, hrep t _ a h4 (by simpa using h1)⟩
  · rintro e ⟨tmps, df⟩ w' ⟨hd, st, ⟨G, hs⟩, he, l, order, hl, hno, hol, hnd, hov⟩
    have hmain : ∃ v, (results fn tmps).run P w' = .ok v w' ∧ ∃ v_1 G', Ending.returned v = .returned v_1 ∧ SimG C 0 ⟨[], [], List.range k, k⟩ G' #[] w' ∧ Rep (enOf C G' k w') v_1 r := by
      obtain ⟨vs, hvs, hvl, hvr⟩ := run_resV T hs rs l hl
      refine ⟨_, run_resultsV hr hvs, _, ⟨fun _ => none, fun i => if i < k then (order[i]?).bind G.own else none⟩, rfl, ?_, ?_⟩
      · refine { size := rfl, frame := fun t a ha => by simp [look] at ha, box := fun g cells hc => by simp [look'] at hc, gbox := fun g b hb => by simp at hb, inj := fun g g' b hb => by simp at hb,
                 live := fun g hg => ?_, gown := fun g r hr => ?_, row := fun g b len cap sz hr => ?_, xold := hs.xold, kold := hs.kold, lent := fun i b hb => by rw [hp.2.2] at hb; simp at hb, fr := hs.fr }
        · have hg' : g < k := by simpa using hg
          have hg2 : g < order.length := by omega
          obtain ⟨r', hr'⟩ := hs.live order[g] (hov _ (List.getElem_mem hg2))
          exact ⟨r', by simp [hg', hg2, hr']⟩
        · dsimp only at hr
          split at hr
          · assumption
          · cases hr
        · dsimp only at hr
          split at hr
          · rename_i hgk
            obtain ⟨g0, hg0, hr0⟩ := Option.bind_eq_some_iff.1 hr
            obtain ⟨h1, h2, h3, h4⟩ := hs.row g0 b len cap sz hr0
            refine ⟨h1, fun g' => by simp, fun g' len' cap' sz' hr' => ?_, h4⟩
            dsimp only at hr'
            split at hr'
            · obtain ⟨g1, hg1, hr1⟩ := Option.bind_eq_some_iff.1 hr'
              have e := h3 g1 len' cap' sz' hr1
              subst e
              obtain ⟨i1, e1⟩ := List.getElem?_eq_some_iff.1 hg0
              obtain ⟨i2, e2⟩ := List.getElem?_eq_some_iff.1 hg1
              have hpw := List.pairwise_iff_getElem.1 hnd
              rcases Nat.lt_trichotomy g' g with hlt | heq | hgt
              · exact absurd (e2.trans e1.symm) (hpw g' g i2 i1 hlt)
              · exact heq
              · exact absurd (e1.trans e2.symm) (hpw g g' i1 i2 hgt)
            · cases hr'
          · cases hr
      · rw [← hno]
        refine Rep.norm (order := order) (E := enOf C G st.gen w') (E2 := enOf C ⟨fun _ => none, fun i => if i < k then (order[i]?).bind G.own else none⟩ k w') (fun b o u hu hn => ⟨hu, fun hp => hn ?_⟩) (fun g r' hg hr' => ?_) (by simp [enOf, hol]) (oneA_rep hvl hvr)
        · rcases (hp : pvOf C ⟨fun _ => none, fun i => if i < k then (order[i]?).bind G.own else none⟩ b o) with hp | ⟨g, hp⟩ | ⟨g, len, cap, sz, hp, hle⟩
          · exact Or.inl hp
          · cases hp
          · simp only at hp
            split at hp
            · obtain ⟨g0, _, hr0⟩ := Option.bind_eq_some_iff.1 hp
              exact Or.inr (Or.inr ⟨g0, len, cap, sz, hr0, hle⟩)
            · cases hp
        · have hr2 : (if order.idxOf g < k then (order[order.idxOf g]?).bind G.own else none) = some r' := hr'
          rw [if_pos (by rw [← hol]; exact idxOf_lt' hg)] at hr2
          have : order[order.idxOf g]? = some g := by
            rw [List.getElem?_eq_some_iff]
            exact ⟨idxOf_lt' hg, List.getElem_idxOf (idxOf_lt' hg)⟩
          rw [this] at hr2
          exact hr2
    cases e with
    | normal => exact ⟨hd, hmain⟩
    | ret => exact ⟨hd, hmain⟩
    | exit _ => exact he.elim
    | goto _ => exact he.elim
    | panic _ => exact he.elim
    | outgrown => exact he.elim

theorem QV.ret0 {rs : List RV} {r : A} {e : Exit} {st : St} {l : List A} (he : match e with | .normal => True | .ret => True | _ => False) (hl : resV T st.f st.bx rs = some l) (hr : norm [] (oneA l) = r) : QV T rs r 0 e st :=
  ⟨he, l, [], hl, hr, rfl, List.nodup_nil, by simp⟩

theorem QV.ret1 {rs : List RV} {r : A} {e : Exit} {st : St} {l : List A} (g : Nat) (he : match e with | .normal => True | .ret => True | _ => False) (hl : resV T st.f st.bx rs = some l) (hg : g ∈ st.lv) (hr : norm [g] (oneA l) = r) : QV T rs r 1 e st :=
  ⟨he, l, [g], hl, hr, rfl, by simp, by simpa using hg⟩

variable {C : Ctx} {n : Nat} {ops : Array Oper} {Q : Exit → St → Prop} {rest l : List Oper} {c : Code}
variable {f f' : List (Nat × A)} {bx bx' : List (Nat × List A)} {lv lv' : List Nat} {gen gen' d : Nat} {op : Op} {ty : TypeId} {pos : String} {af : Array Edge} {a : A} {dst : Option Nat}

/-- what is said of a region's end, whatever way led there -/
def QE (f : List (Nat × A)) (bx : List (Nat × List A)) (lv : List Nat) (gen : Nat) : Exit → St → Prop := fun e st => e = .normal ∧ Sub st.f f ∧ SubB st.bx bx ∧ (∀ g ∈ lv, g ∈ st.lv) ∧ st.gen ≤ gen

theorem WO.cut (f') (bx') (lv') (gen') {st : St} (h : WO P C n ops (QE f' bx' lv' gen') l st) (hq : Q .normal ⟨f', bx', lv', gen'⟩) : WO P C n ops Q l st := by
  have key : ∀ (l : List Oper) (act : Act) (w : World), wpL P ops (lift C n (QE f' bx' lv' gen')) l act w → wpL P ops (lift C n Q) l act w := by
    intro l
    induction l with
    | nil =>
      rintro act w ⟨hd, st', ⟨G, hs⟩, _, h1, h2, h3, h4⟩
      exact ⟨hd, _, ⟨G, SimG.weak (f := st'.f) (bx := st'.bx) (lv := st'.lv) (gen := st'.gen) hs h1 h2 h3 h4⟩, hq⟩
    | cons o l ih =>
      intro act w h
      simp only [wpL] at h ⊢
      split
      · rename_i hw
        rw [if_pos hw] at h
        refine Oper.wp_mono ?_ (Q := lift C n Q) (K := wpL P ops (lift C n (QE f' bx' lv' gen')) l) ?_
        · exact ih
        · unfold Oper.wp at h ⊢
          generalize (execOp act.eval o).run P w = r at *
          cases r with
          | ok x w' =>
            cases x <;> simp only [Oper.upon] at h ⊢
            case enter f args =>
              refine h.mono fun e w'' he => ?_
              cases e with
              | returned v => exact he
              | panicked chain => exact absurd he.2.choose_spec.2.1 (by simp)
              | outgrown => obtain ⟨_, _, he⟩ := he; exact absurd he.2.choose_spec.2.1 (by simp)
            all_goals exact h
          | halt x w' =>
            cases x <;> simp only [Oper.upon] at h ⊢
            exact absurd h.2.choose_spec.2.1 (by simp)
      · rename_i hw
        rw [if_neg hw] at h
        exact ih _ _ h
  exact fun tmps w hs => key l _ w (h tmps w hs)

theorem QE.mk {st : St} (h1 : Sub st.f f) (h2 : SubB st.bx bx) (h3 : ∀ g ∈ lv, g ∈ st.lv) (h4 : st.gen ≤ gen) : QE f bx lv gen .normal st := ⟨rfl, h1, h2, h3, h4⟩

/-- the same of a statement -/
theorem W.cut (f') (bx') (lv') (gen') {st : St} (h : W P C n c (fun e st => match e with | .normal => QE f' bx' lv' gen' .normal st | e => Q e st) st) (hq : Q .normal ⟨f', bx', lv', gen'⟩) : W P C n c Q st :=
  fun tmps w hs => wp_mono (h tmps w hs) fun e act w ⟨hd, st', ⟨G, hs⟩, he⟩ => by
    cases e with
    | normal => exact ⟨hd, _, ⟨G, SimG.weak (f := st'.f) (bx := st'.bx) (lv := st'.lv) (gen := st'.gen) hs he.2.1 he.2.2.1 he.2.2.2.1 he.2.2.2.2⟩, hq⟩
    | _ => exact ⟨hd, st', ⟨G, hs⟩, he⟩

/-- a function of the model's own, on scalars -/
theorem puExt {x : Operand} {xs : Array Operand} {tys : Array TypeId} {fid : FuncId} {vs : List Value} {r : Value} (hx : av f x = some (.clo fid [])) (hxs : avs f xs.toList = some (vs.map fun v => A.d (.v v))) (hrun : ∀ w, (callFunc fid vs.toArray).run P w = .ok (.value r) w) (hr : okc r = true) :
    Pu P C n ⟨f, bx, lv, gen⟩ ⟨dst, .call ⟨.value x, xs, tys⟩, ty, pos, af, none⟩ (.d (.v r)) := by
  intro G tmps w hs
  have hrx := hs.av hx
  generalize hv : Act.eval ⟨tmps, []⟩ x = v at hrx
  cases hrx with
  | clo _ cs _ hsz hd =>
  have hcs : cs = #[] := Array.eq_empty_of_size_eq_zero (by simpa using hsz)
  subst hcs
  obtain ⟨h1, h2⟩ := avs_rep hs xs.toList _ hxs
  have hargs : xs.map (Act.eval ⟨tmps, []⟩) = vs.toArray := by
    apply Array.ext_getElem?
    intro i
    simp only [Array.getElem?_map, List.getElem?_toArray]
    cases hvi : vs[i]? with
    | none =>
      have : xs.size ≤ i := by have := List.getElem?_eq_none_iff.1 hvi; simp at h1; omega
      simp [this]
    | some u =>
      obtain ⟨y, hy, hr⟩ := h2 i (.d (.v u)) (by rw [List.getElem?_map, hvi]; rfl)
      have hy' : xs[i]? = some y := by simpa using hy
      rw [hy']
      simp only [Option.map_some, Option.some.injEq]
      generalize Act.eval ⟨tmps, []⟩ y = z at hr ⊢
      cases hr with | d hr => cases hr; rfl
  refine gives_value (v := r) (w' := w) ?_ ⟨Below.refl _ _, .d (.v _ hr)⟩
  unfold execOp
  show Sem.run P (do let d ← resolve (Act.eval ⟨tmps, []⟩) ⟨.value x, xs, tys⟩ ty; invoke d.target d.args) w = _
  simp only [resolve, hv, Deferred.ofValue, Sem.run_bind, Sem.run_pure, Result.andThen_ok, invoke, Array.empty_append, hargs, Array.append_empty]
  exact hrun w

end
end Go.Ab
/- A region that works out a condition with && and ||: told as one value, whatever way was gone. -/
namespace Go.Ab
open Go.RowKit

/-- the slot that a condition's region fills last; none if nothing in it is guarded, or if it assigns before -/
def boolD : Bool → List Oper → Option Nat
  | _, [] => none
  | g, o :: r => match o.op, r with
    | .pick _ _ _, [] => bif g then o.dst else none
    | .pick _ _ _, [o'] => match o'.op with
      | .assign _ => bif g then o'.dst else none
      | _ => boolD (g || o.guard.isSome) r
    | .assign _, _ => none
    | _, _ => boolD (g || o.guard.isSome) r

abbrev boolA (b : Bool) : A := .d (.v (.bool b))

def apartB (d : Nat) : List (Nat × A) → List (Nat × A) → Bool
  | [], _ => true
  | (s, _) :: r, f0 => (Nat.beq s d || f0.all fun x => !Nat.beq x.1 s) && apartB d r f0

section
variable {P : Program} {C : Ctx} {n : Nat} {ops : Array Oper} {Q : Exit → St → Prop} {rest l : List Oper} {c : Code}
variable {f f0 f' : List (Nat × A)} {bx bx0 bx' : List (Nat × List A)} {lv lv0 lv' : List Nat} {gen gen0 gen' d : Nat} {op : Op} {ty : TypeId} {pos : String} {af : Array Edge} {a : A} {dst : Option Nat}

/-- what is said of a condition's region at its end -/
def QV1 (d : Nat) (y : Bool) (f : List (Nat × A)) (bx : List (Nat × List A)) (lv : List Nat) (gen : Nat) : Exit → St → Prop := fun e st =>
  e = .normal ∧ (∀ t a, look ((d, boolA y) :: f) t = some a → look st.f t = some a) ∧ st.bx = bx ∧ st.lv = lv ∧ st.gen = gen

theorem WO.cut1 {y : Bool} {st : St} (h : WO P C n ops (QV1 d y f bx lv gen) l st) (hq : Q .normal ⟨(d, boolA y) :: f, bx, lv, gen⟩) : WO P C n ops Q l st := by
  have key : ∀ (l : List Oper) (act : Act) (w : World), wpL P ops (lift C n (QV1 d y f bx lv gen)) l act w → wpL P ops (lift C n Q) l act w := by
    intro l
    induction l with
    | nil =>
      rintro act w ⟨hd, st', ⟨G, hs⟩, _, h1, h2, h3, h4⟩
      exact ⟨hd, _, ⟨G, hs.weaken (st' := ⟨(d, boolA y) :: f, bx, lv, gen⟩) ⟨h1, by rw [← h2]; exact fun _ _ h => h, by rw [← h3]; exact fun _ h => h, h4.symm⟩⟩, hq⟩
    | cons o l ih =>
      intro act w h
      simp only [wpL] at h ⊢
      split
      · rename_i hw
        rw [if_pos hw] at h
        refine Oper.wp_mono ?_ (Q := lift C n Q) (K := wpL P ops (lift C n (QV1 d y f bx lv gen)) l) ?_
        · exact ih
        · unfold Oper.wp at h ⊢
          generalize (execOp act.eval o).run P w = r at *
          cases r with
          | ok x w' =>
            cases x <;> simp only [Oper.upon] at h ⊢
            case enter f args =>
              refine h.mono fun e w'' he => ?_
              cases e with
              | returned v => exact he
              | panicked chain => exact absurd he.2.choose_spec.2.1 (by simp)
              | outgrown => obtain ⟨_, _, he⟩ := he; exact absurd he.2.choose_spec.2.1 (by simp)
            all_goals exact h
          | halt x w' =>
            cases x <;> simp only [Oper.upon] at h ⊢
            exact absurd h.2.choose_spec.2.1 (by simp)
      · rename_i hw
        rw [if_neg hw] at h
        exact ih _ _ h
  exact fun tmps w hs => key l _ w (h tmps w hs)

theorem regionB {id : Nat} {y : Bool} (hb : boolD false l = some d) (h : WO P C n l.toArray (QV1 d y f bx lv gen) l ⟨f, bx, lv, gen⟩) (hq : Q .normal ⟨(d, boolA y) :: f, bx, lv, gen⟩) : W P C n (.region id l.toArray false) Q ⟨f, bx, lv, gen⟩ :=
  W.region (WO.cut1 h hq)

theorem qv1 {y : Bool} (hl : look f d = some (boolA y)) (hd : f.drop (f.length - f0.length) = f0) (hj : apartB d (f.take (f.length - f0.length)) f0 = true) : QV1 d y f0 bx lv gen .normal ⟨f, bx, lv, gen⟩ := by
  refine ⟨rfl, fun t a ha => ?_, rfl, rfl, rfl⟩
  rw [look_cons] at ha
  split at ha
  · rename_i e; subst e; rw [← ha]; exact hl
  · rename_i hne
    dsimp only
    rw [← List.take_append_drop (f.length - f0.length) f, hd]
    generalize f.take (f.length - f0.length) = p at hj
    clear hd hl
    induction p with
    | nil => exact ha
    | cons x p ih =>
      obtain ⟨s, b⟩ := x
      simp only [apartB, Bool.and_eq_true, Bool.or_eq_true, List.all_eq_true] at hj
      rw [List.cons_append, look_cons, if_neg]
      · exact ih hj.2
      · rintro rfl
        rcases hj.1 with h | h
        · exact hne (Nat.eq_of_beq_eq_true h).symm
        · clear ih
          have : ∀ (l : List (Nat × A)), (∀ x ∈ l, (!Nat.beq x.1 s) = true) → look l s = none := by
            intro l
            induction l with
            | nil => intro _; rfl
            | cons y l ih =>
              intro h
              obtain ⟨u, v⟩ := y
              rw [look_cons, if_neg]
              · exact ih fun x hx => h x (by simp [hx])
              · rintro rfl
                have := h (u, v) (by simp)
                simp at this
          rw [this f0 h] at ha
          cases ha

theorem splitJ {y1 y2 : Bool} {d0 : Nat} {j e : Nat} {want b : Bool} (hj : gslot ops j = some e) (hl : look f e = some (.d (.v (.bool b))))
    (ht : WO P C n ops (QV1 d0 y1 f0 bx0 lv0 gen0) (⟨dst, op, ty, pos, af, some (j, want)⟩ :: rest) ⟨(e, .d (.v (.bool true))) :: f, bx, lv, gen⟩)
    (hf : WO P C n ops (QV1 d0 y2 f0 bx0 lv0 gen0) (⟨dst, op, ty, pos, af, some (j, want)⟩ :: rest) ⟨(e, .d (.v (.bool false))) :: f, bx, lv, gen⟩) :
    WO P C n ops (QV1 d0 (bif b then y1 else y2) f0 bx0 lv0 gen0) (⟨dst, op, ty, pos, af, some (j, want)⟩ :: rest) ⟨f, bx, lv, gen⟩ := by
  refine WO.split (st := ⟨f, bx, lv, gen⟩) hl (fun h => ?_) (fun h => ?_)
  · subst h; exact ht
  · subst h; exact hf

end
end Go.Ab
/- Loops whose rounds make boxes and growing slices: the ghost names are numbered anew at a loop's head. -/
namespace Go.Ab
open Go.RowKit

def pos : List Nat → Nat → Option Nat
  | [], _ => none
  | g :: r, h => bif Nat.beq g h then some 0 else match pos r h with
    | some i => some (i + 1)
    | none => none

theorem pos_some : ∀ {order : List Nat} {g i : Nat}, pos order g = some i → order[i]? = some g
  | [], g, i, h => by simp [pos] at h
  | g' :: r, g, i, h => by
    simp only [pos] at h
    cases e : Nat.beq g' g with
    | true =>
      rw [e] at h
      simp only [cond_true, Option.some.injEq] at h
      subst h
      simp [Nat.eq_of_beq_eq_true e]
    | false =>
      rw [e] at h
      simp only [cond_false] at h
      split at h
      · rename_i j hj
        simp only [Option.some.injEq] at h
        subst h
        simpa using pos_some hj
      · cases h

mutual
def ren (order : List Nat) : A → A
  | .own g es => match pos order g with
    | some i => .own i es
    | none => .d (.sl es)
  | .ptr g off => match pos order g with
    | some i => .ptr i off
    | none => .any
  | .agg l => .agg (renL order l)
  | .tup l => .tup (renL order l)
  | .row l => .row (renL order l)
  | .clo f l => .clo f (renL order l)
  | a => a
def renL (order : List Nat) : List A → List A
  | [] => []
  | a :: l => ren order a :: renL order l
end

theorem renL_map (order : List Nat) : ∀ l, renL order l = l.map (ren order)
  | [] => rfl
  | a :: l => by simp [renL, renL_map order l]

mutual
def noId : A → Bool
  | .own _ _ => false
  | .ptr _ _ => false
  | .agg l => noIdL l
  | .tup l => noIdL l
  | .row l => noIdL l
  | .clo _ l => noIdL l
  | _ => true
def noIdL : List A → Bool
  | [] => true
  | a :: l => noId a && noIdL l
end

mutual
theorem ren_noId (order : List Nat) : ∀ a, noId a = true → ren order a = a
  | .own _ _, h => by simp [noId] at h
  | .ptr _ _, h => by simp [noId] at h
  | .agg l, h => by simp only [noId] at h; simp [ren, renL_noId order l h]
  | .tup l, h => by simp only [noId] at h; simp [ren, renL_noId order l h]
  | .row l, h => by simp only [noId] at h; simp [ren, renL_noId order l h]
  | .clo _ l, h => by simp only [noId] at h; simp [ren, renL_noId order l h]
  | .d _, _ => rfl
  | .ag _, _ => rfl
  | .rowd _, _ => rfl
  | .any, _ => rfl
theorem renL_noId (order : List Nat) : ∀ l, noIdL l = true → renL order l = l
  | [], _ => rfl
  | a :: l, h => by
    simp only [noIdL, Bool.and_eq_true] at h
    simp [renL, ren_noId order a h.1, renL_noId order l h.2]
end

def renG (order : List Nat) (G : Gh) : Gh := ⟨fun i => (order[i]?).bind G.box, fun i => (order[i]?).bind G.own⟩

theorem pvOf_ren {C : Ctx} {G : Gh} {order : List Nat} {b o : Nat} (h : pvOf C (renG order G) b o) : pvOf C G b o := by
  rcases h with h | ⟨g, h⟩ | ⟨g, len, cap, sz, h, hle⟩
  · exact Or.inl h
  · obtain ⟨g0, _, h0⟩ := Option.bind_eq_some_iff.1 h
    exact Or.inr (Or.inl ⟨g0, h0⟩)
  · obtain ⟨g0, _, h0⟩ := Option.bind_eq_some_iff.1 h
    exact Or.inr (Or.inr ⟨g0, len, cap, sz, h0, hle⟩)

theorem Rep.ren {C : Ctx} {G : Gh} {gen gen' : Nat} {w : World} {order : List Nat} (hg : order.length ≤ gen') {v : Value} {a : A} (h : Rep (enOf C G gen w) v a) : Rep (enOf C (renG order G) gen' w) v (ren order a) := by
  have hc : ∀ b o u, cellAt w b o = some u → ¬ pvOf C G b o → cellAt w b o = some u ∧ ¬ pvOf C (renG order G) b o := fun b o u h hn => ⟨h, fun hp => hn (pvOf_ren hp)⟩
  have hlt : ∀ {g i : Nat}, pos order g = some i → i < gen' := fun hp => Nat.lt_of_lt_of_le (List.getElem?_eq_some_iff.1 (pos_some hp)).1 hg
  generalize hE : enOf C G gen w = E at h
  induction h with
  | any x => exact .any x
  | d hd => subst hE; exact .d (hd.mono hc)
  | ag vs l hs hd => subst hE; exact .ag vs l hs (fun i u x h1 h2 => (hd i u x h1 h2).mono hc)
  | own x g es hd hgg hr =>
    subst hE
    simp only [Ab.ren]
    split
    · rename_i i hp
      refine .own x i es (hd.mono hc) (hlt hp) (fun r hr' => hr r ?_)
      have : (order[i]?).bind G.own = some r := hr'
      rw [pos_some hp] at this
      exact this
    · exact .d (hd.mono hc)
  | agg vs l hs hone _ ih =>
    simp only [Ab.ren, renL_map]
    refine .agg vs _ (by simp [hs]) hone (fun i u x hu hx => ?_)
    simp only [List.getElem?_map, Option.map_eq_some_iff] at hx
    obtain ⟨y, hy, rfl⟩ := hx
    exact ih i u y hu hy
  | tup vs l hs _ ih =>
    simp only [Ab.ren, renL_map]
    refine .tup vs _ (by simp [hs]) (fun i u x hu hx => ?_)
    simp only [List.getElem?_map, Option.map_eq_some_iff] at hx
    obtain ⟨y, hy, rfl⟩ := hx
    exact ih i u y hu hy
  | rowd b off l u hcc hd => subst hE; exact .rowd b off l u (fun j hj => hc _ _ _ (hcc j hj).1 (hcc j hj).2) (fun j x hx => (hd j x hx).mono hc)
  | row b off l u hcc _ ih =>
    simp only [Ab.ren, renL_map]
    subst hE
    refine .row b off _ u (fun j hj => hcc j (by simpa using hj)) (fun j x hx => ?_)
    simp only [List.getElem?_map, Option.map_eq_some_iff] at hx
    obtain ⟨y, hy, rfl⟩ := hx
    exact ih j y hy
  | ptr x g off b0 hgg hb0 hp =>
    subst hE
    simp only [Ab.ren]
    split
    · rename_i i hpp
      refine .ptr x i off b0 (hlt hpp) ?_ hp
      show (order[i]?).bind G.box = some b0
      rw [pos_some hpp]
      exact hb0
    · exact .any _
  | clo f vs l hs _ ih =>
    simp only [Ab.ren, renL_map]
    refine .clo f vs _ (by simp [hs]) (fun i u x hu hx => ?_)
    simp only [List.getElem?_map, Option.map_eq_some_iff] at hx
    obtain ⟨y, hy, rfl⟩ := hx
    exact ih i u y hu hy

def nodupB : List Nat → Bool
  | [] => true
  | a :: l => (l.all fun b => !Nat.beq a b) && nodupB l

theorem nodup_of : ∀ {l : List Nat}, nodupB l = true → l.Nodup
  | [], _ => List.nodup_nil
  | a :: l, h => by
    simp only [nodupB, Bool.and_eq_true, List.all_eq_true] at h
    refine List.nodup_cons.2 ⟨fun hm => ?_, nodup_of h.2⟩
    have := h.1 a hm
    simp at this

def SubR (order : List Nat) (f : List (Nat × A)) : List (Nat × A) → Prop
  | [] => True
  | (t, a) :: r => (match look f t with | some x => some (ren order x) | none => none) = some a ∧ SubR order f r

def SubC (f : List (Nat × A)) : List (Nat × A) → Prop
  | [] => True
  | (t, a) :: r => look f t = some a ∧ noId a = true ∧ SubC f r

def SubBR (order : List Nat) (bx : List (Nat × List A)) : List (Nat × List A) → Prop
  | [] => True
  | (i, l) :: r => (match order[i]? with | some g => (match look' bx g with | some x => some (renL order x) | none => none) | none => none) = some l ∧ SubBR order bx r

def SubBC (order : List Nat) (bx : List (Nat × List A)) : List (Nat × List A) → Prop
  | [] => True
  | (i, l) :: r => (match order[i]? with | some g => look' bx g | none => none) = some l ∧ noIdL l = true ∧ SubBC order bx r

def lvR (order lv : List Nat) : List Nat → Bool
  | [] => true
  | i :: r => (match order[i]? with | some g => lv.any fun h => Nat.beq h g | none => false) && lvR order lv r

theorem SubR.le {order : List Nat} {f : List (Nat × A)} : ∀ {f' : List (Nat × A)}, SubR order f f' → ∀ t a', look f' t = some a' → ∃ a, look f t = some a ∧ ren order a = a'
  | [], _, t, a, h => by simp [look] at h
  | (s, b) :: r, hs, t, a, h => by
    rw [look_cons] at h
    split at h
    · rename_i e
      subst e
      simp only [Option.some.injEq] at h
      subst h
      have := hs.1
      split at this
      · rename_i x hx
        simp only [Option.some.injEq] at this
        exact ⟨x, hx, this⟩
      · cases this
    · exact SubR.le hs.2 t a h

theorem SubC.le {order : List Nat} {f : List (Nat × A)} : ∀ {f' : List (Nat × A)}, SubC f f' → ∀ t a', look f' t = some a' → ∃ a, look f t = some a ∧ ren order a = a'
  | [], _, t, a, h => by simp [look] at h
  | (s, b) :: r, hs, t, a, h => by
    rw [look_cons] at h
    split at h
    · rename_i e
      subst e
      simp only [Option.some.injEq] at h
      subst h
      exact ⟨b, hs.1, ren_noId order b hs.2.1⟩
    · exact SubC.le hs.2.2 t a h

theorem SubBR.le {order : List Nat} {f : List (Nat × List A)} : ∀ {f' : List (Nat × List A)}, SubBR order f f' → ∀ i l', look' f' i = some l' → ∃ g l, order[i]? = some g ∧ look' f g = some l ∧ l.map (ren order) = l'
  | [], _, t, a, h => by simp [look'] at h
  | (s, b) :: r, hs, t, a, h => by
    rw [look'_cons] at h
    split at h
    · rename_i e
      subst e
      simp only [Option.some.injEq] at h
      subst h
      have := hs.1
      split at this
      · rename_i g hg
        split at this
        · rename_i x hx
          simp only [Option.some.injEq] at this
          exact ⟨g, x, hg, hx, by rw [← this, renL_map]⟩
        · cases this
      · cases this
    · exact SubBR.le hs.2 t a h

theorem SubBC.le {order : List Nat} {f : List (Nat × List A)} : ∀ {f' : List (Nat × List A)}, SubBC order f f' → ∀ i l', look' f' i = some l' → ∃ g l, order[i]? = some g ∧ look' f g = some l ∧ l.map (ren order) = l'
  | [], _, t, a, h => by simp [look'] at h
  | (s, b) :: r, hs, t, a, h => by
    rw [look'_cons] at h
    split at h
    · rename_i e
      subst e
      simp only [Option.some.injEq] at h
      subst h
      have := hs.1
      split at this
      · rename_i g hg
        exact ⟨g, b, hg, this, by rw [← renL_map]; exact renL_noId order b hs.2.1⟩
      · cases this
    · exact SubBC.le hs.2.2 t a h

theorem lvR_mem {order lv : List Nat} : ∀ {lv' : List Nat}, lvR order lv lv' = true → ∀ i ∈ lv', ∃ g, order[i]? = some g ∧ g ∈ lv
  | [], _, i, h => by simp at h
  | j :: r, h, i, hi => by
    simp only [lvR, Bool.and_eq_true] at h
    rcases List.mem_cons.1 hi with rfl | hi
    · have := h.1
      split at this
      · rename_i g hg
        obtain ⟨x, hx, he⟩ := List.any_eq_true.1 this
        exact ⟨g, hg, Nat.eq_of_beq_eq_true he ▸ hx⟩
      · cases this
    · exact lvR_mem h.2 i hi

theorem look_append {f f2 : List (Nat × A)} {t : Nat} {a : A} : look (f ++ f2) t = some a → look f t = some a ∨ look f2 t = some a := by
  induction f with
  | nil => exact Or.inr
  | cons x f ih =>
    obtain ⟨s, b⟩ := x
    rw [List.cons_append, look_cons, look_cons]
    split
    · exact Or.inl
    · exact ih

theorem look'_append {f f2 : List (Nat × List A)} {t : Nat} {a : List A} : look' (f ++ f2) t = some a → look' f t = some a ∨ look' f2 t = some a := by
  induction f with
  | nil => exact Or.inr
  | cons x f ih =>
    obtain ⟨s, b⟩ := x
    rw [List.cons_append, look'_cons, look'_cons]
    split
    · exact Or.inl
    · exact ih

section
variable {P : Program} {C : Ctx} {n : Nat} {ops : Array Oper} {Q : Exit → St → Prop} {rest l : List Oper} {c : Code}
variable {f f0 f' : List (Nat × A)} {bx bx0 bx' : List (Nat × List A)} {lv lv0 lv' : List Nat} {gen gen0 gen' d : Nat}

theorem SimG.ren {st : St} {G : Gh} {tmps : Array Value} {w : World} (h : SimG C n st G tmps w) (order : List Nat) (hnd : order.Nodup) (hg : order.length ≤ gen') (hlt : ∀ i, i < C.bx.length → order[i]? = some i)
    (hf : ∀ t a', look f' t = some a' → ∃ a, look st.f t = some a ∧ Ab.ren order a = a')
    (hb : ∀ i l', look' bx' i = some l' → ∃ g l, order[i]? = some g ∧ look' st.bx g = some l ∧ l.map (Ab.ren order) = l')
    (hl : ∀ i ∈ lv', ∃ g, order[i]? = some g ∧ g ∈ st.lv) : SimG C n ⟨f', bx', lv', gen'⟩ (renG order G) tmps w := by
  have inj' : ∀ {i j g : Nat}, order[i]? = some g → order[j]? = some g → i = j := by
    intro i j g h1 h2
    obtain ⟨i1, e1⟩ := List.getElem?_eq_some_iff.1 h1
    obtain ⟨i2, e2⟩ := List.getElem?_eq_some_iff.1 h2
    have hpw := List.pairwise_iff_getElem.1 hnd
    rcases Nat.lt_trichotomy i j with hlt | heq | hgt
    · exact absurd (e1.trans e2.symm) (hpw i j i1 i2 hlt)
    · exact heq
    · exact absurd (e2.trans e1.symm) (hpw j i i2 i1 hgt)
  have hlg : ∀ {i g : Nat}, order[i]? = some g → i < gen' := fun h => Nat.lt_of_lt_of_le (List.getElem?_eq_some_iff.1 h).1 hg
  refine { size := h.size, frame := fun t a' ha => ?_, box := fun i l' hc => ?_, gbox := fun i b hb' => ?_, inj := fun i j b h1 h2 => ?_, live := fun i hi => ?_, gown := fun i r hr => ?_,
           row := fun i b len cap sz hr => ?_, xold := h.xold, kold := h.kold, lent := fun i b hb => ?_, fr := h.fr }
  · obtain ⟨a, h1, h2⟩ := hf t a' ha
    obtain ⟨v, hv, hr⟩ := h.frame t a h1
    exact ⟨v, hv, by rw [← h2]; exact hr.ren hg⟩
  · obtain ⟨g, l, h1, h2, h3⟩ := hb i l' hc
    obtain ⟨b, cs, T, h4, h5, h6, h7, h8⟩ := h.box g l h2
    refine ⟨b, cs, T, by simp [renG, h1, h4], h5, by rw [← h3]; simpa using h6, h7, fun j u a hu ha => ?_⟩
    rw [← h3, List.getElem?_map, Option.map_eq_some_iff] at ha
    obtain ⟨y, hy, rfl⟩ := ha
    exact (h8 j u y hu hy).ren hg
  · obtain ⟨g, h1, h2⟩ := Option.bind_eq_some_iff.1 hb'
    exact ⟨hlg h1, (h.gbox g b h2).2⟩
  · obtain ⟨g1, h3, h4⟩ := Option.bind_eq_some_iff.1 h1
    obtain ⟨g2, h5, h6⟩ := Option.bind_eq_some_iff.1 h2
    have e := h.inj g1 g2 b h4 h6
    subst e
    exact inj' h3 h5
  · obtain ⟨g, h1, h2⟩ := hl i hi
    obtain ⟨r, hr⟩ := h.live g h2
    exact ⟨r, by simp [renG, h1, hr]⟩
  · obtain ⟨g, h1, h2⟩ := Option.bind_eq_some_iff.1 hr
    exact hlg h1
  · obtain ⟨g, h1, h2⟩ := Option.bind_eq_some_iff.1 hr
    obtain ⟨h3, h4, h5, h6⟩ := h.row g b len cap sz h2
    refine ⟨h3, fun j hj => ?_, fun j len' cap' sz' hj => ?_, h6⟩
    · obtain ⟨g2, _, h8⟩ := Option.bind_eq_some_iff.1 hj
      exact h4 g2 h8
    · obtain ⟨g2, h7, h8⟩ := Option.bind_eq_some_iff.1 hj
      have e := h5 g2 len' cap' sz' h8
      subst e
      exact inj' h7 h1
  · have h1 := h.lent i b hb
    have h2 := hlt i (List.getElem?_eq_some_iff.1 hb).1
    show (order[i]?).bind G.box = some b
    rw [h2]; exact h1

/-- what a loop's head says, the names numbered anew -/
def LR (C : Ctx) (n : Nat) {ι : Type} (S : ι → St) (μ : ι → Nat) : Nat → St → Prop := fun m st => ∃ i, μ i = m ∧ ∀ (tmps : Array Value) (w : World), Sim C n st tmps w → Sim C n (S i) tmps w

def headB : Nat → List Nat → Nat → Bool
  | 0, _, _ => true
  | _ + 1, [], _ => false
  | m + 1, g :: r, i => Nat.beq g i && headB m r (i + 1)

theorem headB_get : ∀ {m : Nat} {l : List Nat} {i : Nat}, headB m l i = true → ∀ j, j < m → l[j]? = some (i + j)
  | 0, _, _, _, j, h => absurd h (Nat.not_lt_zero _)
  | m + 1, [], _, h, _, _ => by simp [headB] at h
  | m + 1, g :: r, i, h, j, hj => by
    simp only [headB, Bool.and_eq_true] at h
    cases j with
    | zero => simpa using Nat.eq_of_beq_eq_true h.1
    | succ j => have := headB_get h.2 j (by omega); simpa [Nat.add_assoc, Nat.add_comm 1 j] using this

def orderB (order : List Nat) (gen nb : Nat) : Bool := nodupB order && Nat.ble order.length gen && headB nb order 0

theorem Sim.ren {nb : Nat} [hnb : NB C nb] {fi : List (Nat × A)} {bi : List (Nat × List A)} (order : List Nat) (ho : orderB order gen' nb = true) (hf : SubR order f f') (hfi : SubC f fi) (hb : SubBR order bx bx') (hbi : SubBC order bx bi) (hl : lvR order lv lv' = true)
    {tmps : Array Value} {w : World} (h : Sim C n ⟨f, bx, lv, gen⟩ tmps w) : Sim C n ⟨f' ++ fi, bx' ++ bi, lv', gen'⟩ tmps w := by
  obtain ⟨G, h⟩ := h
  simp only [orderB, Bool.and_eq_true] at ho
  exact ⟨_, h.ren order (nodup_of ho.1.1) (Nat.le_of_ble_eq_true ho.1.2) (fun i hi => by have := headB_get ho.2 i (by rw [← hnb.h]; exact hi); simpa using this) (fun t a ha => (look_append ha).elim (hf.le t a) (hfi.le t a)) (fun t a ha => (look'_append ha).elim (hb.le t a) (hbi.le t a)) (lvR_mem hl)⟩

/-- A LOOP -/
theorem W.loopR {nb : Nat} [hnb : NB C nb] {ι : Type} (V : ι → List (Nat × A)) (fi : List (Nat × A)) (B : ι → List (Nat × List A)) (bi : List (Nat × List A)) (lv' : List Nat) (gen' : Nat) (μ : ι → Nat) (order : List Nat) (i : ι) (ho : orderB order gen' nb = true)
    (hf : SubR order f (V i)) (hfi : SubC f fi) (hb : SubBR order bx (B i)) (hbi : SubBC order bx bi) (hl : lvR order lv lv' = true)
    (hr : ∀ i, W P C n c (QL (LR C n (fun i => ⟨V i ++ fi, B i ++ bi, lv', gen'⟩) μ) (μ i) Q) ⟨V i ++ fi, B i ++ bi, lv', gen'⟩) : W P C n (.loop c) Q ⟨f, bx, lv, gen⟩ := by
  refine W.loop (LR C n (fun i => ⟨V i ++ fi, B i ++ bi, lv', gen'⟩) μ) (fun m st ⟨i, hm, hle⟩ => ?_) (m := μ i) ⟨i, rfl, fun tmps w h => Sim.ren order ho hf hfi hb hbi hl h⟩
  subst hm
  exact fun tmps w hs => hr i tmps w (hle tmps w hs)

theorem W.endR {nb : Nat} [hnb : NB C nb] {ι : Type} {V : ι → List (Nat × A)} {fi : List (Nat × A)} {B : ι → List (Nat × List A)} {bi : List (Nat × List A)} {μ : ι → Nat} {m : Nat} (order : List Nat) (i : ι) (hm : μ i < m) (ho : orderB order gen' nb = true)
    (hf : SubR order f (V i)) (hfi : SubC f fi) (hb : SubBR order bx (B i)) (hbi : SubBC order bx bi) (hl : lvR order lv lv' = true) :
    QL (LR C n (fun i => ⟨V i ++ fi, B i ++ bi, lv', gen'⟩) μ) m Q .normal ⟨f, bx, lv, gen⟩ :=
  ⟨μ i, hm, i, rfl, fun _ _ h => Sim.ren order ho hf hfi hb hbi hl h⟩

theorem qlN' {ι : Type} {S : ι → St} {μ : ι → Nat} {m : Nat} {st : St} (h : QL (LR C n S μ) m Q .normal st) : QL (LR C n S μ) m Q .normal st := h

end
end Go.Ab
/- Loops over lists and texts; the conditions' facts; small tactics for walks. -/
namespace Go.Ab
open Go.RowKit

section
variable {P : Program} {C : Ctx} {n : Nat} {Q : Exit → St → Prop} {x y : Code} {st : St} {α : Type}

/-- the head of a loop over a list: an element more, or the end -/
theorem eachR {l : List α} {k : Nat} {c : Operand} {b : Bool} (hc : av st.f c = some (.d (.v (.bool b)))) (hb : b = decide ((k : Int) < (l.length : Int))) (hk : k ≤ l.length)
    (ht : ∀ a, l[k]? = some a → l.drop k = a :: l.drop (k + 1) → k < l.length → W P C n x Q st) (hf : k = l.length → l.drop k = [] → W P C n y Q st) : W P C n (.cond c x y) Q st := by
  refine W.cond hc (fun h => ?_) (fun h => ?_)
  · subst hb
    have h : k < l.length := by simpa using h
    exact ht l[k] (by simp [h]) (List.drop_eq_getElem_cons h) h
  · subst hb
    have h : k = l.length := by
      have : ¬ (k : Int) < l.length := by simpa using h
      omega
    exact hf h (by rw [h]; simp)

theorem byteList {s : ByteArray} {k : Nat} {b : UInt8} (h : s.data.toList[k]? = some b) : s[((k : Int)).toNat]? = some b := by
  have : s[k]? = s.data.toList[k]? := by
    rcases Nat.lt_or_ge k s.size with hk | hk
    · rw [getElem?_pos s k hk, List.getElem?_eq_getElem (by simpa using hk)]; rfl
    · rw [getElem?_neg s k (by simpa using hk), List.getElem?_eq_none (by simpa using hk)]
  simpa [this] using h

theorem size_list (s : ByteArray) : s.size = s.data.toList.length := by simp

end
end Go.Ab
/- Further rules in explicit form: slices that never grow, parts of texts and slices. -/
namespace Go.Ab
open Go.RowKit

/-- all elements have a type's size; to be told by rfl -/
def lensB (m : Nat) : List (List D) → Bool
  | [] => true
  | x :: r => Nat.beq x.length m && lensB m r
theorem lensB_mem {m : Nat} : ∀ {l : List (List D)}, lensB m l = true → ∀ x ∈ l, x.length = m
  | [], _, x, h => by simp at h
  | y :: r, h, x, hx => by
    simp only [lensB, Bool.and_eq_true] at h
    rcases List.mem_cons.1 hx with rfl | hx
    · exact Nat.eq_of_beq_eq_true h.1
    · exact lensB_mem h.2 x hx

theorem len_map {α : Type} {f : α → List D} {m : Nat} (h : ∀ a, (f a).length = m) {l : List α} : ∀ x ∈ l.map f, x.length = m := by
  intro x hx
  obtain ⟨a, _, rfl⟩ := List.mem_map.1 hx
  exact h a

section
variable {P : Program} (T : Tab P) {C : Ctx} {n : Nat} {ops : Array Oper} {Q : Exit → St → Prop} {rest : List Oper} {c : Code}
variable {f : List (Nat × A)} {bx : List (Nat × List A)} {lv : List Nat} {gen d : Nat} {ty : TypeId} {pos : String} {af : Array Edge} {a : A} {dst : Option Nat}

theorem buildV {t e len : Nat} {parts : Array (Nat × Operand)} {td ed : TyD} {es : List (List D)} (ht : look' T.l t = some td) (hk : td.k = .slice e) (he : look' T.l e = some ed) (hes : elsA f 0 parts.toList = some es) (hlen : es.length = len)
    (hz : Nat.blt 0 ed.n = true) (hsm : Nat.ble (len * ed.n) 16777216 = true) (hl : lensB ed.n es = true) (hpos : Nat.blt 0 len = true) : Pu P C n ⟨f, bx, lv, gen⟩ ⟨dst, .buildSlice t len parts, ty, pos, af, none⟩ (.d (.sl es)) :=
  Pu.buildSl (st := ⟨f, bx, lv, gen⟩) T rfl ht hk he hes hlen hz hsm (lensB_mem hl) hpos

/-- a part of a text: s[l:h] -/
theorem strPart {t : Nat} {x lo hi : Operand} {td : TyD} {s : ByteArray} {l h : Int} {kl kh : IntKind} (hx : av f x = some (.d (.v (.string s)))) (hlo : av f lo = some (.d (.v (.int kl l)))) (hhi : av f hi = some (.d (.v (.int kh h)))) (ht : look' T.l t = some td) (hk : td.k = .str)
    (h0 : 0 ≤ l) (h1 : l ≤ h) (h2 : h ≤ s.size) : Pu P C n ⟨f, bx, lv, gen⟩ ⟨dst, .slice t x (some lo) (some hi) none, ty, pos, af, none⟩ (.d (.v (.string (s.extract l.toNat h.toNat)))) :=
  Pu.sliceStr (st := ⟨f, bx, lv, gen⟩) T (lo := some lo) (hi := some hi) rfl ht hk hx (l := l) (h := h) ⟨kl, hlo⟩ ⟨kh, hhi⟩ h0 h1 h2
/-- s[l:] -/
theorem strFrom {t : Nat} {x lo : Operand} {td : TyD} {s : ByteArray} {l : Int} {kl : IntKind} (hx : av f x = some (.d (.v (.string s)))) (hlo : av f lo = some (.d (.v (.int kl l)))) (ht : look' T.l t = some td) (hk : td.k = .str)
    (h0 : 0 ≤ l) (h1 : l ≤ s.size) : Pu P C n ⟨f, bx, lv, gen⟩ ⟨dst, .slice t x (some lo) none none, ty, pos, af, none⟩ (.d (.v (.string (s.extract l.toNat ((s.size : Int)).toNat)))) :=
  Pu.sliceStr (st := ⟨f, bx, lv, gen⟩) T (lo := some lo) (hi := none) rfl ht hk hx (l := l) (h := s.size) ⟨kl, hlo⟩ rfl h0 h1 (Int.le_refl _)
/-- s[:h] -/
theorem strTo {t : Nat} {x hi : Operand} {td : TyD} {s : ByteArray} {h : Int} {kh : IntKind} (hx : av f x = some (.d (.v (.string s)))) (hhi : av f hi = some (.d (.v (.int kh h)))) (ht : look' T.l t = some td) (hk : td.k = .str)
    (h0 : 0 ≤ h) (h1 : h ≤ s.size) : Pu P C n ⟨f, bx, lv, gen⟩ ⟨dst, .slice t x none (some hi) none, ty, pos, af, none⟩ (.d (.v (.string (s.extract 0 h.toNat)))) :=
  Pu.sliceStr (st := ⟨f, bx, lv, gen⟩) T (lo := none) (hi := some hi) rfl ht hk hx (l := 0) (h := h) rfl ⟨kh, hhi⟩ (Int.le_refl _) h0 h1

/-- x[:h] -/
theorem slTo {t e : Nat} {x hi : Operand} {td ed : TyD} {es : List (List D)} {h : Int} {kh : IntKind} (hx : av f x = some a) (hes : slOf a = some es) (hhi : av f hi = some (.d (.v (.int kh h)))) (ht : look' T.l t = some td) (hk : td.k = .slice e) (he : look' T.l e = some ed)
    (h0 : 0 ≤ h) (h1 : h ≤ es.length) (hl : ∀ x ∈ es, x.length = ed.n) : Pu P C n ⟨f, bx, lv, gen⟩ ⟨dst, .slice t x none (some hi) none, ty, pos, af, none⟩ (.d (.sl ((es.take h.toNat).drop 0))) :=
  Pu.sliceSl (st := ⟨f, bx, lv, gen⟩) T (lo := none) (hi := some hi) rfl ht hk he hx hes (l := 0) (h := h) rfl ⟨kh, hhi⟩ (Int.le_refl _) h0 h1 hl
/-- x[l:] -/
theorem slFrom {t e : Nat} {x lo : Operand} {td ed : TyD} {es : List (List D)} {l : Int} {kl : IntKind} (hx : av f x = some a) (hes : slOf a = some es) (hlo : av f lo = some (.d (.v (.int kl l)))) (ht : look' T.l t = some td) (hk : td.k = .slice e) (he : look' T.l e = some ed)
    (h0 : 0 ≤ l) (h1 : l ≤ es.length) (hl : ∀ x ∈ es, x.length = ed.n) : Pu P C n ⟨f, bx, lv, gen⟩ ⟨dst, .slice t x (some lo) none none, ty, pos, af, none⟩ (.d (.sl ((es.take ((es.length : Int)).toNat).drop l.toNat))) :=
  Pu.sliceSl (st := ⟨f, bx, lv, gen⟩) T (lo := some lo) (hi := none) rfl ht hk he hx hes (l := l) (h := es.length) ⟨kl, hlo⟩ rfl h0 h1 (Int.le_refl _) hl
end
end Go.Ab
/- Operations that are skipped, and those that hang on them. -/
namespace Go.Ab
open Go.RowKit
section
variable {P : Program} {C : Ctx} {n : Nat} {ops : Array Oper} {Q : Exit → St → Prop} {rest : List Oper} {st : St} {o : Oper}
variable {f : List (Nat × A)} {bx : List (Nat × List A)} {lv : List Nat} {gen d : Nat} {op : Op} {ty : TypeId} {pos : String} {af : Array Edge} {dst : Option Nat}

theorem Rep.undef {E : En} : Rep E undef (.tup []) := .tup #[] [] rfl (by simp)

theorem WO.skipT {j d : Nat} {want b : Bool} (hg : o.guard = some (j, want)) (hj : gslot ops j = some d) (hl : look st.f d = some (.d (.v (.bool b)))) (hb : (b == want) = false) (hd : dstOK n o.dst = true)
    (h : WO P C n ops Q rest (st.put o.dst (.tup []))) : WO P C n ops Q (o :: rest) st := by
  intro tmps w ⟨G, hs⟩
  simp only [wpL, Region.wanted, hg]
  rw [yielded_of hj (look_bool hs hl)]
  have hbw : (some b == some want) = false := by simpa using hb
  simp only [hbw, Bool.false_eq_true, if_false]
  rw [Act.put_eq]
  exact h _ _ ⟨G, hs.put (dstOK_lt hd) Rep.undef⟩

theorem WO.skipU {j d : Nat} {want : Bool} (hg : o.guard = some (j, want)) (hj : gslot ops j = some d) (hl : look st.f d = some (.tup [])) (hd : dstOK n o.dst = true)
    (h : WO P C n ops Q rest (st.put o.dst (.tup []))) : WO P C n ops Q (o :: rest) st := by
  intro tmps w ⟨G, hs⟩
  obtain ⟨v, hv, hr⟩ := hs.frame _ _ hl
  have hy : yielded ops tmps j = none := by
    unfold yielded
    unfold gslot at hj
    rw [hj]
    simp only [Option.bind_some, hv]
    cases hr; rfl
  simp only [wpL, Region.wanted, hg, hy]
  have hbw : ((none : Option Bool) == some want) = false := rfl
  simp only [hbw, Bool.false_eq_true, if_false]
  rw [Act.put_eq]
  exact h _ _ ⟨G, hs.put (dstOK_lt hd) Rep.undef⟩

theorem skipT {j e : Nat} {want b : Bool} (hj : gslot ops j = some e) (hl : look f e = some (.d (.v (.bool b)))) (hb : (b == want) = false) (hd : Nat.blt d n = true) (h : WO P C n ops Q rest ⟨(d, .tup []) :: f, bx, lv, gen⟩) :
    WO P C n ops Q (⟨some d, op, ty, pos, af, some (j, want)⟩ :: rest) ⟨f, bx, lv, gen⟩ :=
  WO.skipT (st := ⟨f, bx, lv, gen⟩) rfl hj hl hb hd h

theorem skipU {j e : Nat} {want : Bool} (hj : gslot ops j = some e) (hl : look f e = some (.tup [])) (hd : Nat.blt d n = true) (h : WO P C n ops Q rest ⟨(d, .tup []) :: f, bx, lv, gen⟩) :
    WO P C n ops Q (⟨some d, op, ty, pos, af, some (j, want)⟩ :: rest) ⟨f, bx, lv, gen⟩ :=
  WO.skipU (st := ⟨f, bx, lv, gen⟩) rfl hj hl hd h

theorem skipU0 {j e : Nat} {want : Bool} (hj : gslot ops j = some e) (hl : look f e = some (.tup [])) (h : WO P C n ops Q rest ⟨f, bx, lv, gen⟩) :
    WO P C n ops Q (⟨none, op, ty, pos, af, some (j, want)⟩ :: rest) ⟨f, bx, lv, gen⟩ :=
  WO.skipU (st := ⟨f, bx, lv, gen⟩) rfl hj hl rfl h

theorem splitH {f0 : List (Nat × A)} {bx0 : List (Nat × List A)} {lv0 : List Nat} {gen0 : Nat} {y1 y2 : Bool} {d0 : Nat} {j e : Nat} {want b : Bool} (hj : gslot ops j = some e) (hl : look f e = some (.d (.v (.bool b))))
    (ht : b = true → WO P C n ops (QV1 d0 y1 f0 bx0 lv0 gen0) (⟨dst, op, ty, pos, af, some (j, want)⟩ :: rest) ⟨(e, .d (.v (.bool true))) :: f, bx, lv, gen⟩)
    (hf : b = false → WO P C n ops (QV1 d0 y2 f0 bx0 lv0 gen0) (⟨dst, op, ty, pos, af, some (j, want)⟩ :: rest) ⟨(e, .d (.v (.bool false))) :: f, bx, lv, gen⟩) :
    WO P C n ops (QV1 d0 (bif b then y1 else y2) f0 bx0 lv0 gen0) (⟨dst, op, ty, pos, af, some (j, want)⟩ :: rest) ⟨f, bx, lv, gen⟩ := by
  refine WO.split (st := ⟨f, bx, lv, gen⟩) hl (fun h => ?_) (fun h => ?_)
  · subst h; exact ht rfl
  · subst h; exact hf rfl
end
end Go.Ab
/- Conditions that stay known; conditions of regions that draw their order. -/
namespace Go.Ab
open Go.RowKit
section
variable {P : Program} {C : Ctx} {n : Nat} {ops : Array Oper} {Q : Exit → St → Prop} {rest l : List Oper} {c : Code}
variable {f f0 : List (Nat × A)} {bx bx0 : List (Nat × List A)} {lv lv0 : List Nat} {gen gen0 d : Nat} {op : Op} {ty : TypeId} {pos : String} {af : Array Edge} {dst : Option Nat} {a : A}

theorem condK {s : Nat} {x y : Code} {b : Bool} (hl : look f s = some (.d (.v (.bool b)))) (ht : b = true → W P C n x Q ⟨(s, .d (.v (.bool true))) :: f, bx, lv, gen⟩) (hf : b = false → W P C n y Q ⟨(s, .d (.v (.bool false))) :: f, bx, lv, gen⟩) :
    W P C n (.cond (.tmp s) x y) Q ⟨f, bx, lv, gen⟩ := by
  refine W.cond (b := b) hl (fun h => ?_) (fun h => ?_)
  · exact fun tmps w ⟨G, hs⟩ => ht h tmps w ⟨G, hs.known hl (by rw [h])⟩
  · exact fun tmps w ⟨G, hs⟩ => hf h tmps w ⟨G, hs.known hl (by rw [h])⟩

theorem W.cut1 {y : Bool} {st : St} (h : W P C n c (QV1 d y f bx lv gen) st) (hq : Q .normal ⟨(d, boolA y) :: f, bx, lv, gen⟩) : W P C n c Q st :=
  fun tmps w hs => wp_mono (h tmps w hs) fun e act w ⟨hd, st', ⟨G, hs⟩, he, h1, h2, h3, h4⟩ => by
    subst he
    exact ⟨hd, _, ⟨G, hs.weaken (st' := ⟨(d, boolA y) :: f, bx, lv, gen⟩) ⟨h1, by rw [← h2]; exact fun _ _ h => h, by rw [← h3]; exact fun _ h => h, h4.symm⟩⟩, hq⟩

theorem regionDB (T : Tab P) {id : Nat} {y : Bool} (hb : boolD false l = some d) (hB : Region.lexB .any l.toArray = true) (h : CH P C n bx lv gen l.toArray (QV1 d y f bx lv gen .normal) l f) (hq : Q .normal ⟨(d, boolA y) :: f, bx, lv, gen⟩) :
    W P C n (.region id l.toArray true) Q ⟨f, bx, lv, gen⟩ := W.cut1 (W.regionD T (Q := QV1 d y f bx lv gen) hB h) hq

theorem chSplitH {y1 y2 : Bool} {d0 : Nat} {j e : Nat} {want b : Bool} (hj : gslot ops j = some e) (hl : look f e = some (.d (.v (.bool b))))
    (ht : b = true → CH P C n bx lv gen ops (QV1 d0 y1 f0 bx0 lv0 gen0 .normal) (⟨dst, op, ty, pos, af, some (j, want)⟩ :: rest) ((e, .d (.v (.bool true))) :: f))
    (hf : b = false → CH P C n bx lv gen ops (QV1 d0 y2 f0 bx0 lv0 gen0 .normal) (⟨dst, op, ty, pos, af, some (j, want)⟩ :: rest) ((e, .d (.v (.bool false))) :: f)) :
    CH P C n bx lv gen ops (QV1 d0 (bif b then y1 else y2) f0 bx0 lv0 gen0 .normal) (⟨dst, op, ty, pos, af, some (j, want)⟩ :: rest) f := by
  refine chSplit hl (fun h => ?_) (fun h => ?_)
  · subst h; exact ht rfl
  · subst h; exact hf rfl

theorem chSplitJ {y1 y2 : Bool} {d0 : Nat} {j e : Nat} {want b : Bool} (hj : gslot ops j = some e) (hl : look f e = some (.d (.v (.bool b))))
    (ht : CH P C n bx lv gen ops (QV1 d0 y1 f0 bx0 lv0 gen0 .normal) (⟨dst, op, ty, pos, af, some (j, want)⟩ :: rest) ((e, .d (.v (.bool true))) :: f))
    (hf : CH P C n bx lv gen ops (QV1 d0 y2 f0 bx0 lv0 gen0 .normal) (⟨dst, op, ty, pos, af, some (j, want)⟩ :: rest) ((e, .d (.v (.bool false))) :: f)) :
    CH P C n bx lv gen ops (QV1 d0 (bif b then y1 else y2) f0 bx0 lv0 gen0 .normal) (⟨dst, op, ty, pos, af, some (j, want)⟩ :: rest) f :=
  chSplitH hj hl (fun _ => ht) (fun _ => hf)
end
end Go.Ab
/- Own slices of lists told as maps: named, grown by one. -/
namespace Go.Ab
open Go.RowKit
section
variable {P : Program} (T : Tab P) {C : Ctx} {n : Nat} {ops : Array Oper} {Q : Exit → St → Prop} {rest : List Oper} {c : Code}
variable {f : List (Nat × A)} {bx : List (Nat × List A)} {lv : List Nat} {gen d : Nat} {ty : TypeId} {pos : String} {af : Array Edge}

theorem ownNilR (hl : look f d = some (.d (.v (.slice none 0 0)))) (hd : Nat.blt d n = true) (h : W P C n c Q ⟨(d, .own gen []) :: f, bx, gen :: lv, gen + 1⟩) : W P C n c Q ⟨f, bx, lv, gen⟩ :=
  W.ownNil (st := ⟨f, bx, lv, gen⟩) hl hd h

theorem appendM {α : Type} {fn : α → List D} {l : List α} {a : α} {x y : Operand} {t e : Nat} {td ed : TyD} {g : Nat} {b : A} (hx : av f x = some (.own g (l.map fn))) (hy : av f y = some b) (hb2 : slOf b = some [fn a]) (ht : look' T.l t = some td) (hk : td.k = .slice e)
    (he : look' T.l e = some ed) (hgl : (lv.any fun h => Nat.beq h g) = true) (hz : Nat.blt 0 ed.n = true) (hb0 : Nat.blt 0 ed.b = true) (hd : Nat.blt d n = true) (hl : ∀ a, (fn a).length = ed.n) (hb : (l.length + 1) * ed.b ≤ 140737488355328)
    (h : WO P C n ops Q rest ⟨(d, .own gen ((l ++ [a]).map fn)) :: f, bx, gen :: dropId lv g, gen + 1⟩) : WO P C n ops Q (⟨some d, .call ⟨.builtin .append, #[x, y], #[t, t]⟩, ty, pos, af, none⟩ :: rest) ⟨f, bx, lv, gen⟩ := by
  obtain ⟨g', hg1, hg2⟩ := List.any_eq_true.1 hgl
  have hgm : g ∈ lv := Nat.eq_of_beq_eq_true hg2 ▸ hg1
  refine appendR T hx hy hb2 ht hk he hgm hz hb0 hd (fun z hzm => ?_) (by simpa using hb) ?_
  · rcases List.mem_append.1 hzm with h | h
    · obtain ⟨a', _, rfl⟩ := List.mem_map.1 h; exact hl a'
    · simp only [List.mem_singleton] at h; subst h; exact hl a
  · rw [List.map_append] at h
    exact h
end
end Go.Ab
/- Functions to which boxes are lent: they may write them, and append to the growing slices in them. -/
namespace Go.Ab
open Go.RowKit

def bxs : Nat → List (List A) → List (Nat × List A)
  | _, [] => []
  | k, c :: r => (k, c) :: bxs (k + 1) r

theorem bxs_look : ∀ (l : List (List A)) (k g : Nat) (c : List A), look' (bxs k l) g = some c → k ≤ g ∧ l[g - k]? = some c
  | [], _, _, _, h => by simp [bxs, look'] at h
  | b :: l, k, g, c, h => by
    simp only [bxs, look'_cons] at h
    split at h
    · rename_i e
      subst e
      simp only [Option.some.injEq] at h
      subst h
      exact ⟨Nat.le_refl _, by simp⟩
    · rename_i e
      obtain ⟨h1, h2⟩ := bxs_look l (k + 1) g c h
      refine ⟨by omega, ?_⟩
      have : g - k = (g - (k + 1)) + 1 := by omega
      rw [this]
      simpa using h2

theorem look_bxs : ∀ (l : List (List A)) (k i : Nat) (c : List A), l[i]? = some c → look' (bxs k l) (k + i) = some c
  | [], _, _, _, h => by simp at h
  | b :: l, k, i, c, h => by
    simp only [bxs, look'_cons]
    cases i with
    | zero => simpa using h
    | succ i =>
      rw [if_neg (by omega)]
      have := look_bxs l (k + 1) i c (by simpa using h)
      rw [← this]
      congr 1
      omega

/-- WHAT A FUNCTION DOES TO LENT BOXES: entered with boxes 0, 1, .. that hold 'b0' (in them m growing slices, named from the boxes' number on) it returns 'r', and the boxes hold 'b1', in which k growing slices are named the same way -/
structure DoesB (P : Program) (f : FuncId) (args : List A) (b0 : List (List A)) (m : Nat) (r : A) (b1 : List (List A)) (k : Nat) : Prop where
  ok : FnOK P f
  len : b1.length = b0.length
  calls : ∀ (C : Ctx) (G : Gh) (vals : Array Value) (w : World), C.w0 = w → C.bx.length = b0.length →
    SimG C 0 ⟨[], bxs 0 b0, (List.range m).map (b0.length + ·), b0.length + m⟩ G #[] w → vals.size = args.length →
    (∀ (i : Nat) (u : Value) (a : A), vals[i]? = some u → args[i]? = some a → Rep (enOf C G (b0.length + m) w) u a) →
    Calls P f vals w fun e w' => ∃ v G', e = .returned v ∧ SimG C 0 ⟨[], bxs 0 b1, (List.range k).map (b0.length + ·), b0.length + k⟩ G' #[] w' ∧ Rep (enOf C G' (b0.length + k) w') v r

theorem SimG.noFrame {C : Ctx} {n n' : Nat} {bx : List (Nat × List A)} {lv : List Nat} {gen : Nat} {G : Gh} {tmps tmps' : Array Value} {w : World} (h : SimG C n ⟨[], bx, lv, gen⟩ G tmps w) (hs : tmps'.size = n') :
    SimG C n' ⟨[], bx, lv, gen⟩ G tmps' w :=
  { h with size := hs, frame := fun t a ha => by simp [look] at ha }

section
variable {P : Program} (T : Tab P)

def ordB (nb : Nat) (order : List Nat) : List Nat := List.range nb ++ order

/-- what must hold where the body of such a function ends -/
def QB1 (rs : List RV) (r : A) (b1 : List (List A)) (k : Nat) : Exit → St → Prop := fun e st =>
  (match e with | .normal => True | .ret => True | _ => False) ∧ ∃ l order, resV T st.f st.bx rs = some l ∧ ren (ordB b1.length order) (oneA l) = r ∧ order.length = k ∧ nodupB (ordB b1.length order) = true ∧ (∀ g ∈ order, g ∈ st.lv) ∧
    ∀ (i : Nat) (c : List A), b1[i]? = some c → ∃ c0, look' st.bx i = some c0 ∧ renL (ordB b1.length order) c0 = c

theorem DoesB.of_V {f : FuncId} {fn : Func} {c : Code} {rs : List RV} {n : Nat} {args : List A} {b0 : List (List A)} {m : Nat} {r : A} {b1 : List (List A)} {k : Nat} (hf : P.funcs[f]? = some fn) (hname : (fn.name == "runtime.NumGoroutine") = false)
    (hb : fn.body = some c) (hn : fn.ntmps = n) (hr : fn.results = (rs.map RV.var).toArray) (hlen : Nat.ble args.length n = true) (hbl : b1.length = b0.length)
    (h : ∀ C, NB C b0.length → W P C n c (QB1 T rs r b1 k) ⟨args0 0 args, bxs 0 b0, (List.range m).map (b0.length + ·), b0.length + m⟩) : DoesB P f args b0 m r b1 k := by
  have hlen := Nat.le_of_ble_eq_true hlen
  refine ⟨⟨fn, hf, hname, by rw [hb]; rfl⟩, hbl, fun C G vals w hw hnb hs hsz hrep => ?_⟩
  subst hw
  refine calls_of_wp hf hb (wp_mono (h C ⟨hnb⟩ (vals ++ Array.replicate (fn.ntmps - vals.size) undef) C.w0 ⟨G, ?_⟩) ?_)
  · refine { hs with size := by simp [hn]; omega, frame := fun t a ha => ?_ }
    obtain ⟨_, h1⟩ := args0_look args 0 t a ha
    have h2 : t < args.length := (List.getElem?_eq_some_iff.1 (by simpa using h1)).1
    have h3 : t < vals.size := by omega
    have h4 : vals[t]? = some vals[t] := by simp [h3]
    exact ⟨vals[t], by rw [Array.getElem?_append_left h3]; exact h4, hrep t _ a h4 (by simpa using h1)⟩
  · rintro e ⟨tmps, df⟩ w' ⟨hd, st, ⟨G, hs⟩, he, l, order, hl, hno, hol, hnd, hov, hbx⟩
    have holen : (ordB b1.length order).length = b0.length + k := by simp [ordB, hol, hbl]
    have hget : ∀ i, i < C.bx.length → (ordB b1.length order)[i]? = some i := fun i hi => by
      unfold ordB
      rw [List.getElem?_append_left (by simp; omega), List.getElem?_range (by omega)]
    have hmain : ∃ v, (results fn tmps).run P w' = .ok v w' ∧ ∃ v_1 G', Ending.returned v = .returned v_1 ∧ SimG C 0 ⟨[], bxs 0 b1, (List.range k).map (b0.length + ·), b0.length + k⟩ G' #[] w' ∧ Rep (enOf C G' (b0.length + k) w') v_1 r := by
      obtain ⟨vs, hv1, hv2, hv3⟩ := run_resV T hs rs l hl
      refine ⟨_, run_resultsV hr hv1, _, renG (ordB b1.length order) G, rfl, ?_, ?_⟩
      · refine SimG.noFrame (hs.ren (f' := []) (bx' := bxs 0 b1) (lv' := (List.range k).map (b0.length + ·)) (gen' := b0.length + k) (ordB b1.length order) (nodup_of hnd) (by omega) hget (fun t a ha => by simp [look] at ha) (fun i c hc => ?_) (fun i hi => ?_)) rfl
        · obtain ⟨_, h1⟩ := bxs_look b1 0 i c hc
          simp only [Nat.sub_zero] at h1
          obtain ⟨c0, h2, h3⟩ := hbx i c h1
          have hlt : i < b1.length := (List.getElem?_eq_some_iff.1 h1).1
          exact ⟨i, c0, hget i (by rw [hnb, ← hbl]; exact hlt), h2, by rw [← renL_map]; exact h3⟩
        · obtain ⟨j, hj, rfl⟩ := List.mem_map.1 hi
          have hj : j < k := by simpa using hj
          have hj2 : j < order.length := by omega
          refine ⟨order[j], ?_, hov _ (List.getElem_mem hj2)⟩
          unfold ordB
          rw [List.getElem?_append_right (by simp; omega)]
          simp [hbl, hj2]
      · rw [← hno]
        refine Rep.ren (gen := st.gen) (by omega) (oneA_rep hv2 hv3)
    cases e with
    | normal => exact ⟨hd, hmain⟩
    | ret => exact ⟨hd, hmain⟩
    | exit _ => exact he.elim
    | goto _ => exact he.elim
    | panic _ => exact he.elim
    | outgrown => exact he.elim

theorem QB1.ret {rs : List RV} {r : A} {b1 : List (List A)} {k : Nat} {e : Exit} {st : St} {l : List A} (order : List Nat) (he : match e with | .normal => True | .ret => True | _ => False) (hl : resV T st.f st.bx rs = some l)
    (hk : order.length = k) (hnd : nodupB (ordB b1.length order) = true) (hov : (order.all fun g => st.lv.any fun h => Nat.beq h g) = true) (hb : ∀ (i : Nat) (c : List A), b1[i]? = some c → ∃ c0, look' st.bx i = some c0 ∧ renL (ordB b1.length order) c0 = c)
    (hr : ren (ordB b1.length order) (oneA l) = r) : QB1 T rs r b1 k e st :=
  ⟨he, l, order, hl, hr, hk, hnd, fun g hg => by
    obtain ⟨x, hx, he⟩ := List.any_eq_true.1 (List.all_eq_true.1 hov g hg)
    exact Nat.eq_of_beq_eq_true he ▸ hx, hb⟩
end

/-! the caller's side -/

def lendA (bx : List (Nat × List A)) (gs os : List Nat) : Nat → A → A
  | 0, _ => .any
  | _ + 1, .d x => .d x
  | _ + 1, .ag l => .ag l
  | _ + 1, .own g es => match pos os g with
    | some i => .own (gs.length + i) es
    | none => .d (.sl es)
  | k + 1, .agg l => mkAgg (l.map (lendA bx gs os k))
  | _ + 1, .tup _ => .any
  | _ + 1, .rowd l => .rowd l
  | k + 1, .row l => .row (l.map (lendA bx gs os k))
  | k + 1, .ptr g off => match pos gs g with
    | some i => .ptr i off
    | none => match look' bx g with
      | some cells => .row ((cells.drop off).map (lendA bx gs os k))
      | none => .any
  | k + 1, .clo f l => .clo f (l.map (lendA bx gs os k))
  | _ + 1, .any => .any

def lendBx (bx : List (Nat × List A)) (gs os : List Nat) : List Nat → Option (List (List A))
  | [] => some []
  | g :: r => match look' bx g, lendBx bx gs os r with
    | some c, some l => some (c.map (lendA bx gs os 5) :: l)
    | _, _ => none

mutual
def back (gs : List Nat) (m : Nat) : A → A
  | .own g es => .own (g + m) es
  | .agg l => .agg (backL gs m l)
  | .tup l => .tup (backL gs m l)
  | .clo f l => .clo f (backL gs m l)
  | .ptr i off => match gs[i]? with
    | some g => .ptr g off
    | none => .any
  | .row _ => .any
  | .d x => .d x
  | .ag l => .ag l
  | .rowd l => .rowd l
  | .any => .any
def backL (gs : List Nat) (m : Nat) : List A → List A
  | [] => []
  | a :: l => back gs m a :: backL gs m l
end

theorem backL_map (gs : List Nat) (m : Nat) : ∀ l : List A, backL gs m l = l.map (back gs m)
  | [] => rfl
  | a :: l => by simp [backL, backL_map gs m l]

def zipB (gs : List Nat) (m : Nat) : List Nat → List (List A) → List (Nat × List A)
  | g :: r, c :: l => (g, backL gs m c) :: zipB gs m r l
  | _, _ => []

theorem zipB_look {gs : List Nat} {m : Nat} : ∀ {r : List Nat} {l : List (List A)} {g : Nat} {c : List A}, look' (zipB gs m r l) g = some c → ∃ (i : Nat) (c0 : List A), r[i]? = some g ∧ l[i]? = some c0 ∧ backL gs m c0 = c
  | [], _, g, c, h => by simp [zipB, look'] at h
  | _ :: _, [], g, c, h => by simp [zipB, look'] at h
  | g0 :: r, c0 :: l, g, c, h => by
    simp only [zipB, look'_cons] at h
    split at h
    · rename_i e
      subst e
      simp only [Option.some.injEq] at h
      exact ⟨0, c0, rfl, rfl, h⟩
    · obtain ⟨i, c1, h1, h2, h3⟩ := zipB_look h
      exact ⟨i + 1, c1, by simpa using h1, by simpa using h2, h3⟩

section
variable {P : Program} {C : Ctx} {n : Nat} {ops : Array Oper} {Q : Exit → St → Prop} {st : St} {o : Oper} {rest : List Oper}

def lentBox (G : Gh) (gs : List Nat) (b : Nat) : Prop := ∃ g ∈ gs, G.box g = some b
def lentRow (G : Gh) (os : List Nat) (b lim : Nat) : Prop := ∃ g ∈ os, ∃ len cap sz, G.own g = some (.blk b len cap sz) ∧ lim = len * sz

def lendC (C : Ctx) (G : Gh) (w : World) (gs os : List Nat) : Ctx :=
  { w0 := w, fp := fun b => lentBox G gs b ∨ ∃ lim, lentRow G os b lim, x := fun b o => pvOf C G b o ∧ ¬ (lentBox G gs b ∨ ∃ lim, lentRow G os b lim),
    keep := fun b o => ∃ lim, lentRow G os b lim ∧ o < lim, bx := gs.map fun g => (G.box g).getD 0 }

def lendG (G : Gh) (gs os : List Nat) : Gh := ⟨fun i => (gs[i]?).bind G.box, fun i => if i < gs.length then none else (os[i - gs.length]?).bind G.own⟩

theorem lend_pv {C : Ctx} {G : Gh} {w : World} {gs os : List Nat} {b o : Nat} (h : pvOf (lendC C G w gs os) (lendG G gs os) b o) : pvOf C G b o := by
  rcases h with h | ⟨g, h⟩ | ⟨g, len, cap, sz, h, hle⟩
  · exact h.1
  · obtain ⟨g0, _, h0⟩ := Option.bind_eq_some_iff.1 h
    exact Or.inr (Or.inl ⟨g0, h0⟩)
  · simp only [lendG] at h
    split at h
    · cases h
    · obtain ⟨g0, _, h0⟩ := Option.bind_eq_some_iff.1 h
      exact Or.inr (Or.inr ⟨g0, len, cap, sz, h0, hle⟩)

/-- a private cell stays private in the callee's eyes -/
theorem pv_lend {C : Ctx} {G : Gh} {w : World} {gs os : List Nat} {b o : Nat} (h : pvOf C G b o) (hn : ¬ (lentBox G gs b ∨ ∃ lim, lentRow G os b lim)) {G1 : Gh} : pvOf (lendC C G w gs os) G1 b o := Or.inl ⟨h, hn⟩

theorem Rep.lend {G : Gh} {tmps : Array Value} {w : World} (h : SimG C n st G tmps w) (gs os : List Nat) {gen' : Nat} (hgen : gs.length + os.length ≤ gen') :
    ∀ (k : Nat) (v : Value) (a : A), Rep (enOf C G st.gen w) v a → Rep (enOf (lendC C G w gs os) (lendG G gs os) gen' w) v (lendA st.bx gs os k a) := by
  have hc : ∀ b o u, cellAt w b o = some u → ¬ pvOf C G b o → cellAt w b o = some u ∧ ¬ pvOf (lendC C G w gs os) (lendG G gs os) b o := fun b o u h1 h2 => ⟨h1, fun hp => h2 (lend_pv hp)⟩
  have hold : ∀ b, (∃ g ∈ gs, G.box g = some b) ∨ (∃ lim, lentRow G os b lim) → C.w0.heap.size ≤ b ∨ C.fp b := by
    rintro b (⟨g, _, hg⟩ | ⟨lim, g, _, len, cap, sz, hg, _⟩)
    · exact (h.gbox g b hg).2.2.1
    · exact (h.row g b len cap sz hg).1.1
  intro k
  induction k with
  | zero => intro v a _; exact .any v
  | succ k ih =>
    intro v a hr
    have lst : ∀ (l : List A) (vs : Array Value), (∀ (i : Nat) (u : Value) (x : A), vs[i]? = some u → l[i]? = some x → Rep (enOf C G st.gen w) u x) →
        ∀ (i : Nat) (u : Value) (x : A), vs[i]? = some u → (l.map (lendA st.bx gs os k))[i]? = some x → Rep (enOf (lendC C G w gs os) (lendG G gs os) gen' w) u x := by
      intro l vs hl i u x hu hx
      simp only [List.getElem?_map, Option.map_eq_some_iff] at hx
      obtain ⟨y, hy, rfl⟩ := hx
      exact ih u y (hl i u y hu hy)
    cases hr with
    | any => exact .any _
    | d hd => exact .d (hd.mono hc)
    | ag vs l hs hd => exact .ag vs l hs (fun i u x h1 h2 => (hd i u x h1 h2).mono hc)
    | own _ g es hd _ hx =>
      simp only [lendA]
      split
      · rename_i i hp
        have hi := pos_some hp
        have hil := (List.getElem?_eq_some_iff.1 hi).1
        refine .own _ _ es (hd.mono hc) (by simp only [enOf]; omega) (fun r hr' => hx r ?_)
        have hr2 : (if gs.length + i < gs.length then none else (os[gs.length + i - gs.length]?).bind G.own) = some r := hr'
        rw [if_neg (by omega), Nat.add_sub_cancel_left, hi] at hr2
        exact hr2
      · exact .d (hd.mono hc)
    | agg vs l hs hone hd => exact mkAgg_rep (by simp [hs]) hone (lst l vs hd)
    | tup vs l hs hd => exact .any _
    | rowd b off l u hcc hd => exact .rowd b off l u (fun j hj => hc _ _ _ (hcc j hj).1 (hcc j hj).2) (fun j x hx => (hd j x hx).mono hc)
    | row b off l u hcc hd =>
      refine .row b off _ u (fun j hj => ?_) (fun j x hx => ?_)
      · have := hcc j (by simpa using hj)
        refine ⟨this.1, ⟨cellAt_lt this.1, fun hl => ?_⟩, this.2.2⟩
        have h1 := hold b hl
        have h2 := this.2.1
        simp only [enOf] at h2
        rcases h1 with h1 | h1
        · omega
        · exact h2.2 h1
      · simp only [List.getElem?_map, Option.map_eq_some_iff] at hx
        obtain ⟨y, hy, rfl⟩ := hx
        exact ih _ y (hd j y hy)
    | ptr _ g off b0 hg hb0 hx0 =>
      have hp := ptr_at hb0 hx0
      simp only [lendA]
      split
      · rename_i i hpp
        have hi := pos_some hpp
        have hil := (List.getElem?_eq_some_iff.1 hi).1
        refine .ptr _ i off b0 (by simp only [enOf]; omega) ?_ hx0
        show (gs[i]?).bind G.box = some b0
        rw [hi]
        exact hb0
      · rename_i hpn
        split
        · rename_i cells hb
          obtain ⟨b, cs, T', h1, h2, h3, h4, h5⟩ := h.box g cells hb
          rw [hp b h1]
          refine .row b off _ (fun j => cs[off + j]?.getD default) (fun j hj => ?_) (fun j x hx => ?_)
          · have hj' : off + j < cs.size := by simp at hj; omega
            have e : cs[off + j]? = some cs[off + j] := by simp [hj']
            refine ⟨by show cellAt w b (off + j) = _; rw [cellAt_row h2, e]; rfl, ⟨(Array.getElem?_eq_some_iff.1 h2).1, ?_⟩, by rw [e]; exact h4 _ _ e⟩
            rintro (⟨g', hg', hb'⟩ | ⟨lim, g', hg', len, cap, sz, hr', _⟩)
            · have e := h.inj g g' b h1 hb'
              subst e
              have : ∀ {l : List Nat}, pos l g = none → g ∉ l := by
                intro l
                induction l with
                | nil => intro _ hm; cases hm
                | cons y l ihl =>
                  intro hpos hm
                  simp only [pos] at hpos
                  cases e : Nat.beq y g with
                  | true => rw [e] at hpos; simp at hpos
                  | false =>
                    rw [e] at hpos
                    simp only [cond_false] at hpos
                    split at hpos
                    · cases hpos
                    · rename_i hno
                      rcases List.mem_cons.1 hm with rfl | hm
                      · simp at e
                      · exact ihl hno hm
              exact this hpn hg'
            · exact (h.row g' b len cap sz hr').2.1 g h1
          · simp only [List.getElem?_map, Option.map_eq_some_iff] at hx
            obtain ⟨y, hy, rfl⟩ := hx
            have hy' : cells[off + j]? = some y := by simpa using hy
            have hj' : off + j < cs.size := by rw [h3]; exact (List.getElem?_eq_some_iff.1 hy').1
            have e : cs[off + j]? = some cs[off + j] := by simp [hj']
            rw [e]
            exact ih _ y (h5 _ _ _ e hy')
        · exact .any _
    | clo f vs l hs hd => exact .clo f vs _ (by simp [hs]) (lst l vs hd)

theorem lendBx_get {bx : List (Nat × List A)} {gs os : List Nat} : ∀ {r : List Nat} {l : List (List A)}, lendBx bx gs os r = some l → l.length = r.length ∧ ∀ (i g : Nat), r[i]? = some g → ∃ c, look' bx g = some c ∧ l[i]? = some (c.map (lendA bx gs os 5))
  | [], l, h => by simp only [lendBx, Option.some.injEq] at h; subst h; simp
  | g0 :: r, l, h => by
    simp only [lendBx] at h
    split at h
    · rename_i c l' hc hl
      simp only [Option.some.injEq] at h
      subst h
      obtain ⟨h1, h2⟩ := lendBx_get hl
      refine ⟨by simp [h1], fun i g hi => ?_⟩
      cases i with
      | zero => simp at hi; subst hi; exact ⟨c, hc, rfl⟩
      | succ i => simpa using h2 i g (by simpa using hi)
    · cases h

theorem nodup_inj {l : List Nat} (hnd : l.Nodup) {i j g : Nat} (h1 : l[i]? = some g) (h2 : l[j]? = some g) : i = j := by
  obtain ⟨i1, e1⟩ := List.getElem?_eq_some_iff.1 h1
  obtain ⟨i2, e2⟩ := List.getElem?_eq_some_iff.1 h2
  have hpw := List.pairwise_iff_getElem.1 hnd
  rcases Nat.lt_trichotomy i j with hlt | heq | hgt
  · exact absurd (e1.trans e2.symm) (hpw i j i1 i2 hlt)
  · exact heq
  · exact absurd (e2.trans e1.symm) (hpw j i i2 i1 hgt)

/-- the state in which the callee is entered -/
theorem SimG.lend {G : Gh} {tmps : Array Value} {w : World} (h : SimG C n st G tmps w) {gs os : List Nat} {b0 : List (List A)} (hgs : gs.Nodup) (hos : os.Nodup) (hov : ∀ g ∈ os, g ∈ st.lv) (hb : lendBx st.bx gs os gs = some b0) :
    (lendC C G w gs os).bx.length = b0.length ∧ SimG (lendC C G w gs os) 0 ⟨[], bxs 0 b0, (List.range os.length).map (b0.length + ·), b0.length + os.length⟩ (lendG G gs os) #[] w := by
  obtain ⟨hl, hget⟩ := lendBx_get hb
  refine ⟨by simp [lendC, hl], ?_⟩
  have hown : ∀ {g r}, (lendG G gs os).own g = some r → gs.length ≤ g ∧ ∃ g0, os[g - gs.length]? = some g0 ∧ G.own g0 = some r := by
    intro g r hr
    simp only [lendG] at hr
    split at hr
    · cases hr
    · exact ⟨by omega, Option.bind_eq_some_iff.1 hr⟩
  refine { size := rfl, frame := fun t a ha => by simp [look] at ha, box := fun i l' hc => ?_, gbox := fun i b hb' => ?_, inj := fun i j b h1 h2 => ?_, live := fun i hi => ?_, gown := fun i r hr => ?_,
           row := fun i b len cap sz hr => ?_, xold := fun b o hx => ⟨pv_old h hx.1, hx.2⟩, kold := fun b o hk => ?_, lent := fun i b hi => ?_, fr := ⟨rfl, rfl, rfl, Nat.le_refl _, fun _ _ _ => rfl, fun _ _ _ _ h => h⟩ }
  · obtain ⟨_, h1⟩ := bxs_look b0 0 i l' hc
    simp only [Nat.sub_zero] at h1
    have hlt : i < gs.length := by rw [← hl]; exact (List.getElem?_eq_some_iff.1 h1).1
    have hgi : gs[i]? = some gs[i] := by simp [hlt]
    obtain ⟨c, h2, h3⟩ := hget i _ hgi
    rw [h1] at h3
    simp only [Option.some.injEq] at h3
    subst h3
    obtain ⟨b, cs, T, h4, h5, h6, h7, h8⟩ := h.box _ c h2
    refine ⟨b, cs, T, by simp [lendG, hgi, h4], h5, by simpa using h6, h7, fun j u a hu ha => ?_⟩
    rw [List.getElem?_map, Option.map_eq_some_iff] at ha
    obtain ⟨y, hy, rfl⟩ := ha
    exact Rep.lend h gs os (gen' := b0.length + os.length) (by omega) 5 u y (h8 j u y hu hy)
  · obtain ⟨g, h1, h2⟩ := Option.bind_eq_some_iff.1 hb'
    have hlt : i < gs.length := (List.getElem?_eq_some_iff.1 h1).1
    refine ⟨by show i < b0.length + os.length; omega, (h.gbox g b h2).2.1, .inr (.inl ⟨g, List.mem_of_getElem? h1, h2⟩), ?_⟩
    rintro o ⟨lim, ⟨g', _, len, cap, sz, hr', _⟩, _⟩
    exact absurd h2 ((h.row g' b len cap sz hr').2.1 g)
  · obtain ⟨g1, h3, h4⟩ := Option.bind_eq_some_iff.1 h1
    obtain ⟨g2, h5, h6⟩ := Option.bind_eq_some_iff.1 h2
    have e := h.inj g1 g2 b h4 h6
    subst e
    exact nodup_inj hgs h3 h5
  · obtain ⟨j, hj, rfl⟩ := List.mem_map.1 hi
    have hj : j < os.length := by simpa using hj
    obtain ⟨r, hr⟩ := h.live _ (hov _ (List.getElem_mem hj))
    refine ⟨r, ?_⟩
    simp only [lendG]
    rw [if_neg (by omega), hl, Nat.add_sub_cancel_left]
    simp [hj, hr]
  · obtain ⟨h1, g0, h2, h3⟩ := hown hr
    have := (List.getElem?_eq_some_iff.1 h2).1
    simp only
    omega
  · obtain ⟨h1, g0, h2, h3⟩ := hown hr
    obtain ⟨h4, h5, h6, h7⟩ := h.row g0 b len cap sz h3
    have hm := List.mem_of_getElem? h2
    refine ⟨⟨.inr (.inr ⟨_, g0, hm, len, cap, sz, h3, rfl⟩), ?_⟩, fun j hj => ?_, fun j len' cap' sz' hj => ?_, h7⟩
    · rintro o ⟨lim, ⟨g', _, len', cap', sz', hr', rfl⟩, hlt⟩
      have e := h6 g' len' cap' sz' hr'
      subst e
      rw [h3] at hr'
      simp only [Option.some.injEq, Row.blk.injEq] at hr'
      obtain ⟨_, rfl, _, rfl⟩ := hr'
      exact hlt
    · obtain ⟨g2, _, h8⟩ := Option.bind_eq_some_iff.1 hj
      exact h5 g2 h8
    · obtain ⟨h9, g2, h10, h11⟩ := hown hj
      have e := h6 g2 len' cap' sz' h11
      subst e
      have := nodup_inj hos h10 h2
      omega
  · obtain ⟨lim, ⟨g', _, len', cap', sz', hr', _⟩, _⟩ := hk
    obtain ⟨_, _, _, cur, T', hc, _⟩ := h.row g' b len' cap' sz' hr'
    exact (Array.getElem?_eq_some_iff.1 hc).1
  · simp only [lendC, List.getElem?_map, Option.map_eq_some_iff] at hi
    obtain ⟨g, hg, rfl⟩ := hi
    obtain ⟨c, h2, _⟩ := hget i g hg
    obtain ⟨b, _, _, h4, _⟩ := h.box _ c h2
    simp [lendG, hg, h4]

theorem Rep.back {E E2 : En} {gs : List Nat} {m : Nat} (hc : ∀ b o u, cellAt E.w b o = some u → ¬ E.pv b o → cellAt E2.w b o = some u ∧ ¬ E2.pv b o) (ho : ∀ g r, g < E.gen → E2.own (g + m) = some r → E.own g = some r)
    (hg : E.gen + m ≤ E2.gen) (hb : ∀ (i g b : Nat), gs[i]? = some g → E.box i = some b → g < E2.gen ∧ E2.box g = some b) {v : Value} {a : A} (h : Rep E v a) : Rep E2 v (back gs m a) := by
  induction h with
  | any x => exact .any x
  | d hd => exact .d (hd.mono hc)
  | ag vs l hs hd => exact .ag vs l hs (fun i u x h1 h2 => (hd i u x h1 h2).mono hc)
  | own x g es hd hgg hr => exact .own x _ es (hd.mono hc) (by omega) (fun r hr' => hr r (ho g r hgg hr'))
  | agg vs l hs hone _ ih =>
    simp only [Ab.back, backL_map]
    refine .agg vs _ (by simp [hs]) hone (fun i u x hu hx => ?_)
    simp only [List.getElem?_map, Option.map_eq_some_iff] at hx
    obtain ⟨y, hy, rfl⟩ := hx
    exact ih i u y hu hy
  | tup vs l hs _ ih =>
    simp only [Ab.back, backL_map]
    refine .tup vs _ (by simp [hs]) (fun i u x hu hx => ?_)
    simp only [List.getElem?_map, Option.map_eq_some_iff] at hx
    obtain ⟨y, hy, rfl⟩ := hx
    exact ih i u y hu hy
  | rowd b off l u hcc hd => exact .rowd b off l u (fun j hj => hc _ _ _ (hcc j hj).1 (hcc j hj).2) (fun j x hx => (hd j x hx).mono hc)
  | row b off l u hcc _ _ => exact .any _
  | ptr x i off b0 hgg hb0 hp =>
    simp only [Ab.back]
    split
    · rename_i g hgi
      exact .ptr x g off b0 (hb i g b0 hgi hb0).1 (hb i g b0 hgi hb0).2 hp
    · exact .any _
  | clo f vs l hs _ ih =>
    simp only [Ab.back, backL_map]
    refine .clo f vs _ (by simp [hs]) (fun i u x hu hx => ?_)
    simp only [List.getElem?_map, Option.map_eq_some_iff] at hx
    obtain ⟨y, hy, rfl⟩ := hx
    exact ih i u y hu hy

theorem SimG.unlend {G : Gh} {tmps : Array Value} {w w' : World} (h : SimG C n st G tmps w) {gs os : List Nat} {b0 b1 : List (List A)} (hb : lendBx st.bx gs os gs = some b0) (hl1 : b1.length = b0.length) {k : Nat} {G1 : Gh}
    (h1 : SimG (lendC C G w gs os) 0 ⟨[], bxs 0 b1, (List.range k).map (b0.length + ·), b0.length + k⟩ G1 #[] w') :
    ∃ G2, (∀ v a, Rep (enOf (lendC C G w gs os) G1 (b0.length + k) w') v a → Rep (enOf C G2 (b0.length + k + st.gen) w') v (back gs st.gen a)) ∧
      SimG C n ⟨st.f, zipB gs st.gen gs b1 ++ st.bx, (List.range k).map (b0.length + · + st.gen) ++ st.lv.filter (fun g => !os.any (Nat.beq g)), b0.length + k + st.gen⟩ G2 tmps w' := by
  obtain ⟨hl, hget⟩ := lendBx_get hb
  have memos : ∀ g, os.any (Nat.beq g) = true ↔ g ∈ os := by
    intro g
    rw [List.any_eq_true]
    exact ⟨fun ⟨x, hx, he⟩ => Nat.eq_of_beq_eq_true he ▸ hx, fun hg => ⟨g, hg, Nat.beq_refl g⟩⟩
  let own2 : Nat → Option Row := fun g => if g < st.gen then (if os.any (Nat.beq g) then none else G.own g) else G1.own (g - st.gen)
  let G2 : Gh := ⟨G.box, own2⟩
  -- the lent blocks
  have hLb : ∀ {b}, lentBox G gs b → C.mine b 0 ∧ b < w.heap.size := by
    rintro b ⟨g, _, hg⟩
    exact ⟨(h.gbox g b hg).2.2, (h.gbox g b hg).2.1⟩
  have hLr : ∀ {b lim}, lentRow G os b lim → C.mine b lim ∧ b < w.heap.size ∧ (∀ g', G.box g' ≠ some b) := by
    rintro b lim ⟨g, _, len, cap, sz, hg, rfl⟩
    obtain ⟨h1, h2, _, cur, T, h3, _⟩ := h.row g b len cap sz hg
    exact ⟨h1, (Array.getElem?_eq_some_iff.1 h3).1, h2⟩
  have hLm : ∀ {b}, (lentBox G gs b ∨ ∃ lim, lentRow G os b lim) → C.w0.heap.size ≤ b ∨ C.fp b := by
    rintro b (hl | ⟨lim, hl⟩)
    · exact (hLb hl).1.1
    · exact (hLr hl).1.1
  have hG1 : ∀ {i g : Nat} {b : Nat}, gs[i]? = some g → G.box g = some b → G1.box i = some b := by
    intro i g b hi hg
    refine h1.lent i b ?_
    simp [lendC, hi, hg]
  have old2 : ∀ {g r}, own2 g = some r → (g < st.gen ∧ g ∉ os ∧ G.own g = some r) ∨ (st.gen ≤ g ∧ G1.own (g - st.gen) = some r) := by
    intro g r hr
    simp only [own2] at hr
    split at hr
    · rename_i hlt
      split at hr
      · cases hr
      · rename_i hno
        exact .inl ⟨hlt, fun hm => hno ((memos g).2 hm), hr⟩
    · exact .inr ⟨by omega, hr⟩
  -- blocks that are not lent stay
  have hstay : ∀ {b}, b < w.heap.size → ¬ (lentBox G gs b ∨ ∃ lim, lentRow G os b lim) → w'.heap[b]? = w.heap[b]? := fun hlt hn => h1.fr.block _ hlt hn
  have hnotrow : ∀ {g b len cap sz}, G.own g = some (.blk b len cap sz) → g ∉ os → ¬ (lentBox G gs b ∨ ∃ lim, lentRow G os b lim) := by
    rintro g b len cap sz hg hno (⟨g', _, hb'⟩ | ⟨lim, g', hg', len', cap', sz', hr', _⟩)
    · exact (h.row g b len cap sz hg).2.1 g' hb'
    · have e := (h.row g b len cap sz hg).2.2.1 g' len' cap' sz' hr'
      subst e
      exact hno hg'
  have hnotbox : ∀ {g b}, G.box g = some b → g ∉ gs → ¬ (lentBox G gs b ∨ ∃ lim, lentRow G os b lim) := by
    rintro g b hg hno (⟨g', hg', hb'⟩ | ⟨lim, hl⟩)
    · have e := h.inj g g' b hg hb'
      subst e
      exact hno hg'
    · exact (hLr hl).2.2 g hg
  -- rows that the callee gives
  have hnew : ∀ {g b len cap sz}, G1.own g = some (.blk b len cap sz) → C.mine b (len * sz) ∧ (w.heap.size ≤ b ∨ ∃ lim, lentRow G os b lim ∧ lim ≤ len * sz) := by
    intro g b len cap sz hg
    obtain ⟨⟨hm, hk⟩, hnb, _⟩ := h1.row g b len cap sz hg
    have hm' : w.heap.size ≤ b ∨ (lentBox G gs b ∨ ∃ lim, lentRow G os b lim) := hm
    rcases hm' with hm | hm | ⟨lim, hm⟩
    · refine ⟨⟨.inl (Nat.le_trans h.fr.size hm), fun o ho => ?_⟩, .inl hm⟩
      have := h.kold b o ho
      have := h.fr.size
      omega
    · obtain ⟨g0, hg0, hb0⟩ := hm
      obtain ⟨i, hi⟩ := List.mem_iff_getElem?.1 hg0
      exact absurd (hG1 hi hb0) (hnb i)
    · have hlim : lim ≤ len * sz := by
        rcases Nat.lt_or_ge (len * sz) lim with hlt | hge
        · exact absurd (hk (len * sz) ⟨lim, hm, hlt⟩) (Nat.lt_irrefl _)
        · exact hge
      exact ⟨⟨(hLr hm).1.1, fun o ho => Nat.lt_of_lt_of_le ((hLr hm).1.2 o ho) hlim⟩, .inr ⟨lim, hm, hlim⟩⟩
  have hfr : Fr C w' := by
    refine ⟨h1.fr.os.trans h.fr.os, h1.fr.tape.trans h.fr.tape, h1.fr.output.trans h.fr.output, Nat.le_trans h.fr.size h1.fr.size, fun b hlt hn => ?_, fun b o u hk hu => ?_⟩
    · rw [hstay (Nat.lt_of_lt_of_le hlt h.fr.size) (fun hl => (hLm hl).elim (fun h => by omega) hn)]
      exact h.fr.block b hlt hn
    · have hu' := h.fr.cells b o u hk hu
      by_cases hl : lentBox G gs b ∨ ∃ lim, lentRow G os b lim
      · rcases hl with hl | ⟨lim, hl⟩
        · exact absurd ((hLb hl).1.2 o hk) (Nat.not_lt_zero _)
        · exact h1.fr.cells b o u ⟨lim, hl, (hLr hl).1.2 o hk⟩ hu'
      · rw [cellAt_same (hstay (cellAt_lt hu') hl)]
        exact hu'
  have hpv2 : ∀ {b o}, pvOf C G2 b o → pvOf (lendC C G w gs os) G1 b o := by
    rintro b o (hp | ⟨g, hp⟩ | ⟨g, len, cap, sz, hp, hle⟩)
    · refine pv_lend (.inl hp) (fun hl => ?_)
      obtain ⟨h2, h3⟩ := h.xold b o hp
      exact (hLm hl).elim (fun h => by omega) h3
    · by_cases hg : g ∈ gs
      · obtain ⟨i, hi⟩ := List.mem_iff_getElem?.1 hg
        exact .inr (.inl ⟨i, hG1 hi hp⟩)
      · exact pv_lend (G := G) (.inr (.inl ⟨g, hp⟩)) (hnotbox hp hg)
    · rcases old2 hp with ⟨_, h3, h4⟩ | ⟨_, h3⟩
      · exact pv_lend (.inr (.inr ⟨g, len, cap, sz, h4, hle⟩)) (hnotrow h4 h3)
      · exact .inr (.inr ⟨_, len, cap, sz, h3, hle⟩)
  have hback : ∀ v a, Rep (enOf (lendC C G w gs os) G1 (b0.length + k) w') v a → Rep (enOf C G2 (b0.length + k + st.gen) w') v (back gs st.gen a) := by
    intro v a hr
    refine Rep.back (E := enOf (lendC C G w gs os) G1 (b0.length + k) w') (E2 := enOf C G2 (b0.length + k + st.gen) w') (fun b o u hu hn => ⟨hu, fun hp => hn (hpv2 hp)⟩) (fun g r hg hr' => ?_) (by simp [enOf]) (fun i g b hi hb1 => ?_) hr
    · have hr2 : own2 (g + st.gen) = some r := hr'
      rcases old2 hr2 with ⟨h3, _⟩ | ⟨_, h3⟩
      · omega
      · rw [Nat.add_sub_cancel] at h3
        exact h3
    · obtain ⟨c, h2, _⟩ := hget i g hi
      obtain ⟨b', _, _, h4, _⟩ := h.box _ c h2
      have h5 := hG1 hi h4
      have h6 : G1.box i = some b := hb1
      rw [h5] at h6
      simp only [Option.some.injEq] at h6
      subst h6
      have := (h.gbox g b' h4).1
      exact ⟨by simp only [enOf]; omega, h4⟩
  have hle : (enOf C G st.gen w).le (enOf C G2 (b0.length + k + st.gen) w') := by
    refine leOf h.fr hfr (fun b o u hu hn => ⟨?_, fun hp => ?_⟩) (fun _ _ h => h) (fun g r hg hr => ?_) (by omega)
    · by_cases hl : lentBox G gs b ∨ ∃ lim, lentRow G os b lim
      · rcases hl with ⟨g, _, hg⟩ | ⟨lim, hl⟩
        · exact absurd (.inr (.inl ⟨g, hg⟩)) hn
        · refine h1.fr.cells b o u ⟨lim, hl, ?_⟩ hu
          obtain ⟨g, _, len, cap, sz, hg, rfl⟩ := hl
          exact Nat.lt_of_not_le fun hle => hn (.inr (.inr ⟨g, len, cap, sz, hg, hle⟩))
      · rw [cellAt_same (hstay (cellAt_lt hu) hl)]
        exact hu
    · rcases hp with hp | ⟨g, hp⟩ | ⟨g, len, cap, sz, hp, hle⟩
      · exact hn (.inl hp)
      · exact hn (.inr (.inl ⟨g, hp⟩))
      · rcases old2 hp with ⟨_, _, h4⟩ | ⟨_, h3⟩
        · exact hn (.inr (.inr ⟨g, len, cap, sz, h4, hle⟩))
        · have hlt := cellAt_lt hu
          rcases (hnew h3).2 with h5 | ⟨lim, hl, hlim⟩
          · omega
          · obtain ⟨g0, _, len0, cap0, sz0, hg0, rfl⟩ := hl
            exact hn (.inr (.inr ⟨g0, len0, cap0, sz0, hg0, by omega⟩))
    · have hr2 : own2 g = some r := hr
      rcases old2 hr2 with ⟨_, _, h3⟩ | ⟨h3, _⟩
      · exact h3
      · omega
  refine ⟨G2, hback, { size := h.size, frame := h.frame_mono hle, inj := h.inj, xold := h.xold, kold := h.kold, lent := h.lent, fr := hfr, box := ?_, gbox := ?_, live := ?_, gown := ?_, row := ?_ }⟩
  · intro g cells hc
    by_cases hg : g ∈ gs
    · have hz : ∃ c, look' (zipB gs st.gen gs b1) g = some c := by
        clear hback hle hpv2
        have : ∀ (r : List Nat) (l : List (List A)), l.length = r.length → g ∈ r → ∃ c, look' (zipB gs st.gen r l) g = some c := by
          intro r
          induction r with
          | nil => intro l _ hm; cases hm
          | cons x r ih =>
            intro l hl hm
            cases l with
            | nil => simp at hl
            | cons c l =>
              simp only [zipB, look'_cons]
              by_cases e : x = g
              · rw [if_pos e]; exact ⟨_, rfl⟩
              · rw [if_neg e]
                exact ih l (by simpa using hl) ((List.mem_cons.1 hm).resolve_left (fun h => e h.symm))
        exact this gs b1 (by omega) hg
      obtain ⟨c, hz⟩ := hz
      have hcc : c = cells := by
        rcases look'_append hc with h2 | h2
        · rw [h2] at hz; exact (Option.some.inj hz).symm
        · have : look' (zipB gs st.gen gs b1 ++ st.bx) g = some c := by
            clear hc hback hle
            revert hz
            generalize zipB gs st.gen gs b1 = z
            intro hz
            induction z with
            | nil => simp [look'] at hz
            | cons x z ih =>
              obtain ⟨s, y⟩ := x
              rw [look'_cons] at hz
              rw [List.cons_append, look'_cons]
              split
              · rename_i e; rw [if_pos e] at hz; exact hz
              · rename_i e; rw [if_neg e] at hz; exact ih hz
          rw [this] at hc
          exact Option.some.inj hc
      subst hcc
      obtain ⟨i, c0, h2, h3, rfl⟩ := zipB_look hz
      obtain ⟨b, cs, T, h4, h5, h6, h7, h8⟩ := h1.box i c0 (by have := look_bxs b1 0 i c0 h3; simpa using this)
      obtain ⟨c2, h9, _⟩ := hget i g h2
      obtain ⟨b', _, _, h10, _⟩ := h.box g c2 h9
      have e : b' = b := by
        have := hG1 h2 h10
        rw [h4] at this
        exact (Option.some.inj this).symm
      subst e
      refine ⟨b', cs, T, h10, h5, by rw [backL_map, List.length_map]; exact h6, h7, fun j u a hu ha => ?_⟩
      rw [backL_map, List.getElem?_map, Option.map_eq_some_iff] at ha
      obtain ⟨y, hy, rfl⟩ := ha
      exact hback u y (h8 j u y hu hy)
    · have hc2 : look' st.bx g = some cells := by
        rcases look'_append hc with h2 | h2
        · obtain ⟨i, c0, h3, _⟩ := zipB_look h2
          exact absurd (List.mem_of_getElem? h3) hg
        · exact h2
      obtain ⟨b, cs, T, h4, h5, h6, h7, h8⟩ := h.box g cells hc2
      refine ⟨b, cs, T, h4, by rw [hstay (Array.getElem?_eq_some_iff.1 h5).1 (hnotbox h4 hg)]; exact h5, h6, h7, fun j u a hu ha => (h8 j u a hu ha).mono hle⟩
  · intro g b hgb
    obtain ⟨h2, h3, h4⟩ := h.gbox g b hgb
    exact ⟨by simp only; omega, Nat.lt_of_lt_of_le h3 h1.fr.size, h4⟩
  · intro g hg
    rcases List.mem_append.1 hg with hg | hg
    · obtain ⟨j, hj, rfl⟩ := List.mem_map.1 hg
      obtain ⟨r, hr⟩ := h1.live (b0.length + j) (List.mem_map.2 ⟨j, hj, rfl⟩)
      refine ⟨r, ?_⟩
      simp only [G2, own2]
      rw [if_neg (by omega), Nat.add_sub_cancel]
      exact hr
    · obtain ⟨h2, h3⟩ := List.mem_filter.1 hg
      obtain ⟨r, hr⟩ := h.live g h2
      refine ⟨r, ?_⟩
      simp only [G2, own2]
      rw [if_pos (h.gown g r hr), if_neg (by cases e : os.any (Nat.beq g) with | true => rw [e] at h3; cases h3 | false => simp)]
      exact hr
  · intro g r hr
    rcases old2 hr with ⟨h2, _⟩ | ⟨h2, h3⟩
    · simp only; omega
    · have := h1.gown _ r h3
      simp only at this ⊢
      omega
  · intro g b len cap sz hr
    rcases old2 hr with ⟨h2, h3, h4⟩ | ⟨h2, h3⟩
    · obtain ⟨h5, h6, h7, cur, T, h8, h9⟩ := h.row g b len cap sz h4
      refine ⟨h5, h6, fun g' len' cap' sz' hr' => ?_, cur, T, by rw [hstay (Array.getElem?_eq_some_iff.1 h8).1 (hnotrow h4 h3)]; exact h8, h9⟩
      rcases old2 hr' with ⟨_, _, h10⟩ | ⟨_, h10⟩
      · exact h7 g' len' cap' sz' h10
      · rcases (hnew h10).2 with h11 | ⟨lim, h11, _⟩
        · have := (Array.getElem?_eq_some_iff.1 h8).1
          omega
        · exact absurd (.inr ⟨lim, h11⟩) (hnotrow h4 h3)
    · obtain ⟨h5, h6, h7, h8⟩ := h1.row _ b len cap sz h3
      refine ⟨(hnew h3).1, fun g' hg' => ?_, fun g' len' cap' sz' hr' => ?_, h8⟩
      · rcases (hnew h3).2 with h11 | ⟨lim, h11, _⟩
        · have := (h.gbox g' b hg').2.1
          omega
        · exact (hLr h11).2.2 g' hg'
      · rcases old2 hr' with ⟨_, h10, h12⟩ | ⟨_, h10⟩
        · rcases (hnew h3).2 with h11 | ⟨lim, h11, _⟩
          · obtain ⟨_, _, _, cur, T, h13, _⟩ := h.row g' b len' cap' sz' h12
            have := (Array.getElem?_eq_some_iff.1 h13).1
            omega
          · exact absurd (.inr ⟨lim, h11⟩) (hnotrow h12 h10)
        · have := h7 _ len' cap' sz' h10
          omega

/-- A CALL THAT LENDS BOXES -/
theorem WO.callB (hg : o.guard = none) (hd : dstOK n o.dst = true) {x : Operand} {xs : Array Operand} {tys : Array TypeId} (ho : o.op = .call ⟨.value x, xs, tys⟩) {fid : FuncId} {caps as : List A} (hx : av st.f x = some (.clo fid caps))
    (hxs : avs st.f xs.toList = some as) (gs os : List Nat) (hgs : nodupB gs = true) (hos : nodupB os = true) (hov : (os.all fun g => st.lv.any fun h => Nat.beq h g) = true) {args : List A} {b0 b1 : List (List A)} {r : A} {m k : Nat}
    (hf : DoesB P fid args b0 m r b1 k) (harg : (as ++ caps).map (lendA st.bx gs os 5) = args) (hb : lendBx st.bx gs os gs = some b0) (hm : os.length = m)
    (h : WO P C n ops Q rest (St.put ⟨st.f, zipB gs st.gen gs b1 ++ st.bx, (List.range k).map (b0.length + · + st.gen) ++ st.lv.filter (fun g => !os.any (Nat.beq g)), b0.length + k + st.gen⟩ o.dst (back gs st.gen r))) : WO P C n ops Q (o :: rest) st := by
  subst hm
  subst harg
  refine WO.step hg fun tmps w ⟨G, hs⟩ => ?_
  obtain ⟨fn, hfn, hname, hbody⟩ := hf.ok
  have hr := hs.av hx
  generalize hv : Act.eval ⟨tmps, []⟩ x = v at hr
  cases hr with
  | clo _ vs _ hsz hcd =>
  obtain ⟨h1, h2⟩ := avs_rep hs xs.toList as hxs
  have hrun : (execOp (Act.eval ⟨tmps, []⟩) o).run P w = .ok (.enter fid (xs.map (Act.eval ⟨tmps, []⟩) ++ vs)) w := by
    unfold execOp
    rw [ho]
    show Sem.run P (do let d ← resolve (Act.eval ⟨tmps, []⟩) ⟨.value x, xs, tys⟩ o.type; invoke d.target d.args) w = _
    simp only [resolve, hv, Deferred.ofValue, Sem.run_bind, Sem.run_pure, Result.andThen_ok, invoke, callFunc, run_program, hfn, hname, hbody, Bool.false_eq_true, if_false, Array.empty_append]
  obtain ⟨hlen, hent⟩ := hs.lend (gs := gs) (os := os) (nodup_of hgs) (nodup_of hos) (fun g hg => by
    obtain ⟨y, hy, he⟩ := List.any_eq_true.1 (List.all_eq_true.1 hov g hg)
    exact Nat.eq_of_beq_eq_true he ▸ hy) hb
  have hbl := (lendBx_get hb).1
  unfold Gives
  have hrun' : (execOp (Act.eval { tmps := tmps, defers := [] }) o).run P w = .ok (.enter fid (xs.map (Act.eval ⟨tmps, []⟩) ++ vs)) w := hrun
  rw [hrun']
  refine (hf.calls (lendC C G w gs os) (lendG G gs os) _ w rfl hlen hent (by simp at h1; simp [hsz, h1]) (fun i u a hu ha => ?_)).mono fun e w' ⟨v, G', he, h3, h4⟩ => ?_
  · simp only [List.getElem?_map, Option.map_eq_some_iff] at ha
    obtain ⟨y, hy, rfl⟩ := ha
    refine Rep.lend hs gs os (by omega) 5 u y ?_
    simp only [Array.getElem?_append] at hu
    split at hu
    · rename_i hlt
      simp only [Array.size_map] at hlt
      have hlt' : i < as.length := by simp at h1; omega
      rw [List.getElem?_append_left hlt'] at hy
      obtain ⟨z, hz, hzr⟩ := h2 i y hy
      simp only [Array.getElem?_map, Option.map_eq_some_iff] at hu
      obtain ⟨z', hz', rfl⟩ := hu
      have : z = z' := by simp at hz; rw [hz'] at hz; exact (Option.some.inj hz).symm
      subst this
      exact hzr
    · rename_i hge
      simp only [Array.size_map] at hge hu
      have hge' : as.length ≤ i := by simp at h1; omega
      rw [List.getElem?_append_right hge'] at hy
      refine hcd (i - xs.size) u y hu ?_
      have : xs.size = as.length := by simpa using h1
      rw [this]
      exact hy
  · obtain ⟨G2, hbk, hs2⟩ := hs.unlend hb hf.len h3
    exact ⟨v, he, _, ⟨G2, hs2.put (dstOK_lt hd) (hbk v r h4)⟩, h⟩

end
end Go.Ab
/- Lent boxes in the form in which a walk meets them. -/
namespace Go.Ab
open Go.RowKit

section
variable {P : Program} {C : Ctx} {n : Nat} {ops : Array Oper} {Q : Exit → St → Prop} {rest : List Oper} {c : Code}
variable {f : List (Nat × A)} {bx : List (Nat × List A)} {lv : List Nat} {gen : Nat} {d : Nat} {op : Op} {ty : TypeId} {pos : String} {af : Array Edge} {a : A} {dst : Option Nat}

theorem SimG.reBox {st : St} {G : Gh} {tmps : Array Value} {w : World} (h : SimG C n st G tmps w) {g : Nat} {cells cells' : List A} (hb : look' st.bx g = some cells) (hl : cells'.length = cells.length)
    (hr : ∀ (i : Nat) (u : Value) (a a' : A), cells[i]? = some a → cells'[i]? = some a' → Rep (enOf C G st.gen w) u a → Rep (enOf C G st.gen w) u a') : SimG C n { st with bx := (g, cells') :: st.bx } G tmps w := by
  refine { h with box := fun g' c hc => ?_ }
  simp only [look'_cons] at hc
  split at hc
  · rename_i e
    subst e
    simp only [Option.some.injEq] at hc
    subst hc
    obtain ⟨b, cs, T, h1, h2, h3, h4, h5⟩ := h.box g cells hb
    refine ⟨b, cs, T, h1, h2, by omega, h4, fun i u a hu ha => ?_⟩
    have hlt : i < cells.length := by rw [← hl]; exact (List.getElem?_eq_some_iff.1 ha).1
    exact hr i u cells[i] a (by simp [hlt]) ha (h5 i u cells[i] hu (by simp [hlt]))
  · exact h.box g' c hc

def isNil : A → Bool
  | .d (.v (.slice none 0 0)) => true
  | _ => false

theorem isNil_eq {a : A} (h : isNil a = true) : a = .d (.v (.slice none 0 0)) := by
  unfold isNil at h
  split at h
  · rfl
  · cases h

theorem Sim.ownNilBox {st : St} {tmps : Array Value} {w : World} (h : Sim C n st tmps w) {g j : Nat} {cells : List A} (hb : look' st.bx g = some cells) (hj : cells[j]? = some (.d (.v (.slice none 0 0)))) :
    Sim C n ⟨st.f, (g, cells.set j (.own st.gen [])) :: st.bx, st.gen :: st.lv, st.gen + 1⟩ tmps w := by
  obtain ⟨G, h⟩ := h
  obtain ⟨⟨G', hs, hv⟩⟩ := h.nameNil st.lv (fun _ h => h)
  refine ⟨G', SimG.reBox (st := { st with lv := st.gen :: st.lv, gen := st.gen + 1 }) hs hb (by simp) (fun i u a a' ha ha' hr => ?_)⟩
  rw [List.getElem?_set] at ha'
  split at ha'
  · rename_i e
    subst e
    rw [hj] at ha
    simp only [Option.some.injEq] at ha
    subst ha
    split at ha'
    · simp only [Option.some.injEq] at ha'
      subst ha'
      cases hr with | d hr => cases hr; exact hv
    · cases ha'
  · rw [ha] at ha'
    simp only [Option.some.injEq] at ha'
    subst ha'
    exact hr

theorem ownNilBox (g j : Nat) {cells cells' : List A} (hb : look' bx g = some cells) (hj : cells[j]? = some (.d (.v (.slice none 0 0)))) (hc : cells.set j (.own gen []) = cells') (h : W P C n c Q ⟨f, (g, cells') :: bx, gen :: lv, gen + 1⟩) : W P C n c Q ⟨f, bx, lv, gen⟩ := by
  subst hc
  exact fun tmps w hs => h tmps w (hs.ownNilBox hb hj)

theorem ownNilBoxO (g j : Nat) {cells cells' : List A} (hb : look' bx g = some cells) (hj : cells[j]? = some (.d (.v (.slice none 0 0)))) (hc : cells.set j (.own gen []) = cells') (h : WO P C n ops Q rest ⟨f, (g, cells') :: bx, gen :: lv, gen + 1⟩) : WO P C n ops Q rest ⟨f, bx, lv, gen⟩ := by
  subst hc
  exact fun tmps w hs => h tmps w (hs.ownNilBox hb hj)

theorem callB {x : Operand} {xs : Array Operand} {tys : Array TypeId} {fid : FuncId} {caps as args : List A} {b0 b1 : List (List A)} {r : A} {m k : Nat} {r' : A} {bx' : List (Nat × List A)} {lv' : List Nat} {gen' : Nat} (gs os : List Nat) (hx : av f x = some (.clo fid caps)) (hxs : avs f xs.toList = some as)
    (harg : (as ++ caps).map (lendA bx gs os 5) = args) (hb : lendBx bx gs os gs = some b0) (hm : os.length = m) (hf : DoesB P fid args b0 m r b1 k)
    (hgs : nodupB gs = true) (hos : nodupB os = true) (hov : (os.all fun g => lv.any fun h => Nat.beq h g) = true) (hd : Nat.blt d n = true)
    (hr : back gs gen r = r') (hbx : zipB gs gen gs b1 ++ bx = bx') (hlv : (List.range k).map (b0.length + · + gen) ++ lv.filter (fun g => !os.any (Nat.beq g)) = lv') (hgen : b0.length + k + gen = gen')
    (h : WO P C n ops Q rest ⟨(d, r') :: f, bx', lv', gen'⟩) :
    WO P C n ops Q (⟨some d, .call ⟨.value x, xs, tys⟩, ty, pos, af, none⟩ :: rest) ⟨f, bx, lv, gen⟩ := by
  subst hr; subst hbx; subst hlv; subst hgen
  exact WO.callB (st := ⟨f, bx, lv, gen⟩) rfl hd rfl hx hxs gs os hgs hos hov hf harg hb hm h

theorem callB0 {x : Operand} {xs : Array Operand} {tys : Array TypeId} {fid : FuncId} {caps as args : List A} {b0 b1 : List (List A)} {r : A} {m k : Nat} {bx' : List (Nat × List A)} {lv' : List Nat} {gen' : Nat} (gs os : List Nat) (hx : av f x = some (.clo fid caps)) (hxs : avs f xs.toList = some as)
    (harg : (as ++ caps).map (lendA bx gs os 5) = args) (hb : lendBx bx gs os gs = some b0) (hm : os.length = m) (hf : DoesB P fid args b0 m r b1 k)
    (hgs : nodupB gs = true) (hos : nodupB os = true) (hov : (os.all fun g => lv.any fun h => Nat.beq h g) = true)
    (hbx : zipB gs gen gs b1 ++ bx = bx') (hlv : (List.range k).map (b0.length + · + gen) ++ lv.filter (fun g => !os.any (Nat.beq g)) = lv') (hgen : b0.length + k + gen = gen')
    (h : WO P C n ops Q rest ⟨f, bx', lv', gen'⟩) :
    WO P C n ops Q (⟨none, .call ⟨.value x, xs, tys⟩, ty, pos, af, none⟩ :: rest) ⟨f, bx, lv, gen⟩ := by
  subst hbx; subst hlv; subst hgen
  exact WO.callB (st := ⟨f, bx, lv, gen⟩) rfl rfl rfl hx hxs gs os hgs hos hov hf harg hb hm h

/-- the boxes at a lent function's end -/
def BoxR (order : List Nat) (bx : List (Nat × List A)) : Nat → List (List A) → Prop
  | _, [] => True
  | i, c :: r => (match look' bx i with | some c0 => some (renL order c0) | none => none) = some c ∧ BoxR order bx (i + 1) r

theorem BoxR.get {order : List Nat} {bx : List (Nat × List A)} : ∀ {l : List (List A)} {k : Nat}, BoxR order bx k l → ∀ (i : Nat) (c : List A), l[i]? = some c → ∃ c0, look' bx (k + i) = some c0 ∧ renL order c0 = c
  | [], _, _, i, c, h => by simp at h
  | b :: l, k, hh, i, c, h => by
    cases i with
    | zero =>
      simp at h
      subst h
      have := hh.1
      split at this
      · rename_i c0 hc0
        exact ⟨c0, hc0, Option.some.inj this⟩
      · cases this
    | succ i =>
      have := BoxR.get hh.2 i c (by simpa using h)
      rwa [Nat.add_assoc, Nat.add_comm 1 i] at this

theorem QB1.end (T : Tab P) {rs : List RV} {r : A} {b1 : List (List A)} {k : Nat} {e : Exit} {l : List A} (order : List Nat) (he : match e with | .normal => True | .ret => True | _ => False) (hl : resV T f bx rs = some l)
    (hk : order.length = k) (hnd : nodupB (ordB b1.length order) = true) (hov : (order.all fun g => lv.any fun h => Nat.beq h g) = true) (hb : BoxR (ordB b1.length order) bx 0 b1)
    (hr : ren (ordB b1.length order) (oneA l) = r) : QB1 T rs r b1 k e ⟨f, bx, lv, gen⟩ :=
  QB1.ret (st := ⟨f, bx, lv, gen⟩) T order he hl hk hnd hov (fun i c hc => by have := hb.get i c hc; simpa using this) hr
end
end Go.Ab
