import Derived.Laws.AppendOwn
import Derived.Orders
import Derived.Below
import Derived.MapKept
import Derived.Laws.StructEq
import Derived.IntWalk
import Derived.Great.BuildSlice
import Derived.WalkKit
import Derived.ProofKit
import Derived.OpenShut
import Derived.Carry
import Derived.ChangeOld
import Derived.ChangeSame
import Derived.ChangeArms
namespace Go.Ab
inductive D where
  | v (x : Value)
  | sl (es : List (List D))
inductive A where
  | d (x : D)
  | ag (l : List D)
  | own (g : Nat) (es : List (List D))
  | agg (l : List A)
  | tup (l : List A)
  | rowd (l : List D)
  | row (l : List A)
  | ptr (g off : Nat)
  | xs (g : Nat) (es : List (List D))
  | xp (g i off : Nat) (l : List D)
  | mp (g : Nat) (es : List (Value × List D))
  | mq (g : Nat) (es : List (Value × Option (List D)))
  | mo (g : Nat) (es : List (Value × List (List D))) (hole : Option Value) (ob : Option Nat)
  | clo (f : FuncId) (caps : List A)
  | bnd (f : FuncId) (first : List A)
  | fl (es : List (List D))
  | bf (g T : Nat) (s : ByteArray)
  | np (g T : Nat) (u : Bool)
  | sb (g n c : Nat)
  | lk (g n c : Nat) (v : Value)
  | fx (g : Nat) (es : List (List D)) (u : Option Value)
  | ol (g : Nat) (E : List (List D)) (h : Nat) (es : List (List D))
  | ow (g : Nat) (es : List (List D)) (v : Value)
  | ni
  | any
def cu (w w' : World) : Prop := ∀ (b : Nat) (cs : Array Value) (T : TypeId) (f : Nat × Nat), w.heap[b]? = some (Obj.cells cs T f) → ∃ cs' f', w'.heap[b]? = some (Obj.cells cs' T f')
theorem jn {w w' : World} (h : cu w w') {b : Nat} (hb : ∃ cs T f, w.heap[b]? = some (Obj.cells cs T f)) : ∃ cs T f, w'.heap[b]? = some (Obj.cells cs T f) := let ⟨cs, T, f, h1⟩ := hb; let ⟨cs', f', h2⟩ := h b cs T f h1; ⟨cs', T, f', h2⟩
theorem cu.refl (w : World) : cu w w := fun _ cs _ f h => ⟨cs, f, h⟩
theorem cu.trans {w w' w2 : World} (h : cu w w') (h2 : cu w' w2) : cu w w2 := fun b cs T f hb => let ⟨cs', f', h'⟩ := h b cs T f hb; h2 b cs' T f' h'
def bK : Value → Bool
  | .int k n => decide (k.min ≤ n) && decide (n ≤ k.max)
  | .string s => decide (s.size ≤ maxLen)
  | .agg _ => false
  | .tuple _ => false
  | _ => true
theorem jB {x : Value} (h : bK x = true) : x.oneCell' = true := by
  cases x <;> simp_all [bK, Value.oneCell']
abbrev cellAt (w : World) (b o : Nat) : Option Value := w.cell? ⟨b, o, none⟩
inductive aF (w : World) (pv : Nat → Nat → Prop) : Value → D → Prop
  | v (x : Value) (h : bK x = true) : aF w pv x (.v x)
  | nil : aF w pv (.slice none 0 0) (.sl [])
  | emp (a : Addr) (cap : Nat) (hm : cap ≤ maxLen) : aF w pv (.slice (some a) 0 cap) (.sl [])
  | sl (b off len cap sz : Nat) (es : List (List D)) (u : Nat → Nat → Value) (hl : es.length = len) (hc : len ≤ cap) (hm : cap ≤ maxLen)
      (hs : ∀ (i : Nat) (e : List D), es[i]? = some e → e.length = sz)
      (hu : ∀ i j, i < len → j < sz → cellAt w b (off + i * sz + j) = some (u i j) ∧ ¬ pv b (off + i * sz + j))
      (hr : ∀ (i j : Nat) (e : List D) (d : D), es[i]? = some e → e[j]? = some d → aF w pv (u i j) d) :
      aF w pv (.slice (some ⟨b, off, none⟩) len cap) (.sl es)
theorem aF.mono {w w' : World} {pv pv' : Nat → Nat → Prop} (h : ∀ b o u, cellAt w b o = some u → ¬ pv b o → cellAt w' b o = some u ∧ ¬ pv' b o)
    {v : Value} {d : D} (hd : aF w pv v d) : aF w' pv' v d := by
  induction hd with
  | v x hx => exact .v x hx
  | nil => exact .nil
  | emp a cap hm => exact .emp a cap hm
  | sl b off len cap sz es u hl hc hm hs hu _ ih =>
    exact .sl b off len cap sz es u hl hc hm hs (fun i j hi hj => h _ _ _ (hu i j hi hj).1 (hu i j hi hj).2) ih
theorem aF.one {w : World} {pv : Nat → Nat → Prop} {v : Value} {d : D} (h : aF w pv v d) : v.oneCell' = true := by
  cases h with
  | v _ hx => exact jB hx
  | nil => rfl
  | emp => rfl
  | sl => rfl
inductive Row where
  | nil
  | zero (b : Nat)
  | blk (b len cap sz pub : Nat)
  | mp (b : Nat) (bs : List (Nat × Nat))
def Row.jV : Row → Nat → Nat → Prop
  | .blk b _ _ _ pub, b', lim => b = b' ∧ lim = pub
  | .mp b bs, b', lim => (b = b' ∧ lim = 0) ∨ (b', lim) ∈ bs
  | _, _, _ => False
structure En where
  w : World
  pv : Nat → Nat → Prop
  old : Nat → Prop
  box : Nat → Option Nat
  own : Nat → Option Row
  gen : Nat
def mv : Row → Value → Nat → Nat → Prop
  | .nil, v, n, _ => v = .slice none 0 0 ∧ n = 0
  | .zero b, v, n, _ => ∃ off, v = .slice (some ⟨b, off, none⟩) n n
  | .blk b len cap sz pub, v, n, s => v = .slice (some ⟨b, 0, none⟩) len cap ∧ n = len ∧ s = sz ∧ pub = len * sz
  | .mp _ _, _, _, _ => False
def dI (w : World) (pv : Nat → Nat → Prop) : Row → Value → List (List D) → Prop
  | .nil, v, es => v = .slice none 0 0 ∧ es = []
  | .zero b, v, es => v = .slice (some ⟨b, 0, none⟩) 0 0 ∧ es = []
  | .blk b len cap sz pub, v, es => v = .slice (some ⟨b, 0, none⟩) len cap ∧ es.length = len ∧ pub = 0 ∧ (∀ (e : List D), e ∈ es → e.length = sz) ∧
      ∀ (i j : Nat) (e : List D) (d : D), es[i]? = some e → e[j]? = some d → ∃ u, cellAt w b (i * sz + j) = some u ∧ aF w pv u d
  | .mp _ _, _, _ => False
def lY (w : World) (pv : Nat → Nat → Prop) : Row → Value → Nat → Nat → List D → Prop
  | .blk b len _ sz _, v, i, off, l => v = .pointer (some ⟨b, i * sz + off, none⟩) ∧ i < len ∧ off + l.length = sz ∧
      ∀ (j : Nat) (d : D), l[j]? = some d → ∃ u, cellAt w b (i * sz + off + j) = some u ∧ aF w pv u d
  | _, _, _, _, _ => False
def pU (w : World) (pv : Nat → Nat → Prop) (v : Value) : List D → Prop
  | [d] => aF w pv v d
  | l => ∃ vs : Array Value, v = .agg vs ∧ vs.size = l.length ∧ ∀ (j : Nat) (u : Value) (d : D), vs[j]? = some u → l[j]? = some d → aF w pv u d
theorem pU.mono {w w' : World} {pv pv' : Nat → Nat → Prop} (h : ∀ b o u, cellAt w b o = some u → ¬ pv b o → cellAt w' b o = some u ∧ ¬ pv' b o) {v : Value} : ∀ {l : List D}, pU w pv v l → pU w' pv' v l
  | [], ⟨vs, h1, h2, h3⟩ => ⟨vs, h1, h2, fun j u d hu hd => (h3 j u d hu hd).mono h⟩
  | [_], hd => aF.mono h hd
  | _ :: _ :: _, ⟨vs, h1, h2, h3⟩ => ⟨vs, h1, h2, fun j u d hu hd => (h3 j u d hu hd).mono h⟩
def jf (w : World) (pv : Nat → Nat → Prop) : Row → Value → List (Value × List D) → Prop
  | .mp b _, v, es => v = .map (some b) ∧ ∃ me clock, w.heap[b]? = some (.map me clock) ∧ Go.MapKept.Stamped me clock ∧ me.size = es.length ∧
      ∀ (i : Nat) (m : MapEntry) (k : Value) (l : List D), me[i]? = some m → es[i]? = some (k, l) → m.key = k ∧ bK k = true ∧ pU w pv m.val l
  | _, _, _ => False
def dB (cur : Array Value) : Prop := ∀ (i : Nat) (u : Value), cur[i]? = some u → u.oneCell' = true
def kb (w : World) : Option Nat → List (Nat × Nat) → Value → List (List D) → Prop
  | none, _, v, l => (v = .slice none 0 0 ∧ l = []) ∨ ∃ c off, v = .slice (some ⟨c, off, none⟩) l.length l.length
  | some b, bs, v, l => ∃ cap sz cur T, v = .slice (some ⟨b, 0, none⟩) l.length cap ∧ (b, l.length * sz) ∈ bs ∧ (∀ (e : List D), e ∈ l → e.length = sz) ∧ 0 < sz ∧ 0 < l.length ∧ l.length ≤ cap ∧ cap ≤ maxLen ∧
    w.heap[b]? = some (.cells cur T (0, 0)) ∧ cur.size = cap * sz ∧ dB cur
def gZ (w : World) (pv : Nat → Nat → Prop) : Row → Value → List (Value × List (List D)) → Option Value → Prop
  | .mp b bs, v, es, hole => v = .map (some b) ∧ ∃ me clock, w.heap[b]? = some (.map me clock) ∧ Go.MapKept.Stamped me clock ∧ me.size = es.length ∧
      ∃ ps : Value → Option Nat, (∀ (k k' : Value) (l l' : List (List D)) (c : Nat), (k, l) ∈ es → (k', l') ∈ es → hole ≠ some k → hole ≠ some k' → ps k = some c → ps k' = some c → k = k') ∧
        ∀ (i : Nat) (m : MapEntry) (k : Value) (l : List (List D)), me[i]? = some m → es[i]? = some (k, l) → m.key = k ∧ bK k = true ∧ aF w pv m.val (.sl l) ∧ (hole ≠ some k → kb w (ps k) bs m.val l)
  | _, _, _, _ => False
def j6 (w : World) (pv : Nat → Nat → Prop) : Row → Value → List (Value × Option (List D)) → Prop
  | .mp b bs, v, es => v = .map (some b) ∧ ∃ me clock, w.heap[b]? = some (.map me clock) ∧ Go.MapKept.Stamped me clock ∧ me.size = es.length ∧
      ∃ ps : Value → Nat, (∀ (k k' : Value) (l l' : List D), (k, some l) ∈ es → (k', some l') ∈ es → ps k = ps k' → k = k') ∧
        ∀ (i : Nat) (m : MapEntry) (k : Value) (o : Option (List D)), me[i]? = some m → es[i]? = some (k, o) → m.key = k ∧ bK k = true ∧ bK m.val = true ∧ ∀ l, o = some l → m.val = .pointer (some ⟨ps k, 0, none⟩) ∧ (ps k, 0) ∈ bs ∧
          ∃ cur T, w.heap[ps k]? = some (.cells cur T (0, 0)) ∧ cur.size = l.length ∧ dB cur ∧ ∀ (j : Nat) (u : Value) (d : D), cur[j]? = some u → l[j]? = some d → aF w pv u d
  | _, _, _ => False
def r9 (w : World) : Row → Value → Nat → ByteArray → Prop
  | .nil, v, _, s => v = .slice none 0 0 ∧ s.size = 0
  | .blk b len cap sz pub, v, T, s => v = .slice (some ⟨b, 0, none⟩) len cap ∧ s.size = len ∧ sz = 1 ∧ pub = 0 ∧ (∃ cs f, w.heap[b]? = some (.cells cs T f)) ∧
      ∀ (i : Nat) (c : UInt8), s.data[i]? = some c → cellAt w b i = some (.int .u8 c.toNat)
  | _, _, _, _ => False
inductive aA (E : En) : Value → A → Prop
  | any (x : Value) : aA E x .any
  | ni (t : TypeId) (x : Value) : aA E (.iface t x) .ni
  | bf (x : Value) (g T : Nat) (s : ByteArray) (hg : g < E.gen) (h1 : x.oneCell' = true) (h : ∀ r, E.own g = some r → r9 E.w r x T s) : aA E x (.bf g T s)
  | np (x : Value) (g T b : Nat) (hg : g < E.gen) (hb : E.box g = some b) (hT : ∃ cs f, E.w.heap[b]? = some (.cells cs T f)) (u : Bool) (h : x = .pointer (if u then some ⟨b, 0, none⟩ else none)) : aA E x (.np g T u)
  | sb (x : Value) (g n c b : Nat) (hg : g < E.gen) (hb : E.box g = some b) (hn : n ≤ c ∧ c ≤ maxLen) (h : x = .slice (some ⟨b, 0, none⟩) n c) : aA E x (.sb g n c)
  | lk (x : Value) (g n c b : Nat) (v : Value) (hg : g < E.gen) (hb : E.box g = some b) (hn : n ≤ c ∧ c ≤ maxLen) (h : v = .slice (some ⟨b, 0, none⟩) n c) : aA E x (.lk g n c v)
  | fx (x u : Value) (g : Nat) (es : List (List D)) (ou : Option Value) (hx : aF E.w E.pv x (.sl [[.v u]])) (hg : g < E.gen) (h : ∀ r, E.own g = some r → dI E.w E.pv r u es) (ho : ∀ y, ou = some y → y = u) : aA E x (.fx g es ou)
  | ol (x u : Value) (g' : Nat) (E' : List (List D)) (g : Nat) (es : List (List D)) (hx : aF E.w E.pv x (.sl (E' ++ [[.v u]]))) (hg' : g' < E.gen)
      (hr : ∀ r, E.own g' = some r → ∃ s, (∀ (e : List D), e ∈ E' ++ [[D.v u]] → e.length = s) ∧ mv r x (E' ++ [[D.v u]]).length s) (hg : g < E.gen) (h : ∀ r, E.own g = some r → dI E.w E.pv r u es) : aA E x (.ol g' E' g es)
  | ow (x v : Value) (g : Nat) (es : List (List D)) (h : aF E.w E.pv v (.sl es)) (hg : g < E.gen)
      (hr : ∀ r, E.own g = some r → ∃ s, (∀ (e : List D), e ∈ es → e.length = s) ∧ mv r v es.length s) : aA E x (.ow g es v)
  | fl (x : Value) (es : List (List D)) (h : aF E.w E.pv x (.sl es)) (hc : ∃ a, x = .slice a es.length es.length) : aA E x (.fl es)
  | d {x : Value} {y : D} (h : aF E.w E.pv x y) : aA E x (.d y)
  | ag (vs : Array Value) (l : List D) (hs : vs.size = l.length) (h : ∀ (i : Nat) (u : Value) (x : D), vs[i]? = some u → l[i]? = some x → aF E.w E.pv u x) : aA E (.agg vs) (.ag l)
  | own (x : Value) (g : Nat) (es : List (List D)) (h : aF E.w E.pv x (.sl es)) (hg : g < E.gen)
      (hr : ∀ r, E.own g = some r → ∃ s, (∀ (e : List D), e ∈ es → e.length = s) ∧ mv r x es.length s) : aA E x (.own g es)
  | agg (vs : Array Value) (l : List A) (hs : vs.size = l.length) (ho : ∀ (i : Nat) (u : Value), vs[i]? = some u → u.oneCell' = true) (h : ∀ (i : Nat) (u : Value) (x : A), vs[i]? = some u → l[i]? = some x → aA E u x) : aA E (.agg vs) (.agg l)
  | tup (vs : Array Value) (l : List A) (hs : vs.size = l.length) (h : ∀ (i : Nat) (u : Value) (x : A), vs[i]? = some u → l[i]? = some x → aA E u x) : aA E (.tuple vs) (.tup l)
  | rowd (b off : Nat) (l : List D) (u : Nat → Value) (hc : ∀ j, j < l.length → cellAt E.w b (off + j) = some (u j) ∧ ¬ E.pv b (off + j))
      (h : ∀ (j : Nat) (x : D), l[j]? = some x → aF E.w E.pv (u j) x) : aA E (.pointer (some ⟨b, off, none⟩)) (.rowd l)
  | row (b off : Nat) (l : List A) (u : Nat → Value) (hc : ∀ j, j < l.length → cellAt E.w b (off + j) = some (u j) ∧ E.old b ∧ (u j).oneCell' = true)
      (h : ∀ (j : Nat) (x : A), l[j]? = some x → aA E (u j) x) : aA E (.pointer (some ⟨b, off, none⟩)) (.row l)
  | ptr (x : Value) (g off b : Nat) (hg : g < E.gen) (hb : E.box g = some b) (h : x = .pointer (some ⟨b, off, none⟩)) : aA E x (.ptr g off)
  | xs (x : Value) (g : Nat) (es : List (List D)) (hg : g < E.gen) (h1 : x.oneCell' = true) (h : ∀ r, E.own g = some r → dI E.w E.pv r x es) : aA E x (.xs g es)
  | xp (x : Value) (g i off : Nat) (l : List D) (hg : g < E.gen) (h1 : x.oneCell' = true) (h : ∀ r, E.own g = some r → lY E.w E.pv r x i off l) : aA E x (.xp g i off l)
  | mp (x : Value) (g : Nat) (es : List (Value × List D)) (hg : g < E.gen) (h1 : x.oneCell' = true) (h : ∀ r, E.own g = some r → jf E.w E.pv r x es) : aA E x (.mp g es)
  | mq (x : Value) (g : Nat) (es : List (Value × Option (List D))) (hg : g < E.gen) (h1 : x.oneCell' = true) (h : ∀ r, E.own g = some r → j6 E.w E.pv r x es) : aA E x (.mq g es)
  | mo (x : Value) (g : Nat) (es : List (Value × List (List D))) (hole : Option Value) (ob : Option Nat) (hg : g < E.gen) (h1 : x.oneCell' = true ∧ ∀ b, ob = some b → x = .map (some b)) (h : ∀ r, E.own g = some r → gZ E.w E.pv r x es hole) : aA E x (.mo g es hole ob)
  | clo (f : FuncId) (vs : Array Value) (l : List A) (hs : vs.size = l.length) (h : ∀ (i : Nat) (u : Value) (x : A), vs[i]? = some u → l[i]? = some x → aA E u x) :
      aA E (.func (.func f) #[] vs) (.clo f l)
  | bnd (f : FuncId) (vs : Array Value) (l : List A) (hs : vs.size = l.length) (h : ∀ (i : Nat) (u : Value) (x : A), vs[i]? = some u → l[i]? = some x → aA E u x) :
      aA E (.func (.func f) vs #[]) (.bnd f l)
structure En.le (E E' : En) : Prop where
  cell : ∀ b o u, cellAt E.w b o = some u → ¬ E.pv b o → cellAt E'.w b o = some u ∧ ¬ E'.pv b o
  old : ∀ b o u, cellAt E.w b o = some u → E.old b → cellAt E'.w b o = some u ∧ E'.old b
  box : ∀ g b, E.box g = some b → E'.box g = some b
  own : ∀ g r, g < E.gen → E'.own g = some r → E.own g = some r
  gen : E.gen ≤ E'.gen
  exb : ∀ g b len cap sz pub, g < E.gen → E'.own g = some (.blk b len cap sz pub) → E'.w.heap[b]? = E.w.heap[b]?
  mp : ∀ g b bs, g < E.gen → E'.own g = some (.mp b bs) → E'.w.heap[b]? = E.w.heap[b]? ∧ ∀ p ∈ bs, E'.w.heap[p.1]? = E.w.heap[p.1]?
  ty : cu E.w E'.w
theorem En.le.ex {E E' : En} (h : E.le E') (g b len cap sz pub o : Nat) (u : Value) (hg : g < E.gen) (hr : E'.own g = some (.blk b len cap sz pub)) (_ : o < len * sz) (hu : cellAt E.w b o = some u) : cellAt E'.w b o = some u := by
  have e := h.exb g b len cap sz pub hg hr
  simp only [cellAt, World.cell?, e] at hu ⊢
  exact hu
theorem mD {E : En} {g b0 off : Nat} {x : Value} (hb0 : E.box g = some b0) (hx : x = .pointer (some ⟨b0, off, none⟩)) : ∀ b, E.box g = some b → x = .pointer (some ⟨b, off, none⟩) := by
  intro b hb
  rw [hb0] at hb
  cases hb
  exact hx
theorem qi {i j len sz : Nat} (hi : i < len) (hj : j < sz) : i * sz + j < len * sz := by
  calc i * sz + j < i * sz + sz := by omega
    _ = (i + 1) * sz := by rw [Nat.succ_mul]
    _ ≤ len * sz := Nat.mul_le_mul_right _ hi
theorem dI.mono {E E' : En} (h : E.le E') {g : Nat} {r : Row} (hg : g < E.gen) (hr : E'.own g = some r) {v : Value} {es : List (List D)} (hx : dI E.w E.pv r v es) : dI E'.w E'.pv r v es := by
  cases r with
  | nil => exact hx
  | zero b => exact hx
  | mp b bs => exact hx
  | blk b len cap sz pub =>
    obtain ⟨h1, h2, h3, h4, h5⟩ := hx
    refine ⟨h1, h2, h3, h4, fun i j e d hi hj => ?_⟩
    obtain ⟨u, hu, hd⟩ := h5 i j e d hi hj
    have h6 : i < len := by rw [← h2]; exact (List.getElem?_eq_some_iff.1 hi).1
    have h7 : j < sz := by rw [← h4 e (List.mem_of_getElem? hi)]; exact (List.getElem?_eq_some_iff.1 hj).1
    exact ⟨u, h.ex g b len cap sz pub _ u hg hr (qi h6 h7) hu, hd.mono h.cell⟩
theorem dI.bZ {w : World} {pv pv' : Nat → Nat → Prop} (h : ∀ b o u, cellAt w b o = some u → ¬ pv b o → cellAt w b o = some u ∧ ¬ pv' b o) {r : Row} {v : Value} {es : List (List D)} (hx : dI w pv r v es) : dI w pv' r v es := by
  cases r with
  | nil => exact hx
  | zero b => exact hx
  | mp b bs => exact hx
  | blk b len cap sz pub =>
    obtain ⟨h1, h2, h3, h4, h5⟩ := hx
    refine ⟨h1, h2, h3, h4, fun i j e d hi hj => ?_⟩
    obtain ⟨u, hu, hd⟩ := h5 i j e d hi hj
    exact ⟨u, hu, hd.mono h⟩
theorem lY.bZ {w : World} {pv pv' : Nat → Nat → Prop} (h : ∀ b o u, cellAt w b o = some u → ¬ pv b o → cellAt w b o = some u ∧ ¬ pv' b o) {r : Row} {v : Value} {i off : Nat} {l : List D} (hx : lY w pv r v i off l) : lY w pv' r v i off l := by
  cases r with
  | nil => exact hx
  | zero b => exact hx
  | mp b bs => exact hx
  | blk b len cap sz pub =>
    obtain ⟨h1, h2, h3, h5⟩ := hx
    refine ⟨h1, h2, h3, fun j d hj => ?_⟩
    obtain ⟨u, hu, hd⟩ := h5 j d hj
    exact ⟨u, hu, hd.mono h⟩
theorem jf.bZ {w : World} {pv pv' : Nat → Nat → Prop} (h : ∀ b o u, cellAt w b o = some u → ¬ pv b o → cellAt w b o = some u ∧ ¬ pv' b o) {r : Row} {v : Value} {es : List (Value × List D)} (hx : jf w pv r v es) : jf w pv' r v es := by
  cases r with
  | nil => exact hx
  | zero b => exact hx
  | blk b len cap sz pub => exact hx
  | mp b bs =>
    obtain ⟨h1, me, clock, h2, hst, h3, h4⟩ := hx
    refine ⟨h1, me, clock, h2, hst, h3, fun i m k l hm hk => ?_⟩
    obtain ⟨h5, h6, h7⟩ := h4 i m k l hm hk
    exact ⟨h5, h6, h7.mono h⟩
theorem lY.mono {E E' : En} (h : E.le E') {g : Nat} {r : Row} (hg : g < E.gen) (hr : E'.own g = some r) {v : Value} {i off : Nat} {l : List D} (hx : lY E.w E.pv r v i off l) : lY E'.w E'.pv r v i off l := by
  cases r with
  | nil => exact hx
  | zero b => exact hx
  | mp b bs => exact hx
  | blk b len cap sz pub =>
    obtain ⟨h1, h2, h3, h5⟩ := hx
    refine ⟨h1, h2, h3, fun j d hj => ?_⟩
    obtain ⟨u, hu, hd⟩ := h5 j d hj
    have h7 : j < l.length := (List.getElem?_eq_some_iff.1 hj).1
    exact ⟨u, h.ex g b len cap sz pub _ u hg hr (by rw [Nat.add_assoc]; exact qi h2 (by omega)) hu, hd.mono h.cell⟩
theorem jf.mono {E E' : En} (h : E.le E') {g : Nat} {r : Row} (hg : g < E.gen) (hr : E'.own g = some r) {v : Value} {es : List (Value × List D)} (hx : jf E.w E.pv r v es) : jf E'.w E'.pv r v es := by
  cases r with
  | nil => exact hx
  | zero b => exact hx
  | blk b len cap sz pub => exact hx
  | mp b bs =>
    obtain ⟨h1, me, clock, h2, hst, h3, h4⟩ := hx
    refine ⟨h1, me, clock, by rw [(h.mp g b bs hg hr).1]; exact h2, hst, h3, fun i m k l hm hk => ?_⟩
    obtain ⟨h5, h6, h7⟩ := h4 i m k l hm hk
    exact ⟨h5, h6, h7.mono h.cell⟩
theorem gZ.bZ {w : World} {pv pv' : Nat → Nat → Prop} (h : ∀ b o u, cellAt w b o = some u → ¬ pv b o → cellAt w b o = some u ∧ ¬ pv' b o) {r : Row} {v : Value} {es : List (Value × List (List D))} {hole : Option Value} (hx : gZ w pv r v es hole) : gZ w pv' r v es hole := by
  cases r with
  | nil => exact hx
  | zero b => exact hx
  | blk b len cap sz pub => exact hx
  | mp b bs =>
    obtain ⟨h1, me, clock, h2, hst, h3, ps, hinj, h4⟩ := hx
    refine ⟨h1, me, clock, h2, hst, h3, ps, hinj, fun i m k l hm hk => ?_⟩
    obtain ⟨h5, h6, h7, h8⟩ := h4 i m k l hm hk
    exact ⟨h5, h6, h7.mono h, h8⟩
theorem gZ.mono {E E' : En} (h : E.le E') {g : Nat} {r : Row} (hg : g < E.gen) (hr : E'.own g = some r) {v : Value} {es : List (Value × List (List D))} {hole : Option Value} (hx : gZ E.w E.pv r v es hole) : gZ E'.w E'.pv r v es hole := by
  cases r with
  | nil => exact hx
  | zero b => exact hx
  | blk b len cap sz pub => exact hx
  | mp b bs =>
    obtain ⟨h1, me, clock, h2, hst, h3, ps, hinj, h4⟩ := hx
    obtain ⟨e1, e2⟩ := h.mp g b bs hg hr
    refine ⟨h1, me, clock, by rw [e1]; exact h2, hst, h3, ps, hinj, fun i m k l hm hk => ?_⟩
    obtain ⟨h5, h6, h7, h8⟩ := h4 i m k l hm hk
    refine ⟨h5, h6, h7.mono h.cell, fun hh => ?_⟩
    have h9 := h8 hh
    generalize ps k = q at h9
    cases q with
    | none => exact h9
    | some c =>
      obtain ⟨cap, sz, cur, T, a1, a2, a3, a4, a5, a6, a7, a8, a9⟩ := h9
      exact ⟨cap, sz, cur, T, a1, a2, a3, a4, a5, a6, a7, by rw [e2 _ a2]; exact a8, a9⟩
theorem j6.bZ {w : World} {pv pv' : Nat → Nat → Prop} (h : ∀ b o u, cellAt w b o = some u → ¬ pv b o → cellAt w b o = some u ∧ ¬ pv' b o) {r : Row} {v : Value} {es : List (Value × Option (List D))} (hx : j6 w pv r v es) : j6 w pv' r v es := by
  cases r with
  | nil => exact hx
  | zero b => exact hx
  | blk b len cap sz pub => exact hx
  | mp b bs =>
    obtain ⟨h1, me, clock, h2, hst, h3, ps, hinj, h4⟩ := hx
    refine ⟨h1, me, clock, h2, hst, h3, ps, hinj, fun i m k o hm hk => ?_⟩
    obtain ⟨h5, h6, h7, h8⟩ := h4 i m k o hm hk
    refine ⟨h5, h6, h7, fun l hl => ?_⟩
    obtain ⟨a1, a2, cur, T, a3, a4, a5, a6⟩ := h8 l hl
    exact ⟨a1, a2, cur, T, a3, a4, a5, fun j u d hu hd => (a6 j u d hu hd).mono h⟩
theorem j6.mono {E E' : En} (h : E.le E') {g : Nat} {r : Row} (hg : g < E.gen) (hr : E'.own g = some r) {v : Value} {es : List (Value × Option (List D))} (hx : j6 E.w E.pv r v es) : j6 E'.w E'.pv r v es := by
  cases r with
  | nil => exact hx
  | zero b => exact hx
  | blk b len cap sz pub => exact hx
  | mp b bs =>
    obtain ⟨h1, me, clock, h2, hst, h3, ps, hinj, h4⟩ := hx
    obtain ⟨e1, e2⟩ := h.mp g b bs hg hr
    refine ⟨h1, me, clock, by rw [e1]; exact h2, hst, h3, ps, hinj, fun i m k o hm hk => ?_⟩
    obtain ⟨h5, h6, h7, h8⟩ := h4 i m k o hm hk
    refine ⟨h5, h6, h7, fun l hl => ?_⟩
    obtain ⟨a1, a2, cur, T, a3, a4, a5, a6⟩ := h8 l hl
    exact ⟨a1, a2, cur, T, by rw [e2 _ a2]; exact a3, a4, a5, fun j u d hu hd => (a6 j u d hu hd).mono h.cell⟩
theorem r9.mono {E E' : En} (h : E.le E') {g : Nat} {r : Row} (hg : g < E.gen) (hr : E'.own g = some r) {v : Value} {T : Nat} {s : ByteArray} (hx : r9 E.w r v T s) : r9 E'.w r v T s := by
  cases r with
  | nil => exact hx
  | zero b => exact hx
  | mp b bs => exact hx
  | blk b len cap sz pub =>
    obtain ⟨h1, h2, h3, h4, ⟨cs, f, h5⟩, h6⟩ := hx
    have e := h.exb g b len cap sz pub hg hr
    refine ⟨h1, h2, h3, h4, ⟨cs, f, by rw [e]; exact h5⟩, fun i c hc => ?_⟩
    have := h6 i c hc
    simp only [cellAt, World.cell?, e] at this ⊢
    exact this
theorem aA.mono {E E' : En} (h : E.le E') {v : Value} {a : A} (hr : aA E v a) : aA E' v a := by
  induction hr with
  | any x => exact .any x
  | d hd => exact .d (hd.mono h.cell)
  | ag vs l hs hd => exact .ag vs l hs (fun i u x h1 h2 => (hd i u x h1 h2).mono h.cell)
  | own x g es hd hg hr => exact .own x g es (hd.mono h.cell) (Nat.lt_of_lt_of_le hg h.gen) (fun r hr' => hr r (h.own g r hg hr'))
  | ow x v g es hd hg hr => exact .ow x v g es (hd.mono h.cell) (Nat.lt_of_lt_of_le hg h.gen) (fun r hr' => hr r (h.own g r hg hr'))
  | agg vs l hs ho _ ih => exact .agg vs l hs ho ih
  | tup vs l hs _ ih => exact .tup vs l hs ih
  | rowd b off l u hc hd => exact .rowd b off l u (fun j hj => h.cell _ _ _ (hc j hj).1 (hc j hj).2) (fun j x hx => (hd j x hx).mono h.cell)
  | row b off l u hc _ ih => exact .row b off l u (fun j hj => ⟨(h.old _ _ _ (hc j hj).1 (hc j hj).2.1).1, (h.old _ _ _ (hc j hj).1 (hc j hj).2.1).2, (hc j hj).2.2⟩) ih
  | ptr x g off b hg hb hp => exact .ptr x g off b (Nat.lt_of_lt_of_le hg h.gen) (h.box g b hb) hp
  | xs x g es hg h1 hx => exact .xs x g es (Nat.lt_of_lt_of_le hg h.gen) h1 (fun r hr => (hx r (h.own g r hg hr)).mono h hg hr)
  | xp x g i off l hg h1 hx => exact .xp x g i off l (Nat.lt_of_lt_of_le hg h.gen) h1 (fun r hr => (hx r (h.own g r hg hr)).mono h hg hr)
  | ni t x => exact .ni t x
  | fl x es hd hc => exact .fl x es (hd.mono h.cell) hc
  | np x g T b hg hb hT u hx => obtain ⟨cs, f, hT⟩ := hT; exact .np x g T b (Nat.lt_of_lt_of_le hg h.gen) (h.box g b hb) (h.ty b cs T f hT) u hx
  | sb x g n c b hg hb hn hx => exact .sb x g n c b (Nat.lt_of_lt_of_le hg h.gen) (h.box g b hb) hn hx
  | fx x u g es ou hx hg hu ho => exact .fx x u g es ou (hx.mono h.cell) (Nat.lt_of_lt_of_le hg h.gen) (fun r hr => (hu r (h.own g r hg hr)).mono h hg hr) ho
  | ol x u g' E' g es hx hg' hr' hg hu => exact .ol x u g' E' g es (hx.mono h.cell) (Nat.lt_of_lt_of_le hg' h.gen) (fun r hr => hr' r (h.own g' r hg' hr)) (Nat.lt_of_lt_of_le hg h.gen) (fun r hr => (hu r (h.own g r hg hr)).mono h hg hr)
  | lk x g n c b v hg hb hn hx => exact .lk x g n c b v (Nat.lt_of_lt_of_le hg h.gen) (h.box g b hb) hn hx
  | bf x g T s hg h1 hx => exact .bf x g T s (Nat.lt_of_lt_of_le hg h.gen) h1 (fun r hr => (hx r (h.own g r hg hr)).mono h hg hr)
  | mp x g es hg h1 hx => exact .mp x g es (Nat.lt_of_lt_of_le hg h.gen) h1 (fun r hr => (hx r (h.own g r hg hr)).mono h hg hr)
  | mq x g es hg h1 hx => exact .mq x g es (Nat.lt_of_lt_of_le hg h.gen) h1 (fun r hr => (hx r (h.own g r hg hr)).mono h hg hr)
  | mo x g es hole ob hg h1 hx => exact .mo x g es hole ob (Nat.lt_of_lt_of_le hg h.gen) h1 (fun r hr => (hx r (h.own g r hg hr)).mono h hg hr)
  | clo f vs l hs _ ih => exact .clo f vs l hs ih
  | bnd f vs l hs _ ih => exact .bnd f vs l hs ih
def look (f : List (Nat × A)) (t : Nat) : Option A :=
  match f with
  | [] => none
  | (s, a) :: r => bif Nat.beq s t then some a else look r t
def ak {α : Type} (f : List (Nat × α)) (t : Nat) : Option α :=
  match f with
  | [] => none
  | (s, a) :: r => bif Nat.beq s t then some a else ak r t
structure St where
  f : List (Nat × A)
  bx : List (Nat × List A)
  lv : List Nat
  gen : Nat
structure Ctx where
  w0 : World
  fp : Nat → Prop
  x : Nat → Nat → Prop
  keep : Nat → Nat → Prop := fun _ _ => False
  bx : List Nat := []
  ds : List Deferred := []
structure Gh where
  box : Nat → Option Nat
  own : Nat → Option Row
def aN (C : Ctx) (G : Gh) (b o : Nat) : Prop :=
  C.x b o ∨ (∃ g, G.box g = some b) ∨ (∃ g len cap sz pub, G.own g = some (.blk b len cap sz pub) ∧ pub ≤ o) ∨ ∃ g b' bs lim, G.own g = some (.mp b' bs) ∧ (b, lim) ∈ bs ∧ lim ≤ o
def Ctx.iD (C : Ctx) (b lim : Nat) : Prop := (C.w0.heap.size ≤ b ∨ C.fp b) ∧ ∀ o, C.keep b o → o < lim
def ao (C : Ctx) (G : Gh) (gen : Nat) (w : World) : En :=
  { w := w, pv := aN C G, old := fun b => b < C.w0.heap.size ∧ ¬ C.fp b, box := G.box, own := G.own, gen := gen }
structure Fr (C : Ctx) (w : World) : Prop where
  os : w.os = C.w0.os
  tape : w.tape = C.w0.tape
  output : w.output = C.w0.output
  size : C.w0.heap.size ≤ w.heap.size
  block : ∀ b, b < C.w0.heap.size → ¬ C.fp b → w.heap[b]? = C.w0.heap[b]?
  cells : ∀ b o u, C.keep b o → cellAt C.w0 b o = some u → cellAt w b o = some u
  ty : cu C.w0 w
theorem dB.mem {cur : Array Value} (h : ∀ u ∈ cur.toList, u.oneCell' = true) : dB cur := fun i u hu => h u (List.mem_iff_getElem?.2 ⟨i, by simpa using hu⟩)
theorem dB.of {cur : Array Value} (h : dB cur) : ∀ u ∈ cur.toList, u.oneCell' = true := fun u hu => let ⟨i, hi⟩ := List.mem_iff_getElem?.1 hu; h i u (by simpa using hi)
structure ar (C : Ctx) (n : Nat) (st : St) (G : Gh) (tmps : Array Value) (w : World) : Prop where
  size : tmps.size = n
  frame : ∀ t a, look st.f t = some a → ∃ v, tmps[t]? = some v ∧ aA (ao C G st.gen w) v a
  box : ∀ g cells, ak st.bx g = some cells → ∃ b cs T, G.box g = some b ∧ w.heap[b]? = some (.cells cs T (0, 0)) ∧ cs.size = cells.length ∧
    (∀ (i : Nat) (u : Value), cs[i]? = some u → u.oneCell' = true) ∧ ∀ (i : Nat) (u : Value) (a : A), cs[i]? = some u → cells[i]? = some a → aA (ao C G st.gen w) u a
  gbox : ∀ g b, G.box g = some b → g < st.gen ∧ b < w.heap.size ∧ C.iD b 0
  gcell : ∀ g b, G.box g = some b → ∃ cs T f, w.heap[b]? = some (Obj.cells cs T f)
  inj : ∀ g g' b, G.box g = some b → G.box g' = some b → g = g'
  live : ∀ g ∈ st.lv, ∃ r, G.own g = some r
  gown : ∀ g r, G.own g = some r → g < st.gen
  row : ∀ g b len cap sz pub, G.own g = some (.blk b len cap sz pub) → C.iD b pub ∧ (∀ g', G.box g' ≠ some b) ∧ (∀ g' len' cap' sz' pub', G.own g' = some (.blk b len' cap' sz' pub') → g' = g) ∧
    ∃ cur T, w.heap[b]? = some (.cells cur T (0, 0)) ∧ cur.size = cap * sz ∧ len ≤ cap ∧ cap ≤ maxLen ∧ 0 < sz ∧ 0 < len ∧ pub ≤ len * sz ∧ dB cur
  mrow : ∀ g b bs, G.own g = some (.mp b bs) → C.iD b 0 ∧ (∀ g', G.box g' ≠ some b) ∧ (∀ g' bs', G.own g' = some (.mp b bs') → g' = g) ∧ ∃ me clock, w.heap[b]? = some (.map me clock)
  sub : ∀ g b bs c lim, G.own g = some (.mp b bs) → (c, lim) ∈ bs → C.iD c lim ∧ (∀ g', G.box g' ≠ some c) ∧ (∀ g' len cap sz pub, G.own g' ≠ some (.blk c len cap sz pub)) ∧
    (∀ g' b' bs' lim', G.own g' = some (.mp b' bs') → (c, lim') ∈ bs' → g' = g ∧ lim' = lim) ∧ ∃ cur T, w.heap[c]? = some (.cells cur T (0, 0)) ∧ lim ≤ cur.size ∧ dB cur
  xold : ∀ b o, C.x b o → b < C.w0.heap.size ∧ ¬ C.fp b
  kold : ∀ b o, C.keep b o → b < C.w0.heap.size
  lent : ∀ (i b : Nat), C.bx[i]? = some b → G.box i = some b
  fr : Fr C w
def dE (C : Ctx) (n : Nat) (st : St) (tmps : Array Value) (w : World) : Prop := ∃ G, ar C n st G tmps w
end Go.Ab
namespace Go.Ab
open Go.RowKit
theorem cv {w : World} {b o : Nat} {u : Value} (h : cellAt w b o = some u) : b < w.heap.size := block_lt_of_cell (a := ⟨b, o, none⟩) h
theorem bp {w w' : World} {b : Nat} (h : w'.heap[b]? = w.heap[b]?) (o : Nat) : cellAt w' b o = cellAt w b o := by
  simp [cellAt, World.cell?, h]
theorem bj {w : World} {b : Nat} {cs : Array Value} {T : TypeId} {fr : Nat × Nat} (h : w.heap[b]? = some (.cells cs T fr)) (o : Nat) : cellAt w b o = cs[o]? :=
  cell_of_row w b o cs T fr h
def St.set (st : St) (d : Nat) (a : A) : St := { st with f := (d, a) :: st.f }
def St.put (st : St) : Option Nat → A → St
  | some d, a => st.set d a
  | none, _ => st
theorem aR {d t : Nat} {a : A} {f : List (Nat × A)} : look ((d, a) :: f) t = if d = t then some a else look f t := by
  simp only [look]
  by_cases h : d = t
  · subst h; simp
  · have : Nat.beq d t = false := by cases hb : Nat.beq d t; rfl; exact absurd (Nat.eq_of_beq_eq_true hb) h
    simp [h, this]
theorem bt {α : Type} {d t : Nat} {a : α} {f : List (Nat × α)} : ak ((d, a) :: f) t = if d = t then some a else ak f t := by
  simp only [ak]
  by_cases h : d = t
  · subst h; simp
  · have : Nat.beq d t = false := by cases hb : Nat.beq d t; rfl; exact absurd (Nat.eq_of_beq_eq_true hb) h
    simp [h, this]
section
variable {C : Ctx} {n : Nat} {st : St} {G : Gh} {tmps : Array Value} {w : World}
theorem ar.set (h : ar C n st G tmps w) {d : Nat} (hd : d < n) {v : Value} {a : A} (hr : aA (ao C G st.gen w) v a) :
    ar C n (st.set d a) G (tmps.setIfInBounds d v) w := by
  refine { h with size := by simp [h.size], frame := fun t b hb => ?_ }
  simp only [St.set, aR] at hb
  by_cases e : d = t
  · subst e
    simp only [if_true, Option.some.injEq] at hb
    subst hb
    exact ⟨v, by simp [Array.getElem?_setIfInBounds, h.size, hd], hr⟩
  · rw [if_neg e] at hb
    obtain ⟨u, hu, hu'⟩ := h.frame t b hb
    exact ⟨u, by rw [Array.getElem?_setIfInBounds_ne e]; exact hu, hu'⟩
theorem ar.put (h : ar C n st G tmps w) {dst : Option Nat} (hd : ∀ d, dst = some d → d < n) {v : Value} {a : A} (hr : aA (ao C G st.gen w) v a) :
    ar C n (st.put dst a) G ((Act.put ⟨tmps, []⟩ dst v).tmps) w := by
  cases dst with
  | none => exact h
  | some d => exact h.set (hd d rfl) hr
theorem cu.below {w w' : World} (hb : Below w.heap.size w w') : cu w w' := fun b cs T f h => ⟨cs, f, by rw [hb.block b (Array.getElem?_eq_some_iff.1 h).1]; exact h⟩
theorem cu.setRow (w : World) (b : Nat) (cs : Array Value) : cu w (w.setRow b cs) := fun b' cs' T f h => by
  by_cases e : b' = b
  · subst e; exact ⟨cs, f, setRow_heap w b' cs' cs T f h⟩
  · exact ⟨cs', f, by rw [setRow_other w b b' cs e]; exact h⟩
theorem gf {G' : Gh} {gen' : Nat} {w' : World} (hf : Fr C w) (hf' : Fr C w') (hc : ∀ b o u, cellAt w b o = some u → ¬ aN C G b o → cellAt w' b o = some u ∧ ¬ aN C G' b o)
    (hb : ∀ g b, G.box g = some b → G'.box g = some b) (ho : ∀ g r, g < st.gen → G'.own g = some r → G.own g = some r) (hg : st.gen ≤ gen')
    (hx : ∀ g b len cap sz pub, g < st.gen → G'.own g = some (.blk b len cap sz pub) → w'.heap[b]? = w.heap[b]?)
    (hm : ∀ g b bs, g < st.gen → G'.own g = some (.mp b bs) → w'.heap[b]? = w.heap[b]? ∧ ∀ p ∈ bs, w'.heap[p.1]? = w.heap[p.1]?) (hty : cu w w') :
    (ao C G st.gen w).le (ao C G' gen' w') :=
  ⟨hc, fun b o u h ⟨h1, h2⟩ => ⟨by rw [← h]; exact bp ((hf'.block b h1 h2).trans (hf.block b h1 h2).symm) o, h1, h2⟩, hb, ho, hg, hx, hm, hty⟩
theorem ar.ck (h : ar C n st G tmps w) {G' : Gh} {gen' : Nat} {w' : World} (hle : (ao C G st.gen w).le (ao C G' gen' w')) (t : Nat) (a : A) (ha : look st.f t = some a) :
    ∃ v, tmps[t]? = some v ∧ aA (ao C G' gen' w') v a :=
  let ⟨v, h1, h2⟩ := h.frame t a ha
  ⟨v, h1, h2.mono hle⟩
theorem Fr.below (hf : Fr C w) {w' : World} (hb : Below w.heap.size w w') : Fr C w' :=
  ⟨hb.os.trans hf.os, hb.tape.trans hf.tape, hb.output.trans hf.output, Nat.le_trans hf.size hb.size, fun b h1 h2 => (hb.block b (Nat.lt_of_lt_of_le h1 hf.size)).trans (hf.block b h1 h2), fun b o u h1 h2 => by rw [bp (hb.block b (Nat.lt_of_lt_of_le (cv h2) hf.size))]; exact hf.cells b o u h1 h2, hf.ty.trans (.below hb)⟩
theorem pW (h : ar C n st G tmps w) {b o : Nat} (hp : aN C G b o) : b < w.heap.size := by
  rcases hp with hp | ⟨g, hp⟩ | ⟨g, len, cap, sz, pub, hp, _⟩ | ⟨g, b', bs, lim, hp, hm, _⟩
  · exact Nat.lt_of_lt_of_le (h.xold b o hp).1 h.fr.size
  · exact (h.gbox g b hp).2.1
  · obtain ⟨_, _, _, cur, T, hc, _⟩ := h.row g b len cap sz pub hp
    exact (Array.getElem?_eq_some_iff.1 hc).1
  · obtain ⟨_, _, _, _, cur, T, hc, _⟩ := h.sub g b' bs b lim hp hm
    exact (Array.getElem?_eq_some_iff.1 hc).1
theorem ar.tO (h : ar C n st G tmps w) {g b : Nat} {bs : List (Nat × Nat)} (hr : G.own g = some (.mp b bs)) : b < w.heap.size ∧ ∀ p ∈ bs, p.1 < w.heap.size := by
  obtain ⟨_, _, _, me, clock, h3⟩ := h.mrow g b bs hr
  refine ⟨(Array.getElem?_eq_some_iff.1 h3).1, fun p hp => ?_⟩
  obtain ⟨_, _, _, _, cur, T, hc, _⟩ := h.sub g b bs p.1 p.2 hr hp
  exact (Array.getElem?_eq_some_iff.1 hc).1
theorem ar.grow (h : ar C n st G tmps w) {w' : World} (hb : Below w.heap.size w w') (own' : Nat → Option Row) (gen' : Nat) (lv' : List Nat) (hg : st.gen ≤ gen')
    (ho : ∀ g r, g < st.gen → own' g = some r → G.own g = some r) (hlt : ∀ g r, own' g = some r → g < gen') (hlv : ∀ g ∈ lv', ∃ r, own' g = some r)
    (hrow : ∀ g b len cap sz pub, st.gen ≤ g → own' g = some (.blk b len cap sz pub) → w.heap.size ≤ b ∧ (∀ g' len' cap' sz' pub', own' g' = some (.blk b len' cap' sz' pub') → g' = g) ∧
      ∃ cur T, w'.heap[b]? = some (.cells cur T (0, 0)) ∧ cur.size = cap * sz ∧ len ≤ cap ∧ cap ≤ maxLen ∧ 0 < sz ∧ 0 < len ∧ pub ≤ len * sz ∧ dB cur)
    (hmrow : ∀ g b bs, st.gen ≤ g → own' g = some (.mp b bs) → w.heap.size ≤ b ∧ (∀ g' bs', own' g' = some (.mp b bs') → g' = g) ∧ ∃ me clock, w'.heap[b]? = some (.map me clock))
    (hsub : ∀ g b bs c lim, st.gen ≤ g → own' g = some (.mp b bs) → (c, lim) ∈ bs → w.heap.size ≤ c ∧ (∀ g' len cap sz pub, own' g' ≠ some (.blk c len cap sz pub)) ∧ (∀ g' b' bs' lim', own' g' = some (.mp b' bs') → (c, lim') ∈ bs' → g' = g ∧ lim' = lim) ∧
      ∃ cur T, w'.heap[c]? = some (.cells cur T (0, 0)) ∧ lim ≤ cur.size ∧ dB cur) :
    (ao C G st.gen w).le (ao C ⟨G.box, own'⟩ gen' w') ∧ ar C n { st with lv := lv', gen := gen' } ⟨G.box, own'⟩ tmps w' := by
  have hle : (ao C G st.gen w).le (ao C ⟨G.box, own'⟩ gen' w') := by
    refine gf h.fr (h.fr.below hb) (fun b o u hu hn => ?_) (fun _ _ h => h) (fun g r hg h => ho g r hg h) hg (fun g b len cap sz pub hgg hr => hb.block b ?_) (fun g b bs hgg hr => have hl := h.tO (ho g _ hgg hr); ⟨hb.block b hl.1, fun p hp => hb.block p.1 (hl.2 p hp)⟩) (.below hb)
    · have hlt := cv hu
      refine ⟨by rw [bp (hb.block b hlt)]; exact hu, fun hp => hn ?_⟩
      rcases hp with hp | hp | ⟨g, len, cap, sz, pub, hp, h2⟩ | ⟨g, b', bs, lim, hp, h2, h3⟩
      · exact .inl hp
      · exact .inr (.inl hp)
      · by_cases hgg : g < st.gen
        · exact .inr (.inr (.inl ⟨g, len, cap, sz, pub, ho g _ hgg hp, h2⟩))
        · have := (hrow g b len cap sz pub (by omega) hp).1
          omega
      · by_cases hgg : g < st.gen
        · exact .inr (.inr (.inr ⟨g, b', bs, lim, ho g _ hgg hp, h2, h3⟩))
        · have := (hsub g b' bs b lim (by omega) hp h2).1
          omega
    · obtain ⟨_, _, _, cur, T, h3, _⟩ := h.row g b _ _ _ _ (ho g _ hgg hr)
      exact (Array.getElem?_eq_some_iff.1 h3).1
  refine ⟨hle, { size := h.size, frame := h.ck hle, inj := h.inj, xold := h.xold, kold := h.kold, lent := h.lent, fr := h.fr.below hb, gcell := fun g b hgb => jn (.below hb) (h.gcell g b hgb), live := hlv, gown := hlt, box := ?_, gbox := ?_, row := ?_, mrow := ?_, sub := ?_ }⟩
  · intro g cells hgc
    obtain ⟨b, cs, T, h1, h2, h3, h4, h5⟩ := h.box g cells hgc
    exact ⟨b, cs, T, h1, by rw [hb.block b (h.gbox g b h1).2.1]; exact h2, h3, h4, fun i u a hu ha => (h5 i u a hu ha).mono hle⟩
  · intro g b hgb
    obtain ⟨h1, h2, h3⟩ := h.gbox g b hgb
    exact ⟨Nat.lt_of_lt_of_le h1 hg, Nat.lt_of_lt_of_le h2 hb.size, h3⟩
  · intro g b len cap sz pub hgb
    have hgb' : own' g = some (.blk b len cap sz pub) := hgb
    by_cases hgg : g < st.gen
    · have hold : G.own g = some (.blk b len cap sz pub) := ho g _ hgg hgb'
      obtain ⟨h1, h2, h3, cur, T, h4, h5⟩ := h.row g b len cap sz pub hold
      refine ⟨h1, h2, fun g' len' cap' sz' pub' hg' => ?_, cur, T, by rw [hb.block b (Array.getElem?_eq_some_iff.1 h4).1]; exact h4, h5⟩
      by_cases hgg' : g' < st.gen
      · exact h3 g' len' cap' sz' pub' (ho g' _ hgg' hg')
      · have := (hrow g' b len' cap' sz' pub' (by omega) hg').1
        have := (Array.getElem?_eq_some_iff.1 h4).1
        omega
    · obtain ⟨h1, h2, h3⟩ := hrow g b len cap sz pub (by omega) hgb'
      refine ⟨⟨.inl (Nat.le_trans h.fr.size h1), fun o ho => absurd (h.kold b o ho) (by have := h.fr.size; omega)⟩, fun g' hg' => ?_, h2, h3⟩
      have := (h.gbox g' b hg').2.1
      omega
  · intro g b bs hgb
    have hgb' : own' g = some (.mp b bs) := hgb
    by_cases hgg : g < st.gen
    · obtain ⟨h1, h1b, h2, me, clock, h3⟩ := h.mrow g b bs (ho g _ hgg hgb')
      have hlt := (Array.getElem?_eq_some_iff.1 h3).1
      refine ⟨h1, h1b, fun g' bs' hg' => ?_, me, clock, by rw [hb.block b hlt]; exact h3⟩
      by_cases hgg' : g' < st.gen
      · exact h2 g' bs' (ho g' _ hgg' hg')
      · have := (hmrow g' b bs' (by omega) hg').1
        omega
    · obtain ⟨h1, h2, h3⟩ := hmrow g b bs (by omega) hgb'
      exact ⟨⟨.inl (Nat.le_trans h.fr.size h1), fun o ho => absurd (h.kold b o ho) (by have := h.fr.size; omega)⟩, fun g' hg' => by have := (h.gbox g' b hg').2.1; omega, h2, h3⟩
  · intro g b bs c lim hgb hcl
    have hgb' : own' g = some (.mp b bs) := hgb
    by_cases hgg : g < st.gen
    · obtain ⟨h1, h2, h3, h4, cur, T, h5, h6⟩ := h.sub g b bs c lim (ho g _ hgg hgb') hcl
      have hlt := (Array.getElem?_eq_some_iff.1 h5).1
      refine ⟨h1, h2, fun g' len cap sz pub hg' => ?_, fun g' b' bs' lim' hg' hm' => ?_, cur, T, by rw [hb.block c hlt]; exact h5, h6⟩
      · by_cases hgg' : g' < st.gen
        · exact h3 g' len cap sz pub (ho g' _ hgg' hg')
        · have := (hrow g' c len cap sz pub (by omega) hg').1
          omega
      · by_cases hgg' : g' < st.gen
        · exact h4 g' b' bs' lim' (ho g' _ hgg' hg') hm'
        · have := (hsub g' b' bs' c lim' (by omega) hg' hm').1
          omega
    · obtain ⟨h1, h2, h3, h4⟩ := hsub g b bs c lim (by omega) hgb' hcl
      exact ⟨⟨.inl (Nat.le_trans h.fr.size h1), fun o ho => absurd (h.kold c o ho) (by have := h.fr.size; omega)⟩, fun g' hg' => by have := (h.gbox g' c hg').2.1; omega, h2, h3, h4⟩
theorem ar.fU (h : ar C n st G tmps w) {w' : World} (hb : Below w.heap.size w w') : (ao C G st.gen w).le (ao C G st.gen w') ∧ ar C n st G tmps w' :=
  h.grow hb G.own st.gen st.lv (Nat.le_refl _) (fun _ _ _ h => h) h.gown h.live (fun g _ _ _ _ _ hg hr => absurd (h.gown g _ hr) (by omega)) (fun g _ _ hg hr => absurd (h.gown g _ hr) (by omega)) (fun g _ _ _ _ hg hr => absurd (h.gown g _ hr) (by omega))
theorem ar.wN (h : ar C n st G tmps w) (cs : Array Value) (T : TypeId) (cells : List A) (hs : cs.size = cells.length) (h1 : ∀ (i : Nat) (u : Value), cs[i]? = some u → u.oneCell' = true)
    (hc : ∀ (i : Nat) (u : Value) (a : A), cs[i]? = some u → cells[i]? = some a → aA (ao C G st.gen w) u a) :
    ∃ G', (ao C G st.gen w).le (ao C G' (st.gen + 1) (w.alloc (.cells cs T))) ∧
      ar C n { st with bx := (st.gen, cells) :: st.bx, gen := st.gen + 1 } G' tmps (w.alloc (.cells cs T)) ∧
      aA (ao C G' (st.gen + 1) (w.alloc (.cells cs T))) (.pointer (some ⟨w.heap.size, 0, none⟩)) (.ptr st.gen 0) := by
  have hb : Below w.heap.size w (w.alloc (.cells cs T)) := (Below.refl _ w).alloc (Nat.le_refl _) _
  let G' : Gh := ⟨fun g => if g = st.gen then some w.heap.size else G.box g, G.own⟩
  have hle : (ao C G st.gen w).le (ao C G' (st.gen + 1) (w.alloc (.cells cs T))) := by
    refine gf h.fr (h.fr.below hb) (fun b o u hu hn => ?_) (fun g b hgb => ?_) (fun _ _ _ h => h) (Nat.le_succ _) (fun g b len cap sz pub _ hr => ?_) (fun g b bs _ hr => have hl := h.tO hr; ⟨hb.block b hl.1, fun p hp => hb.block p.1 (hl.2 p hp)⟩) (.below hb)
    · have hlt := cv hu
      refine ⟨by rw [bp (hb.block b hlt)]; exact hu, fun hp => hn ?_⟩
      rcases hp with hp | ⟨g, hp⟩ | hp
      · exact .inl hp
      · simp only [G'] at hp
        split at hp
        · simp only [Option.some.injEq] at hp; omega
        · exact .inr (.inl ⟨g, hp⟩)
      · exact .inr (.inr hp)
    · simp only [G']
      rw [if_neg (Nat.ne_of_lt (h.gbox g b hgb).1)]
      exact hgb
    · obtain ⟨_, _, _, cur, T, h3, _⟩ := h.row g b _ _ _ _ hr
      exact hb.block b (Array.getElem?_eq_some_iff.1 h3).1
  refine ⟨G', hle, { size := h.size, frame := h.ck hle, xold := h.xold, kold := h.kold, lent := fun i b hb => by have h1 := h.lent i b hb; have h2 := (h.gbox i b h1).1; simp only [G']; rw [if_neg (Nat.ne_of_lt h2)]; exact h1, fr := h.fr.below hb, gcell := fun g b hgb => (by simp only [G'] at hgb; split at hgb <;> first | (simp only [Option.some.injEq] at hgb; subst hgb; exact ⟨_, _, _, heap_alloc_new w _⟩) | exact jn (.below hb) (h.gcell g b hgb)), live := h.live, gown := fun g r hr => Nat.lt_succ_of_lt (h.gown g r hr), box := ?_, gbox := ?_, inj := ?_, row := ?_, mrow := fun g b bs hr => ?_, sub := fun g b bs c lim hr hm => ?_ }, ?_⟩
  · intro g cells' hgc
    simp only [bt] at hgc
    split at hgc
    · rename_i e
      simp only [Option.some.injEq] at hgc
      subst hgc
      subst e
      exact ⟨w.heap.size, cs, T, by simp [G'], heap_alloc_new w _, hs, h1, fun i u a hu ha => (hc i u a hu ha).mono hle⟩
    · rename_i e
      obtain ⟨b, cs', T', h1', h2, h3, h4, h5⟩ := h.box g cells' hgc
      exact ⟨b, cs', T', by simp only [G']; rw [if_neg (Ne.symm e)]; exact h1', by rw [hb.block b (h.gbox g b h1').2.1]; exact h2, h3, h4, fun i u a hu ha => (h5 i u a hu ha).mono hle⟩
  · intro g b hgb
    simp only [G'] at hgb
    split at hgb
    · rename_i e
      simp only [Option.some.injEq] at hgb
      subst hgb
      exact ⟨by simp only []; omega, by simp, .inl h.fr.size, fun o ho => absurd (h.kold _ o ho) (by have := h.fr.size; omega)⟩
    · obtain ⟨h1, h2, h3⟩ := h.gbox g b hgb
      exact ⟨Nat.lt_succ_of_lt h1, by simp; omega, h3⟩
  · intro g g' b hg hg'
    simp only [G'] at hg hg'
    split at hg <;> split at hg'
    · simp_all
    · simp only [Option.some.injEq] at hg; have := (h.gbox g' b hg').2.1; omega
    · simp only [Option.some.injEq] at hg'; have := (h.gbox g b hg).2.1; omega
    · exact h.inj g g' b hg hg'
  · intro g b len cap sz pub hgb
    obtain ⟨h1, h2, h3, cur, T', h4, h5⟩ := h.row g b len cap sz pub hgb
    refine ⟨h1, fun g' hg' => ?_, h3, cur, T', by rw [hb.block b (Array.getElem?_eq_some_iff.1 h4).1]; exact h4, h5⟩
    simp only [G'] at hg'
    split at hg'
    · simp only [Option.some.injEq] at hg'; have := (Array.getElem?_eq_some_iff.1 h4).1; omega
    · exact h2 g' hg'
  · obtain ⟨h1, h1b, h2, me, clock, h3⟩ := h.mrow g b bs hr
    have hlt := (Array.getElem?_eq_some_iff.1 h3).1
    refine ⟨h1, fun g' hg' => ?_, h2, me, clock, by rw [hb.block b hlt]; exact h3⟩
    simp only [G'] at hg'
    split at hg'
    · simp only [Option.some.injEq] at hg'; omega
    · exact h1b g' hg'
  · obtain ⟨h1, h2, h3, h4, cur, T', h5, h6⟩ := h.sub g b bs c lim hr hm
    have hlt := (Array.getElem?_eq_some_iff.1 h5).1
    refine ⟨h1, fun g' hg' => ?_, h3, h4, cur, T', by rw [hb.block c hlt]; exact h5, h6⟩
    simp only [G'] at hg'
    split at hg'
    · simp only [Option.some.injEq] at hg'; omega
    · exact h2 g' hg'
  · exact .ptr _ _ _ w.heap.size (by simp [ao]) (by simp [ao, G']) rfl
end
end Go.Ab
namespace Go.Ab
open Go.RowKit
inductive Kd where
  | int (k : IntKind)
  | bool
  | str
  | slice (e : Nat)
  | st (fs : List (Nat × Nat × String))
  | ptr (e : Nat)
  | map (k e : Nat)
  | leaf
structure bo where
  k : Kd
  n : Nat
  b : Nat
  z : List Value
def yF : Value → Value → Bool
  | .int k a, .int k' b => decide (k = k') && a == b
  | .bool a, .bool b => a == b
  | .string a, .string b => a.data.toList == b.data.toList
  | .slice none 0 0, .slice none 0 0 => true
  | .pointer none, .pointer none => true
  | .map none, .map none => true
  | .nilFunc, .nilFunc => true
  | .nilIface, .nilIface => true
  | _, _ => false
theorem yh {a b : Value} (h : yF a b = true) : a = b := by
  unfold yF at h
  split at h <;> simp_all
  rename_i a b
  exact ByteArray.ext h
def lX : List Value → List Value → Bool
  | [], [] => true
  | a :: l, b :: r => yF a b && lX l r
  | _, _ => false
theorem nO : ∀ {a b : List Value}, lX a b = true → a = b
  | [], [], _ => rfl
  | a :: l, b :: r, h => by
    simp only [lX, Bool.and_eq_true] at h
    rw [yh h.1, nO h.2]
  | [], _ :: _, h => by simp [lX] at h
  | _ :: _, [], h => by simp [lX] at h
def jP (P : Program) (t : Nat) : Kd → Bool
  | .int k => (match P.underlying t with | some (.int k') => decide (k = k') | _ => false)
  | .bool => (match P.underlying t with | some .bool => true | _ => false)
  | .str => (match P.underlying t with | some .string => true | _ => false)
  | .slice e => (match P.underlying t with | some (.slice e') => e == e' | _ => false)
  | .st fs => (match P.underlying t with | some (.struct fl) => fl.toList.map (fun f => (f.offset, f.type, f.name)) == fs && !P.stoodInHeld t && !P.eqGuardType P.depth t && fs.all (fun x => (P.info? x.2.1).isSome) | _ => false)
  | .ptr e => (match P.underlying t with | some (.pointer e') => e == e' | _ => false)
  | .map k e => (match P.underlying t with | some (.map k' e') => k == k' && e == e' | _ => false)
  | .leaf => (match P.underlying t with | some (.struct _) | some (.array _ _) | none => false | _ => true)
def oR (P : Program) (t : Nat) (d : bo) : Bool :=
  jP P t d.k && (match P.info? t with
    | some i => i.size == d.n && i.bytes == d.b && (match i.zero with | some z => lX z.cells.toList d.z && d.z.length == d.n && d.z.all bK &&
        (match z, d.k with | .agg _, .st _ => true | .agg _, _ => false | .tuple _, _ => false | _, .st _ => false | _, _ => true) | none => false)
    | none => false)
structure bm (P : Program) where
  l : List (Nat × bo)
  ok : l.all (fun x => oR P x.1 x.2) = true
  mixed : P.follows .mixedOrders = true
theorem kz {α : Type} {t : Nat} {a : α} : ∀ {l : List (Nat × α)}, ak l t = some a → (t, a) ∈ l
  | [], h => by simp [ak] at h
  | (s, b) :: r, h => by
    rw [bt] at h
    split at h
    · rename_i e
      simp only [Option.some.injEq] at h
      subst e; subst h
      exact List.mem_cons_self
    · exact List.mem_cons_of_mem _ (kz h)
section
variable {P : Program} (T : bm P)
theorem bm.get {t : Nat} {d : bo} (h : ak T.l t = some d) : oR P t d = true := List.all_eq_true.1 T.ok _ (kz h)
theorem bm.kd {t : Nat} {d : bo} (h : ak T.l t = some d) : jP P t d.k = true := by
  have := T.get h
  simp only [oR, Bool.and_eq_true] at this
  exact this.1
theorem bm.info {t : Nat} {d : bo} (h : ak T.l t = some d) : ∃ i z, P.info? t = some i ∧ i.size = d.n ∧ i.bytes = d.b ∧ i.zero = some z ∧ z.cells.toList = d.z ∧ d.z.length = d.n ∧ d.z.all bK = true ∧
    (match z, d.k with | .agg _, .st _ => true | .agg _, _ => false | .tuple _, _ => false | _, .st _ => false | _, _ => true) = true := by
  have := T.get h
  simp only [oR, Bool.and_eq_true] at this
  have := this.2
  split at this
  · rename_i i hi
    simp only [Bool.and_eq_true, beq_iff_eq] at this
    obtain ⟨⟨h1, h2⟩, h3⟩ := this
    split at h3
    · rename_i z hz
      simp only [Bool.and_eq_true, beq_iff_eq] at h3
      exact ⟨i, z, hi, h1, h2, hz, nO h3.1.1.1, h3.1.1.2, h3.1.2, h3.2⟩
    · cases h3
  · cases this
theorem bm.dX {t e : Nat} {d : bo} (h : ak T.l t = some d) (hk : d.k = .slice e) : P.underlying t = some (.slice e) := by
  have := T.kd h
  rw [hk] at this
  simp only [jP] at this
  split at this
  · rename_i e' he; rw [he]; simp only [beq_iff_eq] at this; rw [this]
  · cases this
theorem bm.dU {t : Nat} {k : IntKind} {d : bo} (h : ak T.l t = some d) (hk : d.k = .int k) : P.underlying t = some (.int k) := by
  have := T.kd h
  rw [hk] at this
  simp only [jP] at this
  split at this
  · rename_i e' he; rw [he]; simp only [decide_eq_true_eq] at this; rw [this]
  · cases this
theorem bm.eY {t : Nat} {d : bo} (h : ak T.l t = some d) (hk : d.k = .str) : P.underlying t = some .string := by
  have := T.kd h
  rw [hk] at this
  simp only [jP] at this
  split at this
  · rename_i he; exact he
  · cases this
theorem bm.my {t : Nat} {d : bo} (h : ak T.l t = some d) (hk : d.k = .bool) : P.underlying t = some .bool := by
  have := T.kd h
  rw [hk] at this
  simp only [jP] at this
  split at this
  · rename_i he; exact he
  · cases this
theorem bm.nz {t : Nat} {fs : List (Nat × Nat × String)} {d : bo} (h : ak T.l t = some d) (hk : d.k = .st fs) :
    ∃ fl : Array Field, P.underlying t = some (.struct fl) ∧ fl.toList.map (fun f => (f.offset, f.type, f.name)) = fs ∧ P.stoodInHeld t = false ∧ P.eqGuardType P.depth t = false ∧ fs.all (fun x => (P.info? x.2.1).isSome) = true := by
  have := T.kd h
  rw [hk] at this
  simp only [jP] at this
  split at this
  · rename_i fl he; simp only [Bool.and_eq_true, beq_iff_eq, Bool.not_eq_true'] at this; exact ⟨fl, he, this.1.1.1, this.1.1.2, this.1.2, this.2⟩
  · cases this
def Kd.agg : Kd → Bool
  | .st _ => true
  | _ => false
theorem bm.isAgg {t : Nat} {d : bo} (h : ak T.l t = some d) (w : World) : (isAgg t).run P w = .ok d.k.agg w := by
  have hk := T.kd h
  obtain ⟨k, n, b, z⟩ := d
  have hu : ∃ u, P.underlying t = some u ∧ (match u with | .struct _ => true | .array _ _ => true | _ => false) = k.agg := by
    cases k <;> simp only [jP] at hk <;> split at hk <;> first | (cases hk; done) | skip
    all_goals first | exact ⟨_, by assumption, rfl⟩ | skip
    rename_i hn _ _
    cases hu : P.underlying t with
    | none => simp_all
    | some u => cases u <;> simp_all [Kd.agg]
  obtain ⟨u, hu, hk⟩ := hu
  unfold Go.isAgg
  simp only [Sem.run_bind, run_underlying hu, Result.andThen_ok, ← hk]
  cases u <;> rfl
theorem bm.sizeOf {t : Nat} {d : bo} (h : ak T.l t = some d) (w : World) : (sizeOf t).run P w = .ok d.n w := by
  obtain ⟨i, z, hi, hs, _⟩ := T.info h
  simp [Go.sizeOf, typeInfo, hi, hs]
theorem bm.zero {t : Nat} {d : bo} (h : ak T.l t = some d) (w : World) : ∃ z : Value, (zeroValue t).run P w = .ok z w ∧ z.cells.toList = d.z := by
  obtain ⟨i, z, hi, _, _, hz, hc, _⟩ := T.info h
  exact ⟨z, by simp [zeroValue, typeInfo, hi, hz], hc⟩
end
def ym : Value → Option A
  | .agg cs => if cs.toList.all bK then some (.ag (cs.toList.map .v)) else none
  | .tuple _ => none
  | .func (.func f) first caps => if first.size = 0 ∧ caps.size = 0 then some (.clo f []) else none
  | .slice none 0 0 => some (.d (.v (.slice none 0 0)))
  | x => if bK x then some (.d (.v x)) else none
def av (f : List (Nat × A)) : Operand → Option A
  | .tmp t => look f t
  | .const v => ym v
  | .func f => some (.clo f [])
  | .global _ => none
theorem xc {E : En} {v : Value} {a : A} (h : ym v = some a) : aA E v a := by
  unfold ym at h
  split at h
  · split at h
    · rename_i cs hc
      simp only [Option.some.injEq] at h
      subst h
      refine .ag _ _ (by simp) (fun i u x hu hx => ?_)
      simp only [List.getElem?_map, Array.getElem?_toList, hu, Option.map_some, Option.some.injEq] at hx
      subst hx
      exact .v u (List.all_eq_true.1 hc u (by rw [List.mem_iff_getElem?]; exact ⟨i, by simpa using hu⟩))
    · cases h
  · cases h
  · rename_i f first caps
    split at h
    · rename_i hc
      simp only [Option.some.injEq] at h
      subst h
      obtain ⟨h1, h2⟩ := hc
      have e1 : first = #[] := Array.eq_empty_of_size_eq_zero h1
      have e2 : caps = #[] := Array.eq_empty_of_size_eq_zero h2
      subst e1; subst e2
      exact .clo f #[] [] rfl (by simp)
    · cases h
  · simp only [Option.some.injEq] at h
    subst h
    exact .d (.v _ rfl)
  · split at h
    · rename_i hc
      simp only [Option.some.injEq] at h
      subst h
      exact .d (.v _ hc)
    · cases h
theorem ar.av {C : Ctx} {n : Nat} {st : St} {G : Gh} {tmps : Array Value} {w : World} (h : ar C n st G tmps w) {x : Operand} {a : A} (hx : av st.f x = some a) :
    aA (ao C G st.gen w) (Act.eval ⟨tmps, []⟩ x) a := by
  cases x with
  | tmp t =>
    obtain ⟨v, h1, h2⟩ := h.frame t a hx
    simpa [Act.eval, h1] using h2
  | const v => exact xc hx
  | global g => cases hx
  | func f =>
    simp only [Ab.av, Option.some.injEq] at hx
    subst hx
    exact .clo f #[] [] rfl (by simp)
theorem rY (k : IntKind) (n : Int) : k.min ≤ k.wrap n ∧ k.wrap n ≤ k.max := by
  cases k <;> simp [IntKind.min, IntKind.max, IntKind.wrap, IntKind.signed, IntKind.bits] <;> (try split) <;> omega
theorem dQ (k : IntKind) (n : Int) : bK (.int k (k.wrap n)) = true := by simp [bK, rY]
end Go.Ab
namespace Go.Ab
open Go.RowKit
def wK : A → Option D
  | .d x => some x
  | .own _ es => some (.sl es)
  | _ => none
def nr : List A → Option (List D)
  | [] => some []
  | a :: l => match wK a, nr l with
    | some x, some r => some (x :: r)
    | _, _ => none
def gE (l : List A) : A := match nr l with
  | some r => .ag r
  | none => .agg l
theorem ry {E : En} {v : Value} {a : A} {x : D} (h : wK a = some x) (hr : aA E v a) : aF E.w E.pv v x := by
  cases hr <;> simp [wK] at h
  · subst h; assumption
  · subst h; assumption
theorem l8 : ∀ {l : List A} {r : List D}, nr l = some r → r.length = l.length ∧ ∀ (i : Nat) (x : D), r[i]? = some x → ∃ a, l[i]? = some a ∧ wK a = some x
  | [], r, h => by simp [nr] at h; subst h; simp
  | a :: l, r, h => by
    simp only [nr] at h
    split at h
    · rename_i x r' hx hr'
      simp only [Option.some.injEq] at h
      subst h
      obtain ⟨h1, h2⟩ := l8 hr'
      refine ⟨by simp [h1], fun i y hy => ?_⟩
      cases i with
      | zero => simp at hy; subst hy; exact ⟨a, by simp, hx⟩
      | succ i => simpa using h2 i y (by simpa using hy)
    · cases h
theorem gQ {E : En} {vs : Array Value} {l : List A} (hs : vs.size = l.length) (ho : ∀ (i : Nat) (u : Value), vs[i]? = some u → u.oneCell' = true)
    (h : ∀ (i : Nat) (u : Value) (x : A), vs[i]? = some u → l[i]? = some x → aA E u x) : aA E (.agg vs) (gE l) := by
  unfold gE
  split
  · rename_i r hr
    obtain ⟨h1, h2⟩ := l8 hr
    refine .ag vs r (by omega) (fun i u x hu hx => ?_)
    obtain ⟨a, ha, hax⟩ := h2 i x hx
    exact ry hax (h i u a hu ha)
  · exact .agg vs l hs ho h
def bI (op : BinOp) (k : IntKind) (a b : Int) : Option Value :=
  match op with
  | .add => some (.int k (k.wrap (a + b)))
  | .sub => some (.int k (k.wrap (a - b)))
  | .mul => some (.int k (k.wrap (a * b)))
  | .eql => some (.bool (decide (a = b)))
  | .neq => some (.bool (!decide (a = b)))
  | .lss => some (.bool (decide (a < b)))
  | .leq => some (.bool (decide (a ≤ b)))
  | .gtr => some (.bool (decide (b < a)))
  | .geq => some (.bool (decide (b ≤ a)))
  | .and => some (.int k (k.wrap (BitVec.ofInt k.bits a &&& BitVec.ofInt k.bits b).toNat))
  | .or => some (.int k (k.wrap (BitVec.ofInt k.bits a ||| BitVec.ofInt k.bits b).toNat))
  | .xor => some (.int k (k.wrap (BitVec.ofInt k.bits a ^^^ BitVec.ofInt k.bits b).toNat))
  | .andNot => some (.int k (k.wrap (BitVec.ofInt k.bits a &&& ~~~BitVec.ofInt k.bits b).toNat))
  | _ => none
def bS (op : BinOp) (a b : ByteArray) : Option Value :=
  match op with
  | .eql => some (.bool (decide (a = b)))
  | .neq => some (.bool (!decide (a = b)))
  | .lss => some (.bool (Op.bytesLess a.toList b.toList))
  | .leq => some (.bool (Op.bytesLess a.toList b.toList || decide (a = b)))
  | .gtr => some (.bool (!(Op.bytesLess a.toList b.toList || decide (a = b))))
  | .geq => some (.bool (!Op.bytesLess a.toList b.toList))
  | _ => none
def bB (op : BinOp) (a b : Bool) : Option Value :=
  match op with
  | .eql => some (.bool (decide (a = b)))
  | .neq => some (.bool (!decide (a = b)))
  | _ => none
def bV (op : BinOp) (kd : Kd) (x y : Value) : Option Value :=
  match x, y with
  | .int k a, .int k' b => if k = k' then (match op with | .shl | .shr => none | _ => bI op k a b) else none
  | .string a, .string b => bS op a b
  | .bool a, .bool b => (match kd with | .bool => bB op a b | _ => none)
  | _, _ => none
theorem tC (a b : ByteArray) : (a.toList == b.toList) = decide (a = b) := by
  rw [ByteArray.toList_eq, ByteArray.toList_eq]
  by_cases h : a = b
  · subst h; simp
  · have : a.data.toList ≠ b.data.toList := fun e => h (ByteArray.ext (Array.ext' e))
    have h2 : ¬ a.data = b.data := fun e => h (ByteArray.ext e)
    simp [h, h2]
theorem yM {P : Program} {w : World} {op : BinOp} {k : IntKind} {a b : Int} {v : Value} {t : TypeId} (h : bI op k a b = some v) (hop : op ≠ .shl) (hop' : op ≠ .shr) :
    (binOp op t (.int k a) (.int k b)).run P w = .ok v w ∧ bK v = true := by
  cases op <;> simp only [bI] at h <;> first | (cases h; done) | skip
  all_goals (simp only [Option.some.injEq] at h; subst h)
  case add => exact ⟨by simp [binOp, Op.intArith], dQ _ _⟩
  case sub => exact ⟨by simp [binOp, Op.intArith], dQ _ _⟩
  case mul => exact ⟨by simp [binOp, Op.intArith], dQ _ _⟩
  case and => exact ⟨by simp only [binOp, Op.intBits, ne_eq, not_true_eq_false, if_false]; rfl, dQ _ _⟩
  case or => exact ⟨by simp only [binOp, Op.intBits, ne_eq, not_true_eq_false, if_false]; rfl, dQ _ _⟩
  case xor => exact ⟨by simp only [binOp, Op.intBits, ne_eq, not_true_eq_false, if_false]; rfl, dQ _ _⟩
  case andNot => exact ⟨by simp only [binOp, Op.intBits, ne_eq, not_true_eq_false, if_false]; rfl, dQ _ _⟩
  all_goals exact ⟨by simp [binOp, Op.intCmp, bne, BEq.beq], rfl⟩
theorem yK {P : Program} {w : World} {op : BinOp} {a b : ByteArray} {v : Value} {t : TypeId} (h : bS op a b = some v) :
    (binOp op t (.string a) (.string b)).run P w = .ok v w ∧ bK v = true := by
  cases op <;> simp only [bS] at h <;> first | (cases h; done) | skip
  all_goals (simp only [Option.some.injEq] at h; subst h)
  all_goals exact ⟨by simp [binOp, Op.stringOp, tC], rfl⟩
theorem yO {P : Program} {w : World} {op : BinOp} {a b : Bool} {v : Value} {t : TypeId} (ht : P.underlying t = some .bool) (h : bB op a b = some v) :
    (binOp op t (.bool a) (.bool b)).run P w = .ok v w ∧ bK v = true := by
  cases op <;> simp only [bB] at h <;> first | (cases h; done) | skip
  all_goals (simp only [Option.some.injEq] at h; subst h)
  all_goals refine ⟨?_, rfl⟩
  all_goals simp only [binOp, Op.equal, Op.maxDepth, Sem.run_bind, run_equalIn_bool' _ _ _ _ _ ht, Result.andThen_ok, Sem.run_pure]
  all_goals (cases a <;> cases b <;> rfl)
section
variable {P : Program} (T : bm P)
def cD (t : Nat) : Kd := match ak T.l t with | some d => d.k | none => .leaf
def lr (t : Nat) : D → D → Option Bool
  | .v (.int k a), .v (.int k' b) => (match cD T t with | .int q => if k = k' ∧ k = q then some (decide (a = b)) else none | _ => none)
  | .v (.string a), .v (.string b) => (match cD T t with | .str => some (decide (a = b)) | _ => none)
  | .v (.bool a), .v (.bool b) => (match cD T t with | .bool => some (decide (a = b)) | _ => none)
  | _, _ => none
mutual
def sL : Nat → Nat → List D → List D → Option Bool
  | 0, _, _, _ => none
  | fuel + 1, t, xs, ys =>
    match cD T t with
    | .int _ | .str | .bool => (match xs, ys with | x :: _, y :: _ => lr T t x y | _, _ => none)
    | .st fs => (match ak T.l t with | some d => jh fuel fs (xs.take d.n) (ys.take d.n) | none => none)
    | _ => none
def jh : Nat → List (Nat × Nat × String) → List D → List D → Option Bool
  | _, [], _, _ => some true
  | 0, _ :: _, _, _ => none
  | fuel + 1, (o, t, nm) :: fs, xs, ys =>
    if nm = "_" then none else
    match sL fuel t (xs.drop o) (ys.drop o), jh fuel fs xs ys with
    | some a, some b => some (a && b)
    | _, _ => none
end
def cm (E : En) (cs : Array Value) (l : List D) : Prop := cs.size = l.length ∧ ∀ (i : Nat) (u : Value) (x : D), cs[i]? = some u → l[i]? = some x → aF E.w E.pv u x
theorem cm.get {E : En} {cs : Array Value} {l : List D} (h : cm E cs l) {i : Nat} {x : D} (hx : l[i]? = some x) : ∃ u, cs[i]? = some u ∧ aF E.w E.pv u x := by
  have hi : i < l.length := (List.getElem?_eq_some_iff.1 hx).1
  have hi' : i < cs.size := by rw [h.1]; exact hi
  exact ⟨cs[i], by simp [hi'], h.2 i _ x (by simp [hi']) hx⟩
theorem cm.part {E : En} {cs : Array Value} {l : List D} (h : cm E cs l) (o n : Nat) : cm E (cs.extract o (o + n)) ((l.drop o).take n) := by
  refine ⟨by simp [h.1]; omega, fun i u x hu hx => ?_⟩
  simp only [Array.getElem?_extract] at hu
  split at hu
  · have hx' : l[o + i]? = some x := by
      rw [List.getElem?_take] at hx
      split at hx
      · simpa using hx
      · cases hx
    exact h.2 (o + i) u x hu hx'
  · cases hu
theorem fg {t : Nat} {d : bo} (h : ak T.l t = some d) (hk : d.k.agg = false) {cs : Array Value} {o : Nat} {v : Value} (hv : cs[o]? = some v) (w : World) :
    (part t cs o).run P w = .ok v w := by
  simp [part, T.isAgg h, hk, hv]
theorem fT {t : Nat} {d : bo} (h : ak T.l t = some d) (hk : d.k.agg = true) (cs : Array Value) (o : Nat) (w : World) :
    (part t cs o).run P w = .ok (.agg (cs.extract o (o + d.n))) w := by
  simp [part, T.isAgg h, hk, T.sizeOf h]
theorem cz {t : Nat} {k : Kd} (h : cD T t = k) (hk : k ≠ .leaf) : ∃ d, ak T.l t = some d ∧ d.k = k := by
  unfold cD at h
  split at h
  · rename_i d hd; exact ⟨d, hd, h⟩
  · exact absurd h.symm hk
theorem qw {E : En} {t d : Nat} {a b : Value} {x y : D} {r : Bool} (h : lr T t x y = some r) (ha : aF E.w E.pv a x) (hb : aF E.w E.pv b y) (w : World) :
    (Op.equalIn (d + 1) t a b).run P w = .ok r w := by
  unfold lr at h
  split at h
  case h_4 => cases h
  all_goals split at h <;> first | (cases h; done) | skip
  · rename_i hk
    split at h
    · rename_i hkk
      obtain ⟨rfl, rfl⟩ := hkk
      obtain ⟨_, hd, hdk⟩ := cz T hk (by simp)
      cases ha; cases hb
      simp only [Option.some.injEq] at h
      rw [run_equalIn_int w d t _ _ _ _ (T.dU hd hdk), ← h]
      simp [BEq.beq]
    · cases h
  · rename_i hk
    obtain ⟨_, hd, hdk⟩ := cz T hk (by simp)
    cases ha; cases hb
    simp only [Option.some.injEq] at h
    rw [run_equalIn_string w d t _ _ (T.eY hd hdk), ← h, tC]
  · rename_i hk
    obtain ⟨_, hd, hdk⟩ := cz T hk (by simp)
    cases ha; cases hb
    simp only [Option.some.injEq] at h
    rw [run_equalIn_bool' w d t _ _ (T.my hd hdk), ← h]
    rename_i a b _ _
    cases a <;> cases b <;> rfl
theorem gz {t : Nat} {fl : Array Field} (h : P.underlying t = some (.struct fl)) : P.fieldsOf t = fl := by simp [Program.fieldsOf, h]
theorem run_eq {E : En} (w : World) : ∀ (fuel : Nat),
    (∀ (t d : Nat) (cx cy : Array Value) (xs ys : List D) (o : Nat) (r : Bool), fuel ≤ d → cm E cx xs → cm E cy ys → sL T fuel t (xs.drop o) (ys.drop o) = some r →
      ∃ a b, (part t cx o).run P w = .ok a w ∧ (part t cy o).run P w = .ok b w ∧ (Op.equalIn d t a b).run P w = .ok r w) ∧
    (∀ (d : Nat) (cx cy : Array Value) (fs : List Field) (xs ys : List D) (r : Bool), fuel ≤ d → cm E cx xs → cm E cy ys → jh T fuel (fs.map fun f => (f.offset, f.type, f.name)) xs ys = some r →
      (Op.eqFields d cx cy fs).run P w = .ok r w) := by
  intro fuel
  induction fuel with
  | zero =>
    refine ⟨fun t d cx cy xs ys o r _ _ _ h => by simp [sL] at h, fun d cx cy fs xs ys r _ _ _ h => ?_⟩
    cases fs with
    | nil => simp [jh] at h; subst h; simp [Op.eqFields]
    | cons f fs => simp [jh] at h
  | succ fuel ih =>
    refine ⟨fun t d cx cy xs ys o r hd hx hy h => ?_, fun d cx cy fs xs ys r hd hx hy h => ?_⟩
    · obtain ⟨d, rfl⟩ : ∃ d', d = d' + 1 := ⟨d - 1, by omega⟩
      simp only [sL] at h
      have leaf : ∀ k, cD T t = k → k ≠ .leaf → k.agg = false → (match xs.drop o, ys.drop o with | x :: _, y :: _ => lr T t x y | _, _ => none) = some r →
          ∃ a b, (part t cx o).run P w = .ok a w ∧ (part t cy o).run P w = .ok b w ∧ (Op.equalIn (d + 1) t a b).run P w = .ok r w := by
        intro k hk hkl hka h
        obtain ⟨td, htd, hdk⟩ := cz T hk hkl
        split at h
        · rename_i x _ y _ e1 e2
          have hx0 : xs[o]? = some x := by have := congrArg (fun l : List D => l[0]?) e1; simpa using this
          have hy0 : ys[o]? = some y := by have := congrArg (fun l : List D => l[0]?) e2; simpa using this
          obtain ⟨a, ha, har⟩ := hx.get hx0
          obtain ⟨b, hb, hbr⟩ := hy.get hy0
          exact ⟨a, b, fg T htd (by rw [hdk]; exact hka) ha w, fg T htd (by rw [hdk]; exact hka) hb w, qw T h har hbr w⟩
        · cases h
      split at h
      · rename_i hk; exact leaf _ hk (by simp) rfl h
      · rename_i hk; exact leaf _ hk (by simp) rfl h
      · rename_i hk; exact leaf _ hk (by simp) rfl h
      · rename_i fs hk
        obtain ⟨td, htd, hdk⟩ := cz T hk (by simp)
        rw [htd] at h
        simp only at h
        obtain ⟨fl, hu, hfl, hst, _⟩ := T.nz htd hdk
        refine ⟨_, _, fT T htd (by rw [hdk]; rfl) cx o w, fT T htd (by rw [hdk]; rfl) cy o w, ?_⟩
        rw [run_equalIn_struct w d t _ _ (by rw [gz hu]; exact hu) hst, gz hu]
        exact ih.2 d _ _ fl.toList _ _ r (by omega) (hx.part o td.n) (hy.part o td.n) (by rw [hfl]; exact h)
      · cases h
    · cases fs with
      | nil => simp [jh] at h; subst h; simp [Op.eqFields]
      | cons f fs =>
        simp only [List.map_cons, jh] at h
        split at h
        · cases h
        · rename_i hnm
          split at h
          · rename_i a b h1 h2
            simp only [Option.some.injEq] at h
            obtain ⟨u, v, hu, hv, huv⟩ := ih.1 f.type d cx cy xs ys f.offset a (by omega) hx hy h1
            have h3 := ih.2 d cx cy fs xs ys b (by omega) hx hy h2
            simp only [Op.eqFields, ne_eq, hnm, not_false_eq_true, if_true, Sem.run_bind, hu, hv, huv, Result.andThen_ok, Sem.run_ite]
            cases a
            · simp at h; subst h; simp
            · simp at h; subst h; simpa using h3
          · cases h
end
end Go.Ab
namespace Go.Ab
open Go.RowKit
def fa : A → Option (List (List D))
  | .d (.sl es) => some es
  | .own _ es => some es
  | .d (.v (.slice none 0 0)) => some []
  | .fl es => some es
  | _ => none
theorem eR {E : En} {v : Value} {a : A} {es : List (List D)} (h : fa a = some es) (hr : aA E v a) : aF E.w E.pv v (.sl es) := by
  unfold fa at h
  split at h
  · cases hr; simp only [Option.some.injEq] at h; subst h; assumption
  · cases hr; simp only [Option.some.injEq] at h; subst h; assumption
  · cases hr with
    | d hd => cases hd; simp only [Option.some.injEq] at h; subst h; exact .nil
  · cases hr; simp only [Option.some.injEq] at h; subst h; assumption
  · cases h
theorem aF.len {w : World} {pv : Nat → Nat → Prop} {v : Value} {es : List (List D)} (h : aF w pv v (.sl es)) : ∃ a cap, v = .slice a es.length cap ∧ es.length ≤ maxLen := by
  cases h with
  | nil => exact ⟨none, 0, rfl, by simp⟩
  | emp a cap hm => exact ⟨_, cap, rfl, by simp⟩
  | sl b off len cap sz es u hl hc hm hs hu hr => exact ⟨_, cap, by rw [hl], by omega⟩
section
variable {P : Program} (T : bm P)
def iR (t : Nat) (l : List A) : Option A := match ak T.l t with
  | some d => bif d.k.agg then (if d.n ≤ l.length then some (gE (l.take d.n)) else none) else l[0]?
  | none => none
def cP (t : Nat) (l : List D) : Option A := match ak T.l t with
  | some d => bif d.k.agg then (if d.n ≤ l.length then some (.ag (l.take d.n)) else none) else (l[0]?).map .d
  | none => none
def km (t i : Nat) : Option (Nat × Nat) := match cD T t with
  | .st fs => (fs[i]?).map fun x => (x.1, x.2.1)
  | _ => none
def cc (t : Nat) : Nat := match ak T.l t with | some d => d.n | none => 0
def vq : Option Value → Option A
  | some v => some (.d (.v v))
  | none => none
def wu : Option Bool → Option A
  | some b => some (.d (.v (.bool b)))
  | none => none
def rU : Option Bool → Option A
  | some b => some (.d (.v (.bool !b)))
  | none => none
def wj : Option (List (List D)) → Option A
  | some es => some (.d (.v (.int .i64 es.length)))
  | none => none
theorem tI {o : Option Value} {a : A} (h : vq o = some a) : ∃ v, o = some v ∧ A.d (.v v) = a := by
  cases o <;> simp [vq] at h; exact ⟨_, rfl, h⟩
theorem tl {o : Option Bool} {a : A} (h : wu o = some a) : ∃ b, o = some b ∧ A.d (.v (.bool b)) = a := by
  cases o <;> simp [wu] at h; exact ⟨_, rfl, h⟩
theorem rG {o : Option Bool} {a : A} (h : rU o = some a) : ∃ b, o = some b ∧ A.d (.v (.bool !b)) = a := by
  cases o <;> simp [rU] at h; exact ⟨_, rfl, h⟩
theorem tW {o : Option (List (List D))} {a : A} (h : wj o = some a) : ∃ es, o = some es ∧ A.d (.v (.int .i64 es.length)) = a := by
  cases o <;> simp [wj] at h; exact ⟨_, rfl, h⟩
def oZ (f : List (Nat × A)) (c : Call) : Option A :=
  match c.callee, c.args.toList, c.argTypes.toList with
  | .builtin .len, [x], [t] => (match av f x with
    | some (.d (.v (.string s))) => (match cD T t with | .str => some (.d (.v (.int .i64 s.size))) | _ => none)
    | some a => (match cD T t with | .slice _ => wj (fa a) | _ => none)
    | none => none)
  | .builtin .max, [x, y], _ => (match av f x, av f y with
    | some (.d (.v (.int k a))), some (.d (.v (.int k' b))) => if k = k' then some (.d (.v (.int k (if a < b then b else a)))) else none
    | _, _ => none)
  | .builtin .min, [x, y], _ => (match av f x, av f y with
    | some (.d (.v (.int k a))), some (.d (.v (.int k' b))) => if k = k' then some (.d (.v (.int k (if b < a then b else a)))) else none
    | _, _ => none)
  | _, _, _ => none
def iH (f : List (Nat × A)) : List Operand → Option (List A)
  | [] => some []
  | x :: r => match av f x, iH f r with
    | some a, some l => some (a :: l)
    | _, _ => none
def fu (f : List (Nat × A)) (bx : List (Nat × List A)) : Op → Option A
  | .move x => av f x
  | .assign x => av f x
  | .pick c a b => (match av f c with
    | some (.d (.v (.bool true))) => av f a
    | some (.d (.v (.bool false))) => av f b
    | _ => none)
  | .binOp op t x y _ => (match av f x, av f y with
    | some (.d (.v a)), some (.d (.v b)) => vq (bV op (cD T t) a b)
    | some (.ag l), some (.ag r) => (match cD T t, op with
      | .st fs, .eql => wu (jh T 50 fs l r)
      | .st fs, .neq => rU (jh T 50 fs l r)
      | _, _ => none)
    | _, _ => none)
  | .unOp op _ x => (match op, av f x with
    | .not, some (.d (.v (.bool b))) => some (.d (.v (.bool !b)))
    | .neg, some (.d (.v (.int k n))) => some (.d (.v (.int k (k.wrap (0 - n)))))
    | _, _ => none)
  | .convert s t x => (match av f x, cD T s, cD T t with
    | some (.d (.v (.int _ n))), .int _, .int k => some (.d (.v (.int k (k.wrap n))))
    | some (.d (.v (.string s))), .str, .str => some (.d (.v (.string s)))
    | _, _, _ => none)
  | .extract x i => (match av f x with
    | some (.tup l) => l[i]?
    | _ => none)
  | .field t x i => (match km T t i, av f x with
    | some (o, ft), some (.ag l) => cP T ft (l.drop o)
    | some (o, ft), some (.agg l) => iR T ft (l.drop o)
    | _, _ => none)
  | .fieldAddr t x i => (match km T t i with
    | some (o, ft) => (match cc T ft, av f x with
      | _ + 1, some (.ptr g off) => (match ak bx g with | some _ => some (.ptr g (off + o)) | none => none)
      | _ + 1, some (.rowd l) => some (.rowd (l.drop o))
      | _ + 1, some (.row l) => some (.row (l.drop o))
      | _, _ => none)
    | none => none)
  | .load t x => (match av f x with
    | some (.ptr g off) => (match ak bx g with | some cells => iR T t (cells.drop off) | none => none)
    | some (.rowd l) => cP T t l
    | some (.row l) => iR T t l
    | _ => none)
  | .makeFunc (.func fn) first caps => (match first.toList, iH f caps.toList with
    | [], some l => some (.clo fn l)
    | x :: r, some [] => (match iH f (x :: r) with | some l => some (.bnd fn l) | none => none)
    | _, _ => none)
  | .nilCheck x => (match av f x with
    | some (.ptr g off) => (match ak bx g with | some _ => some (.ptr g off) | none => none)
    | some (.rowd l) => some (.rowd l)
    | some (.row l) => some (.row l)
    | _ => none)
  | .call c => oZ T f c
  | _ => none
def cA (P : Program) (E : En) (ρ : Operand → Value) (o : Oper) (a : A) : Prop := ∃ v, (execOp ρ o).run P E.w = .ok (.value v) E.w ∧ aA E v a
section
variable {C : Ctx} {n : Nat} {st : St} {G : Gh} {tmps : Array Value} {w : World} (h : ar C n st G tmps w) {o : Oper} {a : A}
include h
theorem gd : ∀ (l : List Operand) (r : List A), iH st.f l = some r → l.length = r.length ∧ ∀ (i : Nat) (x : A), r[i]? = some x → ∃ y, l[i]? = some y ∧ aA (ao C G st.gen w) (Act.eval ⟨tmps, []⟩ y) x
  | [], r, hr => by simp [iH] at hr; subst hr; simp
  | y :: l, r, hr => by
    simp only [iH] at hr
    split at hr
    · rename_i b l' hb hl
      simp only [Option.some.injEq] at hr
      subst hr
      obtain ⟨h1, h2⟩ := gd l l' hl
      refine ⟨by simp [h1], fun i x hx => ?_⟩
      cases i with
      | zero => simp at hx; subst hx; exact ⟨y, by simp, h.av hb⟩
      | succ i => simpa using h2 i x (by simpa using hx)
    · cases hr
theorem gP {g off : Nat} {cells : List A} {v : Value} (hb : ak st.bx g = some cells) (hv : aA (ao C G st.gen w) v (.ptr g off)) :
    ∃ b cs T', v = .pointer (some ⟨b, off, none⟩) ∧ w.heap[b]? = some (.cells cs T' (0, 0)) ∧ cs.size = cells.length ∧ (∀ (i : Nat) (u : Value), cs[i]? = some u → u.oneCell' = true) ∧
      ∀ (i : Nat) (u : Value) (a : A), cs[i]? = some u → cells[i]? = some a → aA (ao C G st.gen w) u a := by
  obtain ⟨b, cs, T', h1, h2, h3, h4, h5⟩ := h.box g cells hb
  cases hv with
  | ptr _ _ _ b0 _ hb0 hx0 => exact ⟨b, cs, T', mD hb0 hx0 b h1, h2, h3, h4, h5⟩
omit h in
theorem dV {t : Nat} {d : bo} (hd : ak T.l t = some d) {b off : Nat} {w : World} (u : Nat → Value) (hc : ∀ j, j < (if d.k.agg then d.n else 1) → cellAt w b (off + j) = some (u j)) :
    (Instr.loadAt t (.pointer (some ⟨b, off, none⟩))).run P w = .ok (if d.k.agg then .agg ((List.range d.n).map u).toArray else u 0) w := by
  cases hk : d.k.agg
  · simp only [hk, Bool.false_eq_true, if_false] at hc
    have := hc 0 (by omega)
    simp only [cellAt, Nat.add_zero] at this
    simp [Instr.loadAt, Instr.sureAddr, loadVar, T.isAgg hd, hk, this]
  · simp only [hk, if_true] at hc
    have hl := run_loadCells (P := P) (w := w) ⟨b, off, none⟩ d.n u (fun j hj => by
      have := hc j hj
      unfold Addr.add
      split
      · rename_i e; subst e; simpa [cellAt] using this
      · exact this)
    simp only [Instr.loadAt, Instr.sureAddr, Sem.run_bind, Sem.run_pure, Result.andThen_ok, loadVar, T.isAgg hd, hk, if_true, T.sizeOf hd, hl]
omit h in
theorem jH {t : Nat} {E : En} {b off : Nat} {l : List A} {u : Nat → Value} (hc : ∀ j, j < l.length → cellAt E.w b (off + j) = some (u j) ∧ (u j).oneCell' = true)
    (hl : ∀ (j : Nat) (x : A), l[j]? = some x → aA E (u j) x) (ha : iR T t l = some a) :
    ∃ v, (Instr.loadAt t (.pointer (some ⟨b, off, none⟩))).run P E.w = .ok v E.w ∧ aA E v a := by
  unfold iR at ha
  split at ha
  · rename_i d hd
    cases hk : d.k.agg
    · simp only [hk, cond_false] at ha
      have h0 : 0 < l.length := (List.getElem?_eq_some_iff.1 ha).1
      refine ⟨_, dV T hd u (fun j hj => ?_), ?_⟩
      · simp only [hk, Bool.false_eq_true, if_false] at hj
        exact (hc j (by omega)).1
      · simp only [hk, Bool.false_eq_true, if_false]
        exact hl 0 a ha
    · simp only [hk, cond_true] at ha
      split at ha
      · rename_i hn
        simp only [Option.some.injEq] at ha
        subst ha
        refine ⟨_, dV T hd u (fun j hj => ?_), ?_⟩
        · simp only [hk, if_true] at hj
          exact (hc j (by omega)).1
        · simp only [hk, if_true]
          refine gQ (by simp; omega) (fun i v hv => ?_) (fun i v x hv hx => ?_)
          · simp only [List.getElem?_toArray, List.getElem?_map, List.getElem?_range] at hv
            have hi : i < d.n := by
              rcases Nat.lt_or_ge i d.n with h | h
              · exact h
              · simp [List.getElem?_eq_none, h] at hv
            simp [hi] at hv
            subst hv
            exact (hc i (by omega)).2
          · have hi : i < d.n := by
              rcases Nat.lt_or_ge i d.n with h | h
              · exact h
              · simp [List.getElem?_eq_none, h] at hv
            simp [hi] at hv
            subst hv
            rw [List.getElem?_take, if_pos hi] at hx
            exact hl i x hx
      · cases ha
  · cases ha
omit h in
theorem gY {t : Nat} {E : En} {b off : Nat} {l : List D} {u : Nat → Value} (hc : ∀ j, j < l.length → cellAt E.w b (off + j) = some (u j))
    (hl : ∀ (j : Nat) (x : D), l[j]? = some x → aF E.w E.pv (u j) x) (ha : cP T t l = some a) :
    ∃ v, (Instr.loadAt t (.pointer (some ⟨b, off, none⟩))).run P E.w = .ok v E.w ∧ aA E v a := by
  unfold cP at ha
  split at ha
  · rename_i d hd
    cases hk : d.k.agg
    · simp only [hk, cond_false, Option.map_eq_some_iff] at ha
      obtain ⟨x, hx, rfl⟩ := ha
      have h0 : 0 < l.length := (List.getElem?_eq_some_iff.1 hx).1
      refine ⟨_, dV T hd u (fun j hj => ?_), ?_⟩
      · simp only [hk, Bool.false_eq_true, if_false] at hj
        exact hc j (by omega)
      · simp only [hk, Bool.false_eq_true, if_false]
        exact .d (hl 0 x hx)
    · simp only [hk, cond_true] at ha
      split at ha
      · rename_i hn
        simp only [Option.some.injEq] at ha
        subst ha
        refine ⟨_, dV T hd u (fun j hj => ?_), ?_⟩
        · simp only [hk, if_true] at hj
          exact hc j (by omega)
        · simp only [hk, if_true]
          refine .ag _ _ (by simp; omega) (fun i v x hv hx => ?_)
          have hi : i < d.n := by
            rcases Nat.lt_or_ge i d.n with h | h
            · exact h
            · simp [List.getElem?_eq_none, h] at hv
          simp [hi] at hv
          subst hv
          rw [List.getElem?_take, if_pos hi] at hx
          exact hl i x hx
      · cases ha
  · cases ha
end
end
end Go.Ab
namespace Go.Ab
open Go.RowKit
section
variable {P : Program} (T : bm P)
variable {C : Ctx} {n : Nat} {st : St} {G : Gh} {tmps : Array Value} {w : World} (h : ar C n st G tmps w) {o : Oper} {a : A}
theorem gv {ρ : Operand → Value} {t : Nat} {x : Operand} (ho : o.op = .load t x) : execOp ρ o = (do pure (.value (← Instr.loadAt t (ρ x)))) := by
  unfold execOp; rw [ho]
theorem ka {t i off ft : Nat} (hf : km T t i = some (off, ft)) : ∃ fl : Array Field, ∃ fd : Field, P.underlying t = some (.struct fl) ∧ fl[i]? = some fd ∧ fd.offset = off ∧ fd.type = ft := by
  unfold km at hf
  split at hf
  · rename_i fs hk
    obtain ⟨d, hd, hdk⟩ := cz T hk (by simp)
    obtain ⟨fl, hu, hfl, _⟩ := T.nz hd hdk
    simp only [Option.map_eq_some_iff] at hf
    obtain ⟨x, hx, hxe⟩ := hf
    rw [← hfl, List.getElem?_map, Option.map_eq_some_iff] at hx
    obtain ⟨fd, hfd, rfl⟩ := hx
    simp only [Prod.mk.injEq] at hxe
    exact ⟨fl, fd, hu, by simpa using hfd, hxe.1, hxe.2⟩
  · cases hf
theorem gw {t i off ft m : Nat} (hf : km T t i = some (off, ft)) (hs : cc T ft = m + 1) (b o' : Nat) (w : World) :
    (Instr.fieldAt t (.pointer (some ⟨b, o', none⟩)) i).run P w = .ok (.pointer (some ⟨b, o' + off, none⟩)) w := by
  obtain ⟨fl, fd, hu, hfd, rfl, rfl⟩ := ka T hf
  have hsz : (sizeOf fd.type).run P w = .ok (m + 1) w := by
    unfold cc at hs
    split at hs
    · rename_i d hd; rw [T.sizeOf hd, hs]
    · cases hs
  simp only [Instr.fieldAt, Sem.run_bind, run_underlying hu, Result.andThen_ok, hfd, Instr.sureAddr, Sem.run_pure, fieldPlace, hsz, Nat.succ_ne_zero, if_false]
  unfold Addr.add
  split
  · rename_i e; rw [e]; simp
  · rfl
include h
theorem w5 {t : Nat} {x : Operand} (ho : o.op = .load t x) (ha : fu T st.f st.bx (.load t x) = some a) : cA P (ao C G st.gen w) (Act.eval ⟨tmps, []⟩) o a := by
  have key : ∃ v, (Instr.loadAt t (Act.eval ⟨tmps, []⟩ x)).run P w = .ok v w ∧ aA (ao C G st.gen w) v a := by
    simp only [fu] at ha
    split at ha
    · rename_i g off hx
      split at ha
      · rename_i cells hb
        obtain ⟨b, cs, T', h1, h2, h3, h4, h5⟩ := gP h hb (h.av hx)
        rw [h1]
        refine jH (E := ao C G st.gen w) T (u := fun j => cs[off + j]?.getD default) (l := cells.drop off) (fun j hj => ?_) (fun j y hy => ?_) ha
        · have hj' : off + j < cs.size := by simp at hj; omega
          have e : cs[off + j]? = some cs[off + j] := by simp [hj']
          exact ⟨by show cellAt w b (off + j) = _; rw [bj h2, e]; rfl, by rw [e]; exact h4 _ _ e⟩
        · have hy' : cells[off + j]? = some y := by simpa using hy
          have hj' : off + j < cs.size := by rw [h3]; exact (List.getElem?_eq_some_iff.1 hy').1
          have e : cs[off + j]? = some cs[off + j] := by simp [hj']
          rw [e]
          exact h5 _ _ _ e hy'
      · cases ha
    · rename_i l hx
      have hr := h.av hx
      generalize Act.eval ⟨tmps, []⟩ x = v at hr
      cases hr with
      | rowd b off _ u hc hd => exact gY (E := ao C G st.gen w) T (fun j hj => (hc j hj).1) hd ha
    · rename_i l hx
      have hr := h.av hx
      generalize Act.eval ⟨tmps, []⟩ x = v at hr
      cases hr with
      | row b off _ u hc hd => exact jH (E := ao C G st.gen w) T (fun j hj => ⟨(hc j hj).1, (hc j hj).2.2⟩) hd ha
    · cases ha
  obtain ⟨v, h1, h2⟩ := key
  refine ⟨v, ?_, h2⟩
  rw [gv ho]
  show Sem.run P _ w = .ok _ w
  simp only [Sem.run_bind, h1, Result.andThen_ok, Sem.run_pure]
theorem pY {t i : Nat} {x : Operand} (ho : o.op = .fieldAddr t x i) (ha : fu T st.f st.bx (.fieldAddr t x i) = some a) : cA P (ao C G st.gen w) (Act.eval ⟨tmps, []⟩) o a := by
  have key : ∃ v, (Instr.fieldAt t (Act.eval ⟨tmps, []⟩ x) i).run P w = .ok v w ∧ aA (ao C G st.gen w) v a := by
    simp only [fu] at ha
    split at ha
    · rename_i fo ft hf
      split at ha
      · rename_i m g off hs hx
        split at ha
        · rename_i cells hb
          simp only [Option.some.injEq] at ha
          subst ha
          have hr := h.av hx
          obtain ⟨b, cs, T', h1, h2, h3, h4, h5⟩ := gP h hb hr
          rw [h1] at hr ⊢
          refine ⟨_, gw T hf hs b off w, ?_⟩
          cases hr with
          | ptr _ _ _ b' hg hb' this =>
            refine .ptr _ _ _ b' hg hb' ?_
            simp only [Value.pointer.injEq, Option.some.injEq, Addr.mk.injEq] at this
            rw [this.1]
        · cases ha
      · rename_i m l hs hx
        simp only [Option.some.injEq] at ha
        subst ha
        have hr := h.av hx
        generalize Act.eval ⟨tmps, []⟩ x = v at hr
        cases hr with
        | rowd b off _ u hc hd =>
          refine ⟨_, gw T hf hs b off w, .rowd b (off + fo) _ (fun j => u (fo + j)) (fun j hj => ?_) (fun j y hy => hd _ _ (by simpa using hy))⟩
          have := hc (fo + j) (by simp at hj; omega)
          rw [Nat.add_assoc]
          exact this
      · rename_i m l hs hx
        simp only [Option.some.injEq] at ha
        subst ha
        have hr := h.av hx
        generalize Act.eval ⟨tmps, []⟩ x = v at hr
        cases hr with
        | row b off _ u hc hd =>
          refine ⟨_, gw T hf hs b off w, .row b (off + fo) _ (fun j => u (fo + j)) (fun j hj => ?_) (fun j y hy => hd _ _ (by simpa using hy))⟩
          have := hc (fo + j) (by simp at hj; omega)
          rw [Nat.add_assoc]
          exact this
      · cases ha
    · cases ha
  obtain ⟨v, h1, h2⟩ := key
  refine ⟨v, ?_, h2⟩
  unfold execOp
  rw [ho]
  show Sem.run P _ w = .ok _ w
  simp only [Sem.run_bind, h1, Result.andThen_ok, Sem.run_pure]
omit h in
theorem qv {E : En} {t : Nat} {cs : Array Value} {l : List A} {off : Nat} (ho : ∀ (i : Nat) (u : Value), cs[i]? = some u → u.oneCell' = true) (hs : cs.size = l.length)
    (hl : ∀ (i : Nat) (u : Value) (x : A), cs[i]? = some u → l[i]? = some x → aA E u x) (ha : iR T t (l.drop off) = some a) : ∃ v, (part t cs off).run P E.w = .ok v E.w ∧ aA E v a := by
  unfold iR at ha
  split at ha
  · rename_i d hd
    cases hk : d.k.agg
    · simp only [hk, cond_false] at ha
      have hx : l[off]? = some a := by simpa using ha
      have hi : off < cs.size := by rw [hs]; exact (List.getElem?_eq_some_iff.1 hx).1
      have e : cs[off]? = some cs[off] := by simp [hi]
      exact ⟨_, fg T hd hk e _, hl _ _ _ e hx⟩
    · simp only [hk, cond_true] at ha
      split at ha
      · rename_i hn
        simp only [Option.some.injEq] at ha
        subst ha
        refine ⟨_, fT T hd hk cs off _, gQ (by simp at hn ⊢; omega) (fun i u hu => ?_) (fun i u x hu hx => ?_)⟩
        · simp only [Array.getElem?_extract] at hu
          split at hu
          · exact ho _ _ hu
          · cases hu
        · simp only [Array.getElem?_extract] at hu
          split at hu
          · rw [List.getElem?_take] at hx
            split at hx
            · exact hl _ _ _ hu (by simpa using hx)
            · cases hx
          · cases hu
      · cases ha
  · cases ha
omit h in
theorem qM {E : En} {t : Nat} {cs : Array Value} {l : List D} {off : Nat} (hl : cm E cs l) (ha : cP T t (l.drop off) = some a) : ∃ v, (part t cs off).run P E.w = .ok v E.w ∧ aA E v a := by
  unfold cP at ha
  split at ha
  · rename_i d hd
    cases hk : d.k.agg
    · simp only [hk, cond_false, Option.map_eq_some_iff] at ha
      obtain ⟨x, hx, rfl⟩ := ha
      obtain ⟨u, hu, hr⟩ := hl.get (i := off) (by simpa using hx)
      exact ⟨_, fg T hd hk hu _, .d hr⟩
    · simp only [hk, cond_true] at ha
      split at ha
      · rename_i hn
        simp only [Option.some.injEq] at ha
        subst ha
        have := hl.part off d.n
        exact ⟨_, fT T hd hk cs off _, .ag _ _ this.1 this.2⟩
      · cases ha
  · cases ha
theorem v7 {t i : Nat} {x : Operand} (ho : o.op = .field t x i) (ha : fu T st.f st.bx (.field t x i) = some a) : cA P (ao C G st.gen w) (Act.eval ⟨tmps, []⟩) o a := by
  have key : ∃ v, (Instr.field t (Act.eval ⟨tmps, []⟩ x) i).run P w = .ok v w ∧ aA (ao C G st.gen w) v a := by
    simp only [fu] at ha
    split at ha
    · rename_i fo ft l hf hx
      have hr := h.av hx
      generalize Act.eval ⟨tmps, []⟩ x = v at hr
      obtain ⟨fl, fd, hu, hfd, rfl, rfl⟩ := ka T hf
      cases hr with
      | ag cs _ hs hd =>
        obtain ⟨v, h1, h2⟩ := qM (E := ao C G st.gen w) T (cs := cs) (l := l) (off := fd.offset) ⟨hs, hd⟩ ha
        exact ⟨v, by simp only [Instr.field, Sem.run_bind, run_underlying hu, Result.andThen_ok, hfd, asAgg, Sem.run_pure]; exact h1, h2⟩
    · rename_i fo ft l hf hx
      have hr := h.av hx
      generalize Act.eval ⟨tmps, []⟩ x = v at hr
      obtain ⟨fl, fd, hu, hfd, rfl, rfl⟩ := ka T hf
      cases hr with
      | agg cs _ hs hone hd =>
        obtain ⟨v, h1, h2⟩ := qv (E := ao C G st.gen w) T (cs := cs) (l := l) (off := fd.offset) hone hs hd ha
        exact ⟨v, by simp only [Instr.field, Sem.run_bind, run_underlying hu, Result.andThen_ok, hfd, asAgg, Sem.run_pure]; exact h1, h2⟩
    · cases ha
  obtain ⟨v, h1, h2⟩ := key
  refine ⟨v, ?_, h2⟩
  unfold execOp
  rw [ho]
  show Sem.run P _ w = .ok _ w
  simp only [Sem.run_bind, h1, Result.andThen_ok, Sem.run_pure]
theorem vO {op : BinOp} {t t' : Nat} {x y : Operand} (ho : o.op = .binOp op t x y t') (ha : fu T st.f st.bx (.binOp op t x y t') = some a) : cA P (ao C G st.gen w) (Act.eval ⟨tmps, []⟩) o a := by
  have key : ∃ v, (do eqGuard op t x y (Act.eval ⟨tmps, []⟩ x) (Act.eval ⟨tmps, []⟩ y); binOp op t (Act.eval ⟨tmps, []⟩ x) (Act.eval ⟨tmps, []⟩ y) : Sem Value).run P w = .ok v w ∧ aA (ao C G st.gen w) v a := by
    simp only [fu] at ha
    split at ha
    · rename_i u v hx hy
      have hrx := h.av hx
      have hry := h.av hy
      generalize Act.eval ⟨tmps, []⟩ x = u' at hrx
      generalize Act.eval ⟨tmps, []⟩ y = v' at hry
      obtain ⟨r, hr, rfl⟩ := tI ha
      cases hrx with
      | d hrx =>
      cases hry with
      | d hry =>
      cases hrx with
      | v _ hu =>
      cases hry with
      | v _ hv =>
      have res : (binOp op t u v).run P w = .ok r w ∧ bK r = true ∧ (eqGuard op t x y u v).run P w = .ok () w := by
        unfold bV at hr
        split at hr
        · split at hr
          · rename_i e
            subst e
            split at hr
            · cases hr
            · cases hr
            · rename_i h1 h2
              obtain ⟨h3, h4⟩ := yM (P := P) (w := w) (t := t) hr h1 h2
              exact ⟨h3, h4, by simp [eqGuard]⟩
          · cases hr
        · obtain ⟨h3, h4⟩ := yK (P := P) (w := w) (t := t) hr
          exact ⟨h3, h4, by simp [eqGuard]⟩
        · split at hr
          · rename_i hk
            obtain ⟨d, hd, hdk⟩ := cz T hk (by simp)
            obtain ⟨h3, h4⟩ := yO (P := P) (w := w) (t := t) (T.my hd hdk) hr
            exact ⟨h3, h4, by simp [eqGuard]⟩
          · cases hr
        · cases hr
      exact ⟨r, by simp only [Sem.run_bind, res.2.2, Result.andThen_ok, res.1], .d (.v _ res.2.1)⟩
    · rename_i l r hx hy
      have hrx := h.av hx
      have hry := h.av hy
      generalize Act.eval ⟨tmps, []⟩ x = u' at hrx
      generalize Act.eval ⟨tmps, []⟩ y = v' at hry
      cases hrx with
      | ag cx _ hsx hdx =>
      cases hry with
      | ag cy _ hsy hdy =>
      have gen : ∀ (fs : List (Nat × Nat × String)) (b : Bool), cD T t = .st fs → jh T 50 fs l r = some b →
          (Op.equal t (.agg cx) (.agg cy)).run P w = .ok b w ∧ ∀ op, (eqGuard op t x y (.agg cx) (.agg cy)).run P w = .ok () w := by
        intro fs b hk hb
        obtain ⟨d, hd, hdk⟩ := cz T hk (by simp)
        obtain ⟨fl, hu, hfl, hst, hgd, _⟩ := T.nz hd hdk
        refine ⟨?_, fun op => by cases op <;> simp [eqGuard, hgd]⟩
        show (Op.equalIn (9999 + 1) t (.agg cx) (.agg cy)).run P w = .ok b w
        rw [run_equalIn_struct w 9999 t _ _ (by rw [gz hu]; exact hu) hst, gz hu]
        exact (run_eq (E := ao C G st.gen w) T w 50).2 9999 cx cy fl.toList l r b (by omega) ⟨hsx, hdx⟩ ⟨hsy, hdy⟩ (by rw [hfl]; exact hb)
      split at ha
      · rename_i fs hk
        obtain ⟨b, hb, rfl⟩ := tl ha
        obtain ⟨h1, h2⟩ := gen fs b hk hb
        exact ⟨_, by simp only [Sem.run_bind, h2, Result.andThen_ok, binOp, h1, Sem.run_pure], .d (.v _ rfl)⟩
      · rename_i fs hk
        obtain ⟨b, hb, rfl⟩ := rG ha
        obtain ⟨h1, h2⟩ := gen fs b hk hb
        exact ⟨_, by simp only [Sem.run_bind, h2, Result.andThen_ok, binOp, h1, Sem.run_pure], .d (.v _ rfl)⟩
      · cases ha
    · cases ha
  obtain ⟨v, h1, h2⟩ := key
  refine ⟨v, ?_, h2⟩
  unfold execOp
  rw [ho]
  show Sem.run P _ w = .ok _ w
  simp only [Sem.run_bind] at h1 ⊢
  simp only [h1, Result.andThen_ok, Sem.run_pure]
end
end Go.Ab
namespace Go.Ab
open Go.RowKit
section
variable {P : Program} (T : bm P)
variable {C : Ctx} {n : Nat} {st : St} {G : Gh} {tmps : Array Value} {w : World} (h : ar C n st G tmps w) {o : Oper} {a : A}
theorem lK (l : List Operand) (cs : Array Operand) (hl : cs.toList = l) (ρ : Operand → Value) : cs.map ρ = (l.map ρ).toArray := by
  subst hl
  cases cs with
  | mk l => simp only [List.map_toArray]
include h
theorem xA {c : Call} (ho : o.op = .call c) (ha : oZ T st.f c = some a) : cA P (ao C G st.gen w) (Act.eval ⟨tmps, []⟩) o a := by
  obtain ⟨cal, args, tys⟩ := c
  have key : ∃ v, (do let d ← resolve (Act.eval ⟨tmps, []⟩) ⟨cal, args, tys⟩ o.type; invoke d.target d.args : Sem Next).run P w = .ok (.value v) w ∧ aA (ao C G st.gen w) v a := by
    unfold oZ at ha
    split at ha
    · rename_i x t hcal hx ht
      simp only at hcal hx ht
      subst hcal
      have e1 := lK _ _ hx (Act.eval ⟨tmps, []⟩)
      have e2 : tys = #[t] := by cases tys; simp_all
      subst e2
      split at ha
      · rename_i s hs
        split at ha
        · rename_i hk
          obtain ⟨d, hd, hdk⟩ := cz T hk (by simp)
          simp only [Option.some.injEq] at ha
          subst ha
          have hr := h.av hs
          generalize hv : Act.eval ⟨tmps, []⟩ x = v at hr
          cases hr with
          | d hr =>
          cases hr with
          | v _ hok =>
          refine ⟨.int .i64 s.size, ?_, .d (.v _ ?_)⟩
          · simp only [resolve, e1, List.map_cons, List.map_nil, hv, Sem.run_bind, Sem.run_pure, Result.andThen_ok, invoke, builtin, Builtin.len_]
            simp [run_underlying (T.eY hd hdk), goInt]
          · simp only [bK, decide_eq_true_eq, Bool.and_eq_true] at hok ⊢
            simp only [maxLen] at hok
            simp [IntKind.min, IntKind.max, IntKind.signed, IntKind.bits]
            omega
        · cases ha
      · rename_i b hb hs
        split at ha
        · rename_i e hk
          obtain ⟨d, hd, hdk⟩ := cz T hk (by simp)
          obtain ⟨es, hes, rfl⟩ := tW ha
          obtain ⟨ad, cap, hv, hlen⟩ := (eR hes (h.av hs)).len
          refine ⟨.int .i64 es.length, ?_, .d (.v _ ?_)⟩
          · simp only [resolve, e1, List.map_cons, List.map_nil, hv, Sem.run_bind, Sem.run_pure, Result.andThen_ok, invoke, builtin, Builtin.len_]
            simp [run_underlying (T.dX hd hdk), goInt]
          · simp only [maxLen] at hlen
            simp [bK, IntKind.min, IntKind.max, IntKind.signed, IntKind.bits]
            omega
        · cases ha
      · cases ha
    · rename_i x y hcal hx
      simp only at hcal hx
      subst hcal
      have e1 := lK _ _ hx (Act.eval ⟨tmps, []⟩)
      split at ha
      · rename_i k a1 k' b1 h1 h2
        split at ha
        · rename_i hkk
          subst hkk
          simp only [Option.some.injEq] at ha
          subst ha
          have hr1 := h.av h1
          have hr2 := h.av h2
          generalize hv1 : Act.eval ⟨tmps, []⟩ x = v1 at hr1
          generalize hv2 : Act.eval ⟨tmps, []⟩ y = v2 at hr2
          cases hr1 with | d hr1 => cases hr1 with | v _ ok1 =>
          cases hr2 with | d hr2 => cases hr2 with | v _ ok2 =>
          refine ⟨_, ?_, .d (.v _ ?_)⟩
          · simp only [resolve, e1, List.map_cons, List.map_nil, hv1, hv2, Sem.run_bind, Sem.run_pure, Result.andThen_ok, invoke, builtin, Builtin.max_]
            simp [Builtin.max2]
          · split <;> assumption
        · cases ha
      · cases ha
    · rename_i x y hcal hx
      simp only at hcal hx
      subst hcal
      have e1 := lK _ _ hx (Act.eval ⟨tmps, []⟩)
      split at ha
      · rename_i k a1 k' b1 h1 h2
        split at ha
        · rename_i hkk
          subst hkk
          simp only [Option.some.injEq] at ha
          subst ha
          have hr1 := h.av h1
          have hr2 := h.av h2
          generalize hv1 : Act.eval ⟨tmps, []⟩ x = v1 at hr1
          generalize hv2 : Act.eval ⟨tmps, []⟩ y = v2 at hr2
          cases hr1 with | d hr1 => cases hr1 with | v _ ok1 =>
          cases hr2 with | d hr2 => cases hr2 with | v _ ok2 =>
          refine ⟨_, ?_, .d (.v _ ?_)⟩
          · simp only [resolve, e1, List.map_cons, List.map_nil, hv1, hv2, Sem.run_bind, Sem.run_pure, Result.andThen_ok, invoke, builtin, Builtin.min_]
            simp [Builtin.min2]
          · split <;> assumption
        · cases ha
      · cases ha
    · cases ha
  obtain ⟨v, h1, h2⟩ := key
  refine ⟨v, ?_, h2⟩
  unfold execOp
  rw [ho]
  exact h1
theorem uN (ha : fu T st.f st.bx o.op = some a) (hl : ∀ t x, o.op ≠ .load t x) (hf : ∀ t x i, o.op ≠ .fieldAddr t x i) (hfi : ∀ t x i, o.op ≠ .field t x i) (hb : ∀ p t x y t', o.op ≠ .binOp p t x y t') (hc : ∀ c, o.op ≠ .call c) :
    cA P (ao C G st.gen w) (Act.eval ⟨tmps, []⟩) o a := by
  unfold cA execOp
  cases hop : o.op <;> rw [hop] at ha hl hf hfi hb hc <;> simp only [fu] at ha <;> first | (cases ha; done) | skip
  case move x => exact ⟨_, rfl, h.av ha⟩
  case assign x => exact ⟨_, rfl, h.av ha⟩
  case pick c x y =>
    split at ha
    · rename_i hcv
      have hr := h.av hcv
      generalize hv : Act.eval ⟨tmps, []⟩ c = v at hr
      cases hr with | d hr => cases hr with | v _ _ =>
      exact ⟨_, by simp only [Sem.run_bind, asBool, hv, Sem.run_pure, Result.andThen_ok, if_true] <;> rfl, h.av ha⟩
    · rename_i hcv
      have hr := h.av hcv
      generalize hv : Act.eval ⟨tmps, []⟩ c = v at hr
      cases hr with | d hr => cases hr with | v _ _ =>
      exact ⟨_, by simp only [Sem.run_bind, asBool, hv, Sem.run_pure, Result.andThen_ok, Bool.false_eq_true, if_false] <;> rfl, h.av ha⟩
    · cases ha
  case load t x => exact absurd rfl (hl t x)
  case fieldAddr t x i => exact absurd rfl (hf t x i)
  case field t x i => exact absurd rfl (hfi t x i)
  case binOp p t x y t' => exact absurd rfl (hb p t x y t')
  case call c => exact absurd rfl (hc c)
  case unOp p t x =>
    split at ha
    · rename_i b hx
      have hr := h.av hx
      generalize hv : Act.eval ⟨tmps, []⟩ x = v at hr
      cases hr with | d hr => cases hr with | v _ _ =>
      simp only [Option.some.injEq] at ha
      subst ha
      exact ⟨_, by simp only [hv, Op.unary, Sem.run_bind, Sem.run_pure, Result.andThen_ok] <;> rfl, .d (.v _ rfl)⟩
    · rename_i k m hx
      have hr := h.av hx
      generalize hv : Act.eval ⟨tmps, []⟩ x = v at hr
      cases hr with | d hr => cases hr with | v _ _ =>
      simp only [Option.some.injEq] at ha
      subst ha
      exact ⟨_, by simp only [hv, Op.unary, Op.intArith, Sem.run_bind, Sem.run_pure, Result.andThen_ok] <;> rfl, .d (.v _ (dQ _ _))⟩
    · cases ha
  case convert s t x =>
    split at ha
    · rename_i k m q k' hx hs ht
      have hr := h.av hx
      generalize hv : Act.eval ⟨tmps, []⟩ x = v at hr
      cases hr with | d hr => cases hr with | v _ _ =>
      simp only [Option.some.injEq] at ha
      subst ha
      obtain ⟨ds, hds, hdsk⟩ := cz T hs (by simp)
      obtain ⟨dt, hdt, hdtk⟩ := cz T ht (by simp)
      exact ⟨_, by simp only [hv, convert, Conv.intToInt, Sem.run_bind, run_underlying (T.dU hds hdsk), run_underlying (T.dU hdt hdtk), Sem.run_pure, Result.andThen_ok] <;> rfl, .d (.v _ (dQ _ _))⟩
    · rename_i m hx hs ht
      have hr := h.av hx
      generalize hv : Act.eval ⟨tmps, []⟩ x = v at hr
      cases hr with | d hr => cases hr with | v _ hok =>
      simp only [Option.some.injEq] at ha
      subst ha
      obtain ⟨ds, hds, hdsk⟩ := cz T hs (by simp)
      obtain ⟨dt, hdt, hdtk⟩ := cz T ht (by simp)
      exact ⟨_, by simp only [hv, convert, Sem.run_bind, run_underlying (T.eY hds hdsk), run_underlying (T.eY hdt hdtk), Sem.run_pure, Result.andThen_ok] <;> rfl, .d (.v _ hok)⟩
    · cases ha
  case extract x i =>
    split at ha
    · rename_i l hx
      have hr := h.av hx
      generalize hv : Act.eval ⟨tmps, []⟩ x = v at hr
      cases hr with
      | tup vs _ hs hd =>
      have hi : i < vs.size := by rw [hs]; exact (List.getElem?_eq_some_iff.1 ha).1
      have e : vs[i]? = some vs[i] := by simp [hi]
      exact ⟨_, by simp only [hv, Instr.extract, e, Sem.run_bind, Sem.run_pure, Result.andThen_ok] <;> rfl, hd i _ _ e ha⟩
    · cases ha
  case makeFunc fn first caps =>
    cases fn <;> simp only at ha <;> first | (cases ha; done) | skip
    rename_i fid
    split at ha
    · rename_i l hfi hcl
      simp only [Option.some.injEq] at ha
      subst ha
      have e1 : first = #[] := by cases first; simp_all
      subst e1
      obtain ⟨h1, h2⟩ := gd h caps.toList l hcl
      refine ⟨_, by simp only [Instr.makeFunc, Sem.run_bind, Sem.run_pure, Result.andThen_ok] <;> rfl, ?_⟩
      have e0 : (Array.map (Act.eval ⟨tmps, []⟩) (#[] : Array Operand)) = #[] := by simp
      rw [e0]
      refine .clo fid _ l (by simp at h1; simp [h1]) (fun i u x hu hx => ?_)
      obtain ⟨y, hy, hyr⟩ := h2 i x hx
      simp only [Array.getElem?_map, Option.map_eq_some_iff] at hu
      obtain ⟨z, hz, rfl⟩ := hu
      have : y = z := by simp at hy; rw [hz] at hy; exact (Option.some.inj hy).symm
      subst this
      exact hyr
    · rename_i x r hfirst hcaps
      have e2 : caps.toList = [] := by
        have := (gd h caps.toList [] hcaps).1
        simpa using this
      have e3 : caps = #[] := Array.toList_inj.1 e2
      cases hl0 : iH st.f (x :: r) with
      | none => rw [hl0] at ha; cases ha
      | some l =>
        rw [hl0] at ha
        simp only [Option.some.injEq] at ha
        subst ha
        subst e3
        have hl : iH st.f first.toList = some l := by rw [hfirst]; exact hl0
        obtain ⟨h1, h2⟩ := gd h first.toList l hl
        refine ⟨_, by simp only [Instr.makeFunc, Sem.run_bind, Sem.run_pure, Result.andThen_ok] <;> rfl, ?_⟩
        have e0 : (Array.map (Act.eval ⟨tmps, []⟩) (#[] : Array Operand)) = #[] := by simp
        rw [e0]
        refine .bnd fid _ l (by simp at h1; simp [h1]) (fun i u x hu hx => ?_)
        obtain ⟨y, hy, hyr⟩ := h2 i x hx
        simp only [Array.getElem?_map, Option.map_eq_some_iff] at hu
        obtain ⟨z, hz, rfl⟩ := hu
        have : y = z := by simp at hy; rw [hz] at hy; exact (Option.some.inj hy).symm
        subst this
        exact hyr
    · cases ha
  case nilCheck x =>
    dsimp only
    split at ha
    · rename_i g off hx
      split at ha
      · rename_i cells hb'
        simp only [Option.some.injEq] at ha
        subst ha
        have hr := h.av hx
        obtain ⟨b, cs, T', h1, _⟩ := gP h hb' hr
        rw [h1] at hr
        simp only [h1]
        exact ⟨_, rfl, hr⟩
      · cases ha
    · rename_i l hx
      simp only [Option.some.injEq] at ha
      subst ha
      have hr := h.av hx
      generalize Act.eval ⟨tmps, []⟩ x = v at hr
      cases hr with
      | rowd b off _ u hc hd => exact ⟨_, rfl, .rowd b off _ u hc hd⟩
    · rename_i l hx
      simp only [Option.some.injEq] at ha
      subst ha
      have hr := h.av hx
      generalize Act.eval ⟨tmps, []⟩ x = v at hr
      cases hr with
      | row b off _ u hc hd => exact ⟨_, rfl, .row b off _ u hc hd⟩
    · cases ha
theorem yU (ha : fu T st.f st.bx o.op = some a) : cA P (ao C G st.gen w) (Act.eval ⟨tmps, []⟩) o a := by
  cases hop : o.op
  case load t x => exact w5 T h hop (by rw [hop] at ha; exact ha)
  case fieldAddr t x i => exact pY T h hop (by rw [hop] at ha; exact ha)
  case field t x i => exact v7 T h hop (by rw [hop] at ha; exact ha)
  case binOp p t x y t' => exact vO T h hop (by rw [hop] at ha; exact ha)
  case call c => exact xA T h hop (by rw [hop] at ha; exact ha)
  all_goals exact uN T h ha (by simp [hop]) (by simp [hop]) (by simp [hop]) (by simp [hop]) (by simp [hop])
end
end Go.Ab
namespace Go.Ab
open Go.RowKit
def cG (P : Program) (o : Oper) (act : Act) (w : World) (R : Value → World → Prop) : Prop :=
  match (execOp act.eval o).run P w with
  | .ok (.value v) w' => R v w'
  | .ok .skip w' => R undef w'
  | .ok (.enter f args) w' => Calls P f args w' (fun e w'' => ∃ v, e = .returned v ∧ R v w'')
  | _ => False
theorem cG.wp {P : Program} {o : Oper} {act : Act} {w : World} {R : Value → World → Prop} {K : Act → World → Prop} {Q : Exit → Act → World → Prop}
    (h : cG P o act w R) (hR : ∀ v w', R v w' → K (act.put o.dst v) w') : o.wp P act w K Q := by
  unfold cG at h
  unfold Oper.wp
  generalize (execOp act.eval o).run P w = r at *
  cases r with
  | ok x w' =>
    cases x <;> simp only at h <;> simp only [Oper.upon]
    case value v => exact hR v w' h
    case skip => exact hR _ w' h
    case enter f args =>
      refine h.mono fun e w'' he => ?_
      obtain ⟨v, rfl, hv⟩ := he
      exact hR v w'' hv
  | halt x w' => simp only at h
theorem Act.nu (tmps : Array Value) (ds ds' : List Deferred) : Act.eval ⟨tmps, ds⟩ = Act.eval ⟨tmps, ds'⟩ := funext fun x => by cases x <;> rfl
theorem cG.ds {P : Program} {o : Oper} {tmps : Array Value} {ds : List Deferred} {w : World} {R : Value → World → Prop} (h : cG P o ⟨tmps, []⟩ w R) : cG P o ⟨tmps, ds⟩ w R := by
  unfold cG at *
  rw [Act.nu tmps ds []]
  exact h
theorem Act.eM {tmps : Array Value} {ds : List Deferred} (dst : Option Nat) (v : Value) : Act.put ⟨tmps, ds⟩ dst v = ⟨(Act.put ⟨tmps, []⟩ dst v).tmps, ds⟩ := by cases dst <;> rfl
theorem cG.mono {P : Program} {o : Oper} {act : Act} {w : World} {R R' : Value → World → Prop} (h : cG P o act w R) (hR : ∀ v w', R v w' → R' v w') : cG P o act w R' := by
  unfold cG at *
  generalize (execOp act.eval o).run P w = r at *
  cases r with
  | ok x w' =>
    cases x <;> simp only at h ⊢
    case value v => exact hR v w' h
    case skip => exact hR _ w' h
    case enter f args => exact h.mono fun e w'' ⟨v, he, hv⟩ => ⟨v, he, hR v w'' hv⟩
  | halt x w' => simp only at h
def Pu (P : Program) (C : Ctx) (n : Nat) (st : St) (o : Oper) (a : A) : Prop :=
  ∀ G tmps w, ar C n st G tmps w → cG P o ⟨tmps, []⟩ w fun v w' => Below w.heap.size w w' ∧ aA (ao C G st.gen w') v a
theorem cA.pu {P : Program} {C : Ctx} {n : Nat} {st : St} {o : Oper} {a : A} (h : ∀ G tmps w, ar C n st G tmps w → cA P (ao C G st.gen w) (Act.eval ⟨tmps, []⟩) o a) : Pu P C n st o a := by
  intro G tmps w hs
  obtain ⟨v, h1, h2⟩ := h G tmps w hs
  unfold cG
  have h1' : (execOp (Act.eval ⟨tmps, []⟩) o).run P w = .ok (.value v) w := h1
  rw [h1']
  exact ⟨Below.refl _ _, h2⟩
theorem Pu.ev {P : Program} (T : bm P) {C : Ctx} {n : Nat} {st : St} {o : Oper} {a : A} (h : fu T st.f st.bx o.op = some a) : Pu P C n st o a :=
  cA.pu fun _ _ _ hs => yU T hs h
def dh (P : Program) (ops : Array Oper) (Q : Exit → Act → World → Prop) : List Oper → Act → World → Prop
  | [], a, w => Q .normal a w
  | o :: rest, a, w => if Region.wanted o (yielded ops a.tmps) then o.wp P a w (dh P ops Q rest) Q else dh P ops Q rest (a.put o.dst undef) w
theorem oq {P : Program} {ops : Array Oper} {Q : Exit → Act → World → Prop} : ∀ (l : List Oper) (k : Nat), (∀ j, l[j]? = ops[k + j]?) → ∀ (a : Act) (w : World), dh P ops Q l a w → wpOps P ops Q (List.range' k l.length) a w
  | [], k, _, a, w, h => by simpa [wpOps, dh] using h
  | o :: l, k, hl, a, w, h => by
    have h0 : ops[k]? = some o := by simpa using (hl 0).symm
    simp only [List.length_cons, List.range'_succ]
    rw [wpOps_cons]
    unfold wpOp
    simp only [h0]
    simp only [dh] at h
    have ih := fun a w => oq (P := P) (Q := Q) l (k + 1) (fun j => by have := hl (j + 1); simpa [Nat.add_assoc, Nat.add_comm 1 j] using this) a w
    split
    · rename_i hw
      simp only [hw, if_true] at h
      exact .inl (Oper.wp_mono ih h)
    · rename_i hw
      simp only [hw] at h
      exact ih _ _ h
def lift (C : Ctx) (n : Nat) (Q : Exit → St → Prop) : Exit → Act → World → Prop := fun e a w => a.defers = C.ds ∧ ∃ st, dE C n st a.tmps w ∧ Q e st
def WO (P : Program) (C : Ctx) (n : Nat) (ops : Array Oper) (Q : Exit → St → Prop) (l : List Oper) (st : St) : Prop :=
  ∀ tmps w, dE C n st tmps w → dh P ops (lift C n Q) l ⟨tmps, C.ds⟩ w
def W (P : Program) (C : Ctx) (n : Nat) (c : Code) (Q : Exit → St → Prop) (st : St) : Prop :=
  ∀ tmps w, dE C n st tmps w → c.wp P (lift C n Q) ⟨tmps, C.ds⟩ w
def cZ (n : Nat) : Option Nat → Bool
  | none => true
  | some d => Nat.blt d n
theorem bL {n : Nat} {dst : Option Nat} (h : cZ n dst = true) : ∀ d, dst = some d → d < n := by
  intro d hd
  subst hd
  exact Nat.lt_of_lt_of_le (Nat.lt_succ_self d) (Nat.le_of_ble_eq_true h)
section
variable {P : Program} {C : Ctx} {n : Nat} {ops : Array Oper} {Q : Exit → St → Prop} {st : St} {o : Oper} {rest : List Oper} {a : A}
theorem WO.nil (h : Q .normal st) : WO P C n ops Q [] st := fun _ _ hs => ⟨rfl, st, hs, h⟩
theorem WO.step (hg : o.guard = none) (h : ∀ tmps w, dE C n st tmps w → cG P o ⟨tmps, []⟩ w fun v w' => ∃ st', dE C n st' (Act.put ⟨tmps, []⟩ o.dst v).tmps w' ∧ WO P C n ops Q rest st') :
    WO P C n ops Q (o :: rest) st := by
  intro tmps w hs
  simp only [dh, Region.wanted, hg, if_true]
  refine (h tmps w hs).ds.wp fun v w' ⟨st', hs', hw⟩ => ?_
  rw [Act.eM]
  exact hw _ _ hs'
theorem WO.pu (hg : o.guard = none) (hd : cZ n o.dst = true) (hp : Pu P C n st o a) (h : WO P C n ops Q rest (st.put o.dst a)) : WO P C n ops Q (o :: rest) st := by
  refine WO.step hg fun tmps w ⟨G, hs⟩ => (hp G tmps w hs).mono fun v w' ⟨hb, hr⟩ => ⟨_, ⟨G, (hs.fU hb).2.put (bL hd) hr⟩, h⟩
theorem rI {P : Program} {c : Code} {Q : Exit → Act → World → Prop} {tmps : Array Value} {ds : List Deferred} {w : World} (e : ds = []) (h : c.wp P Q ⟨tmps, ds⟩ w) : c.wp P Q ⟨tmps, []⟩ w := e ▸ h
def nR (o : Oper) : Oper := { o with guard := none }
def c8 (ops : Array Oper) (j : Nat) : Option Nat := (ops[j]?).bind (·.dst)
theorem ia {j d : Nat} {b : Bool} (hj : c8 ops j = some d) {tmps : Array Value} (ht : tmps[d]? = some (.bool b)) : yielded ops tmps j = some b := by
  unfold yielded
  unfold c8 at hj
  rw [hj]
  simp [ht]
theorem kR {G : Gh} {tmps : Array Value} {w : World} (hs : ar C n st G tmps w) {d : Nat} {b : Bool} (hl : look st.f d = some (.d (.v (.bool b)))) : tmps[d]? = some (.bool b) := by
  obtain ⟨v, hv, hr⟩ := hs.frame _ _ hl
  cases hr with | d hr => cases hr; exact hv
theorem WO.go {j d : Nat} {want : Bool} (hg : o.guard = some (j, want)) (hj : c8 ops j = some d) (hl : look st.f d = some (.d (.v (.bool want)))) (h : WO P C n ops Q (nR o :: rest) st) :
    WO P C n ops Q (o :: rest) st := by
  intro tmps w ⟨G, hs⟩
  have := h tmps w ⟨G, hs⟩
  simp only [dh, Region.wanted, hg, nR] at this ⊢
  rw [ia hj (kR hs hl)]
  simp only [if_true] at this
  simp only [BEq.rfl, if_true]
  exact this
theorem WO.skip {j d : Nat} {want b : Bool} (hg : o.guard = some (j, want)) (hj : c8 ops j = some d) (hl : look st.f d = some (.d (.v (.bool b)))) (hb : (b == want) = false) (hd : cZ n o.dst = true)
    (h : WO P C n ops Q rest (st.put o.dst .any)) : WO P C n ops Q (o :: rest) st := by
  intro tmps w ⟨G, hs⟩
  simp only [dh, Region.wanted, hg]
  rw [ia hj (kR hs hl)]
  have hbw : (some b == some want) = false := by simpa using hb
  simp only [hbw, Bool.false_eq_true, if_false]
  rw [Act.eM]
  exact h _ _ ⟨G, hs.put (bL hd) (.any _)⟩
theorem ar.known {G : Gh} {tmps : Array Value} {w : World} (hs : ar C n st G tmps w) {d : Nat} {a a' : A} (hl : look st.f d = some a) (he : a = a') : ar C n (st.set d a') G tmps w := by
  subst he
  refine { hs with frame := fun t b hb => ?_ }
  simp only [St.set, aR] at hb
  split at hb
  · rename_i e
    subst e
    simp only [Option.some.injEq] at hb
    subst hb
    exact hs.frame _ _ hl
  · exact hs.frame t b hb
theorem WO.split {l : List Oper} {d : Nat} {b : Bool} (hl : look st.f d = some (.d (.v (.bool b)))) (ht : b = true → WO P C n ops Q l (st.set d (.d (.v (.bool true))))) (hf : b = false → WO P C n ops Q l (st.set d (.d (.v (.bool false))))) :
    WO P C n ops Q l st := by
  intro tmps w ⟨G, hs⟩
  cases b
  · exact hf rfl tmps w ⟨G, hs.known hl rfl⟩
  · exact ht rfl tmps w ⟨G, hs.known hl rfl⟩
theorem W.region {id : Nat} {l : List Oper} (h : WO P C n l.toArray Q l st) : W P C n (.region id l.toArray false) Q st := by
  intro tmps w hs
  refine wp_region ?_
  have := oq (P := P) (Q := lift C n Q) (ops := l.toArray) l 0 (by simp) ⟨tmps, C.ds⟩ w (h tmps w hs)
  rw [List.range_eq_range']
  simpa using this
def QS (P : Program) (C : Ctx) (n : Nat) (y : Code) (Q : Exit → St → Prop) : Exit → St → Prop
  | .normal, st => W P C n y Q st
  | e, st => Q e st
def QB (id : Nat) (Q : Exit → St → Prop) : Exit → St → Prop
  | .exit i, st => if i = id then Q .normal st else Q (.exit i) st
  | e, st => Q e st
theorem W.mono {c : Code} {Q' : Exit → St → Prop} (h : W P C n c Q st) (hq : ∀ e st, Q e st → Q' e st) : W P C n c Q' st :=
  fun tmps w hs => wp_mono (h tmps w hs) fun _ _ _ ⟨h1, st', h2, h3⟩ => ⟨h1, st', h2, hq _ _ h3⟩
theorem W.skip (h : Q .normal st) : W P C n .skip Q st := fun _ _ hs => wp_skip ⟨rfl, st, hs, h⟩
theorem W.ret (h : Q .ret st) : W P C n .ret Q st := fun _ _ hs => wp_ret ⟨rfl, st, hs, h⟩
theorem W.exit {id : Nat} (h : Q (.exit id) st) : W P C n (.exit id) Q st := fun _ _ hs => wp_exit ⟨rfl, st, hs, h⟩
theorem W.seq {x y : Code} (h : W P C n x (QS P C n y Q) st) : W P C n (.seq x y) Q st := by
  intro tmps w hs
  refine wp_seq (wp_mono (h tmps w hs) ?_)
  rintro e ⟨t, df⟩ w' ⟨hd, st', hs', hq⟩
  simp only at hd
  subst hd
  cases e <;> simp only [QS] at hq <;> simp only [Exit.then]
  · exact hq t w' hs'
  all_goals exact ⟨rfl, st', hs', hq⟩
theorem W.block {id : Nat} {c : Code} (h : W P C n c (QB id Q) st) : W P C n (.block id c) Q st := by
  intro tmps w hs
  refine wp_block (wp_mono (h tmps w hs) ?_)
  rintro e ⟨t, df⟩ w' ⟨hd, st', hs', hq⟩
  cases e <;> simp only [QB] at hq <;> simp only [Exit.inBlock]
  case exit i =>
    split
    · rename_i e; rw [if_pos e] at hq; exact ⟨hd, st', hs', hq⟩
    · rename_i e; rw [if_neg e] at hq; exact ⟨hd, st', hs', hq⟩
  all_goals exact ⟨hd, st', hs', hq⟩
theorem W.cond {c : Operand} {x y : Code} {b : Bool} (hc : av st.f c = some (.d (.v (.bool b)))) (ht : b = true → W P C n x Q st) (hf : b = false → W P C n y Q st) : W P C n (.cond c x y) Q st := by
  intro tmps w ⟨G, hs⟩
  have hv : Act.eval ⟨tmps, C.ds⟩ c = .bool b := by
    rw [Act.nu tmps C.ds []]
    have hr := hs.av hc
    generalize Act.eval ⟨tmps, []⟩ c = v at hr ⊢
    cases hr with | d hr => cases hr; rfl
  cases b
  · exact wp_cond_false hv (hf rfl tmps w ⟨G, hs⟩)
  · exact wp_cond_true hv (ht rfl tmps w ⟨G, hs⟩)
theorem W.oC {c : Operand} {x y : Code} (hc : av st.f c = some (.d (.v (.bool true)))) (h : W P C n x Q st) : W P C n (.cond c x y) Q st := W.cond hc (fun _ => h) (fun e => nomatch e)
def QL (I : Nat → St → Prop) (m : Nat) (Q : Exit → St → Prop) : Exit → St → Prop
  | .normal, st => ∃ k, k < m ∧ I k st
  | e, st => Q e st
theorem W.loop {c : Code} (I : Nat → St → Prop) (hr : ∀ m st, I m st → W P C n c (QL I m Q) st) {m : Nat} (h0 : I m st) : W P C n (.loop c) Q st := by
  intro tmps w hs b k cs
  have key : ∀ m (tmps : Array Value) (w : World) (st : St), I m st → dE C n st tmps w →
      ∃ e a' w', lift C n Q e a' w' ∧ Arrives P (lone (b.at ⟨tmps, C.ds⟩ (.code c :: .inLoop c :: k)) cs w) b k cs e a' w' := by
    intro m
    induction m using Nat.strongRecOn with
    | _ m ih =>
      intro tmps w st hI hs
      obtain ⟨e, ⟨t1, d1⟩, w1, ⟨hd, st1, hs1, hq⟩, harr⟩ := hr m st hI tmps w hs b (.inLoop c :: k) cs
      simp only at hd
      subst hd
      cases e with
      | normal =>
        obtain ⟨m', hlt, hI'⟩ := hq
        obtain ⟨e2, a2, w2, hq2, harr2⟩ := ih m' hlt t1 w1 st1 hI' hs1
        exact ⟨e2, a2, w2, hq2, .of_steps (Steps.trans harr (.one step_inLoop)) harr2⟩
      | exit id => exact ⟨_, ⟨t1, C.ds⟩, w1, ⟨rfl, st1, hs1, hq⟩, .pass (x := .inLoop c) rfl (fun _ _ => .inl (by simp)) harr⟩
      | goto l => exact ⟨_, ⟨t1, C.ds⟩, w1, ⟨rfl, st1, hs1, hq⟩, .pass (x := .inLoop c) rfl (fun _ _ => .inl (by simp)) harr⟩
      | ret => exact ⟨_, ⟨t1, C.ds⟩, w1, ⟨rfl, st1, hs1, hq⟩, .pass (x := .inLoop c) rfl (fun _ _ => .inl (by simp)) harr⟩
      | panic ch => exact ⟨_, ⟨t1, C.ds⟩, w1, ⟨rfl, st1, hs1, hq⟩, .pass (x := .inLoop c) rfl (fun _ _ => .inl (by simp)) harr⟩
      | outgrown => exact ⟨_, ⟨t1, C.ds⟩, w1, ⟨rfl, st1, hs1, hq⟩, .pass (x := .inLoop c) rfl (fun _ _ => .inl (by simp)) harr⟩
  obtain ⟨e, a', w', hq, harr⟩ := key m tmps w st h0 hs
  exact ⟨e, a', w', hq, .of_steps (.one step_loop) harr⟩
structure St.le (st st' : St) : Prop where
  f : ∀ t a, look st'.f t = some a → look st.f t = some a
  bx : ∀ g c, ak st'.bx g = some c → ak st.bx g = some c
  lv : ∀ g ∈ st'.lv, g ∈ st.lv
  gen : st'.gen = st.gen
theorem ar.weaken {G : Gh} {tmps : Array Value} {w : World} (hs : ar C n st G tmps w) {st' : St} (h : st.le st') : ar C n st' G tmps w := by
  obtain ⟨hf, hb, hl, hg⟩ := h
  refine { size := hs.size, inj := hs.inj, xold := hs.xold, kold := hs.kold, lent := hs.lent, fr := hs.fr, row := hs.row, mrow := hs.mrow, sub := hs.sub, gcell := hs.gcell, live := fun g hg => hs.live g (hl g hg), frame := ?_, box := ?_, gbox := ?_, gown := ?_ }
  · intro t a ha; rw [hg]; exact hs.frame t a (hf t a ha)
  · intro g c hc; rw [hg]; exact hs.box g c (hb g c hc)
  · intro g b hgb; rw [hg]; exact hs.gbox g b hgb
  · intro g r hr; rw [hg]; exact hs.gown g r hr
theorem W.weaken {c : Code} {st' : St} (h : st.le st') (hw : W P C n c Q st') : W P C n c Q st := fun tmps w ⟨G, hs⟩ => hw tmps w ⟨G, hs.weaken h⟩
theorem WO.weaken {l : List Oper} {st' : St} (h : st.le st') (hw : WO P C n ops Q l st') : WO P C n ops Q l st := fun tmps w ⟨G, hs⟩ => hw tmps w ⟨G, hs.weaken h⟩
end
end Go.Ab
namespace Go.Ab
open Go.RowKit
def conv (bx : List (Nat × List A)) : Nat → A → A
  | 0, _ => .any
  | _ + 1, .d x => .d x
  | _ + 1, .ag l => .ag l
  | _ + 1, .own _ es => .d (.sl es)
  | k + 1, .agg l => gE (l.map (conv bx k))
  | _ + 1, .tup _ => .any
  | _ + 1, .rowd l => .rowd l
  | k + 1, .row l => .row (l.map (conv bx k))
  | k + 1, .ptr g off => match ak bx g with
    | some cells => .row ((cells.drop off).map (conv bx k))
    | none => .any
  | _ + 1, .xs _ _ => .any
  | _ + 1, .xp _ _ _ _ => .any
  | _ + 1, .mp _ _ => .any
  | _ + 1, .mq _ _ => .any
  | _ + 1, .mo _ _ _ _ => .any
  | k + 1, .clo f l => .clo f (l.map (conv bx k))
  | k + 1, .bnd f l => .bnd f (l.map (conv bx k))
  | _ + 1, .ni => .any
  | _ + 1, .fl es => .fl es
  | _ + 1, .bf _ _ _ => .any
  | _ + 1, .np _ _ _ => .any
  | _ + 1, .sb _ _ _ => .any
  | _ + 1, .lk _ _ _ _ => .any
  | _ + 1, .fx _ _ _ => .any
  | _ + 1, .ol _ _ _ _ => .any
  | _ + 1, .ow _ _ _ => .any
  | _ + 1, .any => .any
mutual
def shift (m : Nat) : A → A
  | .own g es => .own (g + m) es
  | .agg l => .agg (iI m l)
  | .tup l => .tup (iI m l)
  | .clo f l => .clo f (iI m l)
  | .bnd f l => .bnd f (iI m l)
  | .ptr _ _ => .any
  | .xs _ _ => .any
  | .xp _ _ _ _ => .any
  | .mp _ _ => .any
  | .mq _ _ => .any
  | .mo _ _ _ _ => .any
  | .row _ => .any
  | .d x => .d x
  | .ag l => .ag l
  | .rowd l => .rowd l
  | .ni => .ni
  | .fl es => .fl es
  | .bf _ _ _ => .any
  | .np _ _ _ => .any
  | .sb _ _ _ => .any
  | .lk _ _ _ _ => .any
  | .fx _ _ _ => .any
  | .ol _ _ _ _ => .any
  | .ow _ _ _ => .any
  | .any => .any
def iI (m : Nat) : List A → List A
  | [] => []
  | a :: l => shift m a :: iI m l
end
mutual
def norm (order : List Nat) : A → A
  | .own g es => if g ∈ order then .own (order.idxOf g) es else .d (.sl es)
  | .agg l => .agg (ek order l)
  | .tup l => .tup (ek order l)
  | .clo f l => .clo f (ek order l)
  | .bnd f l => .bnd f (ek order l)
  | .ptr _ _ => .any
  | .xs _ _ => .any
  | .xp _ _ _ _ => .any
  | .mp _ _ => .any
  | .mq _ _ => .any
  | .mo _ _ _ _ => .any
  | .row _ => .any
  | .d x => .d x
  | .ag l => .ag l
  | .rowd l => .rowd l
  | .ni => .ni
  | .fl es => .fl es
  | .bf _ _ _ => .any
  | .np _ _ _ => .any
  | .sb _ _ _ => .any
  | .lk _ _ _ _ => .any
  | .fx _ _ _ => .any
  | .ol _ _ _ _ => .any
  | .ow _ _ _ => .any
  | .any => .any
def ek (order : List Nat) : List A → List A
  | [] => []
  | a :: l => norm order a :: ek order l
end
mutual
def b4 : A → Bool
  | .own _ _ => false
  | .agg l => iw l
  | .tup l => iw l
  | .clo _ l => iw l
  | .bnd _ l => iw l
  | .ptr _ _ => false
  | .xs _ _ => false
  | .xp _ _ _ _ => false
  | .mp _ _ => false
  | .mq _ _ => false
  | .mo _ _ _ _ => false
  | .row _ => false
  | .d _ => true
  | .ag _ => true
  | .rowd _ => true
  | .ni => true
  | .fl _ => true
  | .bf _ _ _ => false
  | .np _ _ _ => false
  | .sb _ _ _ => false
  | .lk _ _ _ _ => false
  | .fx _ _ _ => false
  | .ol _ _ _ _ => false
  | .ow _ _ _ => false
  | .any => true
def iw : List A → Bool
  | [] => true
  | a :: l => b4 a && iw l
end
theorem fJ (m : Nat) : ∀ l : List A, iI m l = l.map (shift m)
  | [] => rfl
  | a :: l => by simp [iI, fJ m l]
theorem gN (o : List Nat) : ∀ l : List A, ek o l = l.map (norm o)
  | [] => rfl
  | a :: l => by simp [ek, gN o l]
theorem fW : ∀ {l : List A}, iw l = true → ∀ a ∈ l, b4 a = true
  | [], _, a, ha => by cases ha
  | b :: l, h, a, ha => by
    simp only [iw, Bool.and_eq_true] at h
    cases ha with
    | head => exact h.1
    | tail _ ha => exact fW h.2 a ha
theorem aA.shift {E E2 : En} {m : Nat} (hc : ∀ b o u, cellAt E.w b o = some u → ¬ E.pv b o → cellAt E2.w b o = some u ∧ ¬ E2.pv b o) (ho : ∀ g r, g < E.gen → E2.own (g + m) = some r → E.own g = some r)
    (hg : E.gen + m ≤ E2.gen) {v : Value} {a : A} (h : aA E v a) : aA E2 v (shift m a) := by
  induction h with
  | any x => exact .any x
  | ni t x => exact .ni t x
  | fl x es hd hfl => exact .fl x es (hd.mono hc) hfl
  | d hd => exact .d (hd.mono hc)
  | ag vs l hs hd => exact .ag vs l hs (fun i u x h1 h2 => (hd i u x h1 h2).mono hc)
  | own x g es hd hgg hr => exact .own x _ es (hd.mono hc) (by omega) (fun r hr' => hr r (ho g r hgg hr'))
  | agg vs l hs hone _ ih =>
    simp only [Ab.shift, fJ]
    refine .agg vs _ (by simp [hs]) hone (fun i u x hu hx => ?_)
    simp only [List.getElem?_map, Option.map_eq_some_iff] at hx
    obtain ⟨y, hy, rfl⟩ := hx
    exact ih i u y hu hy
  | tup vs l hs _ ih =>
    simp only [Ab.shift, fJ]
    refine .tup vs _ (by simp [hs]) (fun i u x hu hx => ?_)
    simp only [List.getElem?_map, Option.map_eq_some_iff] at hx
    obtain ⟨y, hy, rfl⟩ := hx
    exact ih i u y hu hy
  | rowd b off l u hcc hd => exact .rowd b off l u (fun j hj => hc _ _ _ (hcc j hj).1 (hcc j hj).2) (fun j x hx => (hd j x hx).mono hc)
  | row b off l u hcc _ _ => exact .any _
  | ptr x g off b0 hgg hb0 hp => exact .any _
  | bf => exact .any _
  | np => exact .any _
  | sb => exact .any _
  | lk => exact .any _
  | fx => exact .any _
  | ol => exact .any _
  | ow => exact .any _
  | xs => exact .any _
  | xp => exact .any _
  | mp => exact .any _
  | mq => exact .any _
  | mo => exact .any _
  | clo f vs l hs _ ih =>
    simp only [Ab.shift, fJ]
    refine .clo f vs _ (by simp [hs]) (fun i u x hu hx => ?_)
    simp only [List.getElem?_map, Option.map_eq_some_iff] at hx
    obtain ⟨y, hy, rfl⟩ := hx
    exact ih i u y hu hy
  | bnd f vs l hs _ ih =>
    simp only [Ab.shift, fJ]
    refine .bnd f vs _ (by simp [hs]) (fun i u x hu hx => ?_)
    simp only [List.getElem?_map, Option.map_eq_some_iff] at hx
    obtain ⟨y, hy, rfl⟩ := hx
    exact ih i u y hu hy
theorem aA.clean {E E2 : En} (hc : ∀ b o u, cellAt E.w b o = some u → ¬ E.pv b o → cellAt E2.w b o = some u ∧ ¬ E2.pv b o) {v : Value} {a : A} (h : aA E v a) (ha : b4 a = true) : aA E2 v a := by
  induction h with
  | any x => exact .any x
  | ni t x => exact .ni t x
  | fl x es hd hfl => exact .fl x es (hd.mono hc) hfl
  | d hd => exact .d (hd.mono hc)
  | ag vs l hs hd => exact .ag vs l hs (fun i u x h1 h2 => (hd i u x h1 h2).mono hc)
  | own x g es hd hgg hr => simp [b4] at ha
  | agg vs l hs hone _ ih => exact .agg vs l hs hone (fun i u x hu hx => ih i u x hu hx (fW (by simpa [b4] using ha) x (List.mem_of_getElem? hx)))
  | tup vs l hs _ ih => exact .tup vs l hs (fun i u x hu hx => ih i u x hu hx (fW (by simpa [b4] using ha) x (List.mem_of_getElem? hx)))
  | rowd b off l u hcc hd => exact .rowd b off l u (fun j hj => hc _ _ _ (hcc j hj).1 (hcc j hj).2) (fun j x hx => (hd j x hx).mono hc)
  | row b off l u hcc _ _ => simp [b4] at ha
  | ptr x g off b0 hgg hb0 hp => simp [b4] at ha
  | xs => simp [b4] at ha
  | bf => simp [b4] at ha
  | np => simp [b4] at ha
  | sb => simp [b4] at ha
  | lk => simp [b4] at ha
  | fx => simp [b4] at ha
  | ol => simp [b4] at ha
  | ow => simp [b4] at ha
  | xp => simp [b4] at ha
  | mp => simp [b4] at ha
  | mq => simp [b4] at ha
  | mo => simp [b4] at ha
  | clo f vs l hs _ ih => exact .clo f vs l hs (fun i u x hu hx => ih i u x hu hx (fW (by simpa [b4] using ha) x (List.mem_of_getElem? hx)))
  | bnd f vs l hs _ ih => exact .bnd f vs l hs (fun i u x hu hx => ih i u x hu hx (fW (by simpa [b4] using ha) x (List.mem_of_getElem? hx)))
theorem eS {order : List Nat} {g : Nat} (h : g ∈ order) : order.idxOf g < order.length := List.idxOf_lt_length_iff.2 h
theorem aA.norm {E E2 : En} {order : List Nat} (hc : ∀ b o u, cellAt E.w b o = some u → ¬ E.pv b o → cellAt E2.w b o = some u ∧ ¬ E2.pv b o)
    (ho : ∀ g r, g ∈ order → E2.own (order.idxOf g) = some r → E.own g = some r) (hg : order.length ≤ E2.gen) {v : Value} {a : A} (h : aA E v a) : aA E2 v (norm order a) := by
  induction h with
  | any x => exact .any x
  | ni t x => exact .ni t x
  | fl x es hd hfl => exact .fl x es (hd.mono hc) hfl
  | d hd => exact .d (hd.mono hc)
  | ag vs l hs hd => exact .ag vs l hs (fun i u x h1 h2 => (hd i u x h1 h2).mono hc)
  | own x g es hd hgg hr =>
    simp only [Ab.norm]
    split
    · rename_i hm
      exact .own x _ es (hd.mono hc) (Nat.lt_of_lt_of_le (eS hm) hg) (fun r hr' => hr r (ho g r hm hr'))
    · exact .d (hd.mono hc)
  | agg vs l hs hone _ ih =>
    simp only [Ab.norm, gN]
    refine .agg vs _ (by simp [hs]) hone (fun i u x hu hx => ?_)
    simp only [List.getElem?_map, Option.map_eq_some_iff] at hx
    obtain ⟨y, hy, rfl⟩ := hx
    exact ih i u y hu hy
  | tup vs l hs _ ih =>
    simp only [Ab.norm, gN]
    refine .tup vs _ (by simp [hs]) (fun i u x hu hx => ?_)
    simp only [List.getElem?_map, Option.map_eq_some_iff] at hx
    obtain ⟨y, hy, rfl⟩ := hx
    exact ih i u y hu hy
  | rowd b off l u hcc hd => exact .rowd b off l u (fun j hj => hc _ _ _ (hcc j hj).1 (hcc j hj).2) (fun j x hx => (hd j x hx).mono hc)
  | row b off l u hcc _ _ => exact .any _
  | ptr x g off b0 hgg hb0 hp => exact .any _
  | bf => exact .any _
  | np => exact .any _
  | sb => exact .any _
  | lk => exact .any _
  | fx => exact .any _
  | ol => exact .any _
  | ow => exact .any _
  | xs => exact .any _
  | xp => exact .any _
  | mp => exact .any _
  | mq => exact .any _
  | mo => exact .any _
  | clo f vs l hs _ ih =>
    simp only [Ab.norm, gN]
    refine .clo f vs _ (by simp [hs]) (fun i u x hu hx => ?_)
    simp only [List.getElem?_map, Option.map_eq_some_iff] at hx
    obtain ⟨y, hy, rfl⟩ := hx
    exact ih i u y hu hy
  | bnd f vs l hs _ ih =>
    simp only [Ab.norm, gN]
    refine .bnd f vs _ (by simp [hs]) (fun i u x hu hx => ?_)
    simp only [List.getElem?_map, Option.map_eq_some_iff] at hx
    obtain ⟨y, hy, rfl⟩ := hx
    exact ih i u y hu hy
def G0 : Gh := ⟨fun _ => none, fun _ => none⟩
theorem nM (C : Ctx) (b o : Nat) : aN C G0 b o ↔ C.x b o := by simp [aN, G0]
def Ctx.pure (C : Ctx) : Prop := (∀ b, ¬ C.fp b) ∧ (∀ b o, ¬ C.keep b o) ∧ C.bx = [] ∧ C.ds = []
class NB (C : Ctx) (nb : outParam Nat) : Prop where
  h : C.bx.length = nb
class Met (P : Program) where
  met : World → Prop
class GC (P : Program) [Met P] (C : Ctx) : Prop where
  h : ∃ W : World, (W.ShapedOpen P ∧ Met.met P W) ∧ W.heap.size ≤ C.w0.heap.size ∧ ∀ b, b < W.heap.size → C.w0.heap[b]? = W.heap[b]? ∧ ¬ C.fp b
def eH (C : Ctx) (G : Gh) (w : World) : Ctx := { w0 := w, fp := fun _ => False, x := aN C G }
theorem aA.conv {C : Ctx} {n : Nat} {st : St} {G : Gh} {tmps : Array Value} {w : World} (h : ar C n st G tmps w) :
    ∀ (k : Nat) (v : Value) (a : A), aA (ao C G st.gen w) v a → aA (ao (eH C G w) G0 0 w) v (conv st.bx k a) := by
  have hc : ∀ b o u, cellAt w b o = some u → ¬ aN C G b o → cellAt w b o = some u ∧ ¬ aN (eH C G w) G0 b o := fun b o u h1 h2 => ⟨h1, fun hp => h2 ((nM _ b o).1 hp)⟩
  intro k
  induction k with
  | zero => intro v a _; exact .any v
  | succ k ih =>
    intro v a hr
    have lst : ∀ (l : List A) (vs : Array Value), (∀ (i : Nat) (u : Value) (x : A), vs[i]? = some u → l[i]? = some x → aA (ao C G st.gen w) u x) →
        ∀ (i : Nat) (u : Value) (x : A), vs[i]? = some u → (l.map (Ab.conv st.bx k))[i]? = some x → aA (ao (eH C G w) G0 0 w) u x := by
      intro l vs hl i u x hu hx
      simp only [List.getElem?_map, Option.map_eq_some_iff] at hx
      obtain ⟨y, hy, rfl⟩ := hx
      exact ih u y (hl i u y hu hy)
    cases hr with
    | any => exact .any _
    | ni => exact .any _
    | fl _ es hd hfl => exact .fl _ es (hd.mono hc) hfl
    | d hd => exact .d (hd.mono hc)
    | ag vs l hs hd => exact .ag vs l hs (fun i u x h1 h2 => (hd i u x h1 h2).mono hc)
    | own _ g es hd _ _ => exact .d (hd.mono hc)
    | agg vs l hs hone hd => exact gQ (by simp [hs]) hone (lst l vs hd)
    | tup vs l hs hd => exact .any _
    | rowd b off l u hcc hd => exact .rowd b off l u (fun j hj => hc _ _ _ (hcc j hj).1 (hcc j hj).2) (fun j x hx => (hd j x hx).mono hc)
    | row b off l u hcc hd =>
      refine .row b off _ u (fun j hj => ?_) (fun j x hx => ?_)
      · have := hcc j (by simpa using hj)
        exact ⟨this.1, ⟨cv this.1, fun h => h⟩, this.2.2⟩
      · simp only [List.getElem?_map, Option.map_eq_some_iff] at hx
        obtain ⟨y, hy, rfl⟩ := hx
        exact ih _ y (hd j y hy)
    | xs => exact .any _
    | bf => exact .any _
    | np => exact .any _
    | sb => exact .any _
    | lk => exact .any _
    | fx => exact .any _
    | ol => exact .any _
    | ow => exact .any _
    | xp => exact .any _
    | mp => exact .any _
    | mq => exact .any _
    | mo => exact .any _
    | ptr _ g off b0 hg hb0 hx0 =>
      have hp := mD hb0 hx0
      simp only [Ab.conv]
      split
      · rename_i cells hb
        obtain ⟨b, cs, T', h1, h2, h3, h4, h5⟩ := h.box g cells hb
        rw [hp b h1]
        refine .row b off _ (fun j => cs[off + j]?.getD default) (fun j hj => ?_) (fun j x hx => ?_)
        · have hj' : off + j < cs.size := by simp at hj; omega
          have e : cs[off + j]? = some cs[off + j] := by simp [hj']
          exact ⟨by show cellAt w b (off + j) = _; rw [bj h2, e]; rfl, ⟨(Array.getElem?_eq_some_iff.1 h2).1, fun h => h⟩, by rw [e]; exact h4 _ _ e⟩
        · simp only [List.getElem?_map, Option.map_eq_some_iff] at hx
          obtain ⟨y, hy, rfl⟩ := hx
          have hy' : cells[off + j]? = some y := by simpa using hy
          have hj' : off + j < cs.size := by rw [h3]; exact (List.getElem?_eq_some_iff.1 hy').1
          have e : cs[off + j]? = some cs[off + j] := by simp [hj']
          rw [e]
          exact ih _ y (h5 _ _ _ e hy')
      · exact .any _
    | clo f vs l hs hd => exact .clo f vs _ (by simp [hs]) (lst l vs hd)
    | bnd f vs l hs hd => exact .bnd f vs _ (by simp [hs]) (lst l vs hd)
def kM (P : Program) (f : FuncId) : Prop := ∃ fn, P.funcs[f]? = some fn ∧ (fn.name == "runtime.NumGoroutine") = false ∧ fn.body.isNone = false
structure ax (P : Program) [Met P] (f : FuncId) (args : List A) (r : A) (k : Nat) : Prop where
  ok : kM P f
  calls : ∀ (C : Ctx) (vals : Array Value) (w : World), GC P C → C.w0 = w → C.pure → (∀ b o, C.x b o → b < w.heap.size) → vals.size = args.length →
    (∀ (i : Nat) (u : Value) (a : A), vals[i]? = some u → args[i]? = some a → aA (ao C G0 0 w) u a) →
    Calls P f vals w fun e w' => ∃ v G', e = .returned v ∧ ar C 0 ⟨[], [], List.range k, k⟩ G' #[] w' ∧ aA (ao C G' k w') v r
section
variable {P : Program} {C : Ctx} {n : Nat} {ops : Array Oper} {Q : Exit → St → Prop} {st : St} {o : Oper} {rest : List Oper}
theorem GC.at_ [Met P] [hC : GC P C] {w : World} (hf : Fr C w) : ∃ W : World, (W.ShapedOpen P ∧ Met.met P W) ∧ W.heap.size ≤ w.heap.size ∧ ∀ b, b < W.heap.size → w.heap[b]? = W.heap[b]? := by
  obtain ⟨W, h1, h2, h3⟩ := hC.h
  exact ⟨W, h1, Nat.le_trans h2 hf.size, fun b hb => (hf.block b (Nat.lt_of_lt_of_le hb h2) (h3 b hb).2).trans (h3 b hb).1⟩
theorem GC.xV [Met P] [GC P C] {G : Gh} {w : World} (hf : Fr C w) : GC P (eH C G w) := by
  obtain ⟨W, h1, h2, h3⟩ := GC.at_ (P := P) hf
  exact ⟨W, h1, h2, fun b hb => ⟨h3 b hb, fun h => h⟩⟩
theorem mB [Met P] [GC P C] {G : Gh} {tmps : Array Value} {w : World} (hs : ar C n st G tmps w) {x : Operand} {xs : Array Operand} {tys : Array TypeId} (ho : o.op = .call ⟨.value x, xs, tys⟩) {fid : FuncId} {caps as' : List A}
    (hx : av st.f x = some (.clo fid caps)) (hxs : iH st.f xs.toList = some as') {r : A} {k : Nat} (hf : ax P fid ((as' ++ caps).map (conv st.bx 5)) r k) :
    cG P o ⟨tmps, []⟩ w fun v w' => ∃ G', ar (eH C G w) 0 ⟨[], [], List.range k, k⟩ G' #[] w' ∧ aA (ao (eH C G w) G' k w') v r := by
  obtain ⟨fn, hfn, hname, hbody⟩ := hf.ok
  have hr := hs.av hx
  generalize hv : Act.eval ⟨tmps, []⟩ x = v at hr
  cases hr with
  | clo _ vs _ hsz hd =>
  obtain ⟨h1, h2⟩ := gd hs xs.toList as' hxs
  have hrun : (execOp (Act.eval ⟨tmps, []⟩) o).run P w = .ok (.enter fid (xs.map (Act.eval ⟨tmps, []⟩) ++ vs)) w := by
    unfold execOp
    rw [ho]
    show Sem.run P (do let d ← resolve (Act.eval ⟨tmps, []⟩) ⟨.value x, xs, tys⟩ o.type; invoke d.target d.args) w = _
    simp only [resolve, hv, Deferred.ofValue, Sem.run_bind, Sem.run_pure, Result.andThen_ok, invoke, callFunc, run_program, hfn, hname, hbody, Bool.false_eq_true, if_false, Array.empty_append]
  unfold cG
  have hrun' : (execOp (Act.eval { tmps := tmps, defers := [] }) o).run P w = .ok (.enter fid (xs.map (Act.eval ⟨tmps, []⟩) ++ vs)) w := hrun
  rw [hrun']
  refine (hf.calls (eH C G w) _ w (GC.xV hs.fr) rfl ⟨fun _ h => h, fun _ _ h => h, rfl, rfl⟩ (fun b o h => pW hs h) (by simp at h1; simp [hsz, h1]) (fun i u a hu ha => ?_)).mono fun e w' ⟨v, G', he, h3, h4⟩ => ⟨v, he, G', h3, h4⟩
  simp only [List.getElem?_map, Option.map_eq_some_iff] at ha
  obtain ⟨y, hy, rfl⟩ := ha
  refine aA.conv hs 5 u y ?_
  simp only [Array.getElem?_append] at hu
  split at hu
  · rename_i hlt
    simp only [Array.size_map] at hlt
    have hlt' : i < as'.length := by simp at h1; omega
    rw [List.getElem?_append_left hlt'] at hy
    obtain ⟨z, hz, hzr⟩ := h2 i y hy
    simp only [Array.getElem?_map, Option.map_eq_some_iff] at hu
    obtain ⟨z', hz', rfl⟩ := hu
    have : z = z' := by simp at hz; rw [hz'] at hz; exact (Option.some.inj hz).symm
    subst this
    exact hzr
  · rename_i hge
    simp only [Array.size_map] at hge hu
    have hge' : as'.length ≤ i := by simp at h1; omega
    rw [List.getElem?_append_right hge'] at hy
    refine hd (i - xs.size) u y hu ?_
    have : xs.size = as'.length := by simpa using h1
    rw [this]
    exact hy
theorem Fr.toBelow {G : Gh} {w w' : World} (h : Fr (eH C G w) w') : Below w.heap.size w w' := ⟨h.os, h.tape, h.output, h.size, fun b hb => h.block b hb (fun h => h)⟩
theorem Pu.call [Met P] [GC P C] {x : Operand} {xs : Array Operand} {tys : Array TypeId} (ho : o.op = .call ⟨.value x, xs, tys⟩) {fid : FuncId} {caps as' : List A} (hx : av st.f x = some (.clo fid caps)) (hxs : iH st.f xs.toList = some as')
    {r : A} (hf : ax P fid ((as' ++ caps).map (conv st.bx 5)) r 0) (hr : b4 r = true) : Pu P C n st o r := by
  intro G tmps w hs
  refine (mB hs ho hx hxs hf).mono fun v w' ⟨G', h1, h2⟩ => ⟨h1.fr.toBelow, aA.clean (E := ao (eH C G w) G' 0 w') (E2 := ao C G st.gen w') (fun b o u hu hn => ⟨hu, fun hp => hn (Or.inl hp : aN (eH C G w) G' b o)⟩) h2 hr⟩
theorem WO.call [Met P] [GC P C] (hg : o.guard = none) (hd : cZ n o.dst = true) {x : Operand} {xs : Array Operand} {tys : Array TypeId} (ho : o.op = .call ⟨.value x, xs, tys⟩) {fid : FuncId} {caps as' : List A} (hx : av st.f x = some (.clo fid caps))
    (hxs : iH st.f xs.toList = some as') {r : A} {k : Nat} (hf : ax P fid ((as' ++ caps).map (conv st.bx 5)) r k)
    (h : WO P C n ops Q rest (St.put { st with lv := (List.range k).map (· + st.gen) ++ st.lv, gen := st.gen + k } o.dst (shift st.gen r))) : WO P C n ops Q (o :: rest) st := by
  refine WO.step hg fun tmps w ⟨G, hs⟩ => (mB hs ho hx hxs hf).mono fun v w' ⟨G', h1, h2⟩ => ?_
  obtain ⟨hle, hs'⟩ := hs.grow h1.fr.toBelow (fun g => if g < st.gen then G.own g else G'.own (g - st.gen)) (st.gen + k) ((List.range k).map (· + st.gen) ++ st.lv) (Nat.le_add_right _ _)
    (fun g r hg hr => by simpa [hg] using hr)
    (fun g r hr => by
      split at hr
      · omega
      · have := h1.gown _ _ hr; simp only at this; omega)
    (fun g hg => by
      rcases List.mem_append.1 hg with hg | hg
      · simp only [List.mem_map, List.mem_range] at hg
        obtain ⟨j, hj, rfl⟩ := hg
        obtain ⟨r, hr⟩ := h1.live j (by simpa using hj)
        exact ⟨r, by rw [if_neg (by omega), Nat.add_sub_cancel]; exact hr⟩
      · obtain ⟨r, hr⟩ := hs.live g hg
        exact ⟨r, by rw [if_pos (hs.gown g r hr)]; exact hr⟩)
    (fun g b len cap sz pub hg hr => by
      simp only [if_neg (Nat.not_lt.2 hg)] at hr
      obtain ⟨h3, h4, h5, h6⟩ := h1.row _ _ _ _ _ _ hr
      refine ⟨h3.1.resolve_right (fun h => h), fun g' len' cap' sz' pub' hr' => ?_, h6⟩
      split at hr'
      · obtain ⟨_, _, _, cur, T', h7, _⟩ := hs.row _ _ _ _ _ _ hr'
        have := (Array.getElem?_eq_some_iff.1 h7).1
        have := h3.1.resolve_right (fun h => h)
        simp only [eH] at this
        omega
      · have := h5 _ _ _ _ _ hr'
        omega)
    (fun g b bs hg hr => by
      simp only [if_neg (Nat.not_lt.2 hg)] at hr
      obtain ⟨h3, _, h5, h6⟩ := h1.mrow _ _ _ hr
      refine ⟨h3.1.resolve_right (fun h => h), fun g' bs' hr' => ?_, h6⟩
      split at hr'
      · obtain ⟨_, _, _, me, clock, h7⟩ := hs.mrow _ _ _ hr'
        have := (Array.getElem?_eq_some_iff.1 h7).1
        have := h3.1.resolve_right (fun h => h)
        simp only [eH] at this
        omega
      · have := h5 _ _ hr'
        omega)
    (fun g b bs c lim hg hr hm => by
      simp only [if_neg (Nat.not_lt.2 hg)] at hr
      obtain ⟨h3, _, h4, h5, h6⟩ := h1.sub _ _ _ _ _ hr hm
      have hsz := h3.1.resolve_right (fun h => h)
      simp only [eH] at hsz
      refine ⟨hsz, fun g' len' cap' sz' pub' hr' => ?_, fun g' b' bs' lim' hr' hm' => ?_, h6⟩
      · split at hr'
        · obtain ⟨_, _, _, cur, T', h7, _⟩ := hs.row _ _ _ _ _ _ hr'
          have := (Array.getElem?_eq_some_iff.1 h7).1
          omega
        · exact h4 _ _ _ _ _ hr'
      · split at hr'
        · have := (hs.tO hr').2 _ hm'
          simp only at this
          omega
        · have := h5 _ _ _ _ hr' hm'
          omega)
  refine ⟨_, ⟨_, hs'.put (bL hd) (aA.shift (m := st.gen) (E := ao (eH C G w) G' k w') (E2 := ao C ⟨G.box, fun g => if g < st.gen then G.own g else G'.own (g - st.gen)⟩ (st.gen + k) w') (fun b o u hu hn => ⟨hu, fun hp => hn ?_⟩) (fun g r hg hr => ?_) (by simp [ao]; omega) h2)⟩, h⟩
  · rcases hp with hp | hp | ⟨g, len, cap, sz, pub, hp, hl⟩ | ⟨g, b', bs, lim, hp, hm, hl⟩
    · exact Or.inl (Or.inl hp)
    · exact Or.inl (Or.inr (Or.inl hp))
    · simp only at hp
      split at hp
      · exact Or.inl (Or.inr (Or.inr (.inl ⟨g, len, cap, sz, pub, hp, hl⟩)))
      · exact Or.inr (Or.inr (.inl ⟨_, len, cap, sz, pub, hp, hl⟩))
    · simp only at hp
      split at hp
      · exact Or.inl (Or.inr (Or.inr (.inr ⟨g, b', bs, lim, hp, hm, hl⟩)))
      · exact Or.inr (Or.inr (.inr ⟨_, b', bs, lim, hp, hm, hl⟩))
  · have hr' : (if g + st.gen < st.gen then G.own (g + st.gen) else G'.own (g + st.gen - st.gen)) = some r := hr
    rw [if_neg (by omega), Nat.add_sub_cancel] at hr'
    exact hr'
end
end Go.Ab
namespace Go.Ab
open Go.RowKit
def cellsOf (bx : List (Nat × List A)) : A → Option (List A)
  | .d x => some [.d x]
  | .ag l => some (l.map .d)
  | .own g es => some [.own g es]
  | .agg l => some l
  | .rowd l => some [.rowd l]
  | .row l => some [.row l]
  | .clo f l => some [.clo f l]
  | .bnd f l => some [.bnd f l]
  | .xs g es => some [.xs g es]
  | .xp g i off l => some [.xp g i off l]
  | .mp g es => some [.mp g es]
  | .mq g es => some [.mq g es]
  | .mo g es h ob => some [.mo g es h ob]
  | .ni => some [.ni]
  | .fl es => some [.fl es]
  | .bf g T s => some [.bf g T s]
  | .np g T u => some [.np g T u]
  | .sb g n c => some [.sb g n c]
  | .ol g E h es => some [.ol g E h es]
  | .ptr g off => match ak bx g with | some _ => some [.ptr g off] | none => none
  | _ => none
def bJ (E : En) (cs : Array Value) (l : List A) : Prop :=
  cs.size = l.length ∧ (∀ (i : Nat) (u : Value), cs[i]? = some u → u.oneCell' = true) ∧ ∀ (i : Nat) (u : Value) (a : A), cs[i]? = some u → l[i]? = some a → aA E u a
theorem bJ.one {E : En} {v : Value} {a : A} (hv : v.oneCell' = true) (hr : aA E v a) : bJ E v.cells [a] := by
  have e : v.cells = #[v] := by cases v <;> simp_all [Value.cells, Value.oneCell']
  rw [e]
  refine ⟨rfl, fun i u hu => ?_, fun i u x hu hx => ?_⟩
  · cases i with
    | zero => simp at hu; rw [← hu]; exact hv
    | succ i => simp at hu
  · cases i with
    | zero => simp at hu hx; rw [← hu, ← hx]; exact hr
    | succ i => simp at hu
section
variable {C : Ctx} {n : Nat} {st : St} {G : Gh} {tmps : Array Value} {w : World}
theorem ji (h : ar C n st G tmps w) {v : Value} {a : A} {l : List A} (hc : cellsOf st.bx a = some l) (hr : aA (ao C G st.gen w) v a) : bJ (ao C G st.gen w) v.cells l := by
  cases hr with
  | any => simp [cellsOf] at hc
  | ni t x => simp only [cellsOf, Option.some.injEq] at hc; subst hc; exact bJ.one rfl (.ni t x)
  | bf _ g T s hg h1 hx => simp only [cellsOf, Option.some.injEq] at hc; subst hc; exact bJ.one h1 (.bf _ g T s hg h1 hx)
  | np _ g T b hg hb hT u hx => simp only [cellsOf, Option.some.injEq] at hc; subst hc; exact bJ.one (by rw [hx]; rfl) (.np _ g T b hg hb hT u hx)
  | sb _ g n c b hg hb hn hx => simp only [cellsOf, Option.some.injEq] at hc; subst hc; exact bJ.one (by rw [hx]; rfl) (.sb _ g n c b hg hb hn hx)
  | lk => simp [cellsOf] at hc
  | ow => simp [cellsOf] at hc
  | fx => simp [cellsOf] at hc
  | ol _ u g' E' g es hx hg' hr' hg hu => simp only [cellsOf, Option.some.injEq] at hc; subst hc; exact bJ.one hx.one (.ol _ u g' E' g es hx hg' hr' hg hu)
  | fl _ es hd hfl => simp only [cellsOf, Option.some.injEq] at hc; subst hc; exact bJ.one hd.one (.fl _ es hd hfl)
  | d hd => simp only [cellsOf, Option.some.injEq] at hc; subst hc; exact bJ.one hd.one (.d hd)
  | ag vs l' hs hd =>
    simp only [cellsOf, Option.some.injEq] at hc; subst hc
    refine ⟨by simp [Value.cells, hs], fun i u hu => ?_, fun i u x hu hx => ?_⟩
    · have hi : i < l'.length := by rw [← hs]; exact (Array.getElem?_eq_some_iff.1 hu).1
      exact (hd i u l'[i] hu (by simp [hi])).one
    · simp only [List.getElem?_map, Option.map_eq_some_iff] at hx
      obtain ⟨y, hy, rfl⟩ := hx
      exact .d (hd i u y hu hy)
  | own _ g es hd hg hx => simp only [cellsOf, Option.some.injEq] at hc; subst hc; exact bJ.one hd.one (.own _ g es hd hg hx)
  | agg vs l' hs hone hd => simp only [cellsOf, Option.some.injEq] at hc; subst hc; exact ⟨hs, hone, hd⟩
  | tup => simp [cellsOf] at hc
  | rowd b off l' u hcc hd => simp only [cellsOf, Option.some.injEq] at hc; subst hc; exact bJ.one rfl (.rowd b off l' u hcc hd)
  | row b off l' u hcc hd => simp only [cellsOf, Option.some.injEq] at hc; subst hc; exact bJ.one rfl (.row b off l' u hcc hd)
  | ptr _ g off b0 hg hb0 hp =>
    simp only [cellsOf] at hc
    split at hc
    · rename_i cells hb
      simp only [Option.some.injEq] at hc
      subst hc
      exact bJ.one (by rw [hp]; rfl) (.ptr _ g off b0 hg hb0 hp)
    · cases hc
  | xs _ g es hg h1 hx => simp only [cellsOf, Option.some.injEq] at hc; subst hc; exact bJ.one h1 (.xs _ g es hg h1 hx)
  | xp _ g i off l hg h1 hx => simp only [cellsOf, Option.some.injEq] at hc; subst hc; exact bJ.one h1 (.xp _ g i off l hg h1 hx)
  | mp _ g es hg h1 hx => simp only [cellsOf, Option.some.injEq] at hc; subst hc; exact bJ.one h1 (.mp _ g es hg h1 hx)
  | mq _ g es hg h1 hx => simp only [cellsOf, Option.some.injEq] at hc; subst hc; exact bJ.one h1 (.mq _ g es hg h1 hx)
  | mo _ g es hole ob hg h1 hx => simp only [cellsOf, Option.some.injEq] at hc; subst hc; exact bJ.one h1.1 (.mo _ g es hole ob hg h1 hx)
  | clo f vs l' hs hd => simp only [cellsOf, Option.some.injEq] at hc; subst hc; exact bJ.one rfl (.clo f vs l' hs hd)
  | bnd f vs l' hs hd => simp only [cellsOf, Option.some.injEq] at hc; subst hc; exact bJ.one rfl (.bnd f vs l' hs hd)
theorem ar.store (h : ar C n st G tmps w) {g b : Nat} {cs cs' : Array Value} {T : TypeId} {cells cells' : List A} (hb : ak st.bx g = some cells) (hg : G.box g = some b) (hw : w.heap[b]? = some (.cells cs T (0, 0)))
    (hr : bJ (ao C G st.gen w) cs' cells') : ar C n { st with bx := (g, cells') :: st.bx } G tmps (w.setRow b cs') := by
  have hb' : w.heap[b]? ≠ none := by rw [hw]; simp
  have hm := (h.gbox g b hg).2.2
  have hfr : Fr C (w.setRow b cs') := ⟨h.fr.os, h.fr.tape, h.fr.output, by rw [size_setRow]; exact h.fr.size, fun b' h1 h2 => by
    rw [setRow_other w b b' cs' (fun e => by subst e; exact hm.1.elim (fun hm => by omega) h2)]; exact h.fr.block b' h1 h2, fun b' o u hk hu => by
    rw [bp (setRow_other w b b' cs' (fun e => by subst e; exact absurd (hm.2 o hk) (Nat.not_lt_zero _)))]; exact h.fr.cells b' o u hk hu, h.fr.ty.trans (.setRow w b cs')⟩
  have hle : (ao C G st.gen w).le (ao C G st.gen (w.setRow b cs')) := by
    refine gf h.fr hfr (fun b' o u hu hn => ⟨?_, hn⟩) (fun _ _ h => h) (fun _ _ _ h => h) (Nat.le_refl _) (fun g' b' len cap sz pub _ hr => ?_) (fun g' b' bs _ hr => ⟨?_, fun p hp => ?_⟩) (.setRow w b cs')
    · have : b' ≠ b := fun e => hn (.inr (.inl ⟨g, by rw [e]; exact hg⟩))
      rw [bp (setRow_other w b b' cs' this)]
      exact hu
    · have : b' ≠ b := fun e => (h.row g' b' len cap sz pub hr).2.1 g (by rw [e]; exact hg)
      exact setRow_other w b b' cs' this
    · obtain ⟨_, _, _, me, clock, h3⟩ := h.mrow g' b' bs hr
      exact setRow_other w b b' cs' (fun e => by rw [e, hw] at h3; cases h3)
    · have : p.1 ≠ b := fun e => (h.sub g' b' bs p.1 p.2 hr hp).2.1 g (by rw [e]; exact hg)
      exact setRow_other w b p.1 cs' this
  refine { size := h.size, frame := h.ck hle, inj := h.inj, xold := h.xold, kold := h.kold, lent := h.lent, fr := hfr, live := h.live, gown := h.gown, box := ?_, gbox := ?_, gcell := fun g' b' hb' => jn (.setRow w b cs') (h.gcell g' b' hb'), row := ?_, mrow := ?_, sub := ?_ }
  · intro g' c' hc'
    simp only [bt] at hc'
    split at hc'
    · rename_i e
      subst e
      simp only [Option.some.injEq] at hc'
      subst hc'
      exact ⟨b, cs', T, hg, setRow_heap w b cs cs' T (0, 0) hw, hr.1, hr.2.1, fun i u a hu ha => (hr.2.2 i u a hu ha).mono hle⟩
    · rename_i e
      obtain ⟨b', cs2, T', h1, h2, h3, h4, h5⟩ := h.box g' c' hc'
      have hne : b' ≠ b := fun e' => e (h.inj g g' b hg (by rw [← e']; exact h1))
      exact ⟨b', cs2, T', h1, by rw [setRow_other w b b' cs' hne]; exact h2, h3, h4, fun i u a hu ha => (h5 i u a hu ha).mono hle⟩
  · intro g' b' hgb
    obtain ⟨h1, h2, h3⟩ := h.gbox g' b' hgb
    exact ⟨h1, by rw [size_setRow]; exact h2, h3⟩
  · intro g' b' len cap sz pub hgb
    obtain ⟨h1, h2, h3, cur, T', h4, h5⟩ := h.row g' b' len cap sz pub hgb
    have hne : b' ≠ b := fun e => h2 g (by rw [e]; exact hg)
    exact ⟨h1, h2, h3, cur, T', by rw [setRow_other w b b' cs' hne]; exact h4, h5⟩
  · intro g' b' bs hr
    obtain ⟨h1, h1b, h2, me, clock, h3⟩ := h.mrow g' b' bs hr
    exact ⟨h1, h1b, h2, me, clock, by rw [setRow_other w b b' cs' (fun e => by rw [e, hw] at h3; cases h3)]; exact h3⟩
  · intro g' b' bs c lim hr hm
    obtain ⟨h1, h2, h3, h4, cur, T', h5, h6⟩ := h.sub g' b' bs c lim hr hm
    have hne : c ≠ b := fun e => h2 g (by rw [e]; exact hg)
    exact ⟨h1, h2, h3, h4, cur, T', by rw [setRow_other w b c cs' hne]; exact h5, h6⟩
end
section
variable {P : Program} (T : bm P) {C : Ctx} {n : Nat} {ops : Array Oper} {Q : Exit → St → Prop} {st : St} {o : Oper} {rest : List Oper}
theorem cd {act : Act} {w w' : World} {v : Value} {R : Value → World → Prop} (h : (execOp act.eval o).run P w = .ok (.value v) w') (hR : R v w') : cG P o act w R := by
  unfold cG; rw [h]; exact hR
theorem fN {act : Act} {w w' : World} {R : Value → World → Prop} (h : (execOp act.eval o).run P w = .ok .skip w') (hR : R undef w') : cG P o act w R := by
  unfold cG; rw [h]; exact hR
theorem WO.box (hg : o.guard = none) (hd : cZ n o.dst = true) {e : TypeId} {x : Operand} (ho : o.op = .box e x) {a : A} (ha : av st.f x = some a) {cells : List A} (hc : cellsOf st.bx a = some cells)
    (h : WO P C n ops Q rest (St.put { st with bx := (st.gen, cells) :: st.bx, gen := st.gen + 1 } o.dst (.ptr st.gen 0))) : WO P C n ops Q (o :: rest) st := by
  refine WO.step hg fun tmps w ⟨G, hs⟩ => ?_
  obtain ⟨h1, h2, h3⟩ := ji hs hc (hs.av ha)
  obtain ⟨G', hle, hs', hr⟩ := hs.wN (Act.eval ⟨tmps, []⟩ x).cells e cells h1 h2 h3
  refine cd (v := .pointer (some ⟨w.heap.size, 0, none⟩)) (w' := w.alloc (.cells (Act.eval ⟨tmps, []⟩ x).cells e)) ?_ ⟨_, ⟨G', hs'.put (bL hd) hr⟩, h⟩
  unfold execOp
  rw [ho]
  show Sem.run P _ w = _
  simp only [Instr.box, newVar, newRow, Sem.run_bind, run_newObj, Result.andThen_ok, Sem.run_pure]
  rfl
theorem WO.alloc (hg : o.guard = none) (hd : cZ n o.dst = true) {e : TypeId} (ho : o.op = .alloc e) {d : bo} (he : ak T.l e = some d)
    (h : WO P C n ops Q rest (St.put { st with bx := (st.gen, d.z.map fun v => .d (.v v)) :: st.bx, gen := st.gen + 1 } o.dst (.ptr st.gen 0))) : WO P C n ops Q (o :: rest) st := by
  refine WO.step hg fun tmps w ⟨G, hs⟩ => ?_
  obtain ⟨i, z, hi, _, _, hz, hzc, hzl, hzk, _⟩ := T.info he
  have hall : ∀ (i : Nat) (u : Value), z.cells[i]? = some u → bK u = true := fun i u hu => by
    have : u ∈ d.z := by rw [← hzc, List.mem_iff_getElem?]; exact ⟨i, by simpa using hu⟩
    exact List.all_eq_true.1 hzk u this
  obtain ⟨G', hle, hs', hr⟩ := hs.wN z.cells e (d.z.map fun v => .d (.v v)) (by rw [List.length_map, ← hzc]; simp) (fun i u hu => jB (hall i u hu)) (fun i u a hu ha => by
    simp only [List.getElem?_map, Option.map_eq_some_iff] at ha
    obtain ⟨y, hy, rfl⟩ := ha
    rw [← hzc] at hy
    have : y = u := by simp at hy; rw [hu] at hy; exact (Option.some.inj hy).symm
    subst this
    exact .d (.v _ (hall i y hu)))
  refine cd (v := .pointer (some ⟨w.heap.size, 0, none⟩)) (w' := w.alloc (.cells z.cells e)) ?_ ⟨_, ⟨G', hs'.put (bL hd) hr⟩, h⟩
  unfold execOp
  rw [ho]
  show Sem.run P _ w = _
  simp only [Instr.alloc, zeroValue, typeInfo, hi, hz, newVar, newRow, Sem.run_bind, run_program, run_newObj, Result.andThen_ok, Sem.run_pure]
  rfl
def setAt (l : List A) (off : Nat) (cs : List A) : List A := l.take off ++ cs ++ l.drop (off + cs.length)
theorem bJ.setAt {E : En} {cur cs : Array Value} {l cl : List A} {off : Nat} (h : bJ E cur l) (hc : bJ E cs cl) (hle : off + cl.length ≤ l.length) :
    bJ E (cur.toList.take off ++ cs.toList ++ cur.toList.drop (off + cs.toList.length)).toArray (setAt l off cl) := by
  have e1 : cs.toList.length = cl.length := by simpa using hc.1
  have e2 : cur.toList.length = l.length := by simpa using h.1
  have key : ∀ (i : Nat) (u : Value), (cur.toList.take off ++ cs.toList ++ cur.toList.drop (off + cs.toList.length))[i]? = some u →
      (i < off ∧ cur[i]? = some u ∧ (Ab.setAt l off cl)[i]? = l[i]?) ∨ (off ≤ i ∧ i < off + cl.length ∧ cs[i - off]? = some u ∧ (Ab.setAt l off cl)[i]? = cl[i - off]?) ∨ (off + cl.length ≤ i ∧ cur[i]? = some u ∧ (Ab.setAt l off cl)[i]? = l[i]?) := by
    intro i u hu
    unfold Ab.setAt
    rcases Nat.lt_or_ge i off with hi | hi
    · left
      rw [List.append_assoc, List.getElem?_append_left (by simp at e2 ⊢; omega), List.getElem?_take, if_pos hi] at hu
      refine ⟨hi, by simpa using hu, ?_⟩
      rw [List.append_assoc, List.getElem?_append_left (by simp; omega), List.getElem?_take, if_pos hi]
    · rcases Nat.lt_or_ge i (off + cl.length) with hi2 | hi2
      · right; left
        rw [List.append_assoc, List.getElem?_append_right (by simp at e2 ⊢; omega), List.getElem?_append_left (by simp at e1 e2 ⊢; omega)] at hu
        refine ⟨hi, hi2, ?_, ?_⟩
        · have e3 : (cur.toList.take off).length = off := by simp; simp at e2; omega
          rw [e3] at hu; simpa using hu
        · rw [List.append_assoc, List.getElem?_append_right (by simp; omega), List.getElem?_append_left (by simp; omega)]
          have e3 : (l.take off).length = off := by simp; omega
          rw [e3]
      · right; right
        rw [List.append_assoc, List.getElem?_append_right (by simp at e2 ⊢; omega), List.getElem?_append_right (by simp at e1 e2 ⊢; omega), List.getElem?_drop] at hu
        refine ⟨hi2, ?_, ?_⟩
        · have e3 : off + cs.toList.length + (i - (cur.toList.take off).length - cs.toList.length) = i := by simp at e1 e2 ⊢; omega
          rw [e3] at hu; simpa using hu
        · rw [List.append_assoc, List.getElem?_append_right (by simp; omega), List.getElem?_append_right (by simp; omega), List.getElem?_drop]
          have e3 : off + cl.length + (i - (l.take off).length - cl.length) = i := by simp; omega
          rw [e3]
  refine ⟨by unfold Ab.setAt; simp at e1 e2 ⊢; omega, fun i u hu => ?_, fun i u a hu ha => ?_⟩
  · simp only [List.getElem?_toArray] at hu
    rcases key i u hu with ⟨_, h1, _⟩ | ⟨_, _, h1, _⟩ | ⟨_, h1, _⟩
    · exact h.2.1 _ _ h1
    · exact hc.2.1 _ _ h1
    · exact h.2.1 _ _ h1
  · simp only [List.getElem?_toArray] at hu
    rcases key i u hu with ⟨_, h1, h2⟩ | ⟨_, _, h1, h2⟩ | ⟨_, h1, h2⟩
    · exact h.2.2 _ _ _ h1 (by rw [← h2]; exact ha)
    · exact hc.2.2 _ _ _ h1 (by rw [← h2]; exact ha)
    · exact h.2.2 _ _ _ h1 (by rw [← h2]; exact ha)
theorem WO.store (hg : o.guard = none) (hd : cZ n o.dst = true) {t : TypeId} {x y : Operand} (ho : o.op = .store t x y) {g off : Nat} (hx : av st.f x = some (.ptr g off)) {cells : List A} (hb : ak st.bx g = some cells)
    {a : A} (ha : av st.f y = some a) {cs : List A} (hc : cellsOf st.bx a = some cs) (hsz : cc T t = cs.length) (hz : cs.length ≠ 0) (hle : (Nat.ble (off + cs.length) cells.length) = true)
    (h : WO P C n ops Q rest (St.put { st with bx := (g, setAt cells off cs) :: st.bx } o.dst .any)) : WO P C n ops Q (o :: rest) st := by
  have hle := Nat.le_of_ble_eq_true hle
  refine WO.step hg fun tmps w ⟨G, hs⟩ => ?_
  obtain ⟨b, cur, T', h1, h2, h3, h4, h5⟩ := hs.box g cells hb
  have hv : Act.eval ⟨tmps, []⟩ x = .pointer (some ⟨b, off, none⟩) := by
    have hr := hs.av hx
    generalize Act.eval ⟨tmps, []⟩ x = v at hr ⊢
    cases hr with
    | ptr _ _ _ b0 _ hb0 hx0 => exact mD hb0 hx0 b h1
  have hrc := ji hs hc (hs.av ha)
  have hst := run_storeCells_at P b off T' (Act.eval ⟨tmps, []⟩ y).cells.toList 0 cur w h2 (by have := hrc.1; simp at this ⊢; omega) (fun v hv => by
    obtain ⟨i, hi⟩ := List.mem_iff_getElem?.1 hv
    exact hrc.2.1 i v (by simpa using hi))
  obtain ⟨d, hdt, hdn⟩ : ∃ d, ak T.l t = some d ∧ d.n = cs.length := by
    unfold cc at hsz
    split at hsz
    · rename_i d hdt; exact ⟨d, hdt, hsz⟩
    · exact absurd hsz.symm hz
  have hs' := hs.store hb h1 h2 (bJ.setAt (off := off) ⟨h3, h4, h5⟩ hrc hle)
  refine fN ?_ ⟨_, ⟨G, hs'.put (bL hd) (.any _)⟩, h⟩
  unfold execOp
  rw [ho]
  show Sem.run P _ w = _
  simp only [hv, Instr.storeAt, Instr.sureAddr, storeVar, Sem.run_bind, Sem.run_pure, Result.andThen_ok, T.sizeOf hdt]
  rw [if_neg (by rw [hdn]; simp; exact hrc.1)]
  simp only [Nat.add_zero] at hst
  simp only [hst, Result.andThen_ok]
end
end Go.Ab
namespace Go.Ab
open Go.RowKit
theorem aF.flat {w : World} {pv : Nat → Nat → Prop} {b off len cap sz : Nat} {es : List (List D)} (h : aF w pv (.slice (some ⟨b, off, none⟩) len cap) (.sl es)) (hl : ∀ (e : List D), e ∈ es → e.length = sz) :
    es.length = len ∧ len ≤ cap ∧ cap ≤ maxLen ∧ ∃ l : List Value, l.length = len * sz ∧ (∀ (t : Nat) (u : Value), l[t]? = some u → cellAt w b (off + t) = some u ∧ ¬ pv b (off + t) ∧ u.oneCell' = true) ∧
      ∀ (i j : Nat) (e : List D) (d : D), es[i]? = some e → e[j]? = some d → ∃ u, l[i * sz + j]? = some u ∧ aF w pv u d := by
  cases h with
  | emp _ _ hm => exact ⟨rfl, Nat.zero_le _, hm, [], by simp, by simp, by simp⟩
  | sl _ _ _ _ sz' _ u hlen hc hm hs hu hr =>
  refine ⟨hlen, hc, hm, ?_⟩
  rcases Nat.eq_zero_or_pos len with h0 | hpos
  · subst h0
    have : es = [] := List.eq_nil_of_length_eq_zero hlen
    subst this
    exact ⟨[], by simp, by simp, by simp⟩
  · obtain ⟨e0, he0⟩ : ∃ e0, es[0]? = some e0 := ⟨es[0], by simp [hlen, hpos]⟩
    have hsz : sz' = sz := (hs 0 e0 he0).symm.trans (hl e0 (List.mem_of_getElem? he0))
    subst hsz
    have inb : ∀ t, t < len * sz' → t / sz' < len ∧ t % sz' < sz' ∧ t / sz' * sz' + t % sz' = t := by
      intro t ht
      have hz : 0 < sz' := Nat.pos_of_ne_zero fun h => by rw [h] at ht; simp at ht
      exact ⟨Nat.div_lt_of_lt_mul (by rw [Nat.mul_comm]; exact ht), Nat.mod_lt _ hz, Nat.div_add_mod' t sz'⟩
    refine ⟨(List.range (len * sz')).map fun t => u (t / sz') (t % sz'), by simp, fun t v hv => ?_, fun i j e d hi hj => ?_⟩
    · simp only [List.getElem?_map, Option.map_eq_some_iff, List.getElem?_range] at hv
      obtain ⟨t', ht', rfl⟩ := hv
      have hlt : t < len * sz' := by
        rcases Nat.lt_or_ge t (len * sz') with h | h
        · exact h
        · rw [List.getElem?_eq_none (by simpa using h)] at ht'; cases ht'
      rw [List.getElem?_range hlt] at ht'
      have : t' = t := (Option.some.inj ht').symm
      subst this
      obtain ⟨h1, h2, h3⟩ := inb t' hlt
      have h4 := hu _ _ h1 h2
      have h5 : off + t' / sz' * sz' + t' % sz' = off + t' := by omega
      rw [h5] at h4
      have hi : t' / sz' < es.length := by omega
      have he : es[t' / sz']? = some es[t' / sz'] := by simp [hi]
      have hel : es[t' / sz'].length = sz' := hs _ _ he
      have hd : es[t' / sz'][t' % sz']? = some es[t' / sz'][t' % sz'] := by simp [hel, h2]
      exact ⟨h4.1, h4.2, (hr _ _ _ _ he hd).one⟩
    · have hlt : i < len := by rw [← hlen]; exact (List.getElem?_eq_some_iff.1 hi).1
      have hel : e.length = sz' := hs i e hi
      have hj' : j < sz' := by rw [← hel]; exact (List.getElem?_eq_some_iff.1 hj).1
      have hz : 0 < sz' := by omega
      have hlt2 : i * sz' + j < len * sz' := by
        calc i * sz' + j < i * sz' + sz' := by omega
          _ = (i + 1) * sz' := by rw [Nat.succ_mul]
          _ ≤ len * sz' := Nat.mul_le_mul_right _ hlt
      refine ⟨u i j, ?_, hr i j e d hi hj⟩
      have h1 : (i * sz' + j) / sz' = i := by rw [Nat.mul_comm, Nat.mul_add_div hz, Nat.div_eq_of_lt hj']; omega
      have h2 : (i * sz' + j) % sz' = j := by rw [Nat.mul_comm, Nat.mul_add_mod, Nat.mod_eq_of_lt hj']
      simp [hlt2, h1, h2]
theorem aF.ofRow {w : World} {pv : Nat → Nat → Prop} {b cap sz : Nat} {es : List (List D)} {arr : Array Value} {T : TypeId} (hb : w.heap[b]? = some (.cells arr T (0, 0))) (hc : es.length ≤ cap) (hm : cap ≤ maxLen)
    (hl : ∀ (e : List D), e ∈ es → e.length = sz) (hp : ∀ t, t < es.length * sz → ¬ pv b t)
    (hr : ∀ (i j : Nat) (e : List D) (d : D), es[i]? = some e → e[j]? = some d → ∃ u, arr[i * sz + j]? = some u ∧ aF w pv u d) :
    aF w pv (.slice (some ⟨b, 0, none⟩) es.length cap) (.sl es) := by
  refine .sl b 0 es.length cap sz es (fun i j => arr[i * sz + j]?.getD default) rfl hc hm (fun i e he => hl e (List.mem_of_getElem? he)) (fun i j hi hj => ?_) (fun i j e d hi hj => ?_)
  · have he : es[i]? = some es[i] := by simp [hi]
    have hel := hl _ (List.mem_of_getElem? he)
    have hd : es[i][j]? = some es[i][j] := by simp [hel, hj]
    obtain ⟨u, hu, _⟩ := hr i j _ _ he hd
    have hlt : i * sz + j < es.length * sz := by
      calc i * sz + j < i * sz + sz := by omega
        _ = (i + 1) * sz := by rw [Nat.succ_mul]
        _ ≤ es.length * sz := Nat.mul_le_mul_right _ hi
    rw [Nat.zero_add]
    refine ⟨?_, hp _ hlt⟩
    rw [bj hb, hu]
    rfl
  · obtain ⟨u, hu, hu'⟩ := hr i j e d hi hj
    rw [hu]
    exact hu'
theorem nd {P : Program} {w : World} {t e : TypeId} {i : TypeInfo} (ty : TypeId) (ht : P.underlying t = some (.slice e)) (hi : P.info? e = some i) (base : Option Addr) (n cap : Nat) (hc : n ≤ cap) (x : Value) (a2 : Option Addr) (c2 : Nat) (hx : x = .slice a2 0 c2) :
    (Builtin.append_ #[t, t] ty #[.slice base n cap, x]).run P w = .ok (.slice base n cap) w := by
  subst hx
  cases base <;> cases a2 <;> simp [Builtin.append_, run_underlying ht, sizeOf, typeInfo, hi, Builtin.lenOf, hc, Builtin.firstCells, loadCells, loadCellsFrom, storeCells]
section
variable {C : Ctx} {n : Nat} {st : St} {G : Gh} {tmps : Array Value} {w : World}
def yE (m : Bool) (g : Nat) (es : List (List D)) : A := bif m then .xs g es else .own g es
def dS (m : Bool) (k : Nat) : Nat := bif m then 0 else k
theorem kg (m : Bool) (k : Nat) : dS m k ≤ k := by cases m <;> simp [dS]
theorem sV (m : Bool) {k l : Nat} (h : k ≤ l) : dS m k ≤ dS m l := by cases m <;> simp [dS, h]
def sH (m : Bool) (w : World) (pv : Nat → Nat → Prop) (r : Row) (v : Value) (es : List (List D)) : Prop :=
  bif m then v.oneCell' = true ∧ dI w pv r v es else aF w pv v (.sl es) ∧ ∃ s, (∀ (e : List D), e ∈ es → e.length = s) ∧ mv r v es.length s
structure iG (m : Bool) (C : Ctx) (n : Nat) (st : St) (G : Gh) (tmps : Array Value) (lv : List Nat) (es : List (List D)) (v : Value) (w w' : World) : Prop where
  y8 : ∃ G' : Gh, G'.box = G.box ∧ ar C n { st with lv := st.gen :: lv, gen := st.gen + 1 } G' tmps w' ∧ aA (ao C G' (st.gen + 1) w') v (yE m st.gen es)
theorem ar.newRow (m : Bool) (h : ar C n st G tmps w) {w' : World} {arr : Array Value} {T : TypeId} (hb : Below w.heap.size w w') (hblk : w'.heap[w.heap.size]? = some (.cells arr T (0, 0))) {cap sz : Nat} {es : List (List D)}
    (hs : arr.size = cap * sz) (h1c : dB arr) (hc : es.length ≤ cap) (hm : cap ≤ maxLen) (hz : 0 < sz) (hpos : 0 < es.length) (hl : ∀ (e : List D), e ∈ es → e.length = sz)
    (hr : ∀ (i j : Nat) (e : List D) (d : D), es[i]? = some e → e[j]? = some d → ∃ u, arr[i * sz + j]? = some u ∧ aF w (aN C G) u d)
    (drop : Nat → Prop) [DecidablePred drop] (lv : List Nat) (hlv : ∀ g ∈ lv, g ∈ st.lv ∧ ¬ drop g) :
    iG m C n st G tmps lv es (.slice (some ⟨w.heap.size, 0, none⟩) es.length cap) w w' := by
  let own' : Nat → Option Row := fun g => if g = st.gen then some (.blk w.heap.size es.length cap sz (dS m (es.length * sz))) else if drop g then none else G.own g
  have hown : ∀ g r, g < st.gen → own' g = some r → G.own g = some r := by
    intro g r hg hr
    simp only [own', if_neg (Nat.ne_of_lt hg)] at hr
    split at hr
    · cases hr
    · exact hr
  obtain ⟨hle, hs'⟩ := h.grow hb own' (st.gen + 1) (st.gen :: lv) (Nat.le_succ _) hown
    (fun g r hr => by
      simp only [own'] at hr
      split at hr
      · omega
      · split at hr
        · cases hr
        · exact Nat.lt_succ_of_lt (h.gown g r hr))
    (fun g hg => by
      rcases List.mem_cons.1 hg with rfl | hg
      · exact ⟨_, by simp [own']; rfl⟩
      · obtain ⟨h1, h2⟩ := hlv g hg
        obtain ⟨r, hr⟩ := h.live g h1
        exact ⟨r, by simp only [own', if_neg (Nat.ne_of_lt (h.gown g r hr)), if_neg h2]; exact hr⟩)
    (fun g b len' cap' sz' pub' hg hr => by
      simp only [own'] at hr
      split at hr
      · rename_i e
        simp only [Option.some.injEq, Row.blk.injEq] at hr
        obtain ⟨rfl, rfl, rfl, rfl, rfl⟩ := hr
        refine ⟨Nat.le_refl _, fun g' len2 cap2 sz2 pub2 hr' => ?_, arr, T, hblk, hs, hc, hm, hz, hpos, kg _ _, h1c⟩
        by_cases e' : g' = st.gen
        · omega
        · simp only [own', if_neg e'] at hr'
          split at hr'
          · cases hr'
          · obtain ⟨_, _, _, cur, T', h4, _⟩ := h.row _ _ _ _ _ _ hr'
            have := (Array.getElem?_eq_some_iff.1 h4).1
            omega
      · split at hr
        · cases hr
        · exact absurd (h.gown g _ hr) (by omega))
    (fun g b bs hg hr => by
      simp only [own'] at hr
      split at hr
      · cases hr
      · split at hr
        · cases hr
        · exact absurd (h.gown g _ hr) (by omega))
    (fun g b bs c lim hg hr hm => by
      simp only [own'] at hr
      split at hr
      · cases hr
      · split at hr
        · cases hr
        · exact absurd (h.gown g _ hr) (by omega))
  refine ⟨⟨⟨G.box, own'⟩, rfl, hs', ?_⟩⟩
  cases m with
  | false =>
    refine .own _ _ es (aF.ofRow hblk hc hm hl (fun t ht hp => ?_) (fun i j e d hi hj => ?_)) (by simp [ao]) (fun r hr' => ?_)
    · rcases (hp : aN C ⟨G.box, own'⟩ w.heap.size t) with hp | ⟨g, hp⟩ | ⟨g, len', cap', sz', pub', hp, hl'⟩ | ⟨g, b', bs, lim, hp, hm', _⟩
      rotate_right
      · simp only [own'] at hp
        split at hp
        · cases hp
        · split at hp
          · cases hp
          · have := (h.tO hp).2 _ hm'
            simp only at this
            omega
      · have := (h.xold _ _ hp).1; have := h.fr.size; omega
      · have := (h.gbox g _ hp).2.1; omega
      · simp only [own'] at hp
        split at hp
        · simp only [Option.some.injEq, Row.blk.injEq, dS, cond_false] at hp
          obtain ⟨_, rfl, rfl, rfl, rfl⟩ := hp
          omega
        · split at hp
          · cases hp
          · obtain ⟨_, _, _, cur, T', h4, _⟩ := h.row _ _ _ _ _ _ hp
            have := (Array.getElem?_eq_some_iff.1 h4).1
            omega
    · obtain ⟨u, h1, h2⟩ := hr i j e d hi hj
      exact ⟨u, h1, h2.mono hle.cell⟩
    · have hr2 : own' st.gen = some r := hr'
      simp only [own', if_true, Option.some.injEq] at hr2
      subst hr2
      exact ⟨sz, hl, rfl, rfl, rfl, rfl⟩
  | true =>
    refine .xs _ _ es (by simp [ao]) rfl (fun r hr' => ?_)
    have hr2 : own' st.gen = some r := hr'
    simp only [own', if_true, Option.some.injEq] at hr2
    subst hr2
    refine ⟨rfl, rfl, rfl, hl, fun i j e d hi hj => ?_⟩
    obtain ⟨u, h1, h2⟩ := hr i j e d hi hj
    exact ⟨u, by show cellAt w' _ _ = _; rw [bj hblk]; exact h1, h2.mono hle.cell⟩
theorem ar.kC {m : Bool} (h : ar C n st G tmps w) {r : Row} {g : Nat} (hg : G.own g = some r) {es : List (List D)} {v : Value} (hR : sH m w (aN C G) r v es)
    (lv : List Nat) (hlv : ∀ g' ∈ lv, g' ∈ st.lv ∧ g' ≠ g) : iG m C n st G tmps lv es v w w := by
  let own' : Nat → Option Row := fun g' => if g' = st.gen then some r else if g' = g then none else G.own g'
  have hgl := h.gown g r hg
  have un : ∀ g2 r2, own' g2 = some r2 → ∃ g3, G.own g3 = some r2 ∧ ((g2 = st.gen ∧ g3 = g) ∨ (g2 ≠ st.gen ∧ g2 ≠ g ∧ g3 = g2)) := by
    intro g2 r2 h2
    simp only [own'] at h2
    split at h2
    · rename_i e; simp only [Option.some.injEq] at h2; subst h2; exact ⟨g, hg, .inl ⟨e, rfl⟩⟩
    · split at h2
      · cases h2
      · rename_i e1 e2; exact ⟨g2, h2, .inr ⟨e1, e2, rfl⟩⟩
  have hpv : ∀ b o, aN C ⟨G.box, own'⟩ b o → aN C G b o := by
    rintro b o (hp | hp | ⟨g', len', cap', sz', pub', hp, hl'⟩ | ⟨g', b', bs, lim, hp, hm, hl'⟩)
    · exact .inl hp
    · exact .inr (.inl hp)
    · simp only [own'] at hp
      split at hp
      · simp only [Option.some.injEq] at hp
        subst hp
        exact .inr (.inr (.inl ⟨g, len', cap', sz', pub', hg, hl'⟩))
      · split at hp
        · cases hp
        · exact .inr (.inr (.inl ⟨g', len', cap', sz', pub', hp, hl'⟩))
    · obtain ⟨g3, h3, _⟩ := un g' _ hp
      exact .inr (.inr (.inr ⟨g3, b', bs, lim, h3, hm, hl'⟩))
  have hle : (ao C G st.gen w).le (ao C ⟨G.box, own'⟩ (st.gen + 1) w) := gf h.fr h.fr (fun b o u hu hn => ⟨hu, fun hp => hn (hpv b o hp)⟩) (fun _ _ h => h)
    (fun g' r' hg' hr' => by
      simp only [own', if_neg (Nat.ne_of_lt hg')] at hr'
      split at hr'
      · cases hr'
      · exact hr') (Nat.le_succ _) (fun _ _ _ _ _ _ _ _ => rfl) (fun _ _ _ _ _ => ⟨rfl, fun _ _ => rfl⟩) (.refl w)
  refine ⟨⟨⟨G.box, own'⟩, rfl, { size := h.size, frame := h.ck hle, inj := h.inj, xold := h.xold, kold := h.kold, lent := h.lent, fr := h.fr, gcell := h.gcell, box := ?_, gbox := ?_, live := ?_, gown := ?_, row := ?_, mrow := ?_, sub := ?_ }, ?_⟩⟩
  · intro g' cells hc
    obtain ⟨b, cs, T, h1, h2, h3, h4, h5⟩ := h.box g' cells hc
    exact ⟨b, cs, T, h1, h2, h3, h4, fun i u a hu ha => (h5 i u a hu ha).mono hle⟩
  · intro g' b hb
    obtain ⟨h1, h2⟩ := h.gbox g' b hb
    exact ⟨Nat.lt_succ_of_lt h1, h2⟩
  · intro g' hg'
    rcases List.mem_cons.1 hg' with rfl | hg'
    · exact ⟨r, by simp [own']⟩
    · obtain ⟨h1, h2⟩ := hlv g' hg'
      obtain ⟨r', hr'⟩ := h.live g' h1
      exact ⟨r', by simp only [own', if_neg (Nat.ne_of_lt (h.gown g' r' hr')), if_neg h2]; exact hr'⟩
  · intro g' r' hr'
    simp only [own'] at hr'
    split at hr'
    · simp only; omega
    · split at hr'
      · cases hr'
      · exact Nat.lt_succ_of_lt (h.gown g' r' hr')
  · intro g' b len' cap' sz' pub' hr'
    obtain ⟨g3, h3, h3'⟩ := un g' _ hr'
    obtain ⟨h4, h5, h6, h7⟩ := h.row g3 b len' cap' sz' pub' h3
    refine ⟨h4, h5, fun g4 len4 cap4 sz4 pub4 hr4 => ?_, h7⟩
    obtain ⟨g5, h8, h8'⟩ := un g4 _ hr4
    have := h6 g5 len4 cap4 sz4 pub4 h8
    omega
  · intro g' b bs hr'
    obtain ⟨g3, h3, h3'⟩ := un g' _ hr'
    obtain ⟨h4, h4b, h6, h7⟩ := h.mrow g3 b bs h3
    refine ⟨h4, h4b, fun g4 bs4 hr4 => ?_, h7⟩
    obtain ⟨g5, h8, h8'⟩ := un g4 _ hr4
    have := h6 g5 bs4 h8
    omega
  · intro g' b bs c lim hr' hm
    obtain ⟨g3, h3, h3'⟩ := un g' _ hr'
    obtain ⟨h4, h5, h6, h7, h8⟩ := h.sub g3 b bs c lim h3 hm
    refine ⟨h4, h5, fun g4 len cap sz pub hr4 => ?_, fun g4 b' bs' lim' hr4 hm4 => ?_, h8⟩
    · obtain ⟨g5, h9, _⟩ := un g4 _ hr4
      exact h6 g5 _ _ _ _ h9
    · obtain ⟨g5, h9, h9'⟩ := un g4 _ hr4
      have := h7 g5 _ _ _ h9 hm4
      omega
  · have fin : ∀ r', own' st.gen = some r' → r = r' := fun r' hr2 => by simpa only [own', if_true, Option.some.injEq] using hr2
    cases m with
    | false =>
      obtain ⟨hv, s, hl, hr⟩ := hR
      exact .own _ _ es (hv.mono hle.cell) (by simp [ao]) (fun r' hr' => fin r' hr' ▸ ⟨s, hl, hr⟩)
    | true =>
      obtain ⟨h1, hr⟩ := hR
      refine .xs _ _ es (by simp [ao]) h1 (fun r' hr' => fin r' hr' ▸ ?_)
      cases r with
      | nil => exact hr
      | zero b => exact hr
      | mp b => exact hr
      | blk b len cap sz pub =>
        obtain ⟨q1, q2, q3, q4, q5⟩ := hr
        refine ⟨q1, q2, q3, q4, fun i j e d hi hj => ?_⟩
        obtain ⟨u, hu, hd⟩ := q5 i j e d hi hj
        exact ⟨u, hu, hd.mono hle.cell⟩
theorem ar.nC (m : Bool) (h : ar C n st G tmps w) {g b len cap sz : Nat} (hg : G.own g = some (.blk b len cap sz (dS m (len * sz)))) {arr cur : Array Value} {T : TypeId} (hcur : w.heap[b]? = some (.cells cur T (0, 0))) (hs : arr.size = cur.size) (h1c : dB arr)
    (hold : ∀ t, t < dS m (len * sz) → arr[t]? = cur[t]?) {es : List (List D)} (hlen : len ≤ es.length) (hc : es.length ≤ cap) (hl : ∀ (e : List D), e ∈ es → e.length = sz)
    (hr : ∀ (i j : Nat) (e : List D) (d : D), es[i]? = some e → e[j]? = some d → ∃ u, arr[i * sz + j]? = some u ∧ aF w (aN C G) u d)
    (lv : List Nat) (hlv : ∀ g' ∈ lv, g' ∈ st.lv ∧ g' ≠ g) : iG m C n st G tmps lv es (.slice (some ⟨b, 0, none⟩) es.length cap) w (w.setRow b arr) := by
  obtain ⟨hmine, hnb, huniq, cur', T', hcur', hcs, hlc, hcm, hz, hpos, _⟩ := h.row g b len cap sz _ hg
  rw [hcur] at hcur'
  simp only [Option.some.injEq, Obj.cells.injEq] at hcur'
  obtain ⟨rfl, rfl, _⟩ := hcur'
  let own' : Nat → Option Row := fun g' => if g' = st.gen then some (.blk b es.length cap sz (dS m (es.length * sz))) else if g' = g then none else G.own g'
  have hgl := h.gown g _ hg
  have hblt : b < w.heap.size := (Array.getElem?_eq_some_iff.1 hcur).1
  have hnew : (w.setRow b arr).heap[b]? = some (.cells arr T (0, 0)) := setRow_heap w b cur arr T (0, 0) hcur
  have hmono : dS m (len * sz) ≤ dS m (es.length * sz) := sV m (Nat.mul_le_mul_right _ hlen)
  have hple := kg m (es.length * sz)
  have hpv : ∀ b' o, aN C ⟨G.box, own'⟩ b' o → aN C G b' o := by
    rintro b' o (hp | hp | ⟨g', len', cap', sz', pub', hp, hl'⟩ | ⟨g', b2, bs, lim, hp, hm, hl'⟩)
    · exact .inl hp
    · exact .inr (.inl hp)
    · simp only [own'] at hp
      split at hp
      · simp only [Option.some.injEq, Row.blk.injEq] at hp
        obtain ⟨rfl, rfl, rfl, rfl, rfl⟩ := hp
        exact .inr (.inr (.inl ⟨g, len, cap, sz, _, hg, by omega⟩))
      · split at hp
        · cases hp
        · exact .inr (.inr (.inl ⟨g', len', cap', sz', pub', hp, hl'⟩))
    · simp only [own'] at hp
      split at hp
      · cases hp
      · split at hp
        · cases hp
        · exact .inr (.inr (.inr ⟨g', b2, bs, lim, hp, hm, hl'⟩))
  have hfr : Fr C (w.setRow b arr) := ⟨h.fr.os, h.fr.tape, h.fr.output, by rw [size_setRow]; exact h.fr.size, fun b' h1 h2 => by
    rw [setRow_other w b b' arr (fun e => by subst e; exact hmine.1.elim (fun hm => by omega) h2)]; exact h.fr.block b' h1 h2, fun b' o u hk hu => by
    have hw := h.fr.cells b' o u hk hu
    by_cases e : b' = b
    · subst e
      rw [bj hcur] at hw
      rw [bj hnew, hold o (hmine.2 o hk)]
      exact hw
    · rw [bp (setRow_other w b b' arr e)]; exact hw, h.fr.ty.trans (.setRow w b arr)⟩
  have hle : (ao C G st.gen w).le (ao C ⟨G.box, own'⟩ (st.gen + 1) (w.setRow b arr)) := gf h.fr hfr (fun b' o u hu hn => ⟨by
      by_cases e : b' = b
      · subst e
        rw [bj hcur] at hu
        rw [bj hnew, hold o (Nat.lt_of_not_le fun hle => hn (.inr (.inr (.inl ⟨g, len, cap, sz, _, hg, hle⟩))))]
        exact hu
      · rw [bp (setRow_other w b b' arr e)]; exact hu, fun hp => hn (hpv b' o hp)⟩) (fun _ _ h => h)
    (fun g' r' hg' hr' => by
      simp only [own', if_neg (Nat.ne_of_lt hg')] at hr'
      split at hr'
      · cases hr'
      · exact hr') (Nat.le_succ _) (fun g' b' len' cap' sz' pub' hg' hr' => by
      simp only [own', if_neg (Nat.ne_of_lt hg')] at hr'
      split at hr'
      · cases hr'
      · rename_i e2
        have hne : b' ≠ b := fun e => by subst e; exact e2 (huniq g' len' cap' sz' pub' hr')
        exact setRow_other w b b' arr hne) (fun g' b' bs hg' hr' => by
      simp only [own', if_neg (Nat.ne_of_lt hg')] at hr'
      split at hr'
      · cases hr'
      · obtain ⟨_, _, _, me, clock, h3⟩ := h.mrow g' b' bs hr'
        exact ⟨setRow_other w b b' arr (fun e => by rw [e, hcur] at h3; cases h3), fun p hp => setRow_other w b p.1 arr (fun e => (h.sub g' b' bs p.1 p.2 hr' hp).2.2.1 g _ _ _ _ (by rw [e]; exact hg))⟩) (.setRow w b arr)
  refine ⟨⟨⟨G.box, own'⟩, rfl, { size := h.size, frame := h.ck hle, inj := h.inj, xold := h.xold, kold := h.kold, lent := h.lent, fr := hfr, gcell := fun g' b' hb' => jn (.setRow w b arr) (h.gcell g' b' hb'), box := ?_, gbox := ?_, live := ?_, gown := ?_, row := ?_, mrow := ?_, sub := ?_ }, ?_⟩⟩
  · intro g' cells hc
    obtain ⟨b', cs, T', h1, h2, h3, h4, h5⟩ := h.box g' cells hc
    have : b' ≠ b := fun e => hnb g' (by rw [← e]; exact h1)
    exact ⟨b', cs, T', h1, by rw [setRow_other w b b' arr this]; exact h2, h3, h4, fun i u a hu ha => (h5 i u a hu ha).mono hle⟩
  · intro g' b' hb
    obtain ⟨h1, h2, h3⟩ := h.gbox g' b' hb
    exact ⟨Nat.lt_succ_of_lt h1, by rw [size_setRow]; exact h2, h3⟩
  · intro g' hg'
    rcases List.mem_cons.1 hg' with rfl | hg'
    · exact ⟨_, by simp [own']; rfl⟩
    · obtain ⟨h1, h2⟩ := hlv g' hg'
      obtain ⟨r', hr'⟩ := h.live g' h1
      exact ⟨r', by simp only [own', if_neg (Nat.ne_of_lt (h.gown g' r' hr')), if_neg h2]; exact hr'⟩
  · intro g' r' hr'
    simp only [own'] at hr'
    split at hr'
    · simp only; omega
    · split at hr'
      · cases hr'
      · exact Nat.lt_succ_of_lt (h.gown g' r' hr')
  · intro g' b' len' cap' sz' pub' hr'
    simp only [own'] at hr'
    split at hr'
    · rename_i e
      simp only [Option.some.injEq, Row.blk.injEq] at hr'
      obtain ⟨rfl, rfl, rfl, rfl, rfl⟩ := hr'
      refine ⟨⟨hmine.1, fun o ho => Nat.lt_of_lt_of_le (hmine.2 o ho) hmono⟩, hnb, fun g2 len2 cap2 sz2 pub2 h2 => ?_, arr, T, hnew, by rw [hs]; exact hcs, hc, hcm, hz, by omega, hple, h1c⟩
      simp only [own'] at h2
      split at h2
      · omega
      · split at h2
        · cases h2
        · rename_i e1 e2; exact absurd (huniq g2 len2 cap2 sz2 pub2 h2) e2
    · split at hr'
      · cases hr'
      · rename_i e1 e2
        obtain ⟨h4, h5, h6, cur2, T2, h7, h8⟩ := h.row g' b' len' cap' sz' pub' hr'
        have hne : b' ≠ b := fun e => by subst e; exact e2 (huniq g' len' cap' sz' pub' hr')
        refine ⟨h4, h5, fun g2 len2 cap2 sz2 pub2 h2 => ?_, cur2, T2, by rw [setRow_other w b b' arr hne]; exact h7, h8⟩
        simp only [own'] at h2
        split at h2
        · simp only [Option.some.injEq, Row.blk.injEq] at h2; exact absurd h2.1.symm hne
        · split at h2
          · cases h2
          · exact h6 g2 len2 cap2 sz2 pub2 h2
  · intro g' b' bs hr'
    have un : ∀ g2 b' bs, own' g2 = some (.mp b' bs) → G.own g2 = some (.mp b' bs) := by
      intro g2 b' bs h2
      simp only [own'] at h2
      split at h2
      · cases h2
      · split at h2
        · cases h2
        · exact h2
    obtain ⟨h4, h4b, h5, me, clock, h6⟩ := h.mrow g' b' bs (un _ _ _ hr')
    exact ⟨h4, h4b, fun g2 bs2 h2 => h5 g2 bs2 (un _ _ _ h2), me, clock, by rw [setRow_other w b b' arr (fun e => by rw [e, hcur] at h6; cases h6)]; exact h6⟩
  · intro g' b' bs c lim hr' hm
    have un : ∀ g2 b' bs, own' g2 = some (.mp b' bs) → G.own g2 = some (.mp b' bs) := by
      intro g2 b' bs h2
      simp only [own'] at h2
      split at h2
      · cases h2
      · split at h2
        · cases h2
        · exact h2
    obtain ⟨h4, h5, h6, h7, cur2, T2, h8, h9⟩ := h.sub g' b' bs c lim (un _ _ _ hr') hm
    have hne : c ≠ b := fun e => h6 g _ _ _ _ (by rw [e]; exact hg)
    refine ⟨h4, h5, fun g2 len2 cap2 sz2 pub2 h2 => ?_, fun g2 b2 bs2 lim2 h2 hm2 => h7 g2 b2 bs2 lim2 (un _ _ _ h2) hm2, cur2, T2, by rw [setRow_other w b c arr hne]; exact h8, h9⟩
    simp only [own'] at h2
    split at h2
    · simp only [Option.some.injEq, Row.blk.injEq] at h2; exact hne h2.1.symm
    · split at h2
      · cases h2
      · exact h6 g2 _ _ _ _ h2
  · cases m with
    | false =>
      refine .own _ _ es (aF.ofRow hnew hc hcm hl (fun t ht hp => ?_) (fun i j e d hi hj => ?_)) (by simp [ao]) (fun r' hr' => ?_)
      · rcases (hp : aN C ⟨G.box, own'⟩ b t) with hp | ⟨g', hp⟩ | ⟨g', len', cap', sz', pub', hp, hl'⟩ | ⟨g', b', bs, lim, hp, hm', _⟩
        rotate_right
        · simp only [own'] at hp
          split at hp
          · cases hp
          · split at hp
            · cases hp
            · exact (h.sub g' b' bs b lim hp hm').2.2.1 g _ _ _ _ hg
        · have := h.xold _ _ hp; rcases hmine.1 with hm | hm
          · omega
          · exact this.2 hm
        · exact hnb g' hp
        · simp only [own'] at hp
          split at hp
          · simp only [Option.some.injEq, Row.blk.injEq, dS, cond_false] at hp
            obtain ⟨_, rfl, rfl, rfl, rfl⟩ := hp
            omega
          · split at hp
            · cases hp
            · rename_i e1 e2; exact e2 (huniq g' len' cap' sz' pub' hp)
      · obtain ⟨u, h1, h2⟩ := hr i j e d hi hj
        exact ⟨u, h1, h2.mono hle.cell⟩
      · have hr2 : own' st.gen = some r' := hr'
        simp only [own', if_true, Option.some.injEq] at hr2
        subst hr2
        exact ⟨sz, hl, rfl, rfl, rfl, rfl⟩
    | true =>
      refine .xs _ _ es (by simp [ao]) rfl (fun r' hr' => ?_)
      have hr2 : own' st.gen = some r' := hr'
      simp only [own', if_true, Option.some.injEq] at hr2
      subst hr2
      refine ⟨rfl, rfl, rfl, hl, fun i j e d hi hj => ?_⟩
      obtain ⟨u, h1, h2⟩ := hr i j e d hi hj
      exact ⟨u, by show cellAt (w.setRow b arr) _ _ = _; rw [bj hnew]; exact h1, h2.mono hle.cell⟩
end
end Go.Ab
namespace Go.Ab
open Go.RowKit
def bg (lv : List Nat) (g : Nat) : List Nat := lv.filter fun x => !Nat.beq x g
theorem bR {lv : List Nat} {g x : Nat} (h : x ∈ bg lv g) : x ∈ lv ∧ x ≠ g := by
  simp only [bg, List.mem_filter, Bool.not_eq_true'] at h
  exact ⟨h.1, fun e => by subst e; simp at h⟩
section
variable {P : Program} (T : bm P) {C : Ctx} {n : Nat} {st : St} {G : Gh} {tmps : Array Value} {w : World}
theorem ar.jy (m : Bool) (h : ar C n st G tmps w) (lv : List Nat) (hlv : ∀ g ∈ lv, g ∈ st.lv) : iG m C n st G tmps lv [] (.slice none 0 0) w w := by
  let own' : Nat → Option Row := fun g' => if g' = st.gen then some .nil else G.own g'
  obtain ⟨hle, hs'⟩ := h.grow (Below.refl _ w) own' (st.gen + 1) (st.gen :: lv) (Nat.le_succ _)
    (fun g r hg hr => by simpa only [own', if_neg (Nat.ne_of_lt hg)] using hr)
    (fun g r hr => by
      simp only [own'] at hr
      split at hr
      · omega
      · exact Nat.lt_succ_of_lt (h.gown g r hr))
    (fun g hg => by
      rcases List.mem_cons.1 hg with rfl | hg
      · exact ⟨_, by simp [own']; rfl⟩
      · obtain ⟨r, hr⟩ := h.live g (hlv g hg)
        exact ⟨r, by simp only [own', if_neg (Nat.ne_of_lt (h.gown g r hr))]; exact hr⟩)
    (fun g b len' cap' sz' pub' hg hr => by
      simp only [own'] at hr
      split at hr
      · cases hr
      · exact absurd (h.gown g _ hr) (by omega))
    (fun g b bs hg hr => by
      simp only [own'] at hr
      split at hr
      · cases hr
      · exact absurd (h.gown g _ hr) (by omega))
    (fun g b bs c lim hg hr => by
      simp only [own'] at hr
      split at hr
      · cases hr
      · exact absurd (h.gown g _ hr) (by omega))
  refine ⟨⟨⟨G.box, own'⟩, rfl, hs', ?_⟩⟩
  have fin : ∀ r, own' st.gen = some r → Row.nil = r := fun r hr2 => by simpa only [own', if_true, Option.some.injEq] using hr2
  cases m with
  | false => exact .own _ _ [] .nil (by simp [ao]) (fun r hr => fin r hr ▸ ⟨0, by simp, rfl, rfl⟩)
  | true => exact .xs _ _ [] (by simp [ao]) rfl (fun r hr => fin r hr ▸ ⟨rfl, rfl⟩)
theorem nn {n sz : Nat} {l1 l2 rest : List Value} {es es2 : List (List D)} {R : Value → D → Prop} (hn : es.length = n) (h1l : l1.length = n * sz) (hl : ∀ (e : List D), e ∈ es ++ es2 → e.length = sz)
    (h1 : ∀ (i j : Nat) (e : List D) (d : D), es[i]? = some e → e[j]? = some d → ∃ u, l1[i * sz + j]? = some u ∧ R u d)
    (h2 : ∀ (i j : Nat) (e : List D) (d : D), es2[i]? = some e → e[j]? = some d → ∃ u, l2[i * sz + j]? = some u ∧ R u d) :
    ∀ (i j : Nat) (e : List D) (d : D), (es ++ es2)[i]? = some e → e[j]? = some d → ∃ u, (l1 ++ l2 ++ rest).toArray[i * sz + j]? = some u ∧ R u d := by
  intro i j e d hi hj
  have hel : e.length = sz := hl e (List.mem_of_getElem? hi)
  have hjl : j < sz := by rw [← hel]; exact (List.getElem?_eq_some_iff.1 hj).1
  rcases Nat.lt_or_ge i n with hlt | hge
  · rw [List.getElem?_append_left (by omega)] at hi
    obtain ⟨u, hu, hR⟩ := h1 i j e d hi hj
    refine ⟨u, ?_, hR⟩
    rw [List.getElem?_toArray, List.append_assoc, List.getElem?_append_left (List.getElem?_eq_some_iff.1 hu).1]
    exact hu
  · rw [List.getElem?_append_right (by omega)] at hi
    obtain ⟨u, hu, hR⟩ := h2 _ j e d hi hj
    refine ⟨u, ?_, hR⟩
    have e1 : i * sz + j - l1.length = (i - es.length) * sz + j := by
      rw [h1l, hn, Nat.sub_mul]
      have : n * sz ≤ i * sz := Nat.mul_le_mul_right _ hge
      omega
    have hge2 : l1.length ≤ i * sz + j := by rw [h1l]; have : n * sz ≤ i * sz := Nat.mul_le_mul_right _ hge; omega
    rw [List.getElem?_toArray, List.append_assoc, List.getElem?_append_right hge2, e1, List.getElem?_append_left (List.getElem?_eq_some_iff.1 hu).1]
    exact hu
theorem uz {z : Array Value} (h : ∀ u ∈ z.toList, u.oneCell' = true) (k : Nat) : ∀ u ∈ (Builtin.zeroCells z k).toList, u.oneCell' = true := by
  intro u hu
  rw [Builtin.zeroCells, Array.toList_map] at hu
  obtain ⟨i, hi, rfl⟩ := List.mem_map.1 hu
  have hz : 0 < z.size := by
    rcases Nat.eq_zero_or_pos z.size with q | q
    · rw [q, Nat.mul_zero] at hi; simp at hi
    · exact q
  have hlt := Nat.mod_lt i hz
  rw [getElem!_pos z (i % z.size) hlt]
  exact h _ (by simp)
theorem vg {l1 l2 : List Value} {z : Array Value} {k : Nat} (h1 : ∀ u ∈ l1, u.oneCell' = true) (h2 : ∀ u ∈ l2, u.oneCell' = true) (h3 : ∀ u ∈ z.toList, u.oneCell' = true) : dB (l1 ++ l2 ++ (Builtin.zeroCells z k).toList).toArray :=
  dB.mem fun u hu => by
    rcases List.mem_append.1 hu with hu | hu
    · rcases List.mem_append.1 hu with hu | hu
      · exact h1 u hu
      · exact h2 u hu
    · exact uz h3 k u hu
theorem jl {cur : Array Value} {l2 : List Value} {i j : Nat} (h1 : dB cur) (h2 : ∀ u ∈ l2, u.oneCell' = true) : dB (cur.toList.take i ++ l2 ++ cur.toList.drop j).toArray :=
  dB.mem fun u hu => by
    rcases List.mem_append.1 hu with hu | hu
    · rcases List.mem_append.1 hu with hu | hu
      · exact h1.of u (List.mem_of_mem_take hu)
      · exact h2 u hu
    · exact h1.of u (List.mem_of_mem_drop hu)
theorem yk {z : Value} {l : List Value} (h : z.cells.toList = l) (hk : l.all bK = true) : ∀ u ∈ z.cells.toList, u.oneCell' = true := fun u hu => jB (List.all_eq_true.1 hk u (h ▸ hu))
inductive Src (m : Bool) (C : Ctx) (w : World) (st : St) (G : Gh) (v : Value) (es : List (List D)) : List Nat → Prop
  | own (g : Nat) (r : Row) (hg : G.own g = some r) (hR : sH m w (aN C G) r v es) : Src m C w st G v es (bg st.lv g)
  | nil (hv : v = .slice none 0 0) (he : es = []) : Src m C w st G v es st.lv
theorem sH.flat {m : Bool} {w : World} {pv : Nat → Nat → Prop} {b len cap sz pub : Nat} {v : Value} {es : List (List D)} (h : sH m w pv (.blk b len cap sz pub) v es) (hl : ∀ (e : List D), e ∈ es → e.length = sz) :
    v = .slice (some ⟨b, 0, none⟩) len cap ∧ es.length = len ∧ pub = dS m (len * sz) ∧ ∃ l : List Value, l.length = len * sz ∧ (∀ (t : Nat) (u : Value), l[t]? = some u → cellAt w b t = some u ∧ u.oneCell' = true) ∧
      ∀ (i j : Nat) (e : List D) (d : D), es[i]? = some e → e[j]? = some d → ∃ u, l[i * sz + j]? = some u ∧ aF w pv u d := by
  cases m with
  | false =>
    obtain ⟨hv, s, hs, h1, h2, h3, h4⟩ := h
    subst h3
    subst h1
    obtain ⟨q1, q2, q3, l, q4, q5, q6⟩ := hv.flat hl
    exact ⟨rfl, q1, h4, l, q4, fun t u hu => by have := q5 t u hu; rw [Nat.zero_add] at this; exact ⟨this.1, this.2.2⟩, q6⟩
  | true =>
    obtain ⟨_, h1, h2, h3, h4, h5⟩ := h
    refine ⟨h1, h2, h3, ?_⟩
    have key : ∀ t, t < len * sz → ∃ u, cellAt w b t = some u ∧ u.oneCell' = true ∧ ∀ e d, es[t / sz]? = some e → e[t % sz]? = some d → aF w pv u d := by
      intro t ht
      have hz : 0 < sz := Nat.pos_of_ne_zero fun h => by rw [h] at ht; simp at ht
      have hi : t / sz < es.length := by rw [h2]; exact Nat.div_lt_of_lt_mul (by rw [Nat.mul_comm]; exact ht)
      have he : es[t / sz]? = some es[t / sz] := by simp [hi]
      have hel := h4 _ (List.mem_of_getElem? he)
      have hd : es[t / sz][t % sz]? = some (es[t / sz][t % sz]'(by rw [hel]; exact Nat.mod_lt _ hz)) := by simp
      obtain ⟨u, hu, hud⟩ := h5 _ _ _ _ he hd
      rw [Nat.div_add_mod' t sz] at hu
      refine ⟨u, hu, hud.one, fun e d he' hd' => ?_⟩
      rw [he] at he'
      cases he'
      rw [hd] at hd'
      cases hd'
      exact hud
    refine ⟨(List.range (len * sz)).map fun t => (cellAt w b t).getD default, by simp, fun t u hu => ?_, fun i j e d hi hj => ?_⟩
    · simp only [List.getElem?_map, Option.map_eq_some_iff] at hu
      obtain ⟨t', ht', rfl⟩ := hu
      have hlt : t < len * sz := by
        rcases Nat.lt_or_ge t (len * sz) with h | h
        · exact h
        · rw [List.getElem?_eq_none (by simpa using h)] at ht'; cases ht'
      rw [List.getElem?_range hlt] at ht'
      have : t' = t := (Option.some.inj ht').symm
      subst this
      obtain ⟨u, hu, h1, _⟩ := key t' hlt
      rw [hu]
      exact ⟨rfl, h1⟩
    · have hlt : i < len := by rw [← h2]; exact (List.getElem?_eq_some_iff.1 hi).1
      have hel : e.length = sz := h4 e (List.mem_of_getElem? hi)
      have hj' : j < sz := by rw [← hel]; exact (List.getElem?_eq_some_iff.1 hj).1
      obtain ⟨u, hu, hud⟩ := h5 i j e d hi hj
      refine ⟨u, ?_, hud⟩
      simp [qi hlt hj', hu]
theorem aF.zm {w : World} {pv : Nat → Nat → Prop} {v : Value} {es : List (List D)} (h : aF w pv v (.sl es)) : ∃ a cap, v = .slice a es.length cap ∧ es.length ≤ cap := by
  cases h with
  | nil => exact ⟨none, 0, rfl, by simp⟩
  | emp a cap hm => exact ⟨_, cap, rfl, by simp⟩
  | sl b off len cap sz es u hl hc hm hs hu hr => exact ⟨_, cap, by rw [hl], by omega⟩
theorem je (m : Bool) (h : ar C n st G tmps w) {t e : Nat} {td ed : bo} (ht : ak T.l t = some td) (hk : td.k = .slice e) (he : ak T.l e = some ed) {v v2 : Value} {es es2 : List (List D)} {lv : List Nat}
    (hvl : ∃ a cap, v = .slice a es.length cap ∧ es.length ≤ cap) (hv2 : aF w (aN C G) v2 (.sl es2)) (hsrc : Src m C w st G v es lv) (hl : ∀ (x : List D), x ∈ es ++ es2 → x.length = ed.n) (hz : 0 < ed.n) (hb0 : 0 < ed.b)
    (hb : (es.length + es2.length) * ed.b ≤ 140737488355328) (ty : Nat) :
    ∃ v' w', (Builtin.append_ #[t, t] ty #[v, v2]).run P w = .ok v' w' ∧ iG m C n st G tmps lv (es ++ es2) v' w w' := by
  have hu := T.dX ht hk
  obtain ⟨i, z, hi, hin, hib, hiz, hzc, hzl, hzk, _⟩ := T.info he
  have hzo := yk hzc hzk
  have hmax : es.length + es2.length ≤ 140737488355328 := Nat.le_trans (Nat.le_mul_of_pos_right _ hb0) hb
  have hmx : es.length + es2.length ≤ maxLen := by simp only [maxLen]; omega
  have hlv : ∀ g' ∈ lv, g' ∈ st.lv := by
    cases hsrc with
    | own g r _ _ => exact fun g' hg' => (bR hg').1
    | nil => exact fun g' hg' => hg'
  have hl1 : ∀ (x : List D), x ∈ es → x.length = ed.n := fun x hx => hl x (List.mem_append.2 (.inl hx))
  have hl2 : ∀ (x : List D), x ∈ es2 → x.length = ed.n := fun x hx => hl x (List.mem_append.2 (.inr hx))
  rcases Nat.eq_zero_or_pos es2.length with hm | hm
  · have hes2 : es2 = [] := List.eq_nil_of_length_eq_zero hm
    subst hes2
    obtain ⟨a2, c2, hv2e, _⟩ := hv2.len
    obtain ⟨a1, c1, hv1e, hc1⟩ := hvl
    refine ⟨v, w, by rw [hv1e]; exact nd ty hu hi a1 _ c1 hc1 v2 a2 c2 hv2e, ?_⟩
    rw [List.append_nil]
    cases hsrc with
    | own g r hg hR => exact h.kC hg hR _ fun g' hg' => bR hg'
    | nil hv0 he0 => subst hv0; subst he0; exact h.jy m _ fun _ h => h
  · cases hv2 with
    | nil => simp at hm
    | emp => simp at hm
    | sl b2 off2 len2 cap2 sz2 _ u2 hlen2 hc2 hcm2 hs2 hu2 hr2 =>
    obtain ⟨_, _, _, news, hnl, hnc, hnr⟩ := (aF.sl b2 off2 len2 cap2 sz2 es2 u2 hlen2 hc2 hcm2 hs2 hu2 hr2).flat hl2
    have hnews : ∀ j u, news[j]? = some u → w.cell? ((⟨b2, off2, none⟩ : Addr).add j) = some u := by
      intro j u hj
      have := (hnc j u hj).1
      unfold Addr.add
      split
      · rename_i e; subst e; simpa [cellAt] using this
      · exact this
    have hlen2' : len2 = es2.length := hlen2.symm
    have hfitn : news.length = len2 * i.size := by rw [hnl, hin]
    have hno : ∀ u ∈ news, u.oneCell' = true := fun u hu => by obtain ⟨j, hj⟩ := List.mem_iff_getElem?.1 hu; exact (hnc j u hj).2.2
    have grow : ∀ (olds : List Value) (cap' : Nat), (∀ u ∈ olds, u.oneCell' = true) → olds.length = es.length * ed.n → es.length + len2 ≤ cap' → cap' ≤ maxLen →
        (∀ (i j : Nat) (x : List D) (d : D), es[i]? = some x → x[j]? = some d → ∃ u, olds[i * ed.n + j]? = some u ∧ aF w (aN C G) u d) →
        ∀ arr : Array Value, arr = olds.toArray ++ news.toArray ++ Builtin.zeroCells z.cells (cap' - (es.length + len2)) →
        iG m C n st G tmps lv (es ++ es2) (.slice (some ⟨w.heap.size, 0, none⟩) (es.length + len2) cap') w (w.drew.alloc (.cells arr e)) := by
      intro olds cap' hoo hol hge hcm hor arr harr
      have hb' : Below w.heap.size w (w.drew.alloc (.cells arr e)) := ((Below.refl _ w).drew).alloc (Nat.le_refl _) _
      have hzs : z.cells.size = ed.n := by rw [← hzl, ← hzc]; simp
      have hsz : arr.size = cap' * ed.n := by
        rw [harr]
        simp only [Array.size_append, List.size_toArray, size_zeroCells, hol, hnl, hzs, ← Nat.add_mul]
        congr 1
        omega
      have e0 : (es ++ es2).length = es.length + len2 := by simp [hlen2]
      have e1 : arr = (olds ++ news ++ (Builtin.zeroCells z.cells (cap' - (es.length + len2))).toList).toArray := by rw [harr]; simp
      have main : ∀ (drop : Nat → Prop) [DecidablePred drop], (∀ g ∈ lv, g ∈ st.lv ∧ ¬ drop g) → iG m C n st G tmps lv (es ++ es2) (.slice (some ⟨w.heap.size, 0, none⟩) (es ++ es2).length cap') w (w.drew.alloc (.cells arr e)) := by
        intro drop _ hd
        refine h.newRow m hb' (heap_alloc_new w.drew _) hsz (by rw [e1]; exact vg hoo hno hzo) (by omega) hcm hz (by omega) hl ?_ drop lv hd
        rw [e1]
        exact nn rfl hol hl hor hnr
      rw [← e0]
      cases hsrc with
      | own g r hg hR => exact main (fun x => x = g) fun g' hg' => bR hg'
      | nil => exact main (fun _ => False) fun g' hg' => ⟨hg', fun h => h⟩
    have hcap : ∀ old, es.length + len2 ≤ grownCap w (es.length + len2) old e ∧ grownCap w (es.length + len2) old e ≤ maxLen := fun old => ⟨grownCap_ge w _ old e, grownCap_le_maxLen w _ old e (by omega)⟩
    have nilCase : v = .slice none 0 0 → es = [] → ∃ v' w', (Builtin.append_ #[t, t] ty #[v, .slice (some ⟨b2, off2, none⟩) len2 cap2]).run P w = .ok v' w' ∧ iG m C n st G tmps lv (es ++ es2) v' w w' := by
      intro hv0 he0
      subst hv0; subst he0
      have hr := run_append_nil (P := P) w t ty e i z hu hi hiz ⟨b2, off2, none⟩ len2 cap2 news hfitn hnews (by omega) (by omega) (by rw [hib, hlen2']; simp at hb; omega)
      have hg := grow [] (grownCap w len2 0 e) (by simp) (by simp) (by simpa using (hcap 0).1) (by simpa using (hcap 0).2) (by simp) _ rfl
      simp only [List.length_nil, Nat.zero_add] at hg
      refine ⟨_, _, hr, ?_⟩
      simpa using hg
    cases hsrc with
    | nil hv0 he0 => exact nilCase hv0 he0
    | own g r hg hR =>
      cases r with
      | mp b bs =>
        cases m with
        | false => exact absurd hR.2.choose_spec.2 (fun h => h)
        | true => exact absurd hR.2 (fun h => h)
      | nil =>
        have hr : v = .slice none 0 0 ∧ es = [] := by
          cases m with
          | false => obtain ⟨_, s, _, h1, h2⟩ := hR; exact ⟨h1, List.eq_nil_of_length_eq_zero h2⟩
          | true => exact hR.2
        exact nilCase hr.1 hr.2
      | zero b =>
        cases m with
        | true =>
          obtain ⟨hv0, he0⟩ := hR.2
          subst hv0; subst he0
          have hr := run_append_grow (P := P) w t ty e i z hu hi hiz ⟨b, 0, none⟩ 0 0 [] (by simp) (by simp) ⟨b2, off2, none⟩ len2 cap2 news hfitn hnews (by omega) (by omega)
            (growslice_fits (by omega) (by rw [hib]; simpa [hlen2'] using hb))
          have hg := grow [] (grownCap w (0 + len2) 0 e) (by simp) (by simp) (by simpa using (hcap 0).1) (by simpa using (hcap 0).2) (by simp) _ rfl
          exact ⟨_, _, hr, by simpa using hg⟩
        | false =>
          obtain ⟨hrd, s, _, off, hv0⟩ := hR
          subst hv0
          obtain ⟨olds, hol, hoc, hor⟩ : ∃ olds : List Value, olds.length = es.length * ed.n ∧ (∀ (t : Nat) (u : Value), olds[t]? = some u → cellAt w b (off + t) = some u ∧ u.oneCell' = true) ∧
              ∀ (i j : Nat) (x : List D) (d : D), es[i]? = some x → x[j]? = some d → ∃ u, olds[i * ed.n + j]? = some u ∧ aF w (aN C G) u d := by
            generalize hq : Value.slice (some ⟨b, off, none⟩) es.length es.length = q at hrd
            cases hrd with
            | nil => exact ⟨[], by simp, by simp, by simp⟩
            | emp => exact ⟨[], by simp, by simp, by simp⟩
            | sl b1 off1 len1 cap1 sz1 _ u1 hlen1 hc1 hcm1 hs1 hu1 hr1 =>
              simp only [Value.slice.injEq, Option.some.injEq, Addr.mk.injEq, and_true] at hq
              obtain ⟨⟨rfl, rfl⟩, rfl, rfl⟩ := hq
              obtain ⟨_, _, _, olds, hol, hoc, hor⟩ := (aF.sl b off es.length es.length sz1 es u1 hlen1 hc1 hcm1 hs1 hu1 hr1).flat hl1
              exact ⟨olds, hol, fun t u hu => ⟨(hoc t u hu).1, (hoc t u hu).2.2⟩, hor⟩
          have holds : ∀ j u, olds[j]? = some u → w.cell? ((⟨b, off, none⟩ : Addr).add j) = some u := by
            intro j u hj
            have := (hoc j u hj).1
            unfold Addr.add
            split
            · rename_i e; subst e; simpa [cellAt] using this
            · exact this
          have hr := run_append_grow (P := P) w t ty e i z hu hi hiz ⟨b, off, none⟩ es.length es.length olds (by rw [hol, hin]) holds ⟨b2, off2, none⟩ len2 cap2 news hfitn hnews (by omega) (by omega)
            (growslice_fits (by omega) (by rw [hib]; simpa [hlen2'] using hb))
          have hgr := grow olds (grownCap w (es.length + len2) es.length e) (fun u hu => by obtain ⟨j, hj⟩ := List.mem_iff_getElem?.1 hu; exact (hoc j u hj).2) hol (hcap es.length).1 (hcap es.length).2 hor _ rfl
          exact ⟨_, _, hr, hgr⟩
      | blk b len cap s pub =>
        obtain ⟨hmine, hnb, huniq, cur, T', hcur, hcs, hlc, hcm, hz', hpos, _, hone⟩ := h.row g b len cap s pub hg
        have hlen : es.length = len := by
          cases m with
          | false => obtain ⟨_, s, _, h1, h2, _⟩ := hR; exact h2
          | true => exact hR.2.2.1
        have hsl : ∀ (e : List D), e ∈ es → e.length = s := by
          cases m with
          | false => obtain ⟨_, s', h0, h1, h2, h3, _⟩ := hR; exact h3 ▸ h0
          | true => exact hR.2.2.2.2.1
        have hsz : s = ed.n := by
          have he0 : es[0]? = some (es[0]'(by omega)) := by simp
          rw [← hsl _ (List.mem_of_getElem? he0), hl1 _ (List.mem_of_getElem? he0)]
        subst hsz
        obtain ⟨hv0, _, hpub, olds, hol, hoc, hor⟩ := hR.flat hl1
        subst hlen
        subst hv0
        subst hpub
        have holds : ∀ j u, olds[j]? = some u → w.cell? ((⟨b, 0, none⟩ : Addr).add j) = some u := by
          intro j u hj
          have := (hoc j u hj).1
          unfold Addr.add
          split
          · rename_i e; subst e; simpa [cellAt] using this
          · simpa using this
        by_cases hroom : es.length + len2 ≤ cap
        · have hfit : es.length * i.size + news.length ≤ cur.size := by rw [hnl, hin, hcs, ← Nat.add_mul]; exact Nat.mul_le_mul_right _ hroom
          by_cases hTe : T' = e
          · subst hTe
            have hr := run_append_room (P := P) w t ty T' i hu hi b es.length cap cur hcur ⟨b2, off2, none⟩ len2 cap2 news hfitn hnews (fun u hu => by
              obtain ⟨j, hj⟩ := List.mem_iff_getElem?.1 hu
              exact (hnc j u hj).2.2) hroom hfit
            refine ⟨_, _, hr, ?_⟩
            have e0 : (es ++ es2).length = es.length + len2 := by simp [hlen2]
            have htk : cur.toList.take (es.length * i.size) = olds := by
              apply List.ext_getElem?
              intro t'
              rw [List.getElem?_take]
              split
              · rename_i hlt
                rw [hin] at hlt
                have ho : olds[t']? = some olds[t'] := by simp [hol, hlt]
                rw [ho]
                have := (hoc t' _ ho).1
                rw [bj hcur] at this
                simpa using this
              · rename_i hge
                rw [hin] at hge
                rw [List.getElem?_eq_none (by rw [hol]; omega)]
            rw [← e0]
            refine h.nC m hg hcur ?_ (jl hone hno) (fun t' ht'' => ?_) (by omega) (by omega) hl ?_ _ fun g' hg' => bR hg'
            · simp only [List.size_toArray, List.length_append, List.length_take, List.length_drop, Array.length_toList]
              omega
            · have ht' := Nat.lt_of_lt_of_le ht'' (kg _ _)
              rw [List.getElem?_toArray, List.append_assoc, List.getElem?_append_left (by rw [htk, hol]; exact ht'), List.getElem?_take, if_pos (by rw [hin]; exact ht')]
              simp
            · rw [htk]
              exact nn rfl hol hl hor hnr
          · -- the block's own element type does not matter
            have hf := run_firstCells_some (P := P) w i.size len2 ⟨b2, off2, none⟩ len2 cap2 news hfitn hnews
            have hst := run_storeCells_at P b (es.length * i.size) T' news 0 cur w hcur (by simpa using hfit) (fun u hu => by
              obtain ⟨j, hj⟩ := List.mem_iff_getElem?.1 hu
              exact (hnc j u hj).2.2)
            simp only [Nat.add_zero] at hst
            have hr : (Builtin.append_ #[t, t] ty #[.slice (some ⟨b, 0, none⟩) es.length cap, .slice (some ⟨b2, off2, none⟩) len2 cap2]).run P w =
                .ok (.slice (some ⟨b, 0, none⟩) (es.length + len2) cap) (w.setRow b (cur.toList.take (es.length * i.size) ++ news ++ cur.toList.drop (es.length * i.size + news.length)).toArray) := by
              simp [Builtin.append_, run_underlying hu, Go.sizeOf, typeInfo, hi, Builtin.lenOf, hroom, hf, Addr.add_lit, hst]
            refine ⟨_, _, hr, ?_⟩
            have e0 : (es ++ es2).length = es.length + len2 := by simp [hlen2]
            have htk : cur.toList.take (es.length * i.size) = olds := by
              apply List.ext_getElem?
              intro t'
              rw [List.getElem?_take]
              split
              · rename_i hlt
                rw [hin] at hlt
                have ho : olds[t']? = some olds[t'] := by simp [hol, hlt]
                rw [ho]
                have := (hoc t' _ ho).1
                rw [bj hcur] at this
                simpa using this
              · rename_i hge
                rw [hin] at hge
                rw [List.getElem?_eq_none (by rw [hol]; omega)]
            rw [← e0]
            refine h.nC m hg hcur ?_ (jl hone hno) (fun t' ht'' => ?_) (by omega) (by omega) hl ?_ _ fun g' hg' => bR hg'
            · simp only [List.size_toArray, List.length_append, List.length_take, List.length_drop, Array.length_toList]
              omega
            · have ht' := Nat.lt_of_lt_of_le ht'' (kg _ _)
              rw [List.getElem?_toArray, List.append_assoc, List.getElem?_append_left (by rw [htk, hol]; exact ht'), List.getElem?_take, if_pos (by rw [hin]; exact ht')]
              simp
            · rw [htk]
              exact nn rfl hol hl hor hnr
        · have hr := run_append_grow (P := P) w t ty e i z hu hi hiz ⟨b, 0, none⟩ es.length cap olds (by rw [hol, hin]) holds ⟨b2, off2, none⟩ len2 cap2 news hfitn hnews (by omega) (by omega)
            (growslice_fits (by omega) (by rw [hib]; simpa [hlen2'] using hb))
          have hgr := grow olds (grownCap w (es.length + len2) cap e) (fun u hu => by obtain ⟨j, hj⟩ := List.mem_iff_getElem?.1 hu; exact (hoc j u hj).2) hol (hcap cap).1 (hcap cap).2 hor _ rfl
          exact ⟨_, _, hr, hgr⟩
end
section
variable {P : Program} (T : bm P) {C : Ctx} {n : Nat} {ops : Array Oper} {Q : Exit → St → Prop} {st : St} {o : Oper} {rest : List Oper}
theorem jj {act : Act} {x y : Operand} {t : Nat} (ho : o.op = .call ⟨.builtin .append, #[x, y], #[t, t]⟩) {w w' : World} {v' : Value}
    (h : (Builtin.append_ #[t, t] o.type #[act.eval x, act.eval y]).run P w = .ok v' w') : (execOp act.eval o).run P w = .ok (.value v') w' := by
  unfold execOp
  rw [ho]
  show Sem.run P (do let d ← resolve act.eval ⟨.builtin .append, #[x, y], #[t, t]⟩ o.type; invoke d.target d.args) w = _
  simp only [resolve, invoke, builtin, Sem.run_bind, Sem.run_pure, Result.andThen_ok, List.map_toArray, List.map_cons, List.map_nil, h]
theorem WO.append (hg : o.guard = none) (hd : cZ n o.dst = true) {x y : Operand} {t e : Nat} {td ed : bo} (ho : o.op = .call ⟨.builtin .append, #[x, y], #[t, t]⟩) (ht : ak T.l t = some td) (hk : td.k = .slice e) (he : ak T.l e = some ed)
    {g : Nat} {es es2 : List (List D)} (hx : av st.f x = some (.own g es)) (hgl : g ∈ st.lv) {b : A} (hy : av st.f y = some b) (hb2 : fa b = some es2) (hz : Nat.blt 0 ed.n = true) (hb0 : Nat.blt 0 ed.b = true)
    (hl : ∀ (x : List D), x ∈ es ++ es2 → x.length = ed.n) (hb : (es.length + es2.length) * ed.b ≤ 140737488355328)
    (h : WO P C n ops Q rest (St.put { st with lv := st.gen :: bg st.lv g, gen := st.gen + 1 } o.dst (.own st.gen (es ++ es2)))) : WO P C n ops Q (o :: rest) st := by
  refine WO.step hg fun tmps w ⟨G, hs⟩ => ?_
  have hr := hs.av hx
  have hr2 := eR hb2 (hs.av hy)
  obtain ⟨r, hgr⟩ := hs.live g hgl
  generalize hv : Act.eval ⟨tmps, []⟩ x = v at hr
  cases hr with
  | own _ _ _ hrd hgg hrow =>
  obtain ⟨s, hsl, hri⟩ := hrow r hgr
  obtain ⟨v', w', hrun, ⟨G', _, hs', hv'⟩⟩ := je T false hs ht hk he hrd.zm hr2 (.own g r hgr ⟨hrd, s, hsl, hri⟩) hl (Nat.le_of_ble_eq_true hz) (Nat.le_of_ble_eq_true hb0) hb o.type
  rw [← hv] at hrun
  exact cd (jj ho hrun) ⟨_, ⟨G', hs'.put (bL hd) hv'⟩, h⟩
theorem WO.tZ (hg : o.guard = none) (hd : cZ n o.dst = true) {x y : Operand} {t e : Nat} {td ed : bo} (ho : o.op = .call ⟨.builtin .append, #[x, y], #[t, t]⟩) (ht : ak T.l t = some td) (hk : td.k = .slice e) (he : ak T.l e = some ed)
    {es2 : List (List D)} (hx : av st.f x = some (.d (.v (.slice none 0 0)))) {b : A} (hy : av st.f y = some b) (hb2 : fa b = some es2) (hz : Nat.blt 0 ed.n = true) (hb0 : Nat.blt 0 ed.b = true)
    (hl : ∀ (x : List D), x ∈ es2 → x.length = ed.n) (hb : es2.length * ed.b ≤ 140737488355328)
    (h : WO P C n ops Q rest (St.put { st with lv := st.gen :: st.lv, gen := st.gen + 1 } o.dst (.own st.gen es2))) : WO P C n ops Q (o :: rest) st := by
  refine WO.step hg fun tmps w ⟨G, hs⟩ => ?_
  have hr := hs.av hx
  have hr2 := eR hb2 (hs.av hy)
  generalize hv : Act.eval ⟨tmps, []⟩ x = v at hr
  cases hr with | d hr => cases hr with | v _ _ =>
  obtain ⟨v', w', hrun, ⟨G', _, hs', hv'⟩⟩ := je (es := []) T false hs ht hk he ⟨none, 0, rfl, Nat.le_refl _⟩ hr2 (.nil rfl rfl) (by simpa using hl) (Nat.le_of_ble_eq_true hz) (Nat.le_of_ble_eq_true hb0) (by simpa using hb) o.type
  rw [List.length_nil, ← hv] at hrun
  exact cd (jj ho hrun) ⟨_, ⟨G', hs'.put (bL hd) (by simpa [yE] using hv')⟩, h⟩
theorem W.xM {c : Code} {d : Nat} (hl : look st.f d = some (.d (.v (.slice none 0 0)))) (hd : Nat.blt d n = true) (h : W P C n c Q (St.set { st with lv := st.gen :: st.lv, gen := st.gen + 1 } d (.own st.gen []))) : W P C n c Q st := by
  intro tmps w ⟨G, hs⟩
  obtain ⟨v, hv, hr⟩ := hs.frame _ _ hl
  cases hr with | d hr => cases hr with | v _ _ =>
  obtain ⟨⟨G', _, hs', hv'⟩⟩ := hs.jy false st.lv (fun _ h => h)
  refine h tmps w ⟨G', ?_⟩
  have := hs'.set (d := d) (Nat.le_of_ble_eq_true hd) hv'
  have e : tmps.setIfInBounds d (Value.slice none 0 0) = tmps := by
    apply Array.ext_getElem?
    intro i
    rw [Array.getElem?_setIfInBounds]
    split
    · rename_i e
      subst e
      split
      · rw [hv]
      · rename_i hlt; exact absurd (Array.getElem?_eq_some_iff.1 hv).1 hlt
    · rfl
  rw [e] at this
  exact this
end
end Go.Ab
namespace Go.Ab
open Go.RowKit
theorem kr (off : Nat) : ∀ (l : List Value) (k : Nat) (cells : Array Value), off + k + l.length ≤ cells.size →
    (l.zipIdx k).foldl (fun cs (x : Value × Nat) => cs.setIfInBounds (off + x.2) x.1) cells = (cells.toList.take (off + k) ++ l ++ cells.toList.drop (off + k + l.length)).toArray
  | [], k, cells, _ => by simp
  | v :: l, k, cells, h => by
    simp only [List.zipIdx_cons, List.foldl_cons]
    rw [kr off l (k + 1) _ (by simp at h ⊢; omega)]
    congr 1
    have e := list_seg_step cells.toList (off + k) v l (by simp at h ⊢; omega)
    simpa [Array.toList_setIfInBounds, Nat.add_assoc] using e
def lh (bx : List (Nat × List A)) (f : List (Nat × A)) (place : Nat → Option (Nat × Nat)) : List (Nat × Operand) → List A → Option (List A)
  | [], cells => some cells
  | (i, x) :: r, cells => match place i, av f x with
    | some (off, size), some a => (match cellsOf bx a with
      | some cs => if cs.length = size ∧ off + cs.length ≤ cells.length then lh bx f place r (setAt cells off cs) else none
      | none => none)
    | _, _ => none
section
variable {P : Program} (T : bm P) {C : Ctx} {n : Nat} {ops : Array Oper} {Q : Exit → St → Prop} {st : St} {o : Oper} {rest : List Oper}
variable {G : Gh} {tmps : Array Value} {w : World}
theorem rl (hs : ar C n st G tmps w) (place place' : Nat → Option (Nat × Nat)) (hp : ∀ i x, place i = some x → place' i = some x) : ∀ (parts : List (Nat × Operand)) (cells cells' : List A) (cs : Array Value), bJ (ao C G st.gen w) cs cells →
    lh st.bx st.f place parts cells = some cells' → ∃ cs', Instr.fill place' cs (parts.map fun (i, x) => (i, Act.eval ⟨tmps, []⟩ x)) = some cs' ∧ bJ (ao C G st.gen w) cs' cells'
  | [], cells, cells', cs, hr, h => by simp only [lh, Option.some.injEq] at h; subst h; exact ⟨cs, rfl, hr⟩
  | (i, x) :: r, cells, cells', cs, hr, h => by
    simp only [lh] at h
    split at h
    · rename_i off size a hpl ha
      split at h
      · rename_i cl hcl
        split at h
        · rename_i hc
          obtain ⟨h1, h2⟩ := hc
          have hrc := ji hs hcl (hs.av ha)
          have hsz : (Act.eval ⟨tmps, []⟩ x).cells.size = size := by rw [hrc.1]; exact h1
          have hle : off + (Act.eval ⟨tmps, []⟩ x).cells.size ≤ cs.size := by rw [hrc.1, hr.1]; exact h2
          obtain ⟨cs', h3, h4⟩ := rl hs place place' hp r _ cells' _ (bJ.setAt (off := off) hr hrc h2) h
          refine ⟨cs', ?_, h4⟩
          simp only [List.map_cons, Instr.fill, hp i _ hpl]
          rw [if_neg (by simp [hsz]; omega)]
          have e := kr off (Act.eval ⟨tmps, []⟩ x).cells.toList 0 cs (by simpa using hle)
          simp only [Nat.add_zero] at e
          rw [← h3, ← e]
          congr 1
          rw [← Array.foldl_toList]
          simp [Array.toList_zipIdx]
        · cases h
      · cases h
    · cases h
theorem bJ.gE {E : En} {cs : Array Value} {l : List A} (h : bJ E cs l) : aA E (.agg cs) (gE l) := gQ h.1 h.2.1 h.2.2
theorem u9 {E : En} {t : Nat} {d : bo} (h : ak T.l t = some d) : ∃ i z, P.info? t = some i ∧ i.zero = some z ∧ i.size = d.n ∧ bJ E z.cells (d.z.map fun v => .d (.v v)) := by
  obtain ⟨i, z, hi, hn, _, hz, hzc, hzl, hzk, _⟩ := T.info h
  have hall : ∀ (i : Nat) (u : Value), z.cells[i]? = some u → bK u = true := fun i u hu => by
    have : u ∈ d.z := by rw [← hzc, List.mem_iff_getElem?]; exact ⟨i, by simpa using hu⟩
    exact List.all_eq_true.1 hzk u this
  refine ⟨i, z, hi, hz, hn, by rw [List.length_map, ← hzc]; simp, fun i u hu => jB (hall i u hu), fun i u a hu ha => ?_⟩
  simp only [List.getElem?_map, Option.map_eq_some_iff] at ha
  obtain ⟨y, hy, rfl⟩ := ha
  rw [← hzc] at hy
  have : y = u := by simp at hy; rw [hu] at hy; exact (Option.some.inj hy).symm
  subst this
  exact .d (.v _ (hall i y hu))
def rZ (fs : List (Nat × Nat × String)) (i : Nat) : Option (Nat × Nat) := match fs[i]? with
  | some (off, ft, _) => (match ak T.l ft with | some d => some (off, d.n) | none => none)
  | none => none
theorem lG (P : Program) : ∀ (fl : List Field), (fl.map fun f => (f.offset, f.type, f.name)).all (fun x => (P.info? x.2.1).isSome) = true →
    ∃ pl, fl.mapM (fun f => (P.info? f.type).map fun i => (f.offset, i.size)) = some pl ∧ ∀ (i : Nat) (f : Field) (inf : TypeInfo), fl[i]? = some f → P.info? f.type = some inf → pl[i]? = some (f.offset, inf.size)
  | [], _ => ⟨[], by simp, by simp⟩
  | f :: fl, h => by
    simp only [List.map_cons, List.all_cons, Bool.and_eq_true] at h
    obtain ⟨inf, hinf⟩ := Option.isSome_iff_exists.1 h.1
    obtain ⟨pl, h1, h2⟩ := lG P fl h.2
    refine ⟨(f.offset, inf.size) :: pl, by simp [List.mapM_cons, hinf, h1], fun i g inf' hg hinf' => ?_⟩
    cases i with
    | zero => simp at hg; subst hg; rw [hinf] at hinf'; simp only [Option.some.injEq] at hinf'; subst hinf'; simp
    | succ i => simpa using h2 i g inf' (by simpa using hg) hinf'
theorem Pu.build {t : Nat} {parts : Array (Nat × Operand)} (ho : o.op = .build t parts) {d : bo} (ht : ak T.l t = some d) {fs : List (Nat × Nat × String)} (hk : d.k = .st fs) {cells : List A}
    (hf : lh st.bx st.f (rZ T fs) parts.toList (d.z.map fun v => .d (.v v)) = some cells) {r : A} (hr : Ab.gE cells = r) : Pu P C n st o r := by
  refine cA.pu fun G tmps w hs => ?_
  obtain ⟨fl, hu, hfl, _, _, hall⟩ := T.nz ht hk
  obtain ⟨i, z, hi, hz, hn, hzr⟩ := u9 (E := ao C G st.gen w) T ht
  obtain ⟨pl, hpl, hpl2⟩ := lG P fl.toList (by rw [hfl]; exact hall)
  obtain ⟨cs', h1, h2⟩ := rl (tmps := tmps) hs (rZ T fs) (pl.toArray[·]?) (fun j x hj => by
    unfold rZ at hj
    split at hj
    · rename_i off ft nm hfs
      split at hj
      · rename_i dt hdt
        simp only [Option.some.injEq] at hj
        subst hj
        rw [← hfl, List.getElem?_map, Option.map_eq_some_iff] at hfs
        obtain ⟨fd, hfd, he⟩ := hfs
        simp only [Prod.mk.injEq] at he
        obtain ⟨e1, e2, _⟩ := he
        obtain ⟨inf, _, hinf, hsz, _⟩ := T.info hdt
        have := hpl2 j fd inf hfd (by rw [e2]; exact hinf)
        rw [List.getElem?_toArray, this, e1, hsz]
      · cases hj
    · cases hj) parts.toList _ cells z.cells hzr hf
  refine ⟨.agg cs', ?_, by rw [← hr]; exact bJ.gE h2⟩
  have hb : P.built t (parts.map fun (x : Nat × Operand) => (x.1, Act.eval ⟨tmps, []⟩ x.2)).toList = some cs' := by
    unfold Program.built
    rw [hi, hu]
    simp only [hz, hpl]
    rw [← h1]
    congr 1
    simp
  unfold execOp
  rw [ho]
  show Sem.run P _ w = .ok _ w
  simp only [Sem.run_bind, run_build w t _ cs' hb, Result.andThen_ok, Sem.run_pure]
def re : A → Option (List D)
  | .ag l => some l
  | .d x => some [x]
  | .own _ es => some [.sl es]
  | .agg l => nr l
  | _ => none
def l3 (f : List (Nat × A)) : Nat → List (Nat × Operand) → Option (List (List D))
  | _, [] => some []
  | k, (i, x) :: r => bif Nat.beq i k then (match av f x with
      | some a => (match re a, l3 f (k + 1) r with
        | some e, some es => some (e :: es)
        | _, _ => none)
      | none => none) else none
theorem ra {E : En} {v : Value} {a : A} {l : List D} (h : re a = some l) (hr : aA E v a) : bJ E v.cells (l.map .d) := by
  cases hr <;> simp only [re] at h <;> first | (cases h; done) | skip
  case d y hd => simp only [Option.some.injEq] at h; subst h; exact bJ.one hd.one (.d hd)
  case ag vs l' hs hd =>
    simp only [Option.some.injEq] at h; subst h
    refine ⟨by simp [Value.cells, hs], fun i u hu => ?_, fun i u x hu hx => ?_⟩
    · have hi : i < l'.length := by rw [← hs]; exact (Array.getElem?_eq_some_iff.1 hu).1
      exact (hd i u l'[i] hu (by simp [hi])).one
    · simp only [List.getElem?_map, Option.map_eq_some_iff] at hx
      obtain ⟨y, hy, rfl⟩ := hx
      exact .d (hd i u y hu hy)
  case own g es _ hd _ => simp only [Option.some.injEq] at h; subst h; exact bJ.one hd.one (.d hd)
  case agg vs l' hs hone hd =>
    obtain ⟨h1, h2⟩ := l8 h
    refine ⟨by simp [Value.cells, hs, h1], hone, fun i u x hu hx => ?_⟩
    simp only [List.getElem?_map, Option.map_eq_some_iff] at hx
    obtain ⟨y, hy, rfl⟩ := hx
    obtain ⟨a, ha, hax⟩ := h2 i y hy
    exact .d (ry hax (hd i u a hu ha))
theorem pj (hs : ar C n st G tmps w) (sz : Nat) : ∀ (parts : List (Nat × Operand)) (k : Nat) (es done : List (List D)) (cs : Array Value) (zr : List A), l3 st.f k parts = some es → (∀ (e : List D), e ∈ es → e.length = sz) →
    bJ (ao C G st.gen w) cs (done.flatten.map A.d ++ zr) → done.flatten.length = k * sz → zr.length = es.length * sz →
    ∃ cs', Instr.fill (fun i => some (i * sz, sz)) cs (parts.map fun (i, x) => (i, Act.eval ⟨tmps, []⟩ x)) = some cs' ∧ bJ (ao C G st.gen w) cs' ((done ++ es).flatten.map A.d)
  | [], k, es, done, cs, zr, h, _, hr, hd, hz => by
    simp only [l3, Option.some.injEq] at h
    subst h
    have : zr = [] := List.eq_nil_of_length_eq_zero (by simpa using hz)
    subst this
    exact ⟨cs, rfl, by simpa using hr⟩
  | (i, x) :: r, k, es, done, cs, zr, h, hl, hr, hd, hz => by
    simp only [l3] at h
    cases hik : Nat.beq i k
    · simp [hik] at h
    · simp only [hik, cond_true] at h
      have hik := Nat.eq_of_beq_eq_true hik
      subst hik
      split at h
      · rename_i a ha
        split at h
        · rename_i e es' he hes'
          simp only [Option.some.injEq] at h
          subst h
          have hel : e.length = sz := hl e List.mem_cons_self
          have hrc := ra he (hs.av ha)
          have hsz : (Act.eval ⟨tmps, []⟩ x).cells.size = sz := by rw [hrc.1]; simpa using hel
          have hzl : zr.length = sz + es'.length * sz := by rw [hz, List.length_cons, Nat.succ_mul]; omega
          have hset : Ab.setAt (done.flatten.map A.d ++ zr) (i * sz) (e.map A.d) = (done ++ [e]).flatten.map A.d ++ zr.drop sz := by
            have e2 : (done ++ [e]).flatten.map A.d = done.flatten.map A.d ++ e.map A.d := by simp
            have e1 : i * sz = (done.flatten.map A.d).length := by rw [List.length_map, hd]
            have e3 : (e.map A.d).length = sz := by rw [List.length_map, hel]
            unfold Ab.setAt
            rw [e2, e3, e1, List.take_left, List.drop_append]
            simp
          have hle : i * sz + (e.map A.d).length ≤ (done.flatten.map A.d ++ zr).length := by rw [List.length_append, List.length_map, List.length_map, hd, hel, hzl]; omega
          have hrs := bJ.setAt (off := i * sz) hr hrc hle
          rw [hset] at hrs
          obtain ⟨cs', h3, h4⟩ := pj hs sz r (i + 1) es' (done ++ [e]) _ (zr.drop sz) hes' (fun e' he' => hl e' (List.mem_cons_of_mem _ he')) hrs (by rw [List.flatten_append, List.length_append, hd]; simp [hel, Nat.succ_mul]) (by simp [hzl])
          refine ⟨cs', ?_, by simpa using h4⟩
          simp only [List.map_cons, Instr.fill]
          have hle2 : i * sz + (Act.eval ⟨tmps, []⟩ x).cells.size ≤ cs.size := by rw [hr.1, hrc.1]; exact hle
          rw [if_neg (by simp [hsz]; omega)]
          have ef := kr (i * sz) (Act.eval ⟨tmps, []⟩ x).cells.toList 0 cs (by simpa using hle2)
          simp only [Nat.add_zero] at ef
          rw [← h3, ← ef]
          congr 1
          rw [← Array.foldl_toList]
          simp [Array.toList_zipIdx]
        · cases h
      · cases h
theorem gB {sz : Nat} : ∀ {es : List (List D)}, (∀ (e : List D), e ∈ es → e.length = sz) → ∀ (i j : Nat) (e : List D) (d : D), es[i]? = some e → e[j]? = some d → es.flatten[i * sz + j]? = some d
  | [], _, i, j, e, d, hi, _ => by simp at hi
  | e0 :: es, hl, i, j, e, d, hi, hj => by
    have hel := hl e0 List.mem_cons_self
    cases i with
    | zero =>
      simp at hi
      subst hi
      have : j < e0.length := (List.getElem?_eq_some_iff.1 hj).1
      rw [List.flatten_cons, Nat.zero_mul, Nat.zero_add, List.getElem?_append_left this]
      exact hj
    | succ i =>
      have := gB (fun e he => hl e (List.mem_cons_of_mem _ he)) i j e d (by simpa using hi) hj
      rw [List.flatten_cons, List.getElem?_append_right (by rw [hel, Nat.succ_mul]; omega)]
      have e1 : (i + 1) * sz + j - e0.length = i * sz + j := by rw [hel, Nat.succ_mul]; omega
      rw [e1]
      exact this
theorem mU (hs : ar C n st G tmps w) {t e len : Nat} {parts : Array (Nat × Operand)} {td ed : bo} (ht : ak T.l t = some td) (hk : td.k = .slice e) (he : ak T.l e = some ed)
    {es : List (List D)} (hes : l3 st.f 0 parts.toList = some es) (hlen : es.length = len) (hz : 0 < ed.n) (hsm : len * ed.n ≤ 16777216) (hl : ∀ (x : List D), x ∈ es → x.length = ed.n) (hpos : 0 < len) :
    ∃ cs', (Instr.buildSlice t len (parts.map fun (x : Nat × Operand) => (x.1, Act.eval ⟨tmps, []⟩ x.2))).run P w = .ok (.slice (some ⟨w.heap.size, 0, none⟩) len len) (w.alloc (.cells cs' e)) ∧ cs'.size = len * ed.n ∧ dB cs' ∧
      ∀ (k j : Nat) (e' : List D) (d : D), es[k]? = some e' → e'[j]? = some d → ∃ u, cs'[k * ed.n + j]? = some u ∧ aF w (aN C G) u d := by
  have hu := T.dX ht hk
  obtain ⟨i, z, hi, hn, _, hiz, hzc, hzl, hzk, _⟩ := T.info he
  have hzs : z.cells.size = ed.n := by rw [← hzl, ← hzc]; simp
  have hzr : bJ (ao C G st.gen w) ((Array.range (len * i.size)).map (z.cells[· % z.cells.size]!)) ((List.range (len * ed.n)).map fun j => A.d (.v (z.cells[j % z.cells.size]!))) := by
    have hok : ∀ j, bK (z.cells[j % z.cells.size]!) = true := fun j => by
      have hj : j % z.cells.size < z.cells.size := Nat.mod_lt _ (by omega)
      have : z.cells[j % z.cells.size]! ∈ ed.z := by
        rw [← hzc, getElem!_pos z.cells _ hj]
        simp
      exact List.all_eq_true.1 hzk _ this
    refine ⟨by simp [hn], fun k u hu => ?_, fun k u a hu ha => ?_⟩
    · simp only [Array.getElem?_map, Option.map_eq_some_iff] at hu
      obtain ⟨j, _, rfl⟩ := hu
      exact jB (hok j)
    · simp only [Array.getElem?_map, Option.map_eq_some_iff, List.getElem?_map] at hu ha
      obtain ⟨j, hj, rfl⟩ := hu
      obtain ⟨j', hj', rfl⟩ := ha
      have : j = j' := by
        rw [hn] at hj
        have h1 := (Array.getElem?_eq_some_iff.1 hj)
        have h2 := (List.getElem?_eq_some_iff.1 hj')
        obtain ⟨_, h1⟩ := h1
        obtain ⟨_, h2⟩ := h2
        simp at h1 h2
        omega
      subst this
      exact .d (.v _ (hok j))
  obtain ⟨cs', hf, hrc⟩ := pj (tmps := tmps) hs ed.n parts.toList 0 es [] _ _ hes hl (by simpa using hzr) (by simp) (by simp [hlen])
  have hflat : bJ (ao C G st.gen w) cs' (es.flatten.map A.d) := by simpa using hrc
  have hfl : es.flatten.length = es.length * ed.n := by
    clear hf hrc hflat hes hlen
    induction es with
    | nil => simp
    | cons e es ih => simp [ih (fun x hx => hl x (List.mem_cons_of_mem _ hx)), hl e List.mem_cons_self, Nat.succ_mul]; omega
  have hrun := run_buildSlice (P := P) w t e len (parts.map fun (x : Nat × Operand) => (x.1, Act.eval ⟨tmps, []⟩ x.2)) cs' i z hu hi hiz (by rw [hn]; simp; omega) (by rw [hn]; exact Nat.ne_of_gt (Nat.mul_pos hpos hz)) (by
    rw [hn, ← hf]
    congr 1
    · rw [← hn]
    · simp)
  refine ⟨cs', hrun, by rw [hflat.1, List.length_map, hfl, hlen], hflat.2.1, fun k j e' d hk hj => ?_⟩
  have hfd := gB hl k j e' d hk hj
  have hlt : k * ed.n + j < cs'.size := by rw [hflat.1, List.length_map]; exact (List.getElem?_eq_some_iff.1 hfd).1
  have hcd : cs'[k * ed.n + j]? = some cs'[k * ed.n + j] := by simp [hlt]
  have := hflat.2.2 _ _ (.d d) hcd (by rw [List.getElem?_map, hfd]; rfl)
  generalize cs'[k * ed.n + j] = u at this hcd
  refine ⟨u, hcd, ?_⟩
  cases this with | d hd => exact hd
theorem Pu.w8 {t e len : Nat} {parts : Array (Nat × Operand)} (ho : o.op = .buildSlice t len parts) {td ed : bo} (ht : ak T.l t = some td) (hk : td.k = .slice e) (he : ak T.l e = some ed)
    {es : List (List D)} (hes : l3 st.f 0 parts.toList = some es) (hlen : es.length = len) (hz : Nat.blt 0 ed.n = true) (hsm : Nat.ble (len * ed.n) 16777216 = true) (hl : ∀ (x : List D), x ∈ es → x.length = ed.n) (hpos : Nat.blt 0 len = true) : Pu P C n st o (.d (.sl es)) := by
  have hz := Nat.le_of_ble_eq_true hz
  have hsm := Nat.le_of_ble_eq_true hsm
  have hpos := Nat.le_of_ble_eq_true hpos
  intro G tmps w hs
  obtain ⟨cs', hrun, hcsz, hone, hget⟩ := mU T (tmps := tmps) hs ht hk he hes hlen hz hsm hl hpos
  have hb : Below w.heap.size w (w.alloc (.cells cs' e)) := (Below.refl _ w).alloc (Nat.le_refl _) _
  obtain ⟨hle, hs'⟩ := hs.fU hb
  refine cd (v := .slice (some ⟨w.heap.size, 0, none⟩) len len) (w' := w.alloc (.cells cs' e)) ?_ ⟨hb, .d ?_⟩
  · unfold execOp
    rw [ho]
    show Sem.run P _ w = .ok _ _
    simp only [Sem.run_bind, hrun, Result.andThen_ok, Sem.run_pure]
  · have := aF.ofRow (w := w.alloc (.cells cs' e)) (pv := aN C G) (b := w.heap.size) (cap := len) (sz := ed.n) (es := es) (heap_alloc_new w _) (by omega) (by simp only [maxLen]; have : len ≤ len * ed.n := Nat.le_mul_of_pos_right _ hz; omega) hl
      (fun t _ hp => by have := pW hs hp; omega) (fun k j e' d hk hj => by obtain ⟨u, h1, h2⟩ := hget k j e' d hk hj; exact ⟨u, h1, h2.mono hle.cell⟩)
    rw [hlen] at this
    exact this
end
end Go.Ab
namespace Go.Ab
open Go.RowKit
section
variable {P : Program} (T : bm P) {C : Ctx} {n : Nat} {ops : Array Oper} {Q : Exit → St → Prop} {st : St} {o : Oper} {rest : List Oper}
theorem Pu.indexAddr {t e : Nat} {x ix : Operand} (ho : o.op = .indexAddr t x ix) {td ed : bo} (ht : ak T.l t = some td) (hk : td.k = .slice e) (he : ak T.l e = some ed) {a : A} (hx : av st.f x = some a) {es : List (List D)} (hes : fa a = some es)
    {k : IntKind} {i : Int} (hi : av st.f ix = some (.d (.v (.int k i)))) (h0 : 0 ≤ i) {l : List D} (hl : es[i.toNat]? = some l) (hlen : l.length = ed.n) : Pu P C n st o (.rowd l) := by
  refine cA.pu fun G tmps w hs => ?_
  have hu := T.dX ht hk
  have hrx := eR hes (hs.av hx)
  have hri := hs.av hi
  generalize hvi : Act.eval ⟨tmps, []⟩ ix = vi at hri
  cases hri with | d hri => cases hri with | v _ _ =>
  have hlt : i.toNat < es.length := (List.getElem?_eq_some_iff.1 hl).1
  generalize hvx : Act.eval ⟨tmps, []⟩ x = vx at hrx
  cases hrx with
  | nil => simp at hlt
  | emp => simp at hlt
  | sl b off len cap sz _ u hlen' hc hm hs' hu' hr' =>
  have hsz : sz = ed.n := by rw [← hs' _ _ hl, hlen]
  subst hsz
  refine ⟨.pointer (some ⟨b, off + i.toNat * ed.n, none⟩), ?_, .rowd b _ l (u i.toNat) (fun j hj => hu' _ _ (by omega) (by omega)) (fun j d hj => hr' _ _ _ _ hl hj)⟩
  unfold execOp
  rw [ho]
  show Sem.run P _ w = .ok _ w
  have hc2 : 0 ≤ i ∧ i < (len : Int) := ⟨h0, by omega⟩
  simp only [hvi, hvx, Instr.indexAt, asIntOf, Sem.run_bind, Sem.run_pure, Result.andThen_ok, run_underlying hu, hc2, and_self, if_true, T.sizeOf he]
  unfold Addr.add
  split
  · rename_i e; rw [e]; rfl
  · rfl
theorem aq {α : Type} {f : α → List D} {l : List α} {i : Nat} {k : α} (h : l[i]? = some k) : (l.map f)[i]? = some (f k) := by rw [List.getElem?_map, h]; rfl
theorem Pu.bG {t : Nat} {x : Operand} (ho : o.op = .load t x) {td : bo} (ht : ak T.l t = some td) (hk : td.k.agg = true) {l : List D} (hx : av st.f x = some (.rowd l)) (hlen : l.length = td.n) : Pu P C n st o (.ag l) := by
  refine cA.pu fun G tmps w hs => ?_
  have hr := hs.av hx
  generalize hv : Act.eval ⟨tmps, []⟩ x = v at hr
  cases hr with
  | rowd b off _ u hc hd =>
  obtain ⟨v, h1, h2⟩ := gY (E := ao C G st.gen w) T (t := t) (a := .ag l) (fun j hj => (hc j hj).1) hd (by
    unfold cP; rw [ht]; simp [hk, ← hlen])
  refine ⟨v, ?_, h2⟩
  rw [gv ho, hv]
  show Sem.run P _ w = .ok _ w
  have h1' : (Instr.loadAt t (.pointer (some ⟨b, off, none⟩))).run P w = .ok v w := h1
  simp only [Sem.run_bind, h1', Result.andThen_ok, Sem.run_pure]
theorem Pu.bF {t : Nat} {x : Operand} (ho : o.op = .load t x) {td : bo} (ht : ak T.l t = some td) (hk : td.k.agg = true) {g : Nat} (hx : av st.f x = some (.ptr g 0)) {l : List D} (hb : ak st.bx g = some (l.map A.d)) (hlen : l.length = td.n) :
    Pu P C n st o (.ag l) := by
  refine cA.pu fun G tmps w hs => ?_
  obtain ⟨b, cs, T', h1, h2, h3, h4, h5⟩ := gP hs hb (hs.av hx)
  have hall : ∀ j x, l[j]? = some x → aF w (aN C G) (cs[0 + j]?.getD default) x := fun j x hj => by
    have hj' : 0 + j < cs.size := by rw [h3, List.length_map]; have := (List.getElem?_eq_some_iff.1 hj).1; omega
    have e : cs[0 + j]? = some cs[0 + j] := by simp [hj']
    have := h5 (0 + j) cs[0 + j] (.d x) e (by rw [List.getElem?_map, Nat.zero_add, hj]; rfl)
    rw [e]
    generalize cs[0 + j] = u at this ⊢
    cases this with | d hd => exact hd
  obtain ⟨v, h6, h7⟩ := gY (E := ao C G st.gen w) T (t := t) (a := .ag l) (b := b) (off := 0) (u := fun j => cs[0 + j]?.getD default) (fun j hj => by
      have hj' : 0 + j < cs.size := by rw [h3, List.length_map]; omega
      have e : cs[0 + j]? = some cs[0 + j] := by simp [hj']
      show cellAt w b (0 + j) = _
      rw [bj h2, e]; rfl) hall (by unfold cP; rw [ht]; simp [hk, ← hlen])
  refine ⟨v, ?_, h7⟩
  rw [gv ho, h1]
  show Sem.run P _ w = .ok _ w
  have h6' : (Instr.loadAt t (.pointer (some ⟨b, 0, none⟩))).run P w = .ok v w := h6
  simp only [Sem.run_bind, h6', Result.andThen_ok, Sem.run_pure]
theorem Pu.dM {t : Nat} {x ix : Operand} (ho : o.op = .index t x ix) {td : bo} (ht : ak T.l t = some td) (hk : td.k = .str) {s : ByteArray} (hx : av st.f x = some (.d (.v (.string s)))) {k : IntKind} {i : Int} (hi : av st.f ix = some (.d (.v (.int k i))))
    (h0 : 0 ≤ i) {b : UInt8} (hb : s[i.toNat]? = some b) : Pu P C n st o (.d (.v (.int .u8 b.toNat))) := by
  refine cA.pu fun G tmps w hs => ?_
  have hu := T.eY ht hk
  have hri := hs.av hi
  have hrx := hs.av hx
  generalize hvi : Act.eval ⟨tmps, []⟩ ix = vi at hri
  generalize hvx : Act.eval ⟨tmps, []⟩ x = vx at hrx
  cases hri with | d hri => cases hri with | v _ _ =>
  cases hrx with | d hrx => cases hrx with | v _ _ =>
  refine ⟨_, ?_, .d (.v _ ?_)⟩
  · unfold execOp
    rw [ho]
    show Sem.run P _ w = .ok _ w
    simp only [hvi, hvx, Instr.index, asIntOf, Sem.run_bind, Sem.run_pure, Result.andThen_ok, run_underlying hu, h0, if_true, hb]
  · have := b.toNat_lt
    simp [bK, IntKind.min, IntKind.max, IntKind.signed, IntKind.bits]
    omega
theorem Pu.pG {t : Nat} {x : Operand} {lo hi : Option Operand} (ho : o.op = .slice t x lo hi none) {td : bo} (ht : ak T.l t = some td) (hk : td.k = .str) {s : ByteArray} (hx : av st.f x = some (.d (.v (.string s)))) {l h : Int}
    (hlo : match lo with | none => l = 0 | some p => ∃ k, av st.f p = some (.d (.v (.int k l)))) (hhi : match hi with | none => h = s.size | some p => ∃ k, av st.f p = some (.d (.v (.int k h))))
    (h0 : 0 ≤ l) (h1 : l ≤ h) (h2 : h ≤ s.size) : Pu P C n st o (.d (.v (.string (s.extract l.toNat h.toNat)))) := by
  refine cA.pu fun G tmps w hs => ?_
  have hu := T.eY ht hk
  have hrx := hs.av hx
  generalize hvx : Act.eval ⟨tmps, []⟩ x = vx at hrx
  cases hrx with | d hrx => cases hrx with | v _ hok =>
  have hev : ∀ (p : Operand) (m : Int), (∃ k, av st.f p = some (.d (.v (.int k m)))) → ∃ k, Act.eval ⟨tmps, []⟩ p = .int k m := by
    intro p m ⟨k, hp⟩
    have := hs.av hp
    generalize Act.eval ⟨tmps, []⟩ p = v at this ⊢
    cases this with | d hd => cases hd; exact ⟨k, rfl⟩
  refine ⟨.string (s.extract l.toNat h.toNat), ?_, .d (.v _ ?_)⟩
  · unfold execOp
    rw [ho]
    show Sem.run P _ w = .ok _ w
    cases lo <;> cases hi <;> simp only at hlo hhi
    · subst hlo; subst hhi
      simp [hvx, Instr.sliceAt, Instr.slice, Instr.sliceBounds, run_underlying hu]
    · subst hlo
      obtain ⟨k, hk⟩ := hev _ _ hhi
      simp [hvx, hk, Instr.sliceAt, Instr.slice, Instr.sliceBounds, Instr.sliceBound, asIntOf, run_underlying hu, h1, h2]
    · subst hhi
      obtain ⟨k, hk⟩ := hev _ _ hlo
      simp [hvx, hk, Instr.sliceAt, Instr.slice, Instr.sliceBounds, Instr.sliceBound, asIntOf, run_underlying hu, h0, h1]
    · obtain ⟨k, hk⟩ := hev _ _ hlo
      obtain ⟨k', hk'⟩ := hev _ _ hhi
      have e : l ≤ ((h.toNat : Nat) : Int) := by omega
      have e2 : 0 ≤ h := by omega
      simp [hvx, hk, hk', Instr.sliceAt, Instr.slice, Instr.sliceBounds, Instr.sliceBound, asIntOf, run_underlying hu, h0, h1, h2, e, e2]
      intro hbad; exfalso; omega
  · simp only [bK, decide_eq_true_eq] at hok ⊢
    simp only [ByteArray.size_extract]
    omega
theorem aF.part {w : World} {pv : Nat → Nat → Prop} {v : Value} {es : List (List D)} (h : aF w pv v (.sl es)) {l m : Nat} (h1 : l ≤ m) (h2 : m ≤ es.length) {e : Nat} {P : Program} {t : Nat} (hu : P.underlying t = some (.slice e)) {sz : Nat}
    (hsz : (sizeOf e).run P w = .ok sz w) (hl : ∀ (x : List D), x ∈ es → x.length = sz) : ∃ a cap, v = .slice a es.length cap ∧ es.length ≤ cap ∧
      aF w pv (.slice (if cap = l then a else a.map (·.add (l * sz))) (m - l) (cap - l)) (.sl ((es.take m).drop l)) := by
  cases h with
  | nil =>
    have : l = 0 := by simp at h2; omega
    subst this
    have : m = 0 := by simpa using h2
    subst this
    exact ⟨none, 0, rfl, Nat.le_refl _, by simpa using aF.nil⟩
  | emp a cap hm =>
    have : m = 0 := by simpa using h2
    subst this
    have : l = 0 := by omega
    subst this
    refine ⟨some a, cap, rfl, Nat.zero_le _, ?_⟩
    have e1 : (if cap = 0 then some a else (some a).map (·.add (0 * sz))) = some a := by
      split
      · rfl
      · simp [Addr.add]
    rw [e1]
    exact .emp a cap hm
  | sl b off len cap sz' _ u hlen hc hm hs hu' hr =>
    subst hlen
    refine ⟨some ⟨b, off, none⟩, cap, rfl, hc, ?_⟩
    have hlen' : ((es.take m).drop l).length = m - l := by simp; omega
    by_cases hz : es = []
    · subst hz
      have : m = 0 := by simpa using h2
      subst this
      have : l = 0 := by omega
      subst this
      have e1 : (if cap = 0 then some (⟨b, off, none⟩ : Addr) else (some (⟨b, off, none⟩ : Addr)).map (·.add (0 * sz))) = some ⟨b, off, none⟩ := by
        split
        · rfl
        · simp [Addr.add]
      rw [e1]
      exact .sl b off 0 cap 0 [] (fun _ _ => default) rfl (Nat.zero_le _) hm (by simp) (by simp) (by simp)
    · obtain ⟨x0, hx0⟩ : ∃ x0, es[0]? = some x0 := ⟨es[0]'(by cases es; exact absurd rfl hz; simp), by simp⟩
      have hss : sz' = sz := by rw [← hs 0 x0 hx0]; exact hl x0 (List.mem_of_getElem? hx0)
      subst hss
      have e1 : ∃ off', (if cap = l then some (⟨b, off, none⟩ : Addr) else (some (⟨b, off, none⟩ : Addr)).map (·.add (l * sz'))) = some ⟨b, off', none⟩ ∧ (m - l ≠ 0 → off' = off + l * sz') := by
        split
        · rename_i e; exact ⟨off, rfl, fun h => by omega⟩
        · refine ⟨off + l * sz', ?_, fun _ => rfl⟩
          simp only [Option.map_some, Addr.add]
          split
          · rename_i e; rw [e]; simp
          · rfl
      obtain ⟨off', e1, e2⟩ := e1
      rw [e1]
      have hget : ∀ i x, ((es.take m).drop l)[i]? = some x → es[l + i]? = some x := by
        intro i x hx
        rw [List.getElem?_drop, List.getElem?_take] at hx
        split at hx
        · exact hx
        · cases hx
      refine .sl b off' (m - l) (cap - l) sz' _ (fun i j => u (l + i) j) hlen' (by omega) (by omega) (fun i x hx => hs _ _ (hget i x hx)) (fun i j hi hj => ?_) (fun i j x d hi hj => hr _ _ _ _ (hget i x hi) hj)
      have := hu' (l + i) j (by omega) hj
      rw [e2 (by omega)]
      have e3 : off + l * sz' + i * sz' + j = off + (l + i) * sz' + j := by rw [Nat.add_mul]; omega
      rw [e3]
      exact this
end
end Go.Ab
namespace Go.Ab
open Go.RowKit
def gV : Nat → List A → List (Nat × A)
  | _, [] => []
  | k, a :: l => (k, a) :: gV (k + 1) l
def nw (f : List (Nat × A)) : List Nat → Option (List A)
  | [] => some []
  | t :: r => match look f t, nw f r with
    | some a, some l => some (a :: l)
    | _, _ => none
def aL : List A → A
  | [a] => a
  | l => .tup l
def gS : List Value → Value
  | [v] => v
  | l => .tuple l.toArray
def QF (ts : List Nat) (r : A) (k : Nat) : Exit → St → Prop := fun e st =>
  (match e with | .normal => True | .ret => True | _ => False) ∧ ∃ l order, nw st.f ts = some l ∧ norm order (aL l) = r ∧ order.length = k ∧ order.Nodup ∧ ∀ g ∈ order, g ∈ st.lv
theorem fS : ∀ (l : List A) (k t : Nat) (a : A), look (gV k l) t = some a → k ≤ t ∧ l[t - k]? = some a
  | [], _, _, _, h => by simp [gV, look] at h
  | b :: l, k, t, a, h => by
    simp only [gV, aR] at h
    split at h
    · rename_i e
      subst e
      simp only [Option.some.injEq] at h
      subst h
      exact ⟨Nat.le_refl _, by simp⟩
    · rename_i e
      obtain ⟨h1, h2⟩ := fS l (k + 1) t a h
      refine ⟨by omega, ?_⟩
      have : t - k = (t - (k + 1)) + 1 := by omega
      rw [this]
      simpa using h2
theorem oY {f : List (Nat × A)} : ∀ {ts : List Nat} {l : List A}, nw f ts = some l → l.length = ts.length ∧ ∀ (i : Nat) (t : Nat), ts[i]? = some t → ∃ a, l[i]? = some a ∧ look f t = some a
  | [], l, h => by simp only [nw, Option.some.injEq] at h; subst h; simp
  | t :: ts, l, h => by
    simp only [nw] at h
    split at h
    · rename_i a l' ha hl
      simp only [Option.some.injEq] at h
      subst h
      obtain ⟨h1, h2⟩ := oY hl
      refine ⟨by simp [h1], fun i t' hi => ?_⟩
      cases i with
      | zero => simp at hi; subst hi; exact ⟨a, by simp, ha⟩
      | succ i => simpa using h2 i t' (by simpa using hi)
    · cases h
theorem qD {P : Program} {fn : Func} {ts : List Nat} (h : fn.results = (ts.map ResultVar.tmp).toArray) (hl : ts.length ≤ 5) (tmps : Array Value) (w : World) :
    (results fn tmps).run P w = .ok (gS (ts.map fun t => tmps.getD t undef)) w := by
  unfold results
  rw [h]
  match ts, hl with
  | [], _ => simp [gS]
  | [a], _ => simp [gS]
  | [a, b], _ => simp [gS]
  | [a, b, c], _ => simp [gS]
  | [a, b, c, d], _ => simp [gS]
  | [a, b, c, d, e], _ => simp [gS]
  | _ :: _ :: _ :: _ :: _ :: _ :: _, h => simp at h
theorem j8 {E : En} {vs : List Value} {l : List A} (hs : vs.length = l.length) (h : ∀ (i : Nat) (u : Value) (a : A), vs[i]? = some u → l[i]? = some a → aA E u a) : aA E (gS vs) (aL l) := by
  match vs, l, hs with
  | [v], [a], _ => exact h 0 v a (by simp) (by simp)
  | [], [], _ => exact .tup #[] [] rfl (by simp)
  | v :: v2 :: vs, a :: a2 :: l, hs =>
    refine .tup _ _ (by simpa using hs) (fun i u x hu hx => h i u x ?_ hx)
    simpa using hu
theorem ax.aV {P : Program} [Met P] {f : FuncId} {fn : Func} {c : Code} {ts : List Nat} {n : Nat} {args : List A} {r : A} {k : Nat} (hf : P.funcs[f]? = some fn) (hname : (fn.name == "runtime.NumGoroutine") = false) (hb : fn.body = some c) (hn : fn.ntmps = n)
    (hr : fn.results = (ts.map ResultVar.tmp).toArray) (hts : Nat.ble ts.length 5 = true) (hlen : Nat.ble args.length n = true) (h : ∀ C, NB C 0 → GC P C → W P C n c (QF ts r k) ⟨gV 0 args, [], [], 0⟩) : ax P f args r k := by
  have hlen := Nat.le_of_ble_eq_true hlen
  refine ⟨⟨fn, hf, hname, by rw [hb]; rfl⟩, fun C vals w hG hw hp hx hsz hrep => ?_⟩
  subst hw
  refine calls_of_wp hf hb (wp_mono (rI hp.2.2.2 (h C ⟨by rw [hp.2.2.1]; rfl⟩ hG (vals ++ Array.replicate (fn.ntmps - vals.size) undef) C.w0 ⟨G0, ?_⟩)) ?_)
  · refine { size := by simp [hn]; omega, frame := fun t a ha => ?_, box := fun g cells hc => by simp [ak] at hc, gbox := fun g b hb => by simp [G0] at hb, inj := fun g g' b hb => by simp [G0] at hb,
             live := fun g hg => by simp at hg, gown := fun g r hr => by simp [G0] at hr, row := fun g b len cap sz pub hr => by simp [G0] at hr, mrow := fun g b bs hr => by simp [G0] at hr, sub := fun g b bs c lim hr => by simp [G0] at hr, gcell := fun g b hb => by simp [G0] at hb, xold := fun b o hb => ⟨hx b o hb, hp.1 b⟩, kold := fun b o hb => absurd hb (hp.2.1 b o), lent := fun i b hb => by rw [hp.2.2.1] at hb; simp at hb,
             fr := ⟨rfl, rfl, rfl, Nat.le_refl _, fun _ _ _ => rfl, fun _ _ _ hb => absurd hb (hp.2.1 _ _), cu.refl _⟩ }
    obtain ⟨_, h1⟩ := fS args 0 t a ha
    have h2 : t < args.length := (List.getElem?_eq_some_iff.1 (by simpa using h1)).1
    have h3 : t < vals.size := by omega
    have h4 : vals[t]? = some vals[t] := by simp [h3]
    exact ⟨vals[t], by rw [Array.getElem?_append_left h3]; exact h4, hrep t _ a h4 (by simpa using h1)⟩
  · rintro e ⟨tmps, df⟩ w' ⟨hd, st, ⟨G, hs⟩, he, l, order, hl, hno, hol, hnd, hov⟩
    have hmain : ∃ v, (results fn tmps).run P w' = .ok v w' ∧ ∃ v_1 G', Ending.returned v = .returned v_1 ∧ ar C 0 ⟨[], [], List.range k, k⟩ G' #[] w' ∧ aA (ao C G' k w') v_1 r := by
      refine ⟨_, qD hr (Nat.le_of_ble_eq_true hts) tmps w', _, ⟨fun _ => none, fun i => if i < k then (order[i]?).bind G.own else none⟩, rfl, ?_, ?_⟩
      · refine { size := rfl, frame := fun t a ha => by simp [look] at ha, box := fun g cells hc => by simp [ak] at hc, gbox := fun g b hb => by simp at hb, inj := fun g g' b hb => by simp at hb,
                 live := fun g hg => ?_, gown := fun g r hr => ?_, row := fun g b len cap sz pub hr => ?_, mrow := fun g b bs hr => ?_, sub := fun g b bs c lim hr hm => ?_, gcell := fun g b hb => (by cases hb), xold := hs.xold, kold := hs.kold, lent := fun i b hb => by rw [hp.2.2.1] at hb; simp at hb, fr := hs.fr }
        · have hg' : g < k := by simpa using hg
          have hg2 : g < order.length := by omega
          obtain ⟨r', hr'⟩ := hs.live order[g] (hov _ (List.getElem_mem hg2))
          exact ⟨r', by simp [hg', hg2, hr']⟩
        · dsimp only at hr
          split at hr
          · assumption
          · cases hr
        · dsimp only at hr
          split at hr
          · rename_i hgk
            obtain ⟨g0, hg0, hr0⟩ := Option.bind_eq_some_iff.1 hr
            obtain ⟨h1, h2, h3, h4⟩ := hs.row g0 b len cap sz pub hr0
            refine ⟨h1, fun g' => by simp, fun g' len' cap' sz' pub' hr' => ?_, h4⟩
            dsimp only at hr'
            split at hr'
            · obtain ⟨g1, hg1, hr1⟩ := Option.bind_eq_some_iff.1 hr'
              have e := h3 g1 len' cap' sz' pub' hr1
              subst e
              obtain ⟨i1, e1⟩ := List.getElem?_eq_some_iff.1 hg0
              obtain ⟨i2, e2⟩ := List.getElem?_eq_some_iff.1 hg1
              have hpw := List.pairwise_iff_getElem.1 hnd
              rcases Nat.lt_trichotomy g' g with hlt | heq | hgt
              · exact absurd (e2.trans e1.symm) (hpw g' g i2 i1 hlt)
              · exact heq
              · exact absurd (e1.trans e2.symm) (hpw g g' i1 i2 hgt)
            · cases hr'
          · cases hr
        · dsimp only at hr
          split at hr
          · rename_i hgk
            obtain ⟨g0, hg0, hr0⟩ := Option.bind_eq_some_iff.1 hr
            obtain ⟨h1, _, h3, h4⟩ := hs.mrow g0 b bs hr0
            refine ⟨h1, fun g' => by simp, fun g' bs' hr' => ?_, h4⟩
            dsimp only at hr'
            split at hr'
            · obtain ⟨g1, hg1, hr1⟩ := Option.bind_eq_some_iff.1 hr'
              have e := h3 g1 bs' hr1
              subst e
              obtain ⟨i1, e1⟩ := List.getElem?_eq_some_iff.1 hg0
              obtain ⟨i2, e2⟩ := List.getElem?_eq_some_iff.1 hg1
              have hpw := List.pairwise_iff_getElem.1 hnd
              rcases Nat.lt_trichotomy g' g with hlt | heq | hgt
              · exact absurd (e2.trans e1.symm) (hpw g' g i2 i1 hlt)
              · exact heq
              · exact absurd (e1.trans e2.symm) (hpw g g' i1 i2 hgt)
            · cases hr'
          · cases hr
        · dsimp only at hr
          split at hr
          · rename_i hgk
            obtain ⟨g0, hg0, hr0⟩ := Option.bind_eq_some_iff.1 hr
            obtain ⟨h1, _, h3, h4, h5⟩ := hs.sub g0 b bs c lim hr0 hm
            refine ⟨h1, fun g' => by simp, fun g' len cap sz pub hr' => ?_, fun g' b' bs' lim' hr' hm' => ?_, h5⟩
            · dsimp only at hr'
              split at hr'
              · obtain ⟨g1, hg1, hr1⟩ := Option.bind_eq_some_iff.1 hr'
                exact h3 g1 _ _ _ _ hr1
              · cases hr'
            · dsimp only at hr'
              split at hr'
              · obtain ⟨g1, hg1, hr1⟩ := Option.bind_eq_some_iff.1 hr'
                obtain ⟨e, e0⟩ := h4 g1 _ _ _ hr1 hm'
                subst e
                refine ⟨?_, e0⟩
                obtain ⟨i1, e1⟩ := List.getElem?_eq_some_iff.1 hg0
                obtain ⟨i2, e2⟩ := List.getElem?_eq_some_iff.1 hg1
                have hpw := List.pairwise_iff_getElem.1 hnd
                rcases Nat.lt_trichotomy g' g with hlt | heq | hgt
                · exact absurd (e2.trans e1.symm) (hpw g' g i2 i1 hlt)
                · exact heq
                · exact absurd (e1.trans e2.symm) (hpw g g' i1 i2 hgt)
              · cases hr'
          · cases hr
      · obtain ⟨hll, hlg⟩ := oY hl
        rw [← hno]
        refine aA.norm (order := order) (E := ao C G st.gen w') (E2 := ao C ⟨fun _ => none, fun i => if i < k then (order[i]?).bind G.own else none⟩ k w') (fun b o u hu hn => ⟨hu, fun hp => hn ?_⟩) (fun g r' hg hr' => ?_) (by simp [ao, hol]) (j8 (vs := ts.map fun t => tmps.getD t undef) (by rw [List.length_map, hll]) (fun i u a hu ha => ?_))
        · rcases (hp : aN C ⟨fun _ => none, fun i => if i < k then (order[i]?).bind G.own else none⟩ b o) with hp | ⟨g, hp⟩ | ⟨g, len, cap, sz, pub, hp, hle⟩ | ⟨g, b', bs, lim, hp, hm, hle⟩
          · exact Or.inl hp
          · cases hp
          · simp only at hp
            split at hp
            · obtain ⟨g0, _, hr0⟩ := Option.bind_eq_some_iff.1 hp
              exact Or.inr (Or.inr (.inl ⟨g0, len, cap, sz, pub, hr0, hle⟩))
            · cases hp
          · simp only at hp
            split at hp
            · obtain ⟨g0, _, hr0⟩ := Option.bind_eq_some_iff.1 hp
              exact Or.inr (Or.inr (.inr ⟨g0, b', bs, lim, hr0, hm, hle⟩))
            · cases hp
        · have hr2 : (if order.idxOf g < k then (order[order.idxOf g]?).bind G.own else none) = some r' := hr'
          rw [if_pos (by rw [← hol]; exact eS hg)] at hr2
          have : order[order.idxOf g]? = some g := by
            rw [List.getElem?_eq_some_iff]
            exact ⟨eS hg, List.getElem_idxOf (eS hg)⟩
          rw [this] at hr2
          exact hr2
        · simp only [List.getElem?_map, Option.map_eq_some_iff] at hu
          obtain ⟨t, ht, rfl⟩ := hu
          obtain ⟨a', ha', hla⟩ := hlg i t ht
          rw [ha] at ha'
          simp only [Option.some.injEq] at ha'
          subst ha'
          obtain ⟨v, hv, hr'⟩ := hs.frame t a hla
          simpa [hv] using hr'
    cases e with
    | normal => exact ⟨hd.trans hp.2.2.2, hmain⟩
    | ret => exact ⟨hd.trans hp.2.2.2, hmain⟩
    | exit _ => exact he.elim
    | goto _ => exact he.elim
    | panic _ => exact he.elim
    | outgrown => exact he.elim
theorem QF.az {ts : List Nat} {r : A} {e : Exit} {st : St} {l : List A} (he : match e with | .normal => True | .ret => True | _ => False) (hl : nw st.f ts = some l) (hr : norm [] (aL l) = r) : QF ts r 0 e st :=
  ⟨he, l, [], hl, hr, rfl, List.nodup_nil, by simp⟩
end Go.Ab
namespace Go.Ab
open Go.RowKit
section
variable {P : Program} (T : bm P) {C : Ctx} {n : Nat} {ops : Array Oper} {Q : Exit → St → Prop} {rest : List Oper}
variable {f : List (Nat × A)} {bx : List (Nat × List A)} {lv : List Nat} {gen : Nat} {d : Nat} {op : Op} {ty : TypeId} {pos : String} {af : Array Edge} {a : A} {dst : Option Nat}
theorem ev (h : fu T f bx op = some a) : Pu P C n ⟨f, bx, lv, gen⟩ ⟨dst, op, ty, pos, af, none⟩ a := Pu.ev (st := ⟨f, bx, lv, gen⟩) T h
theorem pu (hp : Pu P C n ⟨f, bx, lv, gen⟩ ⟨some d, op, ty, pos, af, none⟩ a) (hd : Nat.blt d n = true) (h : WO P C n ops Q rest ⟨(d, a) :: f, bx, lv, gen⟩) : WO P C n ops Q (⟨some d, op, ty, pos, af, none⟩ :: rest) ⟨f, bx, lv, gen⟩ :=
  WO.pu rfl hd hp h
theorem ab {j e : Nat} {want : Bool} (hj : c8 ops j = some e) (hl : look f e = some (.d (.v (.bool want)))) (h : WO P C n ops Q (⟨dst, op, ty, pos, af, none⟩ :: rest) ⟨f, bx, lv, gen⟩) : WO P C n ops Q (⟨dst, op, ty, pos, af, some (j, want)⟩ :: rest) ⟨f, bx, lv, gen⟩ :=
  WO.go (st := ⟨f, bx, lv, gen⟩) rfl hj hl h
theorem kN {j e : Nat} {want b : Bool} (hj : c8 ops j = some e) (hl : look f e = some (.d (.v (.bool b)))) (ht : b = true → WO P C n ops Q (⟨dst, op, ty, pos, af, some (j, want)⟩ :: rest) ⟨(e, .d (.v (.bool true))) :: f, bx, lv, gen⟩)
    (hf : b = false → WO P C n ops Q (⟨dst, op, ty, pos, af, some (j, want)⟩ :: rest) ⟨(e, .d (.v (.bool false))) :: f, bx, lv, gen⟩) : WO P C n ops Q (⟨dst, op, ty, pos, af, some (j, want)⟩ :: rest) ⟨f, bx, lv, gen⟩ :=
  WO.split (st := ⟨f, bx, lv, gen⟩) hl ht hf
theorem cg {e : TypeId} {x : Operand} {l : List A} (ha : av f x = some a) (hc : cellsOf bx a = some l) (hd : Nat.blt d n = true) (h : WO P C n ops Q rest ⟨(d, .ptr gen 0) :: f, (gen, l) :: bx, lv, gen + 1⟩) :
    WO P C n ops Q (⟨some d, .box e x, ty, pos, af, none⟩ :: rest) ⟨f, bx, lv, gen⟩ := WO.box (st := ⟨f, bx, lv, gen⟩) rfl hd rfl ha hc h
theorem bA {e : TypeId} {dt : bo} {l : List A} (he : ak T.l e = some dt) (hl : (dt.z.map fun v => A.d (.v v)) = l) (hd : Nat.blt d n = true) (h : WO P C n ops Q rest ⟨(d, .ptr gen 0) :: f, (gen, l) :: bx, lv, gen + 1⟩) :
    WO P C n ops Q (⟨some d, .alloc e, ty, pos, af, none⟩ :: rest) ⟨f, bx, lv, gen⟩ := by
  subst hl
  exact WO.alloc (st := ⟨f, bx, lv, gen⟩) T rfl hd rfl he h
theorem aO {t : TypeId} {x y : Operand} {g off : Nat} {cells cs cells' : List A} (hx : av f x = some (.ptr g off)) (hb : ak bx g = some cells) (ha : av f y = some a) (hc : cellsOf bx a = some cs) (hsz : cc T t = cs.length) (hz : Nat.blt 0 cs.length = true)
    (hle : Nat.ble (off + cs.length) cells.length = true) (hs : setAt cells off cs = cells') (h : WO P C n ops Q rest ⟨f, (g, cells') :: bx, lv, gen⟩) : WO P C n ops Q (⟨none, .store t x y, ty, pos, af, none⟩ :: rest) ⟨f, bx, lv, gen⟩ := by
  subst hs
  exact WO.store (st := ⟨f, bx, lv, gen⟩) T rfl rfl rfl hx hb ha hc hsz (by have := Nat.le_of_ble_eq_true hz; omega) hle h
theorem aw [Met P] [GC P C] {x : Operand} {xs : Array Operand} {tys : Array TypeId} {fid : FuncId} {caps as' args : List A} (hx : av f x = some (.clo fid caps)) (hxs : iH f xs.toList = some as') (harg : (as' ++ caps).map (conv bx 5) = args) (hf : ax P fid args a 0) (hr : b4 a = true) :
    Pu P C n ⟨f, bx, lv, gen⟩ ⟨dst, .call ⟨.value x, xs, tys⟩, ty, pos, af, none⟩ a := by
  subst harg
  exact Pu.call (st := ⟨f, bx, lv, gen⟩) rfl hx hxs hf hr
theorem qQ {x y : Operand} {t e : Nat} {td ed : bo} {g : Nat} {es es2 : List (List D)} {b : A} (hx : av f x = some (.own g es)) (hy : av f y = some b) (hb2 : fa b = some es2) (ht : ak T.l t = some td) (hk : td.k = .slice e) (he : ak T.l e = some ed) (hgl : g ∈ lv)
    (hz : Nat.blt 0 ed.n = true) (hb0 : Nat.blt 0 ed.b = true) (hd : Nat.blt d n = true) (hl : ∀ (x : List D), x ∈ es ++ es2 → x.length = ed.n) (hb : (es.length + es2.length) * ed.b ≤ 140737488355328)
    (h : WO P C n ops Q rest ⟨(d, .own gen (es ++ es2)) :: f, bx, gen :: bg lv g, gen + 1⟩) : WO P C n ops Q (⟨some d, .call ⟨.builtin .append, #[x, y], #[t, t]⟩, ty, pos, af, none⟩ :: rest) ⟨f, bx, lv, gen⟩ :=
  WO.append (st := ⟨f, bx, lv, gen⟩) T rfl hd rfl ht hk he hx hgl hy hb2 hz hb0 hl hb h
theorem sw {x y : Operand} {t e : Nat} {td ed : bo} {es2 : List (List D)} {b : A} (hx : av f x = some (.d (.v (.slice none 0 0)))) (hy : av f y = some b) (hb2 : fa b = some es2) (ht : ak T.l t = some td) (hk : td.k = .slice e) (he : ak T.l e = some ed)
    (hz : Nat.blt 0 ed.n = true) (hb0 : Nat.blt 0 ed.b = true) (hd : Nat.blt d n = true) (hl : ∀ (x : List D), x ∈ es2 → x.length = ed.n) (hb : es2.length * ed.b ≤ 140737488355328)
    (h : WO P C n ops Q rest ⟨(d, .own gen es2) :: f, bx, gen :: lv, gen + 1⟩) : WO P C n ops Q (⟨some d, .call ⟨.builtin .append, #[x, y], #[t, t]⟩, ty, pos, af, none⟩ :: rest) ⟨f, bx, lv, gen⟩ :=
  WO.tZ (st := ⟨f, bx, lv, gen⟩) T rfl hd rfl ht hk he hx hy hb2 hz hb0 hl hb h
theorem build {t : Nat} {parts : Array (Nat × Operand)} {dt : bo} {fs : List (Nat × Nat × String)} {cells : List A} (ht : ak T.l t = some dt) (hk : dt.k = .st fs) (hf : lh bx f (rZ T fs) parts.toList (dt.z.map fun v => .d (.v v)) = some cells) (hr : gE cells = a) :
    Pu P C n ⟨f, bx, lv, gen⟩ ⟨dst, .build t parts, ty, pos, af, none⟩ a := Pu.build (st := ⟨f, bx, lv, gen⟩) T rfl ht hk hf hr
theorem bG {t : Nat} {x : Operand} {td : bo} {l : List D} (ht : ak T.l t = some td) (hk : td.k.agg = true) (hx : av f x = some (.rowd l)) (hlen : l.length = td.n) : Pu P C n ⟨f, bx, lv, gen⟩ ⟨dst, .load t x, ty, pos, af, none⟩ (.ag l) :=
  Pu.bG (st := ⟨f, bx, lv, gen⟩) T rfl ht hk hx hlen
theorem bF {t : Nat} {x : Operand} {td : bo} {g : Nat} {l : List D} (ht : ak T.l t = some td) (hk : td.k.agg = true) (hx : av f x = some (.ptr g 0)) (hb : ak bx g = some (l.map A.d)) (hlen : l.length = td.n) : Pu P C n ⟨f, bx, lv, gen⟩ ⟨dst, .load t x, ty, pos, af, none⟩ (.ag l) :=
  Pu.bF (st := ⟨f, bx, lv, gen⟩) T rfl ht hk hx hb hlen
theorem indexAddr {t e : Nat} {x ix : Operand} {td ed : bo} {es : List (List D)} {k : IntKind} {i : Int} {l : List D} (hx : av f x = some a) (hes : fa a = some es) (hi : av f ix = some (.d (.v (.int k i)))) (ht : ak T.l t = some td) (hk : td.k = .slice e) (he : ak T.l e = some ed)
    (h0 : 0 ≤ i) (hl : es[i.toNat]? = some l) (hlen : l.length = ed.n) : Pu P C n ⟨f, bx, lv, gen⟩ ⟨dst, .indexAddr t x ix, ty, pos, af, none⟩ (.rowd l) :=
  Pu.indexAddr (st := ⟨f, bx, lv, gen⟩) T rfl ht hk he hx hes hi h0 hl hlen
theorem dM {t : Nat} {x ix : Operand} {td : bo} {s : ByteArray} {k : IntKind} {i : Int} {b : UInt8} (hx : av f x = some (.d (.v (.string s)))) (hi : av f ix = some (.d (.v (.int k i)))) (ht : ak T.l t = some td) (hk : td.k = .str) (h0 : 0 ≤ i) (hb : s[i.toNat]? = some b) :
    Pu P C n ⟨f, bx, lv, gen⟩ ⟨dst, .index t x ix, ty, pos, af, none⟩ (.d (.v (.int .u8 b.toNat))) := Pu.dM (st := ⟨f, bx, lv, gen⟩) T rfl ht hk hx hi h0 hb
theorem qs {y : Code} {st : St} (h : W P C n y Q st) : QS P C n y Q .normal st := h
theorem aB {y : Code} {st : St} (h : Q .ret st) : QS P C n y Q .ret st := h
theorem aP {y : Code} {id : Nat} {st : St} (h : Q (.exit id) st) : QS P C n y Q (.exit id) st := h
theorem bC {id : Nat} {st : St} (h : Q .normal st) : QB id Q .normal st := h
theorem aT {id : Nat} {st : St} (h : Q .ret st) : QB id Q .ret st := h
theorem aM {id : Nat} {st : St} (h : Q .normal st) : QB id Q (.exit id) st := by simp [QB]; exact h
theorem dc {I : Nat → St → Prop} {m : Nat} {st : St} (h : Q .ret st) : QL I m Q .ret st := h
theorem aS {I : Nat → St → Prop} {m i : Nat} {st : St} (h : Q (.exit i) st) : QL I m Q (.exit i) st := h
end
end Go.Ab
namespace Go.Ab
open Go.RowKit
def Sub (f : List (Nat × A)) : List (Nat × A) → Prop
  | [] => True
  | (t, a) :: r => look f t = some a ∧ Sub f r
theorem Sub.le {f : List (Nat × A)} : ∀ {f' : List (Nat × A)}, Sub f f' → ∀ t a, look f' t = some a → look f t = some a
  | [], _, t, a, h => by simp [look] at h
  | (s, b) :: r, hs, t, a, h => by
    rw [aR] at h
    split at h
    · rename_i e
      subst e
      simp only [Option.some.injEq] at h
      subst h
      exact hs.1
    · exact Sub.le hs.2 t a h
def kE (bx : List (Nat × List A)) : List (Nat × List A) → Prop
  | [] => True
  | (t, a) :: r => ak bx t = some a ∧ kE bx r
theorem kE.le {f : List (Nat × List A)} : ∀ {f' : List (Nat × List A)}, kE f f' → ∀ t a, ak f' t = some a → ak f t = some a
  | [], _, t, a, h => by simp [ak] at h
  | (s, b) :: r, hs, t, a, h => by
    rw [bt] at h
    split at h
    · rename_i e
      subst e
      simp only [Option.some.injEq] at h
      subst h
      exact hs.1
    · exact kE.le hs.2 t a h
section
variable {P : Program} {C : Ctx} {n : Nat} {Q : Exit → St → Prop} {c : Code}
variable {f f' : List (Nat × A)} {bx bx' : List (Nat × List A)} {lv lv' : List Nat} {gen gen' : Nat}
theorem ar.later {st : St} {G : Gh} {tmps : Array Value} {w : World} (h : ar C n st G tmps w) {g : Nat} (hg : st.gen ≤ g) : ar C n { st with gen := g } G tmps w := by
  have hle : (ao C G st.gen w).le (ao C G g w) := ⟨fun _ _ _ h h' => ⟨h, h'⟩, fun _ _ _ h h' => ⟨h, h'⟩, fun _ _ h => h, fun _ _ _ h => h, hg, fun _ _ _ _ _ _ _ _ => rfl, fun _ _ _ _ _ => ⟨rfl, fun _ _ => rfl⟩, .refl w⟩
  refine { h with frame := h.ck hle, box := fun g' c hc => ?_, gbox := fun g' b hb => ?_, gown := fun g' r hr => Nat.lt_of_lt_of_le (h.gown g' r hr) hg }
  · obtain ⟨b, cs, T, h1, h2, h3, h4, h5⟩ := h.box g' c hc
    exact ⟨b, cs, T, h1, h2, h3, h4, fun i u a hu ha => (h5 i u a hu ha).mono hle⟩
  · obtain ⟨h1, h2⟩ := h.gbox g' b hb
    exact ⟨Nat.lt_of_lt_of_le h1 hg, h2⟩
theorem ar.bZ {G : Gh} {tmps : Array Value} {w : World} (h : ar C n ⟨f, bx, lv, gen⟩ G tmps w) (hf : Sub f f') (hb : kE bx bx') (hl : ∀ g ∈ lv', g ∈ lv) (hg : gen ≤ gen') : ar C n ⟨f', bx', lv', gen'⟩ G tmps w :=
  ar.later (st := ⟨f', bx', lv', gen⟩) (h.weaken ⟨hf.le, hb.le, hl, rfl⟩) hg
theorem W.bZ (hf : Sub f f') (hb : kE bx bx') (hl : ∀ g ∈ lv', g ∈ lv) (hg : gen ≤ gen') (hw : W P C n c Q ⟨f', bx', lv', gen'⟩) : W P C n c Q ⟨f, bx, lv, gen⟩ :=
  fun tmps w ⟨G, hs⟩ => hw tmps w ⟨G, hs.bZ hf hb hl hg⟩
theorem W.len {t : Nat} {a : A} {es : List (List D)} (hl : look f t = some a) (hs : fa a = some es) (h : es.length ≤ maxLen → W P C n c Q ⟨f, bx, lv, gen⟩) : W P C n c Q ⟨f, bx, lv, gen⟩ := by
  intro tmps w ⟨G, hg⟩
  obtain ⟨v, _, hr⟩ := hg.frame _ _ hl
  exact h (eR hs hr).len.choose_spec.choose_spec.2 tmps w ⟨G, hg⟩
theorem W.nJ {t : Nat} {v : Value} (hl : look f t = some (.d (.v v))) (h : bK v = true → W P C n c Q ⟨f, bx, lv, gen⟩) : W P C n c Q ⟨f, bx, lv, gen⟩ := by
  intro tmps w ⟨G, hg⟩
  obtain ⟨u, _, hr⟩ := hg.frame _ _ hl
  cases hr with | d hr => cases hr with | v _ ho =>
  exact h ho tmps w ⟨G, hg⟩
end
theorem wrap64 {x : Int} (h : -9223372036854775808 ≤ x ∧ x ≤ 9223372036854775807) : IntKind.i64.wrap x = x := IntWalk.i64_in x h
theorem vP {k n : Nat} (h : k < n) (hn : n ≤ maxLen) : IntKind.i64.wrap ((k : Int) + 1) = ((k + 1 : Nat) : Int) := by
  simp only [maxLen] at hn
  rw [wrap64 (by omega)]
  rfl
theorem aG {k n : Nat} (h : k < n) (hn : n ≤ maxLen) : some (A.d (.v (.int .i64 (IntKind.i64.wrap ((k : Int) + 1))))) = some (A.d (.v (.int .i64 ((k + 1 : Nat) : Int)))) := by rw [vP h hn]
end Go.Ab
namespace Go.Ab
open Go.RowKit Go.WideShapes Go.ChangeShapes Go.ChangeAt
section
variable {P : Program} (T : bm P)
inductive dr : Nat → List D → Prop
  | int {t : Nat} {k : IntKind} (n : Int) (h : cD T t = .int k) (ho : bK (.int k n) = true) : dr t [.v (.int k n)]
  | bool {t : Nat} (b : Bool) (h : cD T t = .bool) : dr t [.v (.bool b)]
  | str {t : Nat} (s : ByteArray) (h : cD T t = .str) (ho : s.size ≤ maxLen) : dr t [.v (.string s)]
  | slice {t e : Nat} (es : List (List D)) (h : cD T t = .slice e) (hc : ∀ x ∈ es, dr e x) (hl : es.length ≤ maxLen) : dr t [.sl es]
  | st {t : Nat} {fs : List (Nat × Nat × String)} (parts : List (List D)) (h : cD T t = .st fs) (hl : parts.length = fs.length)
      (hc : ∀ (i : Nat) (o ft : Nat) (nm : String) (p : List D), fs[i]? = some (o, ft, nm) → parts[i]? = some p → dr ft p) : dr t parts.flatten
variable {T}
theorem dr.toInt {t : Nat} {k : IntKind} {l : List D} (h : dr T t l) (hk : cD T t = .int k) : ∃ n, l = [.v (.int k n)] ∧ bK (.int k n) = true := by
  cases h <;> rename_i hk' _ <;> first | (rw [hk] at hk'; cases hk'; exact ⟨_, rfl, by assumption⟩) | skip
  all_goals simp_all
theorem dr.toBool {t : Nat} {l : List D} (h : dr T t l) (hk : cD T t = .bool) : ∃ b, l = [.v (.bool b)] := by
  cases h <;> first | exact ⟨_, rfl⟩ | simp_all
theorem dr.toStr {t : Nat} {l : List D} (h : dr T t l) (hk : cD T t = .str) : ∃ s, l = [.v (.string s)] ∧ s.size ≤ maxLen := by
  cases h <;> first | exact ⟨_, rfl, by assumption⟩ | simp_all
theorem dr.toSlice {t e : Nat} {l : List D} (h : dr T t l) (hk : cD T t = .slice e) : ∃ es, l = [.sl es] ∧ (∀ x ∈ es, dr T e x) ∧ es.length ≤ maxLen := by
  cases h with
  | slice es h hc hl => rw [hk] at h; cases h; exact ⟨es, rfl, hc, hl⟩
  | _ => simp_all
variable (T)
def kI : Nat → List (Nat × Nat × String) → Bool
  | _, [] => true
  | o, (o', ft, _) :: r => o == o' && kI (o + cc T ft) r
def lj : List (Nat × Nat × String) → Nat
  | [] => 0
  | (_, ft, _) :: r => cc T ft + lj r
def oF (gs : List Nat) : Bool := gs.all fun t => (ak T.l t).isSome && match cD T t with
  | .int _ | .bool | .str => true
  | .slice e => gs.contains e && Nat.blt 0 (cc T e)
  | .st fs => fs.all (fun x => gs.contains x.2.1) && kI T 0 fs && lj T fs == cc T t
  | _ => false
theorem iT {gs : List Nat} (h : oF T gs = true) {t : Nat} (ht : t ∈ gs) : ∃ d, ak T.l t = some d ∧ d.k = cD T t ∧ (match cD T t with
  | .int _ | .bool | .str => true
  | .slice e => gs.contains e && Nat.blt 0 (cc T e)
  | .st fs => fs.all (fun x => gs.contains x.2.1) && kI T 0 fs && lj T fs == cc T t
  | _ => false) = true := by
  have := List.all_eq_true.1 h t ht
  simp only [Bool.and_eq_true] at this
  obtain ⟨d, hd⟩ := Option.isSome_iff_exists.1 this.1
  exact ⟨d, hd, by unfold cD; rw [hd], this.2⟩
theorem jT {t : Nat} {d : bo} (h : ak T.l t = some d) : P.cellsOf t = cc T t := by
  obtain ⟨i, _, hi, hn, _⟩ := T.info h
  unfold cc Program.cellsOf
  rw [h, hi]
  exact hn
theorem mT : ∀ (fs : List (Nat × Nat × String)) (o : Nat) (cs : List Value), kI T o fs = true → (fs.map fun x => (cs.drop x.1).take (cc T x.2.1)).flatten = (cs.drop o).take (lj T fs)
  | [], o, cs, _ => by simp [lj]
  | (o', ft, nm) :: r, o, cs, h => by
    simp only [kI, Bool.and_eq_true, beq_iff_eq] at h
    obtain ⟨rfl, h⟩ := h
    simp only [List.map_cons, List.flatten_cons, lj]
    rw [mT r _ cs h, List.take_add, List.drop_drop]
theorem cm.append {E : En} {a b : List Value} {l m : List D} (h1 : cm E a.toArray l) (h2 : cm E b.toArray m) : cm E (a ++ b).toArray (l ++ m) := by
  have e1 : a.length = l.length := by simpa using h1.1
  have e2 : b.length = m.length := by simpa using h2.1
  refine ⟨by simp [e1, e2], fun i u x hu hx => ?_⟩
  simp only [List.getElem?_toArray] at hu
  rcases Nat.lt_or_ge i a.length with h | h
  · rw [List.getElem?_append_left h] at hu
    rw [List.getElem?_append_left (by omega)] at hx
    exact h1.2 i u x (by simpa using hu) hx
  · rw [List.getElem?_append_right h] at hu
    rw [List.getElem?_append_right (by omega), ← e1] at hx
    exact h2.2 _ u x (by simpa using hu) hx
theorem cm.flatten {E : En} : ∀ {as' : List (List Value)} {ls : List (List D)}, as'.length = ls.length → (∀ (i : Nat) (a : List Value) (l : List D), as'[i]? = some a → ls[i]? = some l → cm E a.toArray l) → cm E as'.flatten.toArray ls.flatten
  | [], [], _, _ => ⟨rfl, by simp⟩
  | a :: as', l :: ls, hl, h => by
    simp only [List.flatten_cons]
    exact cm.append (h 0 a l (by simp) (by simp)) (cm.flatten (by simpa using hl) (fun i a l ha hl => h (i + 1) a l (by simpa using ha) (by simpa using hl)))
theorem cm.one {E : En} {v : Value} {x : D} (h : aF E.w E.pv v x) : cm E #[v] [x] := by
  refine ⟨rfl, fun i u y hu hy => ?_⟩
  cases i with
  | zero => simp at hu hy; subst hu; subst hy; exact h
  | succ i => simp at hu
theorem nX {k : IntKind} {n : Int} (h : (Lit.int k n).wf = true) : bK (.int k n) = true := by
  simpa [Lit.wf, bK] using h
theorem pf {H : Type} {enc : TypeId × Value → H} {gs : List Nat} (hg : oF T gs = true) {w : World} {E : En} (hw : E.w = w) (hpv : ∀ b o, ¬ E.pv b o) : ∀ (fuel : Nat) (t : Nat) (cs : List Value) (d : DataW H) (ps : List MemPlace),
    t ∈ gs → DataW.trod enc P w 0 (fun _ => true) true fuel t cs = some (d, ps) → ∃ l, dr T t l ∧ cm E cs.toArray l := by
  intro fuel
  induction fuel with
  | zero => intro t cs d ps _ h; simp [DataW.trod] at h
  | succ fuel ih =>
    intro t cs d ps ht h
    obtain ⟨td, htd, htk, hgood⟩ := iT T hg ht
    cases hk : cD T t with
    | int k =>
      have hu := T.dU htd (htk.trans hk)
      simp only [DataW.trod, hu] at h
      split at h <;> simp_all
      rename_i k' n _
      obtain ⟨⟨rfl, hwf⟩, _⟩ := h
      exact ⟨_, .int n hk (nX hwf), cm.one (.v _ (nX hwf))⟩
    | bool =>
      have hu := T.my htd (htk.trans hk)
      simp only [DataW.trod, hu] at h
      split at h <;> simp_all
      exact ⟨_, .bool _ hk, cm.one (.v _ rfl)⟩
    | str =>
      have hu := T.eY htd (htk.trans hk)
      simp only [DataW.trod, hu] at h
      split at h <;> simp_all
      exact ⟨_, .str _ hk h.1, cm.one (.v _ (by simpa [bK] using h.1))⟩
    | slice e =>
      have hu := T.dX htd (htk.trans hk)
      rw [hk] at hgood
      simp only [Bool.and_eq_true] at hgood
      obtain ⟨he, hz⟩ := hgood
      have he : e ∈ gs := by simpa using he
      have hz : 0 < cc T e := Nat.le_of_ble_eq_true hz
      obtain ⟨ed, hed, _, _⟩ := iT T hg he
      rcases DataW.trod_slice hu h with ⟨rfl, _⟩ | ⟨a, len, cap, elems, rest, m, hm, rfl, _, _, hlc, hcm, hlen, helem, _⟩
      · exact ⟨[.sl []], .slice [] hk (by simp) (by simp), cm.one .nil⟩
      · have hm : m = fuel := by omega
        subst hm
        · have hget : ∀ i, i < len → ∃ x ccs, w.cells? 0 (a.add (i * P.cellsOf e)) (P.cellsOf e) = some ccs ∧ DataW.trod enc P w 0 (fun _ => true) true m e ccs = some x := by
            intro i hi
            have := helem i hi
            have hi' : i < elems.length := by omega
            have e1 : elems[i]? = some elems[i] := by simp [hi']
            rw [e1] at this
            obtain ⟨ccs, h1, h2⟩ := Option.bind_eq_some_iff.1 this
            exact ⟨_, ccs, h1, h2⟩
          have hsz : P.cellsOf e = cc T e := jT T hed
          rcases Nat.eq_zero_or_pos len with h0 | hpos
          · subst h0
            exact ⟨[.sl []], .slice [] hk (by simp) (by simp), cm.one (.emp a cap hcm)⟩
          · have hspot : a.spot = none := by
              obtain ⟨x, ccs, h1, _⟩ := hget 0 hpos
              obtain ⟨_, h3, h4⟩ := World.cells?_some h1
              have h5 := h4 0 (by omega)
              have h6 : (ccs[0]?).isSome := by simp; omega
              rw [← h5] at h6
              simp only [Nat.zero_mul, Addr.add, if_true] at h6
              unfold World.cell? at h6
              split at h6
              · cases hsp : a.spot with
                | none => rfl
                | some s => simp [hsp] at h6
              · cases h6
            obtain ⟨b, off, sp⟩ := a
            simp only at hspot
            subst hspot
            have hall : ∀ i, ∃ l ccs, i < len → (w.cells? 0 ((⟨b, off, none⟩ : Addr).add (i * cc T e)) (cc T e) = some ccs ∧ dr T e l ∧ cm E ccs.toArray l) := by
              intro i
              by_cases hi : i < len
              · obtain ⟨x, ccs, h1, h2⟩ := hget i hi
                obtain ⟨l, h3, h4⟩ := ih e ccs x.1 x.2 he h2
                exact ⟨l, ccs, fun _ => ⟨by rw [← hsz]; exact h1, h3, h4⟩⟩
              · exact ⟨[], [], fun h => absurd h hi⟩
            let L := fun i => (hall i).choose
            let CC := fun i => (hall i).choose_spec.choose
            have hLC : ∀ i, i < len → w.cells? 0 ((⟨b, off, none⟩ : Addr).add (i * cc T e)) (cc T e) = some (CC i) ∧ dr T e (L i) ∧ cm E (CC i).toArray (L i) := fun i hi => (hall i).choose_spec.choose_spec hi
            have hes : ∀ (i : Nat) (x : List D), ((List.range len).map L)[i]? = some x → i < len ∧ x = L i := by
              intro i x hx
              rcases Nat.lt_or_ge i len with hi | hi
              · simp [hi] at hx; exact ⟨hi, hx.symm⟩
              · rw [List.getElem?_eq_none (by simpa using hi)] at hx; cases hx
            have hccl : ∀ i, i < len → (CC i).length = cc T e := fun i hi => (World.cells?_some (hLC i hi).1).2.1
            have hLl : ∀ i, i < len → (L i).length = cc T e := fun i hi => by have := (hLC i hi).2.2.1; simp at this; rw [← this]; exact hccl i hi
            refine ⟨[.sl ((List.range len).map L)], .slice _ hk (fun x hx => ?_) (by simp; omega), cm.one ?_⟩
            · obtain ⟨i, hi⟩ := List.mem_iff_getElem?.1 hx
              obtain ⟨h1, rfl⟩ := hes i x hi
              exact (hLC i h1).2.1
            · refine .sl b off len cap (cc T e) _ (fun i j => ((CC i)[j]?).getD default) (by simp) hlc hcm (fun i x hx => ?_) (fun i j hi hj => ⟨?_, hpv _ _⟩) (fun i j x d hx hd => ?_)
              · obtain ⟨h1, rfl⟩ := hes i x hx
                exact hLl i h1
              · have h1 := (World.cells?_some (hLC i hi).1).2.2 j hj
                have h2 : j < (CC i).length := by rw [hccl i hi]; exact hj
                have e1 : (CC i)[j]? = some (CC i)[j] := by simp [h2]
                rw [e1] at h1 ⊢
                have e2 : ((⟨b, off, none⟩ : Addr).add (i * cc T e)).add j = ⟨b, off + i * cc T e + j, none⟩ := by
                  unfold Addr.add
                  split <;> split <;> simp_all
                rw [e2] at h1
                rw [hw]
                exact h1
              · obtain ⟨h1, rfl⟩ := hes i x hx
                have h2 : j < (CC i).length := by rw [hccl i h1, ← hLl i h1]; exact (List.getElem?_eq_some_iff.1 hd).1
                have e1 : (CC i)[j]? = some (CC i)[j] := by simp [h2]
                rw [e1]
                exact (hLC i h1).2.2.2 j _ d (by simp [h2]) hd
    | st fs =>
      obtain ⟨fl, hu, hfl, _⟩ := T.nz htd (htk.trans hk)
      rw [hk] at hgood
      simp only [Bool.and_eq_true, beq_iff_eq] at hgood
      obtain ⟨⟨hall, hcon⟩, hsum⟩ := hgood
      obtain ⟨xs, m, hm, _, hcl, hxl, hxs⟩ := DataW.trod_struct hu h
      have hm : m = fuel := by omega
      subst hm
      rw [jT T htd] at hcl
      have hmem : ∀ (i : Nat) (o ft : Nat) (nm : String), fs[i]? = some (o, ft, nm) → ft ∈ gs := fun i o ft nm hi => by
        have := List.all_eq_true.1 hall _ (List.mem_of_getElem? hi)
        simpa using this
      have hfield : ∀ i : Nat, ∃ l, ∀ (o ft : Nat) (nm : String), fs[i]? = some (o, ft, nm) → dr T ft l ∧ cm E ((cs.drop o).take (cc T ft)).toArray l := by
        intro i
        cases hi : fs[i]? with
        | none => exact ⟨[], fun o ft nm h => by cases h⟩
        | some x =>
          obtain ⟨o, ft, nm⟩ := x
          have hfi := hi
          rw [← hfl, List.getElem?_map, Option.map_eq_some_iff] at hfi
          obtain ⟨fd, hfd, he⟩ := hfi
          simp only [Prod.mk.injEq] at he
          obtain ⟨rfl, rfl, rfl⟩ := he
          have h1 := hxs i fd (by simpa using hfd)
          have hi2 : i < xs.length := by rw [hxl]; have := (List.getElem?_eq_some_iff.1 hfd).1; simpa using this
          have e1 : xs[i]? = some xs[i] := by simp [hi2]
          rw [e1] at h1
          obtain ⟨fdd, hfdd, _⟩ := iT T hg (hmem i _ _ _ hi)
          rw [jT T hfdd] at h1
          obtain ⟨l, h2, h3⟩ := ih fd.type _ _ _ (hmem i _ _ _ hi) h1
          exact ⟨l, fun o ft nm h => by simp only [Option.some.injEq, Prod.mk.injEq] at h; obtain ⟨rfl, rfl, rfl⟩ := h; exact ⟨h2, h3⟩⟩
      let L := fun i => (hfield i).choose
      have hL : ∀ (i o ft : Nat) (nm : String), fs[i]? = some (o, ft, nm) → dr T ft (L i) ∧ cm E ((cs.drop o).take (cc T ft)).toArray (L i) := fun i => (hfield i).choose_spec
      refine ⟨((List.range fs.length).map L).flatten, .st _ hk (by simp) (fun i o ft nm p hi hp => ?_), ?_⟩
      · have hlt : i < fs.length := (List.getElem?_eq_some_iff.1 hi).1
        simp [hlt] at hp
        rw [← hp]
        exact (hL i o ft nm hi).1
      · have hf := mT T fs 0 cs hcon
        rw [List.drop_zero, hsum, ← hcl, List.take_length] at hf
        rw [← hf]
        refine cm.flatten (by simp) (fun i a l ha hl => ?_)
        simp only [List.getElem?_map, Option.map_eq_some_iff] at ha hl
        obtain ⟨⟨o, ft, nm⟩, hi, rfl⟩ := ha
        have hlt : i < fs.length := (List.getElem?_eq_some_iff.1 hi).1
        obtain ⟨i', hi', rfl⟩ := hl
        have : i' = i := by rw [List.getElem?_range hlt] at hi'; exact (Option.some.inj hi').symm
        subst this
        exact (hL i' o ft nm hi).2
    | ptr => rw [hk] at hgood; cases hgood
    | map => rw [hk] at hgood; cases hgood
    | leaf => rw [hk] at hgood; cases hgood
def sI (t : Nat) (l : List D) : A := match cD T t, l with
  | .st _, l => .ag l
  | _, [x] => .d x
  | _, _ => .any
inductive e6 : List Nat → List A → Prop
  | nil : e6 [] []
  | cons {t : Nat} {ts : List Nat} {l : List D} {as' : List A} (h : dr T t l) (r : e6 ts as') : e6 (t :: ts) (sI T t l :: as')
theorem oX {H : Type} {enc : TypeId × Value → H} {gs : List Nat} (hg : oF T gs = true) {w : World} {base : Nat} {E : En} (hw : E.w = w) (hpv : ∀ b o, ¬ E.pv b o) : ∀ (ts : List Nat) (vs : List Value) (ds : List (DataW H)) (ps : List MemPlace),
    (∀ t ∈ ts, t ∈ gs) → DataW.TrodAll enc P w 0 (fun _ => true) true ts vs ds ps → (∀ (j : Nat) (t : Nat) (v : Value), ts[j]? = some t → vs[j]? = some v → Value.okWide P w .any base t v) →
    ds.length = ts.length ∧ vs.length = ts.length ∧ ∃ as', e6 T ts as' ∧ vs.length = as'.length ∧ ∀ (i : Nat) (u : Value) (a : A), vs[i]? = some u → as'[i]? = some a → aA E u a
  | [], [], [], ps, _, _, _ => ⟨rfl, rfl, [], .nil, rfl, by simp⟩
  | t :: ts, v :: vs, d :: ds, ps, hm, h, hv => by
    obtain ⟨p, q, ⟨fuel, h1⟩, h2, _⟩ := h
    obtain ⟨e1, e2, as', h3, h4, h5⟩ := oX hg hw hpv ts vs ds q (fun t ht => hm t (List.mem_cons_of_mem _ ht)) h2 (fun j t v ht hv' => hv (j + 1) t v (by simpa using ht) (by simpa using hv'))
    have ht : t ∈ gs := hm t List.mem_cons_self
    obtain ⟨l, h6, h7⟩ := pf T hg hw hpv fuel t _ d p ht h1
    have hok := hv 0 t v (by simp) (by simp)
    obtain ⟨td, htd, htk, hgood⟩ := iT T hg ht
    have hrep : aA E v (sI T t l) := by
      unfold sI
      cases hk : cD T t with
      | st fs =>
        obtain ⟨fl, hu, _⟩ := T.nz htd (htk.trans hk)
        simp only [Value.okWide, hu] at hok
        obtain ⟨cs, rfl, _, _⟩ := hok
        have h8 : cm E cs l := by simpa [Value.cells] using h7
        exact .ag cs l h8.1 h8.2
      | int k =>
        obtain ⟨n, rfl, ho⟩ := h6.toInt hk
        have hu := T.dU htd (htk.trans hk)
        obtain ⟨n', hn', _⟩ := DataW.trod_int hu h1
        have hv1 : v = .int k n' := by cases v <;> simp_all [Value.cells, Value.okWide, Cell.okWide, Cell.ok]
        have := h7.2 0 v (.v (.int k n)) (by rw [hv1]; simp [Value.cells]) (by simp)
        exact .d this
      | bool =>
        obtain ⟨b, rfl⟩ := h6.toBool hk
        have hu := T.my htd (htk.trans hk)
        have hv1 : ∃ b', v = .bool b' := by
          simp only [Value.okWide, hu, Cell.okWide] at hok
          cases v <;> simp_all [Cell.ok]
        obtain ⟨b', hv1⟩ := hv1
        have := h7.2 0 v (.v (.bool b)) (by rw [hv1]; simp [Value.cells]) (by simp)
        exact .d this
      | str =>
        obtain ⟨s, rfl, ho⟩ := h6.toStr hk
        have hu := T.eY htd (htk.trans hk)
        obtain ⟨s', hv1⟩ := okWide_string hu hok
        have := h7.2 0 v (.v (.string s)) (by rw [hv1]; simp [Value.cells]) (by simp)
        exact .d this
      | slice e =>
        obtain ⟨es, rfl, _⟩ := h6.toSlice hk
        have hu := T.dX htd (htk.trans hk)
        obtain ⟨a', len', cap', hv1⟩ := okWide_slice hu hok
        have := h7.2 0 v (.sl es) (by rw [hv1]; simp [Value.cells]) (by simp)
        exact .d this
      | ptr => rw [hk] at hgood; cases hgood
      | map => rw [hk] at hgood; cases hgood
      | leaf => rw [hk] at hgood; cases hgood
    refine ⟨by simp [e1], by simp [e2], _, .cons h6 h3, by simp [h4], fun i u a hu ha => ?_⟩
    cases i with
    | zero => simp at hu ha; subst hu; subst ha; exact hrep
    | succ i => exact h5 i u a (by simpa using hu) (by simpa using ha)
  | [], _ :: _, _, _, _, h, _ => by simp [DataW.TrodAll] at h
  | [], [], _ :: _, _, _, h, _ => by simp [DataW.TrodAll] at h
  | _ :: _, [], _, _, _, h, _ => by simp [DataW.TrodAll] at h
  | _ :: _, _ :: _, [], _, _, h, _ => by simp [DataW.TrodAll] at h
theorem ko {H : Type} {enc : TypeId × Value → H} (hl : laidOutB P = true) {W W' : World} (hb : Below W.heap.size W W') : ∀ (ts : List Nat) (vs : List Value) (ds : List (DataW H)) (ps : List MemPlace),
    (∀ t ∈ ts, P.readableRec t = true ∧ t < P.types.size) → DataW.TrodAll enc P W 0 (fun _ => true) true ts vs ds ps → (∀ x ∈ ps, x.block < W.heap.size) →
    DataW.TrodAll enc P W' 0 (fun b => decide (b < W.heap.size)) true ts vs ds ps
  | [], [], [], ps, _, h, _ => h
  | t :: ts, v :: vs, d :: ds, ps, hr, h, hlt => by
    obtain ⟨p, q, h1, h2, rfl⟩ := h
    have := hr t List.mem_cons_self
    exact ⟨p, q, Below.trod hl this.1 this.2 h1 hb (fun x hx => hlt x (List.mem_append.2 (.inl hx))), ko hl hb ts vs ds q (fun t ht => hr t (List.mem_cons_of_mem _ ht)) h2 (fun x hx => hlt x (List.mem_append.2 (.inr hx))), rfl⟩
  | [], _ :: _, _, _, _, h, _ => by simp [DataW.TrodAll] at h
  | [], [], _ :: _, _, _, h, _ => by simp [DataW.TrodAll] at h
  | _ :: _, [], _, _, _, h, _ => by simp [DataW.TrodAll] at h
  | _ :: _, _ :: _, [], _, _, h, _ => by simp [DataW.TrodAll] at h
theorem pS [Met P] {f : FuncId} {fn : Func} {s : ChangeSpec} {gs : List Nat} {tb : Nat} (hg : oF T gs = true) (hin : ∀ t ∈ fn.params.toList, t ∈ gs) (hlaid : laidOutB P = true) (hrd : ∀ t ∈ fn.params.toList, P.readableRec t = true ∧ t < P.types.size)
    (hres : fn.resultTypes = #[tb]) (hb : P.underlying tb = some .bool) (hvars : s.vars = []) {H : Type} {enc : TypeId × Value → H} (hs : ∀ ds : List (DataW H), ds.length = fn.params.size → s.fn H ds = { results := [.lit (.bool true)], args := ds })
    (hd : ∀ as', e6 T fn.params.toList as' → ax P f as' (.d (.v (.bool true))) 0)
    (W : World) (hshape : W.ShapedOpen P ∧ Met.met P W) (base : Nat) (args : Array Value) (ds gs' : List (DataW H)) (before : List MemPlace) (hval : ∀ (j : Nat) t v, fn.params[j]? = some t → args[j]? = some v → Value.okWide P W .any base t v)
    (hW : DataW.Whole enc P fn.params.toList s.vars false W args.toList ds gs' before) :
    Calls P f args W fun e W' => ∃ v, e = .returned v ∧ s.post enc P fn false true false false W args v W' := by
  have hW' := hW
  obtain ⟨p, q, hA, hV, rfl, hfz, hnd⟩ := hW
  rw [hvars] at hV
  obtain ⟨rfl, rfl⟩ := trodVars_none hV
  obtain ⟨e1, e2, as', hconf, hlen, hrep⟩ := oX T (E := ao { w0 := W, fp := fun _ => False, x := fun _ _ => False } G0 0 W) hg rfl (fun b o hp => (nM _ b o).1 hp) fn.params.toList args.toList ds p hin hA
    (fun j t v ht hv => hval j t v (by simpa using ht) (by simpa using hv))
  refine ((hd as' hconf).calls { w0 := W, fp := fun _ => False, x := fun _ _ => False } args W ⟨W, hshape, Nat.le_refl _, fun _ _ => ⟨rfl, fun h => h⟩⟩ rfl ⟨fun _ h => h, fun _ _ h => h, rfl, rfl⟩ (fun _ _ h => h.elim) (by simpa using hlen) (fun i u a hu ha => hrep i u a (by simpa using hu) ha)).mono ?_
  rintro e W' ⟨v, G', rfl, hsim, hv⟩
  have bel : Below W.heap.size W W' := ⟨hsim.fr.os, hsim.fr.tape, hsim.fr.output, hsim.fr.size, fun b hb => hsim.fr.block b hb (fun h => h)⟩
  have hvt : v = .bool true := by cases hv with | d hv => cases hv; rfl
  subst hvt
  have hfn := hs (ds ++ []) (by simp [e1])
  have hlt : ∀ x ∈ p, x.block < W.heap.size := fun x hx => by simpa using hW'.lt x (by simpa using hx)
  refine ⟨_, rfl, ds, [], _, [], p, [], hW', ?_, ?_, ?_, bel.frame _, fun h => by cases h⟩
  · rw [hfn, hres]
    exact trodAll_mk1 (shut_bool hb _)
  · rw [hfn]
    simp only [List.append_nil]
    exact ko hlaid bel _ _ _ _ hrd hA hlt
  · rw [hfn, hvars]
    rfl
variable {T}
theorem e6.inv {t : Nat} {ts : List Nat} {as' : List A} (h : e6 T (t :: ts) as') : ∃ l r, as' = sI T t l :: r ∧ dr T t l ∧ e6 T ts r := by
  cases h with
  | cons h r => exact ⟨_, _, rfl, h, r⟩
theorem e6.zh {as' : List A} (h : e6 T [] as') : as' = [] := by cases h; rfl
end
end Go.Ab
