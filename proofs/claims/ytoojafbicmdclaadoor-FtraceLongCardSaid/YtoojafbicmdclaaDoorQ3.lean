import Derived.Test.YtoojafbicmdclaaDoorQ2
import Derived.Recover
import Derived.Laws.Slices
import Derived.RangeFuncLeaves
import Derived.RangeFuncCalls
namespace Go.Ab
open Go.RowKit
abbrev panOf (v : Value) : Exit := .panic [{ v := v, recovered := false }]
section
variable {C : Ctx} {n : Nat} {st : St}
theorem SimG.left {G : Gh} {tmps : Array Value} {w w' : World} (h : SimG C n st G tmps w) (hf : Fr C w') (hs : w.heap.size ≤ w'.heap.size) (ht : TyKept w w') : SimG C n ⟨[], [], [], st.gen⟩ ⟨G.box, fun _ => none⟩ tmps w' :=
  { size := h.size, frame := fun t a ha => by simp [look] at ha, box := fun g cells hc => by simp [look'] at hc, gbox := fun g b hb => ⟨(h.gbox g b hb).1, Nat.lt_of_lt_of_le (h.gbox g b hb).2.1 hs, (h.gbox g b hb).2.2⟩,
    inj := h.inj, live := fun g hg => by simp at hg, gown := fun g r hr => by simp at hr, row := fun g b len cap sz pub hr => by simp at hr, mrow := fun g b bs hr => by simp at hr, sub := fun g b bs c lim hr => by simp at hr, gcell := fun g b hb => gcTy ht (h.gcell g b hb), xold := h.xold, kold := h.kold, lent := h.lent, fr := hf }
end
structure DoesP (P : Program) [Met P] (f : FuncId) (args : List A) (b0 : List (List A)) (m : Nat) (v : Value) : Prop where
  ok : FnOK P f
  calls : ∀ (C : Ctx) (G : Gh) (vals : Array Value) (w : World), GC P C → C.w0 = w → C.bx.length = b0.length → C.ds = [] → (m = 0 → ∀ b, C.fp b → ∃ i : Nat, C.bx[i]? = some b) →
    SimG C 0 ⟨[], bxs 0 b0, (List.range m).map (b0.length + ·), b0.length + m⟩ G #[] w → vals.size = args.length →
    (∀ (i : Nat) (u : Value) (a : A), vals[i]? = some u → args[i]? = some a → Rep (enOf C G (b0.length + m) w) u a) →
    Calls P f vals w fun e w' => e = .panicked [{ v := v, recovered := false }] ∧ Fr C w'
def QP (v : Value) : Exit → St → Prop := fun e _ => e = panOf v
theorem DoesP.of_WF {P : Program} [Met P] {f : FuncId} {fn : Func} {c : Code} {n : Nat} {args : List A} {b0 : List (List A)} {m : Nat} {v : Value} (hf : P.funcs[f]? = some fn) (hname : (fn.name == "runtime.NumGoroutine") = false)
    (hb : fn.body = some c) (hn : fn.ntmps = n) (hlen : Nat.ble args.length n = true)
    (h : ∀ C, NB C b0.length → GC P C → (m = 0 → ∀ b, C.fp b → ∃ i : Nat, C.bx[i]? = some b) → (∀ i b : Nat, C.bx[i]? = some b → b < C.w0.heap.size) → W P C n c (QP v) ⟨args0 0 args, bxs 0 b0, (List.range m).map (b0.length + ·), b0.length + m⟩) : DoesP P f args b0 m v := by
  have hlen := Nat.le_of_ble_eq_true hlen
  refine ⟨⟨fn, hf, hname, by rw [hb]; rfl⟩, fun C G vals w hG hw hnb hdn hfe hs hsz hrep => ?_⟩
  subst hw
  refine calls_of_wp hf hb (wp_mono (wp_ds hdn (h C ⟨hnb⟩ hG hfe (fun i b hb => (hs.gbox i b (hs.lent i b hb)).2.1) (vals ++ Array.replicate (fn.ntmps - vals.size) undef) C.w0 ⟨G, ?_⟩)) ?_)
  · refine { hs with size := by simp [hn]; omega, frame := fun t a ha => ?_ }
    obtain ⟨_, h1⟩ := args0_look args 0 t a ha
    have h2 : t < args.length := (List.getElem?_eq_some_iff.1 (by simpa using h1)).1
    have h3 : t < vals.size := by omega
    have h4 : vals[t]? = some vals[t] := by simp [h3]
    exact ⟨vals[t], by rw [Array.getElem?_append_left h3]; exact h4, hrep t _ a h4 (by simpa using h1)⟩
  · rintro e ⟨tmps, df⟩ w' ⟨hd, st, ⟨G1, hs1⟩, he⟩
    have he : e = panOf v := he
    subst he
    exact ⟨hd.trans hdn, rfl, hs1.fr⟩
theorem DoesP.of_W {P : Program} [Met P] {f : FuncId} {fn : Func} {c : Code} {n : Nat} {args : List A} {b0 : List (List A)} {m : Nat} {v : Value} (hf : P.funcs[f]? = some fn) (hname : (fn.name == "runtime.NumGoroutine") = false)
    (hb : fn.body = some c) (hn : fn.ntmps = n) (hlen : Nat.ble args.length n = true)
    (h : ∀ C, NB C b0.length → GC P C → W P C n c (QP v) ⟨args0 0 args, bxs 0 b0, (List.range m).map (b0.length + ·), b0.length + m⟩) : DoesP P f args b0 m v :=
  DoesP.of_WF hf hname hb hn hlen fun C hC hG _ _ => h C hC hG
inductive Out where
  | ret (r : A) (b1 : List (List A)) (k : Nat)
  | pan (v : Value)
def DoesE (P : Program) [Met P] (f : FuncId) (args : List A) (b0 : List (List A)) (m : Nat) : Out → Prop
  | .ret r b1 k => DoesB P f args b0 m r b1 k
  | .pan v => DoesP P f args b0 m v
def QX {P : Program} (T : Tab P) (rs : List RV) : Out → Exit → St → Prop
  | .ret r b1 k => QB1 T rs r b1 k
  | .pan v => QP v
def Out.len : Out → Nat → Bool
  | .ret _ b1 _, n => Nat.beq b1.length n
  | .pan _, _ => true
theorem DoesE.of_V {P : Program} (T : Tab P) [Met P] {f : FuncId} {fn : Func} {c : Code} {rs : List RV} {n : Nat} {args : List A} {b0 : List (List A)} {m : Nat} {x : Out} (hf : P.funcs[f]? = some fn) (hname : (fn.name == "runtime.NumGoroutine") = false)
    (hb : fn.body = some c) (hn : fn.ntmps = n) (hr : fn.results = (rs.map RV.var).toArray) (hlen : Nat.ble args.length n = true) (hbl : x.len b0.length = true)
    (h : ∀ C, NB C b0.length → GC P C → W P C n c (QX T rs x) ⟨args0 0 args, bxs 0 b0, (List.range m).map (b0.length + ·), b0.length + m⟩) : DoesE P f args b0 m x := by
  cases x with
  | ret r b1 k => exact DoesB.of_V T hf hname hb hn hr hlen (Nat.eq_of_beq_eq_true hbl) h
  | pan v => exact DoesP.of_W hf hname hb hn hlen h
theorem DoesE.of_VF {P : Program} (T : Tab P) [Met P] {f : FuncId} {fn : Func} {c : Code} {rs : List RV} {n : Nat} {args : List A} {b0 : List (List A)} {m : Nat} {x : Out} (hf : P.funcs[f]? = some fn) (hname : (fn.name == "runtime.NumGoroutine") = false)
    (hb : fn.body = some c) (hn : fn.ntmps = n) (hr : fn.results = (rs.map RV.var).toArray) (hlen : Nat.ble args.length n = true) (hbl : x.len b0.length = true)
    (h : ∀ C, NB C b0.length → GC P C → (m = 0 → ∀ b, C.fp b → ∃ i : Nat, C.bx[i]? = some b) → (∀ i b : Nat, C.bx[i]? = some b → b < C.w0.heap.size) → W P C n c (QX T rs x) ⟨args0 0 args, bxs 0 b0, (List.range m).map (b0.length + ·), b0.length + m⟩) : DoesE P f args b0 m x := by
  cases x with
  | ret r b1 k => exact DoesB.of_VF T hf hname hb hn hr hlen (Nat.eq_of_beq_eq_true hbl) h
  | pan v => exact DoesP.of_WF hf hname hb hn hlen h
theorem DoesE.ret {P : Program} [Met P] {f : FuncId} {args : List A} {b0 : List (List A)} {m : Nat} {x : Out} {r : A} {b1 : List (List A)} {k : Nat} (h : DoesE P f args b0 m x) (hx : x = .ret r b1 k) : DoesB P f args b0 m r b1 k := by subst hx; exact h
theorem DoesE.pan {P : Program} [Met P] {f : FuncId} {args : List A} {b0 : List (List A)} {m : Nat} {x : Out} {v : Value} (h : DoesE P f args b0 m x) (hx : x = .pan v) : DoesP P f args b0 m v := by subst hx; exact h
section
variable {P : Program} {C : Ctx} {n : Nat} {ops : Array Oper} {Q : Exit → St → Prop} {rest : List Oper} {st : St} {o : Oper}
end
section
variable {P : Program} {C : Ctx} {n : Nat} {ops : Array Oper} {Q : Exit → St → Prop} {rest : List Oper} {c : Code}
variable {f : List (Nat × A)} {bx : List (Nat × List A)} {lv : List Nat} {gen : Nat} {d : Nat} {op : Op} {ty : TypeId} {pos : String} {af : Array Edge} {a : A} {dst : Option Nat}
end
end Go.Ab
namespace Go.Tb
open Go.Ab
structure Tk where
  kind : Int
  s : ByteArray
  n : Int
  at_ : Nat
  nx : Nat
abbrev E0 : ByteArray := B #[]
@[reducible] def Tk.c (t : Tk) : List D := [ci t.kind, cs (if t.kind = 3 then E0 else t.s), ci t.n, ci (t.at_ : Int)]
def kindR (k : Int) : Int := if k = 0 then 0 else if k = 1 then 5 else k - 1
@[reducible] def Tk.r (t : Tk) : List D := [ci (kindR t.kind), cs t.s, ci (t.at_ : Int), ci (t.nx : Int)]
def letB (b : UInt8) : Bool := decide (97 ≤ b.toNat) && decide (b.toNat ≤ 122)
abbrev tkEnd (k : Nat) : Tk := ⟨0, E0, 0, k, 0⟩
def Tk.stops (t : Tk) : Bool := decide (t.kind = 0) || decide (t.kind = 1)
def Tk.ok (t : Tk) : Bool :=
  (!decide (t.kind = 2) || (match bys t.s with | c :: _ => letB c | [] => false)) && (!decide (t.kind = 5) || (match bys t.s with | c :: _ => !letB c | [] => false)) &&
  (!decide (t.kind = 3) || decide ((numP t.s).2 = true ∧ t.n = (numP t.s).1)) && decide (0 ≤ t.kind) && decide (t.kind ≤ 5)
structure Wf (l : List Tk) : Prop where
  ne : l ≠ []
  last : ∀ (i : Nat) t, l[i]? = some t → (t.stops = true ↔ i + 1 = l.length)
  ok : ∀ t ∈ l, t.ok = true
end Go.Tb
namespace Go.Tb
open Go.Ab
abbrev PS := Nat × Bool
abbrev Pr (α : Type) := PS → α × PS
abbrev dflT : Tk := tkEnd 0
abbrev v0 : Val := ⟨0, 0, E0⟩
section
variable (L : List Tk)
def tk0 (st : PS) : Tk := (L[st.1]?).getD dflT
/-! ### what readers do -/
structure Goes {α : Type} (f : Pr α) : Prop where
  mono : ∀ st, st.1 ≤ (f st).2.1
  lt : ∀ st, st.1 < L.length → (f st).2.1 < L.length
  bad : ∀ st, st.2 = true → (f st).2 = st
variable {L}
theorem at_get {st : PS} {t : Tk} (h : L[st.1]? = some t) : tk0 L st = t := by unfold tk0; rw [h]; rfl
theorem Wf.more (hw : Wf L) {st : PS} (h : st.1 < L.length) (hs : (tk0 L st).stops = false) : st.1 + 1 < L.length := by
  have e : L[st.1]? = some (L[st.1]'h) := by simp
  rw [at_get e] at hs
  have := hw.last _ _ e
  rcases Nat.lt_or_ge (st.1 + 1) L.length with h' | h'
  · exact h'
  · have h2 := this.2 (by omega)
    rw [h2] at hs
    cases hs
end
end Go.Tb
namespace Go.Tb
open Go.Ab
section
variable (L : List Tk)
def Agree {α : Type} (f h : Pr α) : Prop := ∀ st, (f st).2 = (h st).2 ∧ ((f st).2.2 = false → (f st).1 = (h st).1)
variable {L}
theorem Agree.refl {α : Type} (f : Pr α) : Agree f f := fun _ => ⟨rfl, fun _ => rfl⟩
/-! ### steps and queries -/
theorem Goes.seq {α β : Type} {f : Pr α} {h : Pr β} (hf : Goes L f) (hh : Goes L h) : Goes L (fun st => h (f st).2) where
  mono st := Nat.le_trans (hf.mono st) (hh.mono _)
  lt st hl := hh.lt _ (hf.lt st hl)
  bad st hb := by
    have h1 := hf.bad st hb
    have h2 := hh.bad (f st).2 (by rw [h1]; exact hb)
    rw [h2, h1]
theorem Goes.map {α β : Type} {f : Pr α} {h : Pr β} (hf : Goes L f) (e : ∀ st, (h st).2 = (f st).2) : Goes L h where
  mono st := by rw [e]; exact hf.mono st
  lt st hl := by rw [e]; exact hf.lt st hl
  bad st hb := by rw [e]; exact hf.bad st hb
end
end Go.Tb
namespace Go.Tb
open Go.Ab
/-! ### the functions -/
end Go.Tb
namespace Go.Tb
open Go.Ab
/-! ### the same as by places -/
end Go.Tb
namespace Go.Tb
open Go.Ab
theorem digB_acc : ∀ (n : Nat) (l : List UInt8), l.length = n → l ≠ [] → (∀ b ∈ l, isDig b = true) → (1 < l.length → l.head? ≠ some 48) → digB (accD 0 l) = l ∧ (l.head? ≠ some 48 → 0 < accD 0 l) := by
  intro n
  induction n with
  | zero => intro l h0 h1; exact absurd (List.length_eq_zero_iff.1 h0) h1
  | succ n ih =>
    intro l hl h1 hd hz
    obtain ⟨l', b, rfl⟩ : ∃ l' b, l = l' ++ [b] := ⟨l.dropLast, l.getLast h1, (List.dropLast_concat_getLast h1).symm⟩
    have hb := hd b (by simp)
    have hb' : 48 ≤ b.toNat ∧ b.toNat ≤ 57 := by simpa [isDig] using hb
    have e1 : accD 0 (l' ++ [b]) = 10 * accD 0 l' + (b.toNat - 48) := by rw [accD_append]; simp [accD, hb]
    have hbn : UInt8.ofNat (48 + (b.toNat - 48)) = b := UInt8.toNat_inj.1 (by rw [UInt8.toNat_ofNat']; omega)
    by_cases q : l' = []
    · subst q
      have e2 : accD 0 ([] ++ [b]) = b.toNat - 48 := by rw [e1]; simp [accD]
      rw [e2]
      refine ⟨by rw [digB_small (by omega), hbn]; rfl, fun h => ?_⟩
      have : b ≠ 48 := fun e => h (by rw [e]; rfl)
      have h2 : b.toNat ≠ 48 := fun e => this (UInt8.toNat_inj.1 e)
      omega
    · have hh : (l' ++ [b]).head? = l'.head? := by cases l' with | nil => exact absurd rfl q | cons x r => rfl
      have hlen : l'.length = n := by simpa using hl
      have hlp : 0 < l'.length := List.length_pos_iff.2 q
      have hz' : l'.head? ≠ some 48 := by rw [← hh]; exact hz (by simp; omega)
      obtain ⟨i1, i2⟩ := ih l' hlen q (fun x hx => hd x (by simp [hx])) (fun _ => hz')
      have i3 := i2 hz'
      rw [e1]
      refine ⟨?_, fun _ => by omega⟩
      rw [digB_big (by omega), show (10 * accD 0 l' + (b.toNat - 48)) / 10 = accD 0 l' by omega, show (10 * accD 0 l' + (b.toNat - 48)) % 10 = b.toNat - 48 by omega, i1, hbn]
end Go.Tb
namespace Go.Tb
open Go.Ab
inductive JV where
  | mk (op n : Int) (s : ByteArray) (keys : List ByteArray) (kids : List JV)
def JV.op : JV → Int | .mk a _ _ _ _ => a
def JV.n : JV → Int | .mk _ a _ _ _ => a
def JV.s : JV → ByteArray | .mk _ _ a _ _ => a
def JV.keys : JV → List ByteArray | .mk _ _ _ a _ => a
def JV.kids : JV → List JV | .mk _ _ _ _ a => a
mutual
def JV.kc : JV → List (List D)
  | .mk _ _ _ _ kids => JV.kcs kids
def JV.kcs : List JV → List (List D)
  | [] => []
  | e :: r => [ci e.op, ci e.n, cs e.s, .sl (e.keys.map sc), .sl (JV.kc e)] :: JV.kcs r
end
@[reducible] def JV.c (e : JV) : List D := [ci e.op, ci e.n, cs e.s, .sl (e.keys.map sc), .sl e.kc]
theorem JV.kcs_eq : ∀ l, JV.kcs l = l.map JV.c
  | [] => rfl
  | e :: r => by simp [JV.kcs, JV.kcs_eq r]
theorem JV.kc_eq (e : JV) : e.kc = e.kids.map JV.c := by cases e; simp [JV.kc, JV.kids, JV.kcs_eq]
theorem JV.kc_len (e : JV) : e.kc.length = e.kids.length := by simp [JV.kc_eq]
theorem JV.ind {p : JV → Prop} (h : ∀ e, (∀ k ∈ e.kids, p k) → p e) : ∀ e, p e := by
  intro e
  induction hn : _root_.SizeOf.sizeOf e using Nat.strongRecOn generalizing e with
  | _ m ih =>
    subst hn
    refine h e fun k hk => ih (_root_.SizeOf.sizeOf k) ?_ k rfl
    cases e with
    | mk op n s keys kids =>
      have := List.sizeOf_lt_of_mem (show k ∈ kids from hk)
      simp; omega
/-! equality -/
mutual
def eqJ : JV → JV → Bool
  | .mk a b c d e, .mk a' b' c' d' e' => decide (a = a') && (decide (b = b') && (decide (c = c') && (decide (d = d') && eqJs e e')))
def eqJs : List JV → List JV → Bool
  | [], [] => true
  | x :: l, y :: m => eqJ x y && eqJs l m
  | _, _ => false
end
mutual
theorem eqJ_iff : ∀ (a b : JV), eqJ a b = true ↔ a = b
  | .mk a b c d e, .mk a' b' c' d' e' => by
    simp only [eqJ, Bool.and_eq_true, decide_eq_true_eq, JV.mk.injEq, eqJs_iff e e']
theorem eqJs_iff : ∀ (l m : List JV), eqJs l m = true ↔ l = m
  | [], [] => by simp [eqJs]
  | x :: l, y :: m => by simp only [eqJs, Bool.and_eq_true, eqJ_iff x y, eqJs_iff l m, List.cons.injEq]
  | [], _ :: _ => by simp [eqJs]
  | _ :: _, [] => by simp [eqJs]
end
instance : DecidableEq JV := fun a b => decidable_of_iff _ (eqJ_iff a b)
/-! checking -/
def known (b : UInt8) : Bool := decide (b.toNat = 9) || (decide (b.toNat = 10) || (decide (32 ≤ b.toNat) && decide (b.toNat ≤ 126)))
def plainB (s : ByteArray) : Bool := (bys s).all known
def fieldsJ (j : JV) : Bool :=
  if j.op = 1 then decide (j.n = 0) && (decide (j.s = B #[]) && decide (j.keys.length + j.kids.length = 0))
  else if j.op = 2 ∨ j.op = 3 then decide (j.s = B #[]) && decide (j.keys.length + j.kids.length = 0)
  else if j.op = 4 then decide (j.n = 0) && decide (j.keys.length + j.kids.length = 0)
  else if j.op = 5 then decide (j.n = 0) && (decide (j.s = B #[]) && decide (j.keys.length = 0))
  else if j.op = 6 then decide (j.n = 0) && (decide (j.s = B #[]) && decide (j.keys.length = j.kids.length))
  else false
def rept (seen : List ByteArray) : List ByteArray → Bool
  | [] => false
  | s :: r => if seen.any (fun x => decide (x = s)) then true else rept (seen ++ [s]) r
def nodeJ (j : JV) (level : Int) : Int :=
  if fieldsJ j = false then 1
  else if (j.op = 2 ∧ j.n ≠ 0 ∧ j.n ≠ 1) ∨ (j.op = 3 ∧ inR j.n = false) then 2
  else if plainB j.s = false ∨ (j.keys.any fun s => !plainB s) = true then 10
  else if rept [] j.keys = true then 4
  else if 5 ≤ j.op ∧ 16 < level then 20
  else 0
mutual
def checkJ : JV → Int → Int
  | .mk op n s keys kids, level => if nodeJ (.mk op n s keys kids) level ≠ 0 then nodeJ (.mk op n s keys kids) level else checkJs kids (level + 1)
def checkJs : List JV → Int → Int
  | [], _ => 0
  | k :: r, level => if checkJ k level ≠ 0 then checkJ k level else checkJs r level
end
/-! printing -/
def escB (b : UInt8) : List UInt8 := if b = 34 ∨ b = 92 then [92, b] else if b = 10 then [92, 110] else if b = 9 then [92, 116] else [b]
def quoteL (l : List UInt8) : List UInt8 := 34 :: (l.flatMap escB ++ [34])
def nullL : List UInt8 := [110, 117, 108, 108]
def trueL : List UInt8 := [116, 114, 117, 101]
def falseL : List UInt8 := [102, 97, 108, 115, 101]
mutual
def printJ : JV → List UInt8
  | .mk op n s keys kids =>
    if op = 1 then nullL else if op = 2 then (if n = 1 then trueL else falseL) else if op = 3 then bys (numB n) else if op = 4 then quoteL (bys s)
    else if op = 6 then 123 :: (membersJ keys kids true ++ [125]) else 91 :: (itemsJ kids true ++ [93])
def itemsJ : List JV → Bool → List UInt8
  | [], _ => []
  | k :: r, first => (if first then [] else [44]) ++ printJ k ++ itemsJ r false
def membersJ : List ByteArray → List JV → Bool → List UInt8
  | s :: keys, k :: r, first => (if first then [] else [44]) ++ quoteL (bys s) ++ [58] ++ printJ k ++ membersJ keys r false
  | _, _, _ => []
end
/-! parsing: 'no at why' is a fault -/
inductive PE (α : Type) where
  | ok (x : α) (i : Nat)
  | no (at_ : Nat) (why : Int)
def isWs (b : UInt8) : Bool := decide (b.toNat = 32) || (decide (b.toNat = 9) || (decide (b.toNat = 10) || decide (b.toNat = 13)))
def hereB (l : List UInt8) (i : Nat) : UInt8 := l.getD i 0
def skipW (l : List UInt8) : Nat → Nat → Nat
  | 0, i => i
  | k + 1, i => if i < l.length ∧ isWs (hereB l i) = true then skipW l k (i + 1) else i
def skipB (l : List UInt8) (i : Nat) : Nat := skipW l (l.length - i) i
def takeJ (l : List UInt8) (c : UInt8) (i : Nat) : PE Unit := if i < l.length ∧ hereB l i = c then .ok () (i + 1) else .no i 10
def wordJ (l : List UInt8) : List UInt8 → Nat → PE Unit
  | [], i => .ok () i
  | c :: r, i => match takeJ l c i with
    | .ok _ j => wordJ l r j
    | .no a w => .no a w
def hexV (c : UInt8) : Option Nat :=
  if 48 ≤ c.toNat ∧ c.toNat ≤ 57 then some (c.toNat - 48) else if 97 ≤ (c ||| 32).toNat ∧ (c ||| 32).toNat ≤ 102 then some ((c ||| 32).toNat - 97 + 10) else none
def escJ (l : List UInt8) (i : Nat) : PE UInt8 :=
  if hereB l i = 34 ∨ hereB l i = 92 ∨ hereB l i = 47 then .ok (hereB l i) (i + 1)
  else if hereB l i = 110 then .ok 10 (i + 1)
  else if hereB l i = 116 then .ok 9 (i + 1)
  else match wordJ l [117, 48, 48] i with
    | .no a w => .no a w
    | .ok _ j => match hexV (hereB l j) with
      | none => .no j 10
      | some high => if high = 1 ∨ 7 < high then .no j 10 else match hexV (hereB l (j + 1)) with
        | none => .no (j + 1) 10
        | some low => if known (UInt8.ofNat (16 * high + low)) = false then .no (j + 1) 10 else .ok (UInt8.ofNat (16 * high + low)) (j + 2)
def textGo (l : List UInt8) : Nat → Nat → List UInt8 → PE (List UInt8)
  | 0, i, _ => .no i 10
  | k + 1, i, acc =>
    if (hereB l i).toNat < 32 ∨ 126 < (hereB l i).toNat then .no i 10
    else if hereB l i = 34 then .ok acc (i + 1)
    else if hereB l i = 92 then (match escJ l (i + 1) with
      | .no a w => .no a w
      | .ok c j => textGo l k j (acc ++ [c]))
    else textGo l k (i + 1) (acc ++ [hereB l i])
def textJ (l : List UInt8) (i : Nat) : PE (List UInt8) := match takeJ l 34 i with
  | .no a w => .no a w
  | .ok _ j => textGo l (l.length + 1 - j) j []
def runD (l : List UInt8) : Nat → Nat → Nat
  | 0, i => i
  | k + 1, i => if i < l.length ∧ isDig (hereB l i) = true then runD l k (i + 1) else i
def digsJ (l : List UInt8) (i : Nat) : Nat := if hereB l i = 48 then i + 1 else runD l (l.length - i) i
def numJ (l : List UInt8) (i : Nat) : PE JV :=
  let i1 := if hereB l i = 45 then i + 1 else i
  let i2 := digsJ l i1
  if i2 = i1 then .no i1 10 else
  let t : ByteArray := ⟨((l.drop i).take (i2 - i)).toArray⟩
  let u := if t = B #[45, 48] then B #[48] else t
  if (numP u).2 = true then .ok (.mk 3 (numP u).1 (B #[]) [] []) i2 else .no i 2
def bytesOf (l : List UInt8) : ByteArray := ⟨l.toArray⟩
mutual
def valJ (l : List UInt8) : Nat → Int → Nat → PE JV
  | 0, _, i => .no i 10
  | k + 1, level, i0 =>
    let i := skipB l i0
    let c := hereB l i
    if c = 110 then (match wordJ l nullL i with | .no a w => .no a w | .ok _ j => .ok (.mk 1 0 (B #[]) [] []) j)
    else if c = 116 then (match wordJ l trueL i with | .no a w => .no a w | .ok _ j => .ok (.mk 2 1 (B #[]) [] []) j)
    else if c = 102 then (match wordJ l falseL i with | .no a w => .no a w | .ok _ j => .ok (.mk 2 0 (B #[]) [] []) j)
    else if c = 34 then (match textJ l i with | .no a w => .no a w | .ok t j => .ok (.mk 4 0 (bytesOf t) [] []) j)
    else if c = 91 ∨ c = 123 then
      if 16 < level then .no i 20
      else if c = 91 then arrJ l k level (i + 1) else objJ l k level (i + 1)
    else numJ l i
def arrJ (l : List UInt8) : Nat → Int → Nat → PE JV
  | 0, _, i => .no i 10
  | k + 1, level, i0 =>
    let i := skipB l i0
    if hereB l i = 93 then .ok (.mk 5 0 (B #[]) [] []) (i + 1) else arrGo l k level i []
def arrGo (l : List UInt8) : Nat → Int → Nat → List JV → PE JV
  | 0, _, i, _ => .no i 10
  | k + 1, level, i, acc => match valJ l k (level + 1) i with
    | .no a w => .no a w
    | .ok v j =>
      let j1 := skipB l j
      if hereB l j1 = 44 then arrGo l k level (j1 + 1) (acc ++ [v])
      else match takeJ l 93 j1 with | .no a w => .no a w | .ok _ j2 => .ok (.mk 5 0 (B #[]) [] (acc ++ [v])) j2
def objJ (l : List UInt8) : Nat → Int → Nat → PE JV
  | 0, _, i => .no i 10
  | k + 1, level, i0 =>
    let i := skipB l i0
    if hereB l i = 125 then .ok (.mk 6 0 (B #[]) [] []) (i + 1) else objGo l k level i [] []
def objGo (l : List UInt8) : Nat → Int → Nat → List ByteArray → List JV → PE JV
  | 0, _, i, _, _ => .no i 10
  | k + 1, level, i0, keys, acc =>
    let i := skipB l i0
    match textJ l i with
    | .no a w => .no a w
    | .ok t j =>
      if keys.any (fun x => decide (x = bytesOf t)) then .no i 4 else
      match takeJ l 58 (skipB l j) with
      | .no a w => .no a w
      | .ok _ j1 => match valJ l k (level + 1) j1 with
        | .no a w => .no a w
        | .ok v j2 =>
          let j3 := skipB l j2
          if hereB l j3 = 44 then objGo l k level (j3 + 1) (keys ++ [bytesOf t]) (acc ++ [v])
          else match takeJ l 125 j3 with | .no a w => .no a w | .ok _ j4 => .ok (.mk 6 0 (B #[]) (keys ++ [bytesOf t]) (acc ++ [v])) j4
end
end Go.Tb
namespace Go.Tb
open Go.Ab
/-! a text from a position on -/
theorem drop_here {l : List UInt8} {i : Nat} {a : UInt8} {r : List UInt8} (h : l.drop i = a :: r) : i < l.length ∧ hereB l i = a ∧ l.drop (i + 1) = r := by
  have hlt : i < l.length := by
    rcases Nat.lt_or_ge i l.length with h1 | h1
    · exact h1
    · rw [List.drop_eq_nil_of_le h1] at h; cases h
  rw [List.drop_eq_getElem_cons hlt] at h
  injection h with h1 h2
  refine ⟨hlt, ?_, h2⟩
  unfold hereB
  rw [List.getD_eq_getElem?_getD, List.getElem?_eq_getElem hlt]
  exact h1
theorem drop_more {l x r : List UInt8} {i : Nat} (h : l.drop i = x ++ r) : l.drop (i + x.length) = r := by
  rw [← List.drop_drop, h, List.drop_append_of_le_length (Nat.le_refl _), List.drop_length, List.nil_append]
theorem here_end {l : List UInt8} {i : Nat} (h : l.length ≤ i) : hereB l i = 0 := by
  unfold hereB
  rw [List.getD_eq_getElem?_getD, List.getElem?_eq_none h]; rfl
theorem drop_head {l : List UInt8} {i : Nat} : hereB l i = (l.drop i).headD 0 := by
  rcases Nat.lt_or_ge i l.length with h1 | h1
  · rw [List.drop_eq_getElem_cons h1]
    unfold hereB
    rw [List.getD_eq_getElem?_getD, List.getElem?_eq_getElem h1]; rfl
  · rw [here_end h1, List.drop_eq_nil_of_le h1]; rfl
/-! white space -/
theorem skipW_stay {l : List UInt8} {i : Nat} (h : isWs (hereB l i) = false) : ∀ k, skipW l k i = i
  | 0 => rfl
  | k + 1 => by simp only [skipW]; rw [if_neg (by simp [h])]
theorem skipB_stay {l : List UInt8} {i : Nat} (h : isWs (hereB l i) = false) : skipB l i = i := skipW_stay h _
theorem skipW_ge (l : List UInt8) : ∀ (k i : Nat), i ≤ skipW l k i
  | 0, _ => Nat.le_refl _
  | k + 1, i => by
    simp only [skipW]
    split
    · exact Nat.le_trans (Nat.le_succ i) (skipW_ge l k (i + 1))
    · exact Nat.le_refl _
theorem skipW_le (l : List UInt8) : ∀ (k i : Nat), i ≤ l.length → skipW l k i ≤ l.length
  | 0, _, h => h
  | k + 1, i, h => by
    simp only [skipW]
    split
    · rename_i q; exact skipW_le l k (i + 1) q.1
    · exact h
theorem skipB_ge (l : List UInt8) (i : Nat) : i ≤ skipB l i := skipW_ge l _ i
theorem skipB_le {l : List UInt8} {i : Nat} (h : i ≤ l.length) : skipB l i ≤ l.length := skipW_le l _ i h
/-! words and texts -/
theorem takeJ_ok {l : List UInt8} {i : Nat} {a : UInt8} {r : List UInt8} (h : l.drop i = a :: r) : takeJ l a i = .ok () (i + 1) := by
  obtain ⟨h1, h2, _⟩ := drop_here h
  unfold takeJ
  rw [if_pos ⟨h1, h2⟩]
theorem wordJ_ok {l : List UInt8} : ∀ {x : List UInt8} {i : Nat} {r : List UInt8}, l.drop i = x ++ r → wordJ l x i = .ok () (i + x.length)
  | [], i, r, _ => rfl
  | a :: x, i, r, h => by
    obtain ⟨h1, h2, h3⟩ := drop_here h
    simp only [wordJ, takeJ_ok h]
    rw [wordJ_ok h3, List.length_cons]
    congr 1; omega
theorem known_cases {b : UInt8} (h : known b = true) : b = 9 ∨ b = 10 ∨ (32 ≤ b.toNat ∧ b.toNat ≤ 126) := by
  unfold known at h
  simp only [Bool.or_eq_true, Bool.and_eq_true, decide_eq_true_eq] at h
  rcases h with h | h | h
  · exact .inl (UInt8.toNat_inj.1 h)
  · exact .inr (.inl (UInt8.toNat_inj.1 h))
  · exact .inr (.inr h)
theorem textGo_ok {l : List UInt8} : ∀ {t : List UInt8} {k i : Nat} {acc r : List UInt8}, (∀ b ∈ t, known b = true) → l.drop i = t.flatMap escB ++ 34 :: r → t.length + 1 ≤ k → textGo l k i acc = .ok (acc ++ t) (i + (t.flatMap escB).length + 1)
  | [], k, i, acc, r, _, h, hk => by
    obtain ⟨k, rfl⟩ : ∃ k', k = k' + 1 := ⟨k - 1, by simp at hk; omega⟩
    obtain ⟨h1, h2, h3⟩ := drop_here (show l.drop i = 34 :: r from h)
    unfold textGo
    rw [h2, if_neg (by decide), if_pos rfl]
    simp
  | b :: t, k, i, acc, r, hp, h, hk => by
    obtain ⟨k, rfl⟩ : ∃ k', k = k' + 1 := ⟨k - 1, by simp at hk; omega⟩
    have hb := known_cases (hp b (List.mem_cons_self ..))
    have ih := fun i' acc' h' => textGo_ok (l := l) (t := t) (k := k) (i := i') (acc := acc') (r := r) (fun x hx => hp x (List.mem_cons_of_mem _ hx)) h' (by simp at hk; omega)
    have e : (b :: t).flatMap escB = escB b ++ t.flatMap escB := rfl
    rw [e, List.append_assoc] at h
    have hesc : ∀ (c d : UInt8), escB b = [92, c] → (∀ j, hereB l j = c → escJ l j = .ok d (j + 1)) → d = b → textGo l (k + 1) i acc = .ok (acc ++ b :: t) (i + ((b :: t).flatMap escB).length + 1) := by
      intro c d he hj hd
      subst hd
      rw [he] at h
      obtain ⟨h1, h2, h3⟩ := drop_here (show l.drop i = 92 :: (c :: (t.flatMap escB ++ 34 :: r)) from h)
      obtain ⟨h4, h5, h6⟩ := drop_here h3
      unfold textGo
      rw [h2, if_neg (by decide), if_neg (by decide), if_pos rfl, hj _ h5]
      dsimp only
      rw [ih _ _ h6, e, he]
      simp
      omega
    by_cases q1 : b = 34 ∨ b = 92
    · refine hesc b b (by unfold escB; rw [if_pos q1]) (fun j hj => ?_) rfl
      unfold escJ
      rw [if_pos (by rw [hj]; rcases q1 with q | q; exact .inl q; exact .inr (.inl q)), hj]
    by_cases q2 : b = 10
    · refine hesc 110 10 (by unfold escB; rw [if_neg q1, if_pos q2]) (fun j hj => ?_) q2.symm
      unfold escJ
      rw [hj, if_neg (by decide), if_pos rfl]
    by_cases q3 : b = 9
    · refine hesc 116 9 (by unfold escB; rw [if_neg q1, if_neg q2, if_pos q3]) (fun j hj => ?_) q3.symm
      unfold escJ
      rw [hj, if_neg (by decide), if_neg (by decide), if_pos rfl]
    have he : escB b = [b] := by unfold escB; rw [if_neg q1, if_neg q2, if_neg q3]
    have hr : 32 ≤ b.toNat ∧ b.toNat ≤ 126 := by
      rcases hb with h | h | h
      · exact absurd h q3
      · exact absurd h q2
      · exact h
    rw [he] at h
    obtain ⟨h1, h2, h3⟩ := drop_here (show l.drop i = b :: (t.flatMap escB ++ 34 :: r) from h)
    unfold textGo
    rw [h2, if_neg (by omega), if_neg (fun q => q1 (.inl q)), if_neg (fun q => q1 (.inr q)), ih _ _ h3, e, he]
    simp
    omega
theorem textJ_ok {l : List UInt8} {t : List UInt8} {i : Nat} {r : List UInt8} (hp : ∀ b ∈ t, known b = true) (h : l.drop i = quoteL t ++ r) : textJ l i = .ok t (i + (quoteL t).length) := by
  have h' : l.drop i = 34 :: (t.flatMap escB ++ 34 :: r) := by rw [h]; simp [quoteL]
  obtain ⟨h1, h2, h3⟩ := drop_here h'
  unfold textJ
  rw [takeJ_ok h']
  dsimp only
  have hlen : t.length ≤ (t.flatMap escB).length := by
    clear h h' h3
    induction t with
    | nil => simp
    | cons a t ih =>
      have : 1 ≤ (escB a).length := by unfold escB; split <;> (try split) <;> (try split) <;> simp
      have := ih fun b hb => hp b (List.mem_cons_of_mem _ hb)
      simp only [List.flatMap_cons, List.length_append, List.length_cons]
      omega
  have hl : (l.drop (i + 1)).length = l.length - (i + 1) := List.length_drop ..
  rw [h3] at hl
  simp only [List.length_append, List.length_cons] at hl
  rw [textGo_ok hp h3 (by omega)]
  simp [quoteL]
  omega
end Go.Tb
namespace Go.Tb
open Go.Ab
theorem bytesOf_bys (s : ByteArray) : bytesOf (bys s) = s := by cases s; rfl
/-! numbers -/
theorem digB_zero : ∀ u, (digB u).headD 0 = 48 → u = 0 := by
  refine digB_ind (fun u h hz => ?_) (fun u h ih hz => ?_)
  · rw [digB_small h] at hz
    have h1 : (UInt8.ofNat (48 + u)).toNat = 48 := by
      have : (UInt8.ofNat (48 + u)) = 48 := hz
      rw [this]; rfl
    rw [UInt8.toNat_ofNat'] at h1
    omega
  · rw [digB_big h] at hz
    have hne := digB_ne (u / 10)
    have : (digB (u / 10)).headD 0 = 48 := by
      cases hd : digB (u / 10) with
      | nil => exact absurd hd hne
      | cons a r => rw [hd] at hz; exact hz
    have := ih this
    omega
theorem runD_ok {l : List UInt8} : ∀ {x : List UInt8} {k i : Nat} {r : List UInt8}, l.drop i = x ++ r → (∀ b ∈ x, isDig b = true) → isDig (r.headD 0) = false → x.length ≤ k → runD l k i = i + x.length
  | [], k, i, r, h, _, hr, _ => by
    have hh : hereB l i = r.headD 0 := by rw [drop_head, h]; rfl
    cases k with
    | zero => rfl
    | succ k => simp only [runD]; rw [if_neg (by rw [hh, hr]; simp)]; rfl
  | a :: x, k, i, r, h, hd, hr, hk => by
    obtain ⟨k, rfl⟩ : ∃ k', k = k' + 1 := ⟨k - 1, by simp at hk; omega⟩
    obtain ⟨h1, h2, h3⟩ := drop_here h
    simp only [runD]
    rw [if_pos ⟨h1, by rw [h2]; exact hd a (List.mem_cons_self ..)⟩, runD_ok h3 (fun b hb => hd b (List.mem_cons_of_mem _ hb)) hr (by simp at hk; omega), List.length_cons]
    omega
theorem isDig_head {u : Nat} : isDig ((digB u).headD 0) = true := by
  cases hd : digB u with
  | nil => exact absurd hd (digB_ne u)
  | cons a r => exact digB_dig u a (by rw [hd]; exact List.mem_cons_self ..)
theorem digsJ_ok {l : List UInt8} {u i : Nat} {r : List UInt8} (h : l.drop i = digB u ++ r) (hr : isDig (r.headD 0) = false) : digsJ l i = i + (digB u).length := by
  have hh : hereB l i = (digB u).headD 0 := by
    rw [drop_head, h]
    cases hd : digB u with
    | nil => exact absurd hd (digB_ne u)
    | cons a x => rfl
  unfold digsJ
  by_cases q : hereB l i = 48
  · rw [if_pos q]
    have := digB_zero u (by rw [← hh]; exact q)
    subst this
    rw [digB_small (by decide)]; rfl
  · rw [if_neg q]
    refine runD_ok h (digB_dig u) hr ?_
    have : (l.drop i).length = l.length - i := List.length_drop ..
    rw [h, List.length_append] at this
    omega
theorem isDig_not45 {b : UInt8} (h : isDig b = true) : b ≠ 45 := by rintro rfl; exact absurd h (by decide)
theorem numJ_ok {l : List UInt8} {n : Int} {i : Nat} {r : List UInt8} (hn : inR n = true) (h : l.drop i = bys (numB n) ++ r) (hr : isDig (r.headD 0) = false) : numJ l i = .ok (.mk 3 n (B #[]) [] []) (i + (bys (numB n)).length) := by
  have hb : bys (numB n) = Lib.itoa n := numB_data n
  have key : ∀ i1 i2, (if hereB l i = 45 then i + 1 else i) = i1 → digsJ l i1 = i2 → i2 ≠ i1 → i2 = i + (bys (numB n)).length → numJ l i = .ok (.mk 3 n (B #[]) [] []) (i + (bys (numB n)).length) := by
    intro i1 i2 h1 h2 h3 h4
    unfold numJ
    rw [h1]
    dsimp only
    rw [h2, if_neg h3]
    have ht : (⟨((l.drop i).take (i2 - i)).toArray⟩ : ByteArray) = numB n := by
      rw [h4, Nat.add_sub_cancel_left, h, List.take_append_of_le_length (Nat.le_refl _), List.take_length]
      exact bytesOf_bys (numB n)
    have hq : ¬ numB n = B #[45, 48] := fun q => by
      have h5 := numP_num hn
      rw [q] at h5
      exact absurd h5 (by
        have : numP (B #[45, 48]) = (0, false) := by decide +kernel
        rw [this]; simp)
    rw [ht]
    simp only [if_neg hq]
    rw [numP_num hn, if_pos rfl, h4]
  rcases Int.lt_or_le n 0 with h0 | h0
  · rw [hb, numB_neg h0] at h
    obtain ⟨h1, h2, h3⟩ := drop_here (show l.drop i = 45 :: (digB n.natAbs ++ r) from h)
    have hd := digsJ_ok h3 hr
    have hp := List.length_pos_iff.2 (digB_ne n.natAbs)
    exact key (i + 1) _ (if_pos h2) hd (by omega) (by rw [hb, numB_neg h0, List.length_cons]; omega)
  · rw [hb, numB_pos h0] at h
    have hd := digsJ_ok h hr
    have hp := List.length_pos_iff.2 (digB_ne n.toNat)
    have hh : hereB l i = (digB n.toNat).headD 0 := by
      rw [drop_head, h]
      cases hd : digB n.toNat with
      | nil => exact absurd hd (digB_ne _)
      | cons a x => rfl
    refine key i _ (if_neg (by rw [hh]; exact isDig_not45 isDig_head)) hd (by omega) (by rw [hb, numB_pos h0])
/-! what a valid node is -/
theorem nodeJ_fields {j : JV} {level : Int} (h : nodeJ j level = 0) : fieldsJ j = true ∧ ¬ ((j.op = 2 ∧ j.n ≠ 0 ∧ j.n ≠ 1) ∨ (j.op = 3 ∧ inR j.n = false)) ∧ plainB j.s = true ∧ (∀ s ∈ j.keys, plainB s = true) ∧ rept [] j.keys = false ∧ (5 ≤ j.op → level ≤ 16) := by
  unfold nodeJ at h
  split at h
  · cases h
  · rename_i h1
    split at h
    · cases h
    · rename_i h2
      split at h
      · cases h
      · rename_i h3
        split at h
        · cases h
        · rename_i h4
          split at h
          · cases h
          · rename_i h5
            refine ⟨by simpa using h1, h2, ?_, fun s hs => ?_, by simpa using h4, fun q => by omega⟩
            · by_cases q : plainB j.s = true
              · exact q
              · exact absurd (.inl (by simpa using q)) h3
            · by_cases q : plainB s = true
              · exact q
              · exact absurd (.inr (List.any_eq_true.2 ⟨s, hs, by simpa using q⟩)) h3
theorem plain_known {s : ByteArray} (h : plainB s = true) : ∀ b ∈ bys s, known b = true := List.all_eq_true.1 h
theorem nil_of_len {α β : Type} {a : List α} {b : List β} (h : a.length + b.length = 0) : a = [] ∧ b = [] := ⟨List.length_eq_zero_iff.1 (by omega), List.length_eq_zero_iff.1 (by omega)⟩
/-! the first byte of a printed value -/
theorem printJ_head (j : JV) (level : Int) (h : checkJ j level = 0) : ∃ a r, printJ j = a :: r ∧ isWs a = false := by
  obtain ⟨op, n, s, keys, kids⟩ := j
  simp only [printJ]
  split
  · exact ⟨_, _, rfl, by decide⟩
  · split
    · split
      · exact ⟨_, _, rfl, by decide⟩
      · exact ⟨_, _, rfl, by decide⟩
    · split
      · rcases Int.lt_or_le n 0 with h0 | h0
        · exact ⟨45, digB n.natAbs, by rw [show bys (numB n) = Lib.itoa n from numB_data n, numB_neg h0], by decide⟩
        · rw [show bys (numB n) = Lib.itoa n from numB_data n, numB_pos h0]
          cases hd : digB n.toNat with
          | nil => exact absurd hd (digB_ne _)
          | cons a r =>
            refine ⟨a, r, rfl, ?_⟩
            have h1 := digB_dig n.toNat a (by rw [hd]; exact List.mem_cons_self ..)
            unfold isDig at h1
            simp only [Bool.and_eq_true, decide_eq_true_eq] at h1
            unfold isWs
            simp only [Bool.or_eq_false_iff, decide_eq_false_iff_not]
            omega
      · split
        · exact ⟨34, _, rfl, by decide⟩
        · split
          · exact ⟨123, _, rfl, by decide⟩
          · exact ⟨91, _, rfl, by decide⟩
end Go.Tb
namespace Go.Tb
open Go.Ab
theorem itemsJ_cons (x : JV) (r : List JV) (first : Bool) : itemsJ (x :: r) first = (if first then [] else [44]) ++ printJ x ++ itemsJ r false := by simp [itemsJ]
theorem membersJ_cons (s : ByteArray) (keys : List ByteArray) (x : JV) (r : List JV) (first : Bool) : membersJ (s :: keys) (x :: r) first = (if first then [] else [44]) ++ quoteL (bys s) ++ [58] ++ printJ x ++ membersJ keys r false := by simp [membersJ]
theorem rept_cons {seen : List ByteArray} {s : ByteArray} {r : List ByteArray} : rept seen (s :: r) = false ↔ seen.any (fun x => decide (x = s)) = false ∧ rept (seen ++ [s]) r = false := by
  simp only [rept]
  cases seen.any (fun x => decide (x = s)) <;> simp
theorem checkJs_cons {k : JV} {r : List JV} {level : Int} (h : checkJs (k :: r) level = 0) : checkJ k level = 0 ∧ checkJs r level = 0 := by
  simp only [checkJs] at h
  split at h
  · rename_i q; exact absurd h q
  · rename_i q; exact ⟨by simpa using q, h⟩
theorem checkJ_mk {op n : Int} {s : ByteArray} {keys : List ByteArray} {kids : List JV} {level : Int} (h : checkJ (.mk op n s keys kids) level = 0) : nodeJ (.mk op n s keys kids) level = 0 ∧ checkJs kids (level + 1) = 0 := by
  simp only [checkJ] at h
  split at h
  · rename_i q; exact absurd h q
  · rename_i q; exact ⟨by simpa using q, h⟩
theorem fieldsJ_mk (op n : Int) (s : ByteArray) (keys : List ByteArray) (kids : List JV) : fieldsJ (.mk op n s keys kids) =
  (if op = 1 then decide (n = 0) && (decide (s = B #[]) && decide (keys.length + kids.length = 0))
  else if op = 2 ∨ op = 3 then decide (s = B #[]) && decide (keys.length + kids.length = 0)
  else if op = 4 then decide (n = 0) && decide (keys.length + kids.length = 0)
  else if op = 5 then decide (n = 0) && (decide (s = B #[]) && decide (keys.length = 0))
  else if op = 6 then decide (n = 0) && (decide (s = B #[]) && decide (keys.length = kids.length))
  else false) := rfl
def Back (v : JV) : Prop := ∀ (level : Int), checkJ v level = 0 → ∀ (l : List UInt8) (i k : Nat) (r : List UInt8), l.drop i = printJ v ++ r → isDig (r.headD 0) = false → 3 * (printJ v).length + 1 ≤ k → valJ l k level i = .ok v (i + (printJ v).length)
theorem back_items {level : Int} {l : List UInt8} {r : List UInt8} : ∀ (kids : List JV), (∀ x ∈ kids, Back x) → checkJs kids (level + 1) = 0 → kids ≠ [] → ∀ (i k : Nat) (acc : List JV), l.drop i = itemsJ kids true ++ 93 :: r → 3 * ((itemsJ kids true).length + 1) ≤ k →
    arrGo l k level i acc = .ok (.mk 5 0 (B #[]) [] (acc ++ kids)) (i + (itemsJ kids true).length + 1)
  | [], _, _, hne, _, _, _, _, _ => absurd rfl hne
  | x :: kids, hb, hc, _, i, k, acc, h, hk => by
    obtain ⟨hc1, hc2⟩ := checkJs_cons hc
    rw [itemsJ_cons] at h hk ⊢
    simp only [if_true, List.nil_append, List.append_assoc] at h
    simp only [if_true, List.nil_append, List.length_append] at hk ⊢
    obtain ⟨k, rfl⟩ : ∃ k', k = k' + 1 := ⟨k - 1, by omega⟩
    have hd : isDig ((itemsJ kids false ++ 93 :: r).headD 0) = false := by
      cases kids with
      | nil => rfl
      | cons y kids => rw [itemsJ_cons]; rfl
    have hv := hb x (List.mem_cons_self ..) (level + 1) hc1 l i k _ h hd (by omega)
    have h2 := drop_more h
    unfold arrGo
    rw [hv]
    dsimp only
    cases kids with
    | nil =>
      have h2' : l.drop (i + (printJ x).length) = 93 :: r := h2
      obtain ⟨h3, h4, h5⟩ := drop_here h2'
      rw [skipB_stay (by rw [h4]; decide), h4, if_neg (by decide), takeJ_ok h2']
      simp [itemsJ]
    | cons y kids =>
      have e : itemsJ (y :: kids) false = 44 :: itemsJ (y :: kids) true := by rw [itemsJ_cons, itemsJ_cons]; simp
      rw [e] at h2 hk ⊢
      obtain ⟨h3, h4, h5⟩ := drop_here (show l.drop (i + (printJ x).length) = 44 :: (itemsJ (y :: kids) true ++ 93 :: r) from h2)
      rw [skipB_stay (by rw [h4]; decide), h4, if_pos rfl]
      have := back_items (y :: kids) (fun z hz => hb z (List.mem_cons_of_mem _ hz)) hc2 (by simp) (i + (printJ x).length + 1) k (acc ++ [x]) h5 (by simp only [List.length_cons] at hk; omega)
      rw [this]
      simp only [List.append_assoc, List.cons_append, List.nil_append, List.length_cons, PE.ok.injEq, true_and]
      omega
theorem back_members {level : Int} {l : List UInt8} {r : List UInt8} : ∀ (keys : List ByteArray) (kids : List JV), keys.length = kids.length → (∀ s ∈ keys, plainB s = true) → (∀ x ∈ kids, Back x) → checkJs kids (level + 1) = 0 → kids ≠ [] →
    ∀ (i k : Nat) (seen : List ByteArray) (acc : List JV), rept seen keys = false → l.drop i = membersJ keys kids true ++ 125 :: r → 3 * ((membersJ keys kids true).length + 1) ≤ k →
    objGo l k level i seen acc = .ok (.mk 6 0 (B #[]) (seen ++ keys) (acc ++ kids)) (i + (membersJ keys kids true).length + 1)
  | _, [], _, _, _, _, hne, _, _, _, _, _, _, _ => absurd rfl hne
  | [], _ :: _, hl, _, _, _, _, _, _, _, _, _, _, _ => by simp at hl
  | s :: keys, x :: kids, hl, hp, hb, hc, _, i, k, seen, acc, hr, h, hk => by
    obtain ⟨hc1, hc2⟩ := checkJs_cons hc
    obtain ⟨hr1, hr2⟩ := rept_cons.1 hr
    rw [membersJ_cons] at h hk ⊢
    simp only [if_true, List.nil_append, List.append_assoc, List.cons_append] at h
    simp only [if_true, List.nil_append, List.length_append, List.length_cons, List.length_nil] at hk ⊢
    obtain ⟨k, rfl⟩ : ∃ k', k = k' + 1 := ⟨k - 1, by omega⟩
    have hq : hereB l i = 34 := by
      rw [drop_head, h]; rfl
    have ht := textJ_ok (plain_known (hp s (List.mem_cons_self ..))) h
    have h2 := drop_more h
    obtain ⟨h3, h4, h5⟩ := drop_here h2
    have hd : isDig ((membersJ keys kids false ++ 125 :: r).headD 0) = false := by
      cases keys with
      | nil => simp [membersJ]; decide
      | cons t keys =>
        cases kids with
        | nil => simp [membersJ]; decide
        | cons y kids => rw [membersJ_cons]; rfl
    have hv := hb x (List.mem_cons_self ..) (level + 1) hc1 l _ k _ h5 hd (by omega)
    have h6 := drop_more h5
    unfold objGo
    dsimp only
    rw [skipB_stay (by rw [hq]; decide), ht]
    dsimp only
    rw [bytesOf_bys, if_neg (by rw [hr1]; simp), skipB_stay (by rw [h4]; decide), takeJ_ok h2]
    dsimp only
    rw [hv]
    dsimp only
    cases kids with
    | nil =>
      have hkz : keys = [] := List.length_eq_zero_iff.1 (by simpa using hl)
      subst hkz
      have h7 : l.drop (i + (quoteL (bys s)).length + 1 + (printJ x).length) = 125 :: r := by rw [h6]; rfl
      obtain ⟨h8, h9, _⟩ := drop_here h7
      rw [skipB_stay (by rw [h9]; decide), h9, if_neg (by decide), takeJ_ok h7]
      simp [membersJ]
      omega
    | cons y kids =>
      cases keys with
      | nil => simp at hl
      | cons t keys =>
        have e : membersJ (t :: keys) (y :: kids) false = 44 :: membersJ (t :: keys) (y :: kids) true := by rw [membersJ_cons, membersJ_cons]; simp
        rw [e] at h6 hk ⊢
        obtain ⟨h8, h9, h10⟩ := drop_here (show l.drop (i + (quoteL (bys s)).length + 1 + (printJ x).length) = 44 :: (membersJ (t :: keys) (y :: kids) true ++ 125 :: r) from h6)
        rw [skipB_stay (by rw [h9]; decide), h9, if_pos rfl]
        have := back_members (t :: keys) (y :: kids) (by simpa using hl) (fun z hz => hp z (List.mem_cons_of_mem _ hz)) (fun z hz => hb z (List.mem_cons_of_mem _ hz)) hc2 (by simp) _ k (seen ++ [s]) (acc ++ [x]) hr2 h10 (by simp only [List.length_cons] at hk; omega)
        rw [this]
        simp only [List.append_assoc, List.cons_append, List.nil_append, List.length_cons, PE.ok.injEq, true_and]
        omega
theorem back : ∀ v, Back v := by
  refine JV.ind fun v ih => ?_
  obtain ⟨op, n, s, keys, kids⟩ := v
  intro level hc l i k r h hr hk
  obtain ⟨hn, hcs⟩ := checkJ_mk hc
  obtain ⟨hf, hrange, hpl, hkeys, hrep, hlev⟩ := nodeJ_fields hn
  simp only [JV.op, JV.n, JV.s, JV.keys] at hrange hpl hkeys hrep hlev
  obtain ⟨k, rfl⟩ : ∃ k', k = k' + 1 := ⟨k - 1, by omega⟩
  obtain ⟨a, q, hpa, hws⟩ := printJ_head _ level hc
  have hhere : hereB l i = a := by rw [drop_head, h, hpa]; rfl
  have hskip : skipB l i = i := skipB_stay (by rw [hhere]; exact hws)
  unfold valJ
  dsimp only
  rw [hskip]
  rw [fieldsJ_mk] at hf
  by_cases o1 : op = 1
  · subst o1
    rw [if_pos rfl] at hf
    simp only [Bool.and_eq_true, decide_eq_true_eq] at hf
    obtain ⟨rfl, rfl, hz⟩ := hf
    obtain ⟨rfl, rfl⟩ := nil_of_len hz
    have hp : printJ (.mk 1 0 (B #[]) [] []) = nullL := by simp [printJ]
    rw [hp] at h ⊢
    rw [(drop_here (show l.drop i = 110 :: ([117, 108, 108] ++ r) from h)).2.1, if_pos rfl, wordJ_ok h]
  by_cases o2 : op = 2
  · subst o2
    rw [if_neg (show ¬ (2 : Int) = 1 by decide), if_pos (.inl rfl)] at hf
    simp only [Bool.and_eq_true, decide_eq_true_eq] at hf
    obtain ⟨rfl, hz⟩ := hf
    obtain ⟨rfl, rfl⟩ := nil_of_len hz
    by_cases n1 : n = 1
    · subst n1
      have hp : printJ (.mk 2 1 (B #[]) [] []) = trueL := by simp [printJ]
      rw [hp] at h ⊢
      rw [(drop_here (show l.drop i = 116 :: ([114, 117, 101] ++ r) from h)).2.1, if_neg (by decide), if_pos rfl, wordJ_ok h]
    · have n0 : n = 0 := by
        by_cases z : n = 0
        · exact z
        · exact absurd (.inl ⟨rfl, z, n1⟩) hrange
      subst n0
      have hp : printJ (.mk 2 0 (B #[]) [] []) = falseL := by simp [printJ]
      rw [hp] at h ⊢
      rw [(drop_here (show l.drop i = 102 :: ([97, 108, 115, 101] ++ r) from h)).2.1, if_neg (by decide), if_neg (by decide), if_pos rfl, wordJ_ok h]
  by_cases o3 : op = 3
  · subst o3
    rw [if_neg (show ¬ (3 : Int) = 1 by decide), if_pos (.inr rfl)] at hf
    simp only [Bool.and_eq_true, decide_eq_true_eq] at hf
    obtain ⟨rfl, hz⟩ := hf
    obtain ⟨rfl, rfl⟩ := nil_of_len hz
    have hin : inR n = true := by
      by_cases z : inR n = true
      · exact z
      · exact absurd (.inr ⟨rfl, by simpa using z⟩) hrange
    have hp : printJ (.mk 3 n (B #[]) [] []) = bys (numB n) := by simp [printJ]
    rw [hp] at h hpa ⊢
    have hnum := numJ_ok hin h hr
    have ha : isDig a = true ∨ a = 45 := by
      have hb : bys (numB n) = Lib.itoa n := numB_data n
      rw [hb] at hpa
      rcases Int.lt_or_le n 0 with h0 | h0
      · rw [numB_neg h0] at hpa; injection hpa with h1 _; exact .inr h1.symm
      · rw [numB_pos h0] at hpa
        exact .inl (digB_dig n.toNat a (by rw [hpa]; exact List.mem_cons_self ..))
    have hne : a ≠ 110 ∧ a ≠ 116 ∧ a ≠ 102 ∧ a ≠ 34 ∧ a ≠ 91 ∧ a ≠ 123 := by
      rcases ha with ha | ha
      · refine ⟨?_, ?_, ?_, ?_, ?_, ?_⟩ <;> (rintro rfl; exact absurd ha (by decide))
      · subst ha; decide
    rw [hhere, if_neg hne.1, if_neg hne.2.1, if_neg hne.2.2.1, if_neg hne.2.2.2.1, if_neg (by rintro (z | z); exact hne.2.2.2.2.1 z; exact hne.2.2.2.2.2 z), hnum]
  by_cases o4 : op = 4
  · subst o4
    rw [if_neg (by decide), if_neg (by decide), if_pos rfl] at hf
    simp only [Bool.and_eq_true, decide_eq_true_eq] at hf
    obtain ⟨rfl, hz⟩ := hf
    obtain ⟨rfl, rfl⟩ := nil_of_len hz
    have hp : printJ (.mk 4 0 s [] []) = quoteL (bys s) := by simp [printJ]
    rw [hp] at h ⊢
    have ht := textJ_ok (plain_known hpl) h
    rw [show hereB l i = 34 by rw [drop_head, h]; rfl, if_neg (by decide), if_neg (by decide), if_neg (by decide), if_pos rfl, ht]
    dsimp only
    rw [bytesOf_bys]
  by_cases o5 : op = 5
  · subst o5
    rw [if_neg (by decide), if_neg (by decide), if_neg (by decide), if_pos rfl] at hf
    simp only [Bool.and_eq_true, decide_eq_true_eq] at hf
    obtain ⟨rfl, rfl, hz⟩ := hf
    have hkz := List.length_eq_zero_iff.1 hz
    subst hkz
    have hp : printJ (.mk 5 0 (B #[]) [] kids) = 91 :: (itemsJ kids true ++ [93]) := by simp [printJ]
    rw [hp] at h hk ⊢
    simp only [List.length_cons, List.length_append, List.length_nil] at hk ⊢
    have hl := hlev (by decide)
    obtain ⟨h1, h2, h3⟩ := drop_here (show l.drop i = 91 :: (itemsJ kids true ++ [93] ++ r) by rw [h]; simp)
    rw [h2, if_neg (by decide), if_neg (by decide), if_neg (by decide), if_neg (by decide), if_pos (.inl rfl), if_neg (by omega), if_pos rfl]
    obtain ⟨k, rfl⟩ : ∃ k', k = k' + 1 := ⟨k - 1, by omega⟩
    unfold arrJ
    dsimp only
    cases kids with
    | nil =>
      obtain ⟨h4, h5, h6⟩ := drop_here (show l.drop (i + 1) = 93 :: r by rw [h3]; rfl)
      rw [skipB_stay (by rw [h5]; decide), h5, if_pos rfl]
      simp [itemsJ]
    | cons x kids =>
      obtain ⟨hc1, hc2⟩ := checkJs_cons hcs
      obtain ⟨b, t, hb, hbw⟩ := printJ_head x (level + 1) hc1
      have hh : hereB l (i + 1) = b := by rw [drop_head, h3, itemsJ_cons]; simp [hb]
      have hb93 : b ≠ 93 := by
        rintro rfl
        have := ih x (List.mem_cons_self ..) (level + 1) hc1 (printJ x) 0 (3 * (printJ x).length + 1) [] (by simp) rfl (Nat.le_refl _)
        rw [hb] at this
        simp only [valJ] at this
        rw [skipB_stay (by show isWs 93 = false; decide)] at this
        simp [hereB, numJ, digsJ, runD, isDig] at this
      rw [skipB_stay (by rw [hh]; exact hbw), hh, if_neg hb93]
      have h3' : l.drop (i + 1) = itemsJ (x :: kids) true ++ 93 :: r := by rw [h3]; simp
      rw [back_items (x :: kids) (fun z hz => ih z hz) hcs (by simp) (i + 1) k [] h3' (by omega)]
      simp only [List.nil_append, PE.ok.injEq, true_and]
      omega
  by_cases o6 : op = 6
  · subst o6
    rw [if_neg (by decide), if_neg (by decide), if_neg (by decide), if_neg (by decide), if_pos rfl] at hf
    simp only [Bool.and_eq_true, decide_eq_true_eq] at hf
    obtain ⟨rfl, rfl, hz⟩ := hf
    have hp : printJ (.mk 6 0 (B #[]) keys kids) = 123 :: (membersJ keys kids true ++ [125]) := by simp [printJ]
    rw [hp] at h hk ⊢
    simp only [List.length_cons, List.length_append, List.length_nil] at hk ⊢
    have hl := hlev (by decide)
    obtain ⟨h1, h2, h3⟩ := drop_here (show l.drop i = 123 :: (membersJ keys kids true ++ [125] ++ r) by rw [h]; simp)
    rw [h2, if_neg (by decide), if_neg (by decide), if_neg (by decide), if_neg (by decide), if_pos (.inr rfl), if_neg (by omega), if_neg (by decide)]
    obtain ⟨k, rfl⟩ : ∃ k', k = k' + 1 := ⟨k - 1, by omega⟩
    unfold objJ
    dsimp only
    cases kids with
    | nil =>
      have hkz := List.length_eq_zero_iff.1 hz
      subst hkz
      obtain ⟨h4, h5, h6⟩ := drop_here (show l.drop (i + 1) = 125 :: r by rw [h3]; simp [membersJ])
      rw [skipB_stay (by rw [h5]; decide), h5, if_pos rfl]
      simp [membersJ]
    | cons x kids =>
      cases keys with
      | nil => simp at hz
      | cons t keys =>
        have hh : hereB l (i + 1) = 34 := by rw [drop_head, h3, membersJ_cons]; simp [quoteL]
        rw [skipB_stay (by rw [hh]; decide), hh, if_neg (by decide)]
        have h3' : l.drop (i + 1) = membersJ (t :: keys) (x :: kids) true ++ 125 :: r := by rw [h3]; simp
        rw [back_members (t :: keys) (x :: kids) hz hkeys (fun z hz => ih z hz) hcs (by simp) (i + 1) k [] [] hrep h3' (by omega)]
        simp only [List.nil_append, PE.ok.injEq, true_and]
        omega
  · rw [if_neg o1, if_neg (show ¬ (op = 2 ∨ op = 3) by rintro (z | z); exact o2 z; exact o3 z), if_neg o4, if_neg o5, if_neg o6] at hf
    cases hf
end Go.Tb
namespace Go.Tb
open Go.Ab
/-! positions -/
def Bd {α : Type} (l : List UInt8) (i : Nat) : PE α → Prop
  | .ok _ j => i < j ∧ j ≤ l.length
  | .no a _ => i ≤ a ∧ a ≤ l.length
theorem takeJ_bd {l : List UInt8} {c : UInt8} {i : Nat} (h : i ≤ l.length) : Bd l i (takeJ l c i) := by
  unfold takeJ
  split
  · rename_i q; exact ⟨Nat.lt_succ_self _, q.1⟩
  · exact ⟨Nat.le_refl _, h⟩
theorem wordJ_bd {l : List UInt8} : ∀ {x : List UInt8} {i : Nat}, i ≤ l.length → (match wordJ l x i with | .ok _ j => j = i + x.length ∧ j ≤ l.length | .no a _ => i ≤ a ∧ a ≤ l.length)
  | [], i, h => ⟨rfl, h⟩
  | c :: x, i, h => by
    simp only [wordJ]
    have h1 := takeJ_bd (c := c) h
    cases ht : takeJ l c i with
    | no a w => rw [ht] at h1; exact h1
    | ok u j =>
      have hj : j = i + 1 ∧ i < l.length := by
        unfold takeJ at ht
        split at ht
        · rename_i q; injection ht with _ h2; exact ⟨h2.symm, q.1⟩
        · cases ht
      have ih := wordJ_bd (l := l) (x := x) (i := j) (by omega)
      dsimp only
      revert ih
      cases wordJ l x j with
      | ok _ j2 => rintro ⟨h2, h3⟩; exact ⟨by simp only [List.length_cons]; omega, h3⟩
      | no a w => rintro ⟨h2, h3⟩; exact ⟨by omega, h3⟩
theorem here_lt {l : List UInt8} {i : Nat} (h : hereB l i ≠ 0) : i < l.length := by
  rcases Nat.lt_or_ge i l.length with h1 | h1
  · exact h1
  · exact absurd (here_end h1) h
theorem hexV_lt {l : List UInt8} {i n : Nat} (h : hexV (hereB l i) = some n) : i < l.length := here_lt fun q => by rw [q, show hexV 0 = none by decide] at h; cases h
theorem escJ_bd {l : List UInt8} {i : Nat} (h : i ≤ l.length) : Bd l i (escJ l i) := by
  unfold escJ
  split
  · rename_i q
    exact ⟨Nat.lt_succ_self _, here_lt fun z => by rw [z] at q; revert q; decide⟩
  · split
    · rename_i q; exact ⟨Nat.lt_succ_self _, here_lt (by rw [q]; decide)⟩
    · split
      · rename_i q; exact ⟨Nat.lt_succ_self _, here_lt (by rw [q]; decide)⟩
      · have hw := wordJ_bd (l := l) (x := [117, 48, 48]) h
        revert hw
        cases wordJ l [117, 48, 48] i with
        | no a w => exact fun hw => hw
        | ok u j =>
          rintro ⟨h1, h2⟩
          have h1 : j = i + 3 := h1
          dsimp only
          split
          · exact ⟨by omega, h2⟩
          · rename_i high hh
            have := hexV_lt hh
            split
            · exact ⟨by omega, h2⟩
            · split
              · exact ⟨by omega, by omega⟩
              · rename_i low hl
                have := hexV_lt hl
                split
                · exact ⟨by omega, by omega⟩
                · exact ⟨by omega, by omega⟩
theorem textGo_bd {l : List UInt8} : ∀ {k i : Nat} {acc : List UInt8}, i ≤ l.length → Bd l i (textGo l k i acc)
  | 0, i, _, h => ⟨Nat.le_refl _, h⟩
  | k + 1, i, acc, h => by
    unfold textGo
    split
    · exact ⟨Nat.le_refl _, h⟩
    · rename_i q0
      have hlt : i < l.length := here_lt fun z => q0 (by rw [z]; left; decide)
      split
      · exact ⟨Nat.lt_succ_self _, hlt⟩
      · split
        · have he := escJ_bd (l := l) (i := i + 1) hlt
          revert he
          cases escJ l (i + 1) with
          | no a w => rintro ⟨h1, h2⟩; exact ⟨by omega, h2⟩
          | ok c j =>
            rintro ⟨h1, h2⟩
            have ih := textGo_bd (l := l) (k := k) (i := j) (acc := acc ++ [c]) h2
            dsimp only
            revert ih
            cases textGo l k j (acc ++ [c]) with
            | no a w => rintro ⟨h3, h4⟩; exact ⟨by omega, h4⟩
            | ok t j2 => rintro ⟨h3, h4⟩; exact ⟨by omega, h4⟩
        · have ih := textGo_bd (l := l) (k := k) (i := i + 1) (acc := acc ++ [hereB l i]) hlt
          revert ih
          cases textGo l k (i + 1) (acc ++ [hereB l i]) with
          | no a w => rintro ⟨h3, h4⟩; exact ⟨by omega, h4⟩
          | ok t j2 => rintro ⟨h3, h4⟩; exact ⟨by omega, h4⟩
theorem Bd.mono {α : Type} {l : List UInt8} {i i' : Nat} (h : i' ≤ i) : ∀ {x : PE α}, Bd l i x → Bd l i' x
  | .ok _ _, ⟨h1, h2⟩ => ⟨Nat.lt_of_le_of_lt h h1, h2⟩
  | .no _ _, ⟨h1, h2⟩ => ⟨Nat.le_trans h h1, h2⟩
theorem textJ_bd {l : List UInt8} {i : Nat} (h : i ≤ l.length) : Bd l i (textJ l i) := by
  unfold textJ
  have h1 := takeJ_bd (c := 34) h
  revert h1
  cases takeJ l 34 i with
  | no a w => exact fun h1 => h1
  | ok u j => rintro ⟨h1, h2⟩; exact (textGo_bd h2).mono (Nat.le_of_lt h1)
theorem runD_bd {l : List UInt8} : ∀ {k i : Nat}, i ≤ l.length → i ≤ runD l k i ∧ runD l k i ≤ l.length
  | 0, i, h => ⟨Nat.le_refl _, h⟩
  | k + 1, i, h => by
    simp only [runD]
    split
    · rename_i q
      have := runD_bd (l := l) (k := k) (i := i + 1) q.1
      exact ⟨by omega, this.2⟩
    · exact ⟨Nat.le_refl _, h⟩
theorem digsJ_bd {l : List UInt8} {i : Nat} (h : i ≤ l.length) : i ≤ digsJ l i ∧ digsJ l i ≤ l.length := by
  unfold digsJ
  split
  · rename_i q
    exact ⟨Nat.le_succ _, here_lt (by rw [q]; decide)⟩
  · exact runD_bd h
theorem Bd_ite {α : Type} {l : List UInt8} {i : Nat} {c : Prop} [Decidable c] {a b : PE α} (ha : Bd l i a) (hb : Bd l i b) : Bd l i (if c then a else b) := by split <;> assumption
theorem numJ_bd {l : List UInt8} {i : Nat} (h : i ≤ l.length) : Bd l i (numJ l i) := by
  unfold numJ
  dsimp only
  have h1 : i ≤ (if hereB l i = 45 then i + 1 else i) ∧ (if hereB l i = 45 then i + 1 else i) ≤ l.length := by
    split
    · rename_i q; exact ⟨Nat.le_succ _, here_lt (by rw [q]; decide)⟩
    · exact ⟨Nat.le_refl _, h⟩
  generalize (if hereB l i = 45 then i + 1 else i) = i1 at h1 ⊢
  have h2 := digsJ_bd (l := l) h1.2
  by_cases q : digsJ l i1 = i1
  · rw [if_pos q]; exact h1
  · rw [if_neg q]
    exact Bd_ite ⟨by omega, h2.2⟩ ⟨Nat.le_refl _, h⟩
structure AllBd (l : List UInt8) (k : Nat) : Prop where
  v : ∀ level i, i ≤ l.length → Bd l i (valJ l k level i)
  a : ∀ level i, i ≤ l.length → Bd l i (arrJ l k level i)
  ag : ∀ level i acc, i ≤ l.length → Bd l i (arrGo l k level i acc)
  o : ∀ level i, i ≤ l.length → Bd l i (objJ l k level i)
  og : ∀ level i keys acc, i ≤ l.length → Bd l i (objGo l k level i keys acc)
theorem word_val {l x : List UInt8} {i : Nat} {v : JV} (hx : x ≠ []) (h : i ≤ l.length) : Bd l i (match wordJ l x i with | .no a w => .no a w | .ok _ j => .ok v j) := by
  have hw := wordJ_bd (l := l) (x := x) h
  have := List.length_pos_iff.2 hx
  revert hw
  cases wordJ l x i with
  | no a w => exact fun hw => hw
  | ok u j => rintro ⟨h1, h2⟩; exact ⟨by omega, h2⟩
theorem allBd (l : List UInt8) : ∀ k, AllBd l k
  | 0 => ⟨fun _ _ h => by unfold valJ; exact ⟨Nat.le_refl _, h⟩, fun _ _ h => by unfold arrJ; exact ⟨Nat.le_refl _, h⟩, fun _ _ _ h => by unfold arrGo; exact ⟨Nat.le_refl _, h⟩, fun _ _ h => by unfold objJ; exact ⟨Nat.le_refl _, h⟩, fun _ _ _ _ h => by unfold objGo; exact ⟨Nat.le_refl _, h⟩⟩
  | k + 1 => by
    have ih := allBd l k
    refine ⟨fun level i0 h => ?_, fun level i0 h => ?_, fun level i acc h => ?_, fun level i0 h => ?_, fun level i0 keys acc h => ?_⟩
    · have hg := skipB_ge l i0
      have hle := skipB_le h
      unfold valJ
      dsimp only
      refine Bd.mono hg ?_
      generalize skipB l i0 = i at hle ⊢
      split
      · exact word_val (by decide) hle
      · split
        · exact word_val (by decide) hle
        · split
          · exact word_val (by decide) hle
          · split
            · have ht := textJ_bd (l := l) hle
              revert ht
              cases textJ l i with
              | no a w => exact fun ht => ht
              | ok t j => exact fun ht => ht
            · split
              · rename_i q
                have hlt : i < l.length := here_lt fun z => by rw [z] at q; revert q; decide
                split
                · exact ⟨Nat.le_refl _, hle⟩
                · split
                  · exact (ih.a _ _ hlt).mono (Nat.le_succ _)
                  · exact (ih.o _ _ hlt).mono (Nat.le_succ _)
              · exact numJ_bd hle
    · have hg := skipB_ge l i0
      have hle := skipB_le h
      unfold arrJ
      dsimp only
      refine Bd.mono hg ?_
      generalize skipB l i0 = i at hle ⊢
      split
      · rename_i q; exact ⟨Nat.lt_succ_self _, here_lt (by rw [q]; decide)⟩
      · exact ih.ag _ _ _ hle
    · unfold arrGo
      have hv := ih.v (level + 1) i h
      revert hv
      cases valJ l k (level + 1) i with
      | no a w => exact fun hv => hv
      | ok v j =>
        rintro ⟨h1, h2⟩
        dsimp only
        have hg := skipB_ge l j
        have hle := skipB_le h2
        split
        · rename_i q
          exact (ih.ag _ _ _ (here_lt (by rw [q]; decide))).mono (by omega)
        · have ht := takeJ_bd (c := 93) hle
          revert ht
          cases takeJ l 93 (skipB l j) with
          | no a w => exact fun ht => Bd.mono (x := (PE.no a w : PE JV)) (by omega) ht
          | ok u j2 => exact fun ht => Bd.mono (x := (PE.ok (JV.mk 5 0 (B #[]) [] (acc ++ [v])) j2)) (by omega) ht
    · have hg := skipB_ge l i0
      have hle := skipB_le h
      unfold objJ
      dsimp only
      refine Bd.mono hg ?_
      generalize skipB l i0 = i at hle ⊢
      split
      · rename_i q; exact ⟨Nat.lt_succ_self _, here_lt (by rw [q]; decide)⟩
      · exact ih.og _ _ _ _ hle
    · have hg := skipB_ge l i0
      have hle := skipB_le h
      unfold objGo
      dsimp only
      refine Bd.mono hg ?_
      generalize skipB l i0 = i at hle ⊢
      have ht := textJ_bd (l := l) hle
      revert ht
      cases textJ l i with
      | no a w => exact fun ht => ht
      | ok t j =>
        rintro ⟨h1, h2⟩
        dsimp only
        split
        · exact ⟨Nat.le_refl _, hle⟩
        · have hg2 := skipB_ge l j
          have hle2 := skipB_le h2
          have ht2 := takeJ_bd (c := 58) hle2
          revert ht2
          cases takeJ l 58 (skipB l j) with
          | no a w => exact fun ht => Bd.mono (x := (PE.no a w : PE JV)) (by omega) ht
          | ok u j1 =>
            rintro ⟨h3, h4⟩
            dsimp only
            have hv := ih.v (level + 1) j1 h4
            revert hv
            cases valJ l k (level + 1) j1 with
            | no a w => exact fun ht => Bd.mono (x := (PE.no a w : PE JV)) (by omega) ht
            | ok v j2 =>
              rintro ⟨h5, h6⟩
              dsimp only
              have hg3 := skipB_ge l j2
              have hle3 := skipB_le h6
              split
              · rename_i q
                exact (ih.og _ _ _ _ (here_lt (by rw [q]; decide))).mono (by omega)
              · have ht3 := takeJ_bd (c := 125) hle3
                revert ht3
                cases takeJ l 125 (skipB l j2) with
                | no a w => exact fun ht => Bd.mono (x := (PE.no a w : PE JV)) (by omega) ht
                | ok u j3 => exact fun ht => Bd.mono (x := (PE.ok (JV.mk 6 0 (B #[]) (keys ++ [bytesOf t]) (acc ++ [v])) j3)) (by omega) ht
/-! fuel -/
structure Fu (l : List UInt8) (k : Nat) : Prop where
  v : ∀ level i, i ≤ l.length → 3 * (l.length - i) + 1 ≤ k → valJ l (k + 1) level i = valJ l k level i
  a : ∀ level i, i ≤ l.length → 3 * (l.length - i) + 3 ≤ k → arrJ l (k + 1) level i = arrJ l k level i
  ag : ∀ level i acc, i ≤ l.length → 3 * (l.length - i) + 2 ≤ k → arrGo l (k + 1) level i acc = arrGo l k level i acc
  o : ∀ level i, i ≤ l.length → 3 * (l.length - i) + 3 ≤ k → objJ l (k + 1) level i = objJ l k level i
  og : ∀ level i keys acc, i ≤ l.length → 3 * (l.length - i) + 2 ≤ k → objGo l (k + 1) level i keys acc = objGo l k level i keys acc
theorem fuel (l : List UInt8) : ∀ k, Fu l k
  | 0 => ⟨fun _ _ _ h => by omega, fun _ _ _ h => by omega, fun _ _ _ _ h => by omega, fun _ _ _ h => by omega, fun _ _ _ _ _ h => by omega⟩
  | k + 1 => by
    have ih := fuel l k
    have bd := allBd l k
    refine ⟨fun level i0 h hk => ?_, fun level i0 h hk => ?_, fun level i acc h hk => ?_, fun level i0 h hk => ?_, fun level i0 keys acc h hk => ?_⟩
    · have hg := skipB_ge l i0
      have hle := skipB_le h
      rw [valJ, valJ]
      try dsimp only
      generalize skipB l i0 = i at hg hle ⊢
      by_cases q : hereB l i = 91 ∨ hereB l i = 123
      · have hlt : i < l.length := here_lt fun z => by rw [z] at q; revert q; decide
        rw [ih.a level (i + 1) hlt (by omega), ih.o level (i + 1) hlt (by omega)]
      · simp only [if_neg q]
    · have hg := skipB_ge l i0
      have hle := skipB_le h
      rw [arrJ, arrJ]
      try dsimp only
      rw [ih.ag level _ [] hle (by omega)]
    · rw [arrGo, arrGo, ih.v (level + 1) i h (by omega)]
      have hv := bd.v (level + 1) i h
      revert hv
      cases valJ l k (level + 1) i with
      | no a w => exact fun _ => rfl
      | ok v j =>
        rintro ⟨h1, h2⟩
        try dsimp only
        have hg := skipB_ge l j
        by_cases q : hereB l (skipB l j) = 44
        · have hlt : skipB l j < l.length := here_lt (by rw [q]; decide)
          rw [if_pos q, if_pos q, ih.ag level _ _ hlt (by omega)]
        · rw [if_neg q, if_neg q]
    · have hg := skipB_ge l i0
      have hle := skipB_le h
      rw [objJ, objJ]
      try dsimp only
      rw [ih.og level _ [] [] hle (by omega)]
    · have hg := skipB_ge l i0
      have hle := skipB_le h
      rw [objGo, objGo]
      try dsimp only
      generalize skipB l i0 = i at hg hle ⊢
      have ht := textJ_bd (l := l) hle
      revert ht
      cases textJ l i with
      | no a w => exact fun _ => rfl
      | ok t j =>
        rintro ⟨h1, h2⟩
        try dsimp only
        have hg2 := skipB_ge l j
        have ht2 := takeJ_bd (c := 58) (skipB_le h2)
        revert ht2
        cases takeJ l 58 (skipB l j) with
        | no a w => exact fun _ => rfl
        | ok u j1 =>
          rintro ⟨h3, h4⟩
          try dsimp only
          rw [ih.v (level + 1) j1 h4 (by omega)]
          have hv := bd.v (level + 1) j1 h4
          revert hv
          cases valJ l k (level + 1) j1 with
          | no a w => exact fun _ => rfl
          | ok v j2 =>
            rintro ⟨h5, h6⟩
            try dsimp only
            have hg3 := skipB_ge l j2
            by_cases q : hereB l (skipB l j2) = 44
            · have hlt : skipB l j2 < l.length := here_lt (by rw [q]; decide)
              rw [if_pos q, if_pos q, ih.og level _ _ _ hlt (by omega)]
            · rw [if_neg q, if_neg q]
end Go.Tb
namespace Go.Ab
open Go.RowKit
section
variable {P : Program} {C : Ctx} {n : Nat} {Q : Exit → St → Prop} {st : St} {v : Value}
end
end Go.Ab
namespace Go.Tb
open Go.Ab
end Go.Tb
namespace Go.Ab
open Go.RowKit
section
variable {P : Program} {C : Ctx} {n : Nat} {ops : Array Oper} {Q : Exit → St → Prop} {rest : List Oper}
variable {f : List (Nat × A)} {bx : List (Nat × List A)} {lv : List Nat} {gen : Nat} {d : Nat} {ty : TypeId} {pos : String} {af : Array Edge}
end
end Go.Ab
namespace Go.Ab
open Go.RowKit
/-! ### whatever the states are -/
section
variable {P : Program} {ops : Array Oper} {md : Region.Mode} {m : Nat} {S E : Type} (Y : Nat → E → S → Prop) (ef : Nat → E → S → S)
def Closed (md : Region.Mode) (ops : Array Oper) (listed : Array Bool) : Prop :=
  ∀ j oj, ops[j]? = some oj → listed.getD j false = true → ∀ e ∈ oj.after, Region.binds md e = true → listed.getD e.on false = true
def reachB (md : Region.Mode) (ops : Array Oper) : Nat → Nat → Nat → Bool
  | 0, _, _ => false
  | k + 1, j, i => behindB md ops j i || (match ops[j]? with | some o => o.after.toList.any fun e => Region.binds md e && reachB md ops k e.on i | none => false)
theorem reach_listed {listed : Array Bool} (hc : Closed md ops listed) : ∀ (k j i : Nat), reachB md ops k j i = true → (∀ oj, ops[j]? = some oj → ∀ e ∈ oj.after, Region.binds md e = true → listed.getD e.on false = true) → listed.getD i false = true
  | 0, _, _, h, _ => by simp [reachB] at h
  | k + 1, j, i, h, hj => by
    simp only [reachB, Bool.or_eq_true] at h
    cases hoj : ops[j]? with
    | none =>
      rw [hoj] at h
      simp [behindB, hoj] at h
    | some oj =>
      rcases h with h | h
      · obtain ⟨e, he, hb, heq⟩ := behindB_spec hoj h
        rw [← heq]
        exact hj oj hoj e he hb
      · rw [hoj] at h
        obtain ⟨e, he, hb⟩ := List.any_eq_true.1 h
        simp only [Bool.and_eq_true] at hb
        have he' : e ∈ oj.after := by simpa using he
        have hl := hj oj hoj e he' hb.1
        exact reach_listed hc k e.on i hb.2 fun o ho e' he'' hb' => hc e.on o ho hl e' he'' hb'
def waitT (md : Region.Mode) (ops : Array Oper) (m : Nat) : Bool := (List.range ops.size).all fun j => decide (j < m) || (List.range j).all fun i => reachB md ops ops.size j i
theorem waitsT {j : Nat} (h : waitT md ops m = true) (hm : m ≤ j) {i : Nat} (hij : i < j) {listed : Array Bool} (hc : Closed md ops listed) (hj : j ∈ Region.ready md ops listed) : listed.getD i false = true := by
  obtain ⟨_, oj, hoj, hall⟩ := mem_ready.1 hj
  have hlt : j < ops.size := (Array.getElem?_eq_some_iff.1 hoj).1
  have h1 := List.all_eq_true.1 h j (by simpa using hlt)
  simp only [Bool.or_eq_true, decide_eq_true_eq] at h1
  have h2 := List.all_eq_true.1 (h1.resolve_left (by omega)) i (by simpa using hij)
  exact reach_listed hc _ j i h2 fun o ho e he hb => by rw [hoj] at ho; cases ho; exact hall e he hb
theorem Closed.add {listed : Array Bool} (hc : Closed md ops listed) {i : Nat} (hi : i ∈ Region.ready md ops listed) : Closed md ops (listed.setIfInBounds i true) := by
  intro j oj hoj hl e he hb
  obtain ⟨_, oi, hoi, hall⟩ := mem_ready.1 hi
  by_cases hji : i = j
  · subst hji
    rw [hoi] at hoj
    cases hoj
    exact getD_set_true (hall e he hb)
  · rw [getD_set_ne false hji] at hl
    exact getD_set_true (hc j oj hoj hl e he hb)
def wpG (m : Nat) (md : Region.Mode) (ops : Array Oper) (Q : S → Prop) : Nat → Array Bool → S → Prop
  | 0, listed, σ => Split m ops listed ∧ Q σ
  | fuel + 1, listed, σ => Region.ready md ops listed ≠ [] ∧ ∀ i ∈ Region.ready md ops listed, ∃ e, Y i e σ ∧ wpG m md ops Q fuel (listed.setIfInBounds i true) (ef i e σ)
def Swap (i j : Nat) : Prop := ∀ e e' σ, Y i e σ → Y j e' (ef i e σ) → Y j e' σ ∧ Y i e (ef j e' σ) ∧ ef j e' (ef i e σ) = ef i e (ef j e' σ)
variable {Y} {ef}
theorem wpG_first {Q : S → Prop} {i : Nat} {oi : Oper} {e : E} (hw : waitT md ops m = true) (him : i < m) (hi : ops[i]? = some oi) :
    ∀ (fuel : Nat) (listed : Array Bool) (σ : S), Closed md ops listed →
      (∀ j oj, ops[j]? = some oj → j ≠ i → j < m → listed.getD j true = false → (∀ e ∈ oj.after, Region.binds md e = true → e.on ≠ i) → Swap Y ef i j) →
      i ∈ Region.ready md ops listed → Y i e σ → wpG Y ef m md ops Q fuel (listed.setIfInBounds i true) (ef i e σ) → wpG Y ef m md ops Q (fuel + 1) listed σ := by
  have unl : ∀ {listed : Array Bool}, i ∈ Region.ready md ops listed → listed.getD i false = false := fun hr => unlisted (mem_ready.1 hr).1
  intro fuel
  induction fuel with
  | zero =>
    intro listed σ hc _ hr hy H
    refine ⟨fun h => (by rw [h] at hr; cases hr), fun j hj => ?_⟩
    by_cases hji : j = i
    · subst hji; exact ⟨e, hy, H⟩
    · exfalso
      obtain ⟨⟨_, h1, h2⟩, _⟩ := H
      have hj1 := (mem_ready.1 hj).1
      by_cases hjm : j < m
      · have := h1 j hjm
        rw [getD_set_ne false (Ne.symm hji)] at this
        rw [unlisted hj1] at this
        cases this
      · have := waitsT hw (by omega) (show i < j by omega) hc hj
        rw [unl hr] at this
        cases this
  | succ fuel ih =>
    intro listed σ hc hfree hr hy H
    refine ⟨fun h => (by rw [h] at hr; cases hr), fun j hj => ?_⟩
    by_cases hji : j = i
    · subst hji; exact ⟨e, hy, H⟩
    · obtain ⟨e', hy', H'⟩ := H.2 j (ready_mono hj hji)
      obtain ⟨hjun, oj, hoj, hall⟩ := mem_ready.1 hj
      have hnot : ∀ e ∈ oj.after, Region.binds md e = true → e.on ≠ i := fun e he hb heq => by
        have h1 := hall e he hb
        rw [heq, unl hr] at h1
        cases h1
      have hjm : j < m := by
        rcases Nat.lt_or_ge j m with h | h
        · exact h
        · have := waitsT hw h (show i < j by omega) hc hj
          rw [unl hr] at this
          cases this
      obtain ⟨s1, s2, s3⟩ := hfree j oj hoj hji hjm hjun hnot e e' σ hy hy'
      have hfree' : ∀ k ok, ops[k]? = some ok → k ≠ i → k < m → (listed.setIfInBounds j true).getD k true = false → (∀ e ∈ ok.after, Region.binds md e = true → e.on ≠ i) → Swap Y ef i k := fun k ok hk hki hkm hun hno => by
        refine hfree k ok hk hki hkm ?_ hno
        by_cases hjk : j = k
        · subst hjk; exact hjun
        · rw [getD_set_ne true hjk] at hun; exact hun
      refine ⟨e', s1, ih (listed.setIfInBounds j true) _ (hc.add hj) hfree' (ready_mono hr (Ne.symm hji)) s2 ?_⟩
      rw [Array.setIfInBounds_comm _ _ hji, ← s3]
      exact H'
def ceG (Y : Nat → E → S → Prop) (ef : Nat → E → S → S) (Q : S → Prop) : List Oper → Nat → S → Prop
  | [], _, σ => Q σ
  | _ :: rest, i, σ => ∃ e, Y i e σ ∧ ceG Y ef Q rest (i + 1) (ef i e σ)
theorem wpG_lex {Q : S → Prop} (hw : waitT md ops m = true)
    (hsw : ∀ i j oi oj, ops[i]? = some oi → ops[j]? = some oj → i ≠ j → i < m → j < m → oi.apart ops oj = true → (∀ e ∈ oj.after, Region.binds md e = true → e.on ≠ i) → Swap Y ef i j) :
    ∀ (l : List Oper) (k : Nat) (listed : Array Bool) (σ : S), k + l.length = m → (∀ j, j < l.length → l[j]? = ops[k + j]?) → Closed md ops listed →
    listed.size = ops.size → (∀ j, j < k → listed.getD j false = true) → (∀ j, k ≤ j → j < ops.size → listed.getD j true = false) →
    lexE md ops l.length k listed = true → ceG Y ef Q l k σ → wpG Y ef m md ops Q l.length listed σ
  | [], k, listed, σ, hk, _, _, hs, h1, h2, _, h => ⟨⟨hs, fun j hj => h1 j (by simp at hk; omega), fun j hj hj' => h2 j (by simp at hk; omega) hj'⟩, h⟩
  | o :: l, k, listed, σ, hk, hl, hc, hs, h1, h2, hB, h => by
    have h0 : ops[k]? = some o := by simpa using (hl 0 (by simp)).symm
    have hks : k < ops.size := (Array.getElem?_eq_some_iff.1 h0).1
    simp only [List.length_cons, lexE, Bool.and_eq_true] at hB
    obtain ⟨⟨hr, hf⟩, hB'⟩ := hB
    have hr' : k ∈ Region.ready md ops listed := by simpa using hr
    obtain ⟨e, hy, hK⟩ := h
    have hkm : k < m := by simp at hk; omega
    refine wpG_first hw hkm h0 l.length listed σ hc (fun j oj hoj hjk hjm hun hno => hsw k j o oj h0 hoj (Ne.symm hjk) hkm hjm (Region.free_spec h0 hf j oj hoj hjk hun hno) hno) hr' hy
      (wpG_lex hw hsw l (k + 1) _ _ (by simp at hk; omega) (fun j hj => by have := hl (j + 1) (by simpa using hj); simpa [Nat.add_assoc, Nat.add_comm 1 j] using this) (hc.add hr') (by simpa using hs) (fun j hj => ?_) (fun j hj hj' => ?_) hB' hK)
    · rcases Nat.lt_succ_iff_lt_or_eq.1 hj with hlt | rfl
      · exact getD_set_true (h1 j hlt)
      · simp [hs, hks]
    · rw [getD_set_ne true (by omega)]
      exact h2 j (by omega) hj'
theorem wpAny_of_G {Sm : S → Act → World → Prop} {Q : S → Prop} {Q' : Exit → Act → World → Prop} {t : Nat}
    (hS : ∀ i e σ act w K, Sm σ act w → Y i e σ → (∀ act w, Sm (ef i e σ) act w → K act w) → wpOp P ops Q' i K act w)
    (hQ : ∀ listed σ act w, Sm σ act w → Closed md ops listed → Split m ops listed → Q σ → wpAny P md ops Q' t listed act w) :
    ∀ (fuel : Nat) (listed : Array Bool) (σ : S) (act : Act) (w : World), Sm σ act w → Closed md ops listed → wpG Y ef m md ops Q fuel listed σ → wpAny P md ops Q' (fuel + t) listed act w
  | 0, _, _, _, _, hs, hc, h => by rw [Nat.zero_add]; exact hQ _ _ _ _ hs hc h.1 h.2
  | fuel + 1, _, _, _, _, hs, hc, h => by
    rw [Nat.add_right_comm]
    refine ⟨fun h0 => absurd h0 h.1, fun i hi => ?_⟩
    obtain ⟨e, hy, hK⟩ := h.2 i hi
    exact hS i e _ _ _ _ hs hy fun act w hs' => wpAny_of_G hS hQ fuel _ _ _ _ hs' (hc.add hi) hK
theorem wpAny_tailT {Q' : Exit → Act → World → Prop} (hw : waitT md ops m = true) (hrd : ∀ k, m ≤ k → ∀ o, ops[k]? = some o → ∀ e ∈ o.after, Region.binds md e = true → e.on < k) :
    ∀ (l : List Oper) (k : Nat) (listed : Array Bool) (act : Act) (w : World), m ≤ k → k + l.length = ops.size → (∀ j, l[j]? = ops[k + j]?) → Closed md ops listed → listed.size = ops.size → (∀ j, j < k → listed.getD j false = true) → (∀ j, k ≤ j → j < ops.size → listed.getD j true = false) →
      wpL P ops Q' l act w → wpAny P md ops Q' l.length listed act w
  | [], k, listed, act, w, hm, hk, _, _, hs, h1, h2, h => by
    refine ⟨?_, h⟩
    refine List.eq_nil_iff_forall_not_mem.2 fun j hj => ?_
    obtain ⟨h3, oj, hoj, _⟩ := mem_ready.1 hj
    have hlt := (Array.getElem?_eq_some_iff.1 hoj).1
    have := h1 j (by simp at hk; omega)
    rw [unlisted h3] at this
    cases this
  | o :: l, k, listed, act, w, hm, hk, hl, hc, hs, h1, h2, h => by
    have h0 : ops[k]? = some o := by simpa using (hl 0).symm
    have hks : k < ops.size := (Array.getElem?_eq_some_iff.1 h0).1
    have hready : k ∈ Region.ready md ops listed := mem_ready.2 ⟨h2 k (Nat.le_refl _) hks, o, h0, fun e he hb => h1 _ (hrd k hm o h0 e he hb)⟩
    refine ⟨fun hn => (by rw [hn] at hready; cases hready), fun i hi => ?_⟩
    have hik : i = k := by
      obtain ⟨h3, oi, hoi, _⟩ := mem_ready.1 hi
      rcases Nat.lt_trichotomy i k with hlt | he | hgt
      · have := h1 i hlt; rw [unlisted h3] at this; cases this
      · exact he
      · have := waitsT hw (by omega) hgt hc hi
        rw [unlisted (h2 k (Nat.le_refl _) hks)] at this
        cases this
    subst hik
    have ih := fun act w => wpAny_tailT (Q' := Q') hw hrd l (i + 1) (listed.setIfInBounds i true) act w (by omega) (by simp at hk; omega) (fun j => by have := hl (j + 1); simpa [Nat.add_assoc, Nat.add_comm 1 j] using this) (hc.add hready) (by simpa using hs)
      (fun j hj => by
        rcases Nat.lt_succ_iff_lt_or_eq.1 hj with hlt | rfl
        · exact getD_set_true (h1 j hlt)
        · simp [hs, hks]) (fun j hj hj' => by rw [getD_set_ne true (by omega)]; exact h2 j (by omega) hj')
    simp only [wpL] at h
    unfold wpOp
    simp only [h0]
    split
    · rename_i hw'
      rw [if_pos hw'] at h
      exact .inl (Oper.wp_mono ih h)
    · rename_i hw'
      rw [if_neg hw'] at h
      exact ih _ _ h
end
/-! ### one operation that turns the ghost -/
theorem Oper.wp_only {P : Program} {o : Oper} {a : Act} {w : World} {K K' : Act → World → Prop} {Q Q' : Exit → Act → World → Prop} (hp : ∀ c a w, ¬ Q (.panic c) a w) (hL : ¬ LetsOut Q) (hK : ∀ a w, K a w → K' a w) (h : o.wp P a w K Q) : o.wp P a w K' Q' := by
  unfold Oper.wp at *
  generalize (execOp a.eval o).run P w = r at *
  cases r with
  | ok n w' =>
    cases n <;> simp only [Oper.upon] at h ⊢ <;> first
      | exact hK _ _ h
      | exact Calls.mono h (fun e w'' he => by
          cases e with
          | returned v => exact hK _ _ he
          | panicked c => exact absurd he (hp _ _ _)
          | outgrown => exact absurd he hL)
      | exact Rows.mono h (fun _ _ he => hK _ _ he)
      | exact h
  | halt x w' =>
    cases x <;> simp only [Oper.upon] at h ⊢ <;> first
      | exact absurd h (hp _ _ _)
      | exact h
theorem Oper.wp_either {P : Program} {o : Oper} {a : Act} {w : World} {K K' : Act → World → Prop} {Q Q' : Exit → Act → World → Prop} (hp : ∀ c a w, Q (.panic c) a w → Q' (.panic c) a w) (hL : ¬ LetsOut Q) (hK : ∀ a w, K a w → K' a w) (h : o.wp P a w K Q) : o.wp P a w K' Q' := by
  unfold Oper.wp at *
  generalize (execOp a.eval o).run P w = r at *
  cases r with
  | ok n w' =>
    cases n <;> simp only [Oper.upon] at h ⊢ <;> first
      | exact hK _ _ h
      | exact Calls.mono h (fun e w'' he => by
          cases e with
          | returned v => exact hK _ _ he
          | panicked c => exact hp _ _ _ he
          | outgrown => exact absurd he hL)
      | exact Rows.mono h (fun _ _ he => hK _ _ he)
      | exact h
  | halt x w' =>
    cases x <;> simp only [Oper.upon] at h ⊢ <;> first
      | exact hp _ _ _ h
      | exact h
end Go.Ab
namespace Go.Ab
open Go.RowKit
structure Par where
  bx0 : List (Nat × List A)
  bx1 : List (Nat × List A)
  lv0 : List Nat
  lv1 : List Nat
  gen0 : Nat
  gen1 : Nat
section
variable {P : Program} {C : Ctx} {n : Nat} (S : Par) {ops : Array Oper} (c : Nat)
abbrev SC := Fr' × Bool
def SmC (C : Ctx) (n : Nat) (S : Par) (σ : SC) (act : Act) (w : World) : Prop :=
  act.defers = C.ds ∧ ∃ G, if σ.2 = true then SimF C n S.bx1 S.lv1 S.gen1 σ.1 G act.tmps w else SimF C n S.bx0 S.lv0 S.gen0 σ.1 G act.tmps w
def XEv (P : Program) (C : Ctx) (n : Nat) (S : Par) (ops : Array Oper) (o : Oper) (a : A) (φ : Fr') : Prop :=
  o.guard = none ∧ ∃ p, (∀ t x, look p t = some x → φ t = some x ∧ t ∈ o.looksAt ops) ∧
    ∀ g, WO P C n ops (fun e st => e = .normal ∧ st = St.put ⟨p ++ g, S.bx1, S.lv1, S.gen1⟩ o.dst a) [o] ⟨p ++ g, S.bx0, S.lv0, S.gen0⟩
def YC (P : Program) (C : Ctx) (n : Nat) (S : Par) (ops : Array Oper) (c : Nat) (i : Nat) (a : A) (σ : SC) : Prop :=
  ∃ o, ops[i]? = some o ∧ dstOK n o.dst = true ∧ ((i = c ∧ σ.2 = false ∧ XEv P C n S ops o a σ.1) ∨
    (i ≠ c ∧ (behindB .any ops i c = false → YA P C n S.bx0 S.lv0 S.gen0 ops o a σ.1) ∧ (behindB .any ops c i = false → YA P C n S.bx1 S.lv1 S.gen1 ops o a σ.1) ∧
      (σ.2 = false → behindB .any ops i c = false) ∧ (σ.2 = true → behindB .any ops c i = false)))
def efC (ops : Array Oper) (c : Nat) (i : Nat) (a : A) (σ : SC) : SC :=
  match ops[i]? with
  | none => σ
  | some o => (putF σ.1 o.dst a, if i = c then true else σ.2)
variable {S} {c}
theorem XEv_put {o : Oper} {a : A} {φ : Fr'} {dst : Option Nat} {x : A} (hd : ∀ d, dst = some d → d ∉ o.looksAt ops) : XEv P C n S ops o a (putF φ dst x) ↔ XEv P C n S ops o a φ := by
  constructor
  · rintro ⟨h0, p, h1, h2⟩
    exact ⟨h0, p, fun t y hy => ⟨(putF_key hd (h1 t y hy).2).symm.trans (h1 t y hy).1, (h1 t y hy).2⟩, h2⟩
  · rintro ⟨h0, p, h1, h2⟩
    exact ⟨h0, p, fun t y hy => ⟨(putF_key hd (h1 t y hy).2).trans (h1 t y hy).1, (h1 t y hy).2⟩, h2⟩
theorem not_behind {j i : Nat} {oj : Oper} (hj : ops[j]? = some oj) (h : ∀ e ∈ oj.after, Region.binds .any e = true → e.on ≠ i) : behindB .any ops j i = false := by
  cases q : behindB .any ops j i with
  | false => rfl
  | true =>
    obtain ⟨e, he, hb, heq⟩ := behindB_spec hj q
    exact absurd heq (h e he hb)
theorem efC_at {i : Nat} {o : Oper} (h : ops[i]? = some o) (a : A) (σ : SC) : efC ops c i a σ = (putF σ.1 o.dst a, if i = c then true else σ.2) := by unfold efC; rw [h]
theorem swapC {i j : Nat} {oi oj : Oper} (hi : ops[i]? = some oi) (hj : ops[j]? = some oj) (hij : i ≠ j) (hap : oi.apart ops oj = true) (hno : ∀ e ∈ oj.after, Region.binds .any e = true → e.on ≠ i) :
    Swap (YC P C n S ops c) (efC ops c) i j := by
  obtain ⟨a1, a2, a3⟩ := Oper.apart_spec hap
  have hnb := not_behind hj hno
  rintro a b ⟨φ, ph⟩ ⟨oi', hi', di, hyi⟩ ⟨oj', hj', dj, hyj⟩
  rw [hi] at hi'
  cases hi'
  rw [hj] at hj'
  cases hj'
  rw [efC_at hi] at hyj
  rw [efC_at hi, efC_at hj, efC_at hj, efC_at hi]
  have hcomm : putF (putF φ oi.dst a) oj.dst b = putF (putF φ oj.dst b) oi.dst a := putF_comm φ a b a2
  simp only at hyi hyj ⊢
  rcases hyi with ⟨rfl, hph, hx⟩ | ⟨hic, y0, y1, y2, y3⟩
  · -- the operation itself stands first
    subst hph
    rcases hyj with ⟨e, _⟩ | ⟨hjc, z0, z1, z2, z3⟩
    · exact absurd e.symm hij
    · refine ⟨⟨oj, hj, dj, .inr ⟨hjc, fun h => (YA_put a1).1 (z0 h), fun h => (YA_put a1).1 (z1 h), fun _ => hnb, fun h => by cases h⟩⟩, ⟨oi, hi, di, .inl ⟨rfl, ?_, (XEv_put a3).2 hx⟩⟩, ?_⟩
      · rw [if_neg hjc]
      · rw [if_pos rfl, if_neg hjc, hcomm]
        simp
  · rcases hyj with ⟨rfl, hph, hx⟩ | ⟨hjc, z0, z1, z2, z3⟩
    · rw [if_neg hic] at hph
      subst hph
      refine ⟨⟨oj, hj, dj, .inl ⟨rfl, rfl, (XEv_put a1).1 hx⟩⟩, ⟨oi, hi, di, .inr ⟨hic, fun h => (YA_put a3).2 (y0 h), fun h => (YA_put a3).2 (y1 h), fun h => ?_, fun _ => hnb⟩⟩, ?_⟩
      · rw [if_pos rfl] at h; cases h
      · rw [if_pos rfl, if_neg hic, hcomm]
        simp
    · rw [if_neg hic] at z2 z3
      refine ⟨⟨oj, hj, dj, .inr ⟨hjc, fun h => (YA_put a1).1 (z0 h), fun h => (YA_put a1).1 (z1 h), z2, z3⟩⟩, ⟨oi, hi, di, .inr ⟨hic, fun h => (YA_put a3).2 (y0 h), fun h => (YA_put a3).2 (y1 h), ?_, ?_⟩⟩, ?_⟩
      · rw [if_neg hjc]; exact y2
      · rw [if_neg hjc]; exact y3
      · rw [if_neg hic, if_neg hjc, hcomm, if_neg hic]
def fallF (n : Nat) (φ : Fr') : List (Nat × A) := (List.range n).filterMap fun t => (φ t).map fun a => (t, a)
theorem look_fall (φ : Fr') : ∀ (l : List Nat) (t : Nat), look (l.filterMap fun t => (φ t).map fun a => (t, a)) t = if t ∈ l then φ t else none
  | [], t => rfl
  | s :: l, t => by
    rw [List.filterMap_cons]
    cases hs : φ s with
    | none =>
      simp only [Option.map_none]
      rw [look_fall φ l t]
      by_cases e : t = s
      · subst e; simp [hs]
      · simp [e]
    | some a =>
      simp only [Option.map_some, look_cons]
      by_cases e : s = t
      · subst e; simp [hs]
      · rw [if_neg e, look_fall φ l t]
        simp [Ne.symm e]
theorem look_app (p g : List (Nat × A)) (t : Nat) : look (p ++ g) t = match look p t with | some a => some a | none => look g t := by
  induction p with
  | nil => rfl
  | cons x p ih =>
    obtain ⟨s, a⟩ := x
    rw [List.cons_append, look_cons, look_cons]
    split
    · rfl
    · exact ih
theorem soundC (i : Nat) (a : A) (σ : SC) (act : Act) (w : World) (K : Act → World → Prop) {Q' : Exit → Act → World → Prop} (hs : SmC C n S σ act w) (hy : YC P C n S ops c i a σ) (hK : ∀ act w, SmC C n S (efC ops c i a σ) act w → K act w) : wpOp P ops Q' i K act w := by
  obtain ⟨tmps, dfs⟩ := act
  obtain ⟨rfl, G, hs⟩ := hs
  obtain ⟨φ, ph⟩ := σ
  obtain ⟨o, ho, hd, hy⟩ := hy
  rw [efC_at ho] at hK
  simp only at hs hy hK
  unfold wpOp
  simp only [ho]
  rcases hy with ⟨rfl, rfl, hg, p, hp, hx⟩ | ⟨hic, y0, y1, y2, y3⟩
  · simp only [Bool.false_eq_true, if_false] at hs
    have hw : Region.wanted o (yielded ops tmps) = true := by simp [Region.wanted, hg]
    rw [hw, if_pos rfl]
    refine .inl ?_
    have hlt : ∀ t x, φ t = some x → t < n := fun t x hx => by
      obtain ⟨v, h1, _⟩ := hs.2 t x hx
      have := (Array.getElem?_eq_some_iff.1 h1).1
      rw [hs.1.size] at this
      exact this
    have hlook : ∀ t, look (p ++ fallF n φ) t = φ t := fun t => by
      rw [look_app]
      cases q : look p t with
      | some x => exact (hp t x q).1.symm
      | none =>
        simp only
        unfold fallF
        rw [look_fall]
        cases e : φ t with
        | none => split <;> rfl
        | some x => rw [if_pos (List.mem_range.2 (hlt t x e))]
    have hs' := hs.toG (f := p ++ fallF n φ) fun t x hx => by rw [← hlook]; exact hx
    have h := hx (fallF n φ) tmps w ⟨G, hs'⟩
    simp only [wpL, hw, if_true] at h
    refine Oper.wp_only (fun c a w hq => ?_) (fun hl => ?_) (fun act2 w2 hq => ?_) h
    · obtain ⟨_, st', _, he, _⟩ := hq
      cases he
    · obtain ⟨_, _, hq⟩ := hl
      obtain ⟨_, st', _, he, _⟩ := hq
      cases he
    · obtain ⟨hdf, st', ⟨G', hs2⟩, _, rfl⟩ := hq
      refine hK act2 w2 ⟨hdf, G', ?_⟩
      simp only [if_true]
      show SimF C n S.bx1 S.lv1 S.gen1 (putF φ o.dst a) G' act2.tmps w2
      cases hdst : o.dst with
      | none =>
        rw [hdst] at hs2
        refine ⟨{ hs2 with frame := fun t a ha => by simp [look] at ha }, fun t x hx => hs2.frame t x ?_⟩
        show look (p ++ fallF n φ) t = some x
        rw [hlook]
        exact hx
      | some d =>
        rw [hdst] at hs2
        refine ⟨{ hs2 with frame := fun t a ha => by simp [look] at ha }, fun t x hx => hs2.frame t x ?_⟩
        show look ((d, a) :: (p ++ fallF n φ)) t = some x
        rw [look_cons]
        simp only [putF] at hx
        by_cases e : t = d
        · subst e
          rw [if_pos rfl] at hx ⊢
          exact hx
        · rw [if_neg e] at hx
          rw [if_neg (Ne.symm e), hlook]
          exact hx
  · rw [if_neg hic] at hK
    have key : ∀ {bx : List (Nat × List A)} {lv : List Nat} {gen : Nat}, SimF C n bx lv gen φ G tmps w → YA P C n bx lv gen ops o a φ → (∀ tmps w, SimF C n bx lv gen (putF φ o.dst a) G tmps w → K ⟨tmps, C.ds⟩ w) →
        (if Region.wanted o (yielded ops tmps) = true then o.wp P ⟨tmps, C.ds⟩ w K Q' ∨ (o.asks P ⟨tmps, C.ds⟩ w ∧ LetsOut Q') else K (Act.put ⟨tmps, C.ds⟩ o.dst undef) w) := by
      intro bx lv gen hsF hya hk
      obtain ⟨_, ⟨hw, f, hf, hp⟩ | ⟨hw, rfl⟩⟩ := hya
      · rw [wanted_of hsF hw]
        simp only [if_true]
        refine .inl ?_
        have hg : Gives P o ⟨tmps, []⟩ w fun v w' => Below w.heap.size w w' ∧ Rep (enOf C G gen w') v a := hp G tmps w (hsF.toG fun t x hx => (hf t x hx).1)
        refine hg.ds.wp fun v w' ⟨hb, hr⟩ => ?_
        rw [Act.put_ds]
        exact hk _ _ (hsF.step hb hd hr)
      · rw [wanted_of hsF hw]
        simp only [Bool.false_eq_true, if_false]
        rw [Act.put_ds]
        exact hk _ _ (hsF.step (Below.refl _ _) hd (.tup #[] [] rfl (by simp)))
    cases ph with
    | false =>
      simp only [Bool.false_eq_true, if_false] at hs
      exact key hs (y0 (y2 rfl)) fun tmps w h => hK _ _ ⟨rfl, G, by simpa using h⟩
    | true =>
      simp only [if_true] at hs
      exact key hs (y1 (y3 rfl)) fun tmps w h => hK _ _ ⟨rfl, G, by simpa using h⟩
def CC (P : Program) (C : Ctx) (n : Nat) (S : Par) (ops : Array Oper) (c : Nat) (Q : St → Prop) (l : List Oper) (i : Nat) (f : List (Nat × A)) (ph : Bool) : Prop :=
  ceG (YC P C n S ops c) (efC ops c) (fun σ => ∃ f', (∀ t, look f' t = σ.1 t) ∧ σ.2 = true ∧ Q ⟨f', S.bx1, S.lv1, S.gen1⟩) l i (look f, ph)
def regionOKC (m : Nat) (ops : Array Oper) : Bool := Nat.ble m ops.size && waitT .any ops m && foreB .any ops m && lexE .any ops m 0 (Array.replicate ops.size false)
theorem W.regionC (T : Tab P) {id : Nat} {l l1 l2 : List Oper} {f : List (Nat × A)} {bx bx1 : List (Nat × List A)} {lv lv1 : List Nat} {gen gen1 : Nat} {Q : Exit → St → Prop} (m c : Nat) (hB : regionOKC m l.toArray = true) (h1 : l.take m = l1) (h2 : l.drop m = l2)
    (h : CC P C n ⟨bx, bx1, lv, lv1, gen, gen1⟩ l.toArray c (WO P C n l.toArray Q l2) l1 0 f false) : W P C n (.region id l.toArray true) Q ⟨f, bx, lv, gen⟩ := by
  subst h1; subst h2
  intro tmps w ⟨G, hs⟩
  simp only [regionOKC, Bool.and_eq_true] at hB
  obtain ⟨⟨⟨hm, hw⟩, hfore⟩, hlex⟩ := hB
  have hm : m ≤ l.length := by simpa using Nat.le_of_ble_eq_true hm
  have hb : Below w.heap.size w { w with drawn := w.drawn + 1 } := (Below.refl _ w).drew
  have hs' : SimF C n bx lv gen (look f) G tmps { w with drawn := w.drawn + 1 } := SimF.ofG (hs.evolve hb).2
  have hlen : (l.take m).length = m := by simp; omega
  refine wp_region_any T.mixed ?_
  have hsz : l.toArray.size = (l.take m).length + (l.drop m).length := by simp; omega
  rw [hsz]
  have hcl : Closed .any l.toArray (Array.replicate ((l.take m).length + (l.drop m).length) false) := fun j oj _ hl _ _ _ => by
    by_cases q : j < (l.take m).length + (l.drop m).length
    · simp only [Array.getD_eq_getD_getElem?, Array.getElem?_replicate] at hl
      rw [if_pos q] at hl
      cases hl
    · simp only [Array.getD_eq_getD_getElem?, Array.getElem?_replicate] at hl
      rw [if_neg q] at hl
      cases hl
  refine wpAny_of_G (m := m) (Sm := SmC C n ⟨bx, bx1, lv, lv1, gen, gen1⟩) (Y := YC P C n ⟨bx, bx1, lv, lv1, gen, gen1⟩ l.toArray c) (ef := efC l.toArray c) (Q := fun σ => ∃ f', (∀ t, look f' t = σ.1 t) ∧ σ.2 = true ∧ WO P C n l.toArray Q (l.drop m) ⟨f', bx1, lv1, gen1⟩)
    (fun i e σ act w K hs hy hk => soundC i e σ act w K hs hy hk) (fun listed σ act w hs hc hsp ⟨f', e1, e2, hq⟩ => ?_) _ _ (look f, false) ⟨tmps, C.ds⟩ _ ⟨rfl, G, by simpa using hs'⟩ hcl ?_
  · obtain ⟨tmps, dfs⟩ := act
    obtain ⟨rfl, G, hs⟩ := hs
    rw [e2] at hs
    simp only [if_true] at hs
    refine wpAny_tailT hw (foreB_spec hfore) (l.drop m) m listed ⟨tmps, C.ds⟩ w (Nat.le_refl _) (by simp; omega) (fun j => by simp [List.getElem?_drop]) hc hsp.1 hsp.2.1 hsp.2.2 ?_
    exact hq tmps w ⟨G, hs.toG (fun t a ha => by rw [← e1]; exact ha)⟩
  · refine wpG_lex hw (fun i j oi oj hi hj hij him hjm hap hno => swapC hi hj hij hap hno) (l.take m) 0 _ _ (by rw [hlen]; omega) (fun j hj => ?_) hcl (by simp; omega) (fun j hj => by omega) (fun j _ hj => ?_) (by rw [hlen]; rw [hsz, hlen] at hlex; exact hlex) h
    · rw [hlen] at hj
      rw [Nat.zero_add]
      simp [List.getElem?_take, hj]
    · have hj' : j < l.length := by simpa using hj
      have e : min m l.length + (l.length - m) = l.length := by omega
      simp [e, hj']
variable {op : Op} {ty : TypeId} {pos : String} {af : Array Edge} {a : A} {d i : Nat} {rest : List Oper} {f : List (Nat × A)} {Q : St → Prop} {o : Oper} {ph : Bool}
theorem CC.nil_ (h : Q ⟨f, S.bx1, S.lv1, S.gen1⟩) : CC P C n S ops c Q [] i f true := ⟨f, fun _ => rfl, rfl, h⟩
theorem YA.of_pu {bx : List (Nat × List A)} {lv : List Nat} {gen : Nat} (hp : Pu P C n ⟨restr f (slotsOf op), bx, lv, gen⟩ ⟨some d, op, ty, pos, af, none⟩ a) (hd : Nat.blt d n = true) : YA P C n bx lv gen ops ⟨some d, op, ty, pos, af, none⟩ a (look f) :=
  ⟨hd, .inl ⟨rfl, _, fun t x hx => by
    obtain ⟨h1, h2⟩ := restr_look hx
    exact ⟨h1, List.mem_append.2 (.inl h2)⟩, hp⟩⟩
theorem ccPu_ (h1 : Pu P C n ⟨restr f (slotsOf op), S.bx1, S.lv1, S.gen1⟩ ⟨some d, op, ty, pos, af, none⟩ a) (h0 : Pu P C n ⟨restr f (slotsOf op), S.bx0, S.lv0, S.gen0⟩ ⟨some d, op, ty, pos, af, none⟩ a)
    (hi : ops[i]? = some ⟨some d, op, ty, pos, af, none⟩) (hc : Nat.beq i c = false) (b0 : behindB .any ops i c = false) (b1 : behindB .any ops c i = false) (hd : Nat.blt d n = true)
    (h : CC P C n S ops c Q rest (i + 1) ((d, a) :: f) ph) : CC P C n S ops c Q (⟨some d, op, ty, pos, af, none⟩ :: rest) i f ph := by
  have hic : i ≠ c := fun e => by subst e; simp at hc
  refine ⟨a, ⟨_, hi, hd, .inr ⟨hic, fun _ => YA.of_pu h0 hd, fun _ => YA.of_pu h1 hd, fun _ => b0, fun _ => b1⟩⟩, ?_⟩
  rw [efC_at hi]
  simp only [if_neg hic]
  unfold CC at h
  rw [look_put] at h
  exact h
theorem ccPu0_ (h0 : Pu P C n ⟨restr f (slotsOf op), S.bx0, S.lv0, S.gen0⟩ ⟨some d, op, ty, pos, af, none⟩ a)
    (hi : ops[i]? = some ⟨some d, op, ty, pos, af, none⟩) (hc : Nat.beq i c = false) (b0 : behindB .any ops i c = false) (b1 : behindB .any ops c i = true) (hd : Nat.blt d n = true)
    (h : CC P C n S ops c Q rest (i + 1) ((d, a) :: f) false) : CC P C n S ops c Q (⟨some d, op, ty, pos, af, none⟩ :: rest) i f false := by
  have hic : i ≠ c := fun e => by subst e; simp at hc
  refine ⟨a, ⟨_, hi, hd, .inr ⟨hic, fun _ => YA.of_pu h0 hd, (fun h => by rw [b1] at h; cases h), fun _ => b0, fun h => by cases h⟩⟩, ?_⟩
  rw [efC_at hi]
  simp only [if_neg hic]
  unfold CC at h
  rw [look_put] at h
  exact h
theorem ccX_ (hx : ∀ g, WO P C n ops (fun e st => e = .normal ∧ st = ⟨(d, a) :: (restr f (slotsOf op) ++ g), S.bx1, S.lv1, S.gen1⟩) [⟨some d, op, ty, pos, af, none⟩] ⟨restr f (slotsOf op) ++ g, S.bx0, S.lv0, S.gen0⟩)
    (hi : ops[i]? = some ⟨some d, op, ty, pos, af, none⟩) (hc : Nat.beq i c = true) (hd : Nat.blt d n = true) (h : CC P C n S ops c Q rest (i + 1) ((d, a) :: f) true) : CC P C n S ops c Q (⟨some d, op, ty, pos, af, none⟩ :: rest) i f false := by
  have hic : i = c := Nat.eq_of_beq_eq_true hc
  refine ⟨a, ⟨_, hi, hd, .inl ⟨hic, rfl, rfl, restr f (slotsOf op), fun t x hx => ?_, fun g => hx g⟩⟩, ?_⟩
  · obtain ⟨h1, h2⟩ := restr_look hx
    exact ⟨h1, List.mem_append.2 (.inl h2)⟩
  · rw [efC_at hi]
    simp only [if_pos hic]
    unfold CC at h
    rw [look_put] at h
    exact h
variable {bx0 bx1 : List (Nat × List A)} {lv0 lv1 : List Nat} {gen0 gen1 : Nat}
theorem CC.nil (h : Q ⟨f, bx1, lv1, gen1⟩) : CC P C n ⟨bx0, bx1, lv0, lv1, gen0, gen1⟩ ops c Q [] i f true :=
  CC.nil_ (S := ⟨bx0, bx1, lv0, lv1, gen0, gen1⟩) h
theorem ccPu (h1 : Pu P C n ⟨restr f (slotsOf op), bx1, lv1, gen1⟩ ⟨some d, op, ty, pos, af, none⟩ a) (h0 : Pu P C n ⟨restr f (slotsOf op), bx0, lv0, gen0⟩ ⟨some d, op, ty, pos, af, none⟩ a)
    (hi : ops[i]? = some ⟨some d, op, ty, pos, af, none⟩) (hc : Nat.beq i c = false) (b0 : behindB .any ops i c = false) (b1 : behindB .any ops c i = false) (hd : Nat.blt d n = true)
    (h : CC P C n ⟨bx0, bx1, lv0, lv1, gen0, gen1⟩ ops c Q rest (i + 1) ((d, a) :: f) ph) : CC P C n ⟨bx0, bx1, lv0, lv1, gen0, gen1⟩ ops c Q (⟨some d, op, ty, pos, af, none⟩ :: rest) i f ph :=
  ccPu_ (S := ⟨bx0, bx1, lv0, lv1, gen0, gen1⟩) h1 h0 hi hc b0 b1 hd h
theorem ccPu0 (h0 : Pu P C n ⟨restr f (slotsOf op), bx0, lv0, gen0⟩ ⟨some d, op, ty, pos, af, none⟩ a)
    (hi : ops[i]? = some ⟨some d, op, ty, pos, af, none⟩) (hc : Nat.beq i c = false) (b0 : behindB .any ops i c = false) (b1 : behindB .any ops c i = true) (hd : Nat.blt d n = true)
    (h : CC P C n ⟨bx0, bx1, lv0, lv1, gen0, gen1⟩ ops c Q rest (i + 1) ((d, a) :: f) false) : CC P C n ⟨bx0, bx1, lv0, lv1, gen0, gen1⟩ ops c Q (⟨some d, op, ty, pos, af, none⟩ :: rest) i f false :=
  ccPu0_ (S := ⟨bx0, bx1, lv0, lv1, gen0, gen1⟩) h0 hi hc b0 b1 hd h
theorem ccX (hx : ∀ g, WO P C n ops (fun e st => e = .normal ∧ st = ⟨(d, a) :: (restr f (slotsOf op) ++ g), bx1, lv1, gen1⟩) [⟨some d, op, ty, pos, af, none⟩] ⟨restr f (slotsOf op) ++ g, bx0, lv0, gen0⟩)
    (hi : ops[i]? = some ⟨some d, op, ty, pos, af, none⟩) (hc : Nat.beq i c = true) (hd : Nat.blt d n = true) (h : CC P C n ⟨bx0, bx1, lv0, lv1, gen0, gen1⟩ ops c Q rest (i + 1) ((d, a) :: f) true) : CC P C n ⟨bx0, bx1, lv0, lv1, gen0, gen1⟩ ops c Q (⟨some d, op, ty, pos, af, none⟩ :: rest) i f false :=
  ccX_ (S := ⟨bx0, bx1, lv0, lv1, gen0, gen1⟩) hx hi hc hd h
end
end Go.Ab
namespace Go.Ab
open Go.RowKit
/-! ### whatever the states are: with paths in place of edges -/
section
variable {P : Program} {ops : Array Oper} {md : Region.Mode} {m : Nat} {S E : Type} {Y : Nat → E → S → Prop} {ef : Nat → E → S → S}
def loose (md : Region.Mode) (ops : Array Oper) (i j : Nat) : Prop := reachB md ops ops.size i j = false ∧ reachB md ops ops.size j i = false
theorem behindB_of {j i : Nat} {oj : Oper} {e : Edge} (hj : ops[j]? = some oj) (he : e ∈ oj.after) (hb : Region.binds md e = true) (h : e.on = i) : behindB md ops j i = true := by
  unfold behindB
  rw [hj]
  exact List.any_eq_true.2 ⟨e, by simpa using he, by simp [hb, h]⟩
theorem reach_behind {j i : Nat} (h : reachB md ops ops.size j i = false) (hj : j < ops.size) : behindB md ops j i = false := by
  cases q : ops.size with
  | zero => omega
  | succ k =>
    rw [q] at h
    simp only [reachB, Bool.or_eq_false_iff] at h
    exact h.1
theorem ready_loose {i j : Nat} {listed : Array Bool} (hc : Closed md ops listed) (hi : i ∈ Region.ready md ops listed) (hj : listed.getD j true = false) : reachB md ops ops.size i j = false := by
  obtain ⟨_, oi, hoi, hall⟩ := mem_ready.1 hi
  cases q : reachB md ops ops.size i j with
  | false => rfl
  | true =>
    have := reach_listed hc _ i j q fun o ho e he hb => by rw [hoi] at ho; cases ho; exact hall e he hb
    rw [unlisted hj] at this
    cases this
theorem wpG_firstR {Q : S → Prop} {i : Nat} {oi : Oper} {e : E} (hw : waitT md ops m = true) (him : i < m) (hi : ops[i]? = some oi) :
    ∀ (fuel : Nat) (listed : Array Bool) (σ : S), Closed md ops listed →
      (∀ j oj, ops[j]? = some oj → j ≠ i → j < m → listed.getD j true = false → reachB md ops ops.size j i = false → Swap Y ef i j) →
      i ∈ Region.ready md ops listed → Y i e σ → wpG Y ef m md ops Q fuel (listed.setIfInBounds i true) (ef i e σ) → wpG Y ef m md ops Q (fuel + 1) listed σ := by
  have unl : ∀ {listed : Array Bool}, i ∈ Region.ready md ops listed → listed.getD i false = false := fun hr => unlisted (mem_ready.1 hr).1
  intro fuel
  induction fuel with
  | zero =>
    intro listed σ hc _ hr hy H
    refine ⟨fun h => (by rw [h] at hr; cases hr), fun j hj => ?_⟩
    by_cases hji : j = i
    · subst hji; exact ⟨e, hy, H⟩
    · exfalso
      obtain ⟨⟨_, h1, h2⟩, _⟩ := H
      have hj1 := (mem_ready.1 hj).1
      by_cases hjm : j < m
      · have := h1 j hjm
        rw [getD_set_ne false (Ne.symm hji)] at this
        rw [unlisted hj1] at this
        cases this
      · have := waitsT hw (by omega) (show i < j by omega) hc hj
        rw [unl hr] at this
        cases this
  | succ fuel ih =>
    intro listed σ hc hfree hr hy H
    refine ⟨fun h => (by rw [h] at hr; cases hr), fun j hj => ?_⟩
    by_cases hji : j = i
    · subst hji; exact ⟨e, hy, H⟩
    · obtain ⟨e', hy', H'⟩ := H.2 j (ready_mono hj hji)
      obtain ⟨hjun, oj, hoj, hall⟩ := mem_ready.1 hj
      have hnot : reachB md ops ops.size j i = false := ready_loose hc hj (mem_ready.1 hr).1
      have hjm : j < m := by
        rcases Nat.lt_or_ge j m with h | h
        · exact h
        · have := waitsT hw h (show i < j by omega) hc hj
          rw [unl hr] at this
          cases this
      obtain ⟨s1, s2, s3⟩ := hfree j oj hoj hji hjm hjun hnot e e' σ hy hy'
      have hfree' : ∀ k ok, ops[k]? = some ok → k ≠ i → k < m → (listed.setIfInBounds j true).getD k true = false → reachB md ops ops.size k i = false → Swap Y ef i k := fun k ok hk hki hkm hun hno => by
        refine hfree k ok hk hki hkm ?_ hno
        by_cases hjk : j = k
        · subst hjk; exact hjun
        · rw [getD_set_ne true hjk] at hun; exact hun
      refine ⟨e', s1, ih (listed.setIfInBounds j true) _ (hc.add hj) hfree' (ready_mono hr (Ne.symm hji)) s2 ?_⟩
      rw [Array.setIfInBounds_comm _ _ hji, ← s3]
      exact H'
theorem wpG_lexR {Q : S → Prop} (hw : waitT md ops m = true)
    (hsw : ∀ i j oi oj, ops[i]? = some oi → ops[j]? = some oj → i ≠ j → i < m → j < m → oi.apart ops oj = true → loose md ops i j → Swap Y ef i j) :
    ∀ (l : List Oper) (k : Nat) (listed : Array Bool) (σ : S), k + l.length = m → (∀ j, j < l.length → l[j]? = ops[k + j]?) → Closed md ops listed →
    listed.size = ops.size → (∀ j, j < k → listed.getD j false = true) → (∀ j, k ≤ j → j < ops.size → listed.getD j true = false) →
    lexE md ops l.length k listed = true → ceG Y ef Q l k σ → wpG Y ef m md ops Q l.length listed σ
  | [], k, listed, σ, hk, _, _, hs, h1, h2, _, h => ⟨⟨hs, fun j hj => h1 j (by simp at hk; omega), fun j hj hj' => h2 j (by simp at hk; omega) hj'⟩, h⟩
  | o :: l, k, listed, σ, hk, hl, hc, hs, h1, h2, hB, h => by
    have h0 : ops[k]? = some o := by simpa using (hl 0 (by simp)).symm
    have hks : k < ops.size := (Array.getElem?_eq_some_iff.1 h0).1
    simp only [List.length_cons, lexE, Bool.and_eq_true] at hB
    obtain ⟨⟨hr, hf⟩, hB'⟩ := hB
    have hr' : k ∈ Region.ready md ops listed := by simpa using hr
    obtain ⟨e, hy, hK⟩ := h
    have hkm : k < m := by simp at hk; omega
    refine wpG_firstR hw hkm h0 l.length listed σ hc (fun j oj hoj hjk hjm hun hno => hsw k j o oj h0 hoj (Ne.symm hjk) hkm hjm (Region.free_spec h0 hf j oj hoj hjk hun fun e he hb heq => ?_) ⟨ready_loose hc hr' hun, hno⟩) hr' hy
      (wpG_lexR hw hsw l (k + 1) _ _ (by simp at hk; omega) (fun j hj => by have := hl (j + 1) (by simpa using hj); simpa [Nat.add_assoc, Nat.add_comm 1 j] using this) (hc.add hr') (by simpa using hs) (fun j hj => ?_) (fun j hj hj' => ?_) hB' hK)
    · have h3 := reach_behind hno (Array.getElem?_eq_some_iff.1 hoj).1
      rw [behindB_of hoj he hb heq] at h3
      cases h3
    · rcases Nat.lt_succ_iff_lt_or_eq.1 hj with hlt | rfl
      · exact getD_set_true (h1 j hlt)
      · simp [hs, hks]
    · rw [getD_set_ne true (by omega)]
      exact h2 j (by omega) hj'
end
/-! ### what a renumbering leaves as it is -/
mutual
theorem ren_fix {o o' : List Nat} (h : ∀ g, pos o g = some g → pos o' g = some g) : ∀ a, ren o a = a → ren o' a = a
  | .own g es, e => by
    simp only [ren] at e ⊢
    cases q : pos o g with
    | none => rw [q] at e; cases e
    | some i =>
      rw [q] at e
      simp only [A.own.injEq, and_true] at e
      subst e
      rw [h _ q]
  | .ptr g off, e => by
    simp only [ren] at e ⊢
    cases q : pos o g with
    | none => rw [q] at e; cases e
    | some i =>
      rw [q] at e
      simp only [A.ptr.injEq, and_true] at e
      subst e
      rw [h _ q]
  | .xs g es, e => by
    simp only [ren] at e ⊢
    cases q : pos o g with
    | none => rw [q] at e; cases e
    | some i =>
      rw [q] at e
      simp only [A.xs.injEq, and_true] at e
      subst e
      rw [h _ q]
  | .xp g i off l, e => by
    simp only [ren] at e ⊢
    cases q : pos o g with
    | none => rw [q] at e; cases e
    | some j =>
      rw [q] at e
      simp only [A.xp.injEq, and_true] at e
      subst e
      rw [h _ q]
  | .mp g es, e => by
    simp only [ren] at e ⊢
    cases q : pos o g with
    | none => rw [q] at e; cases e
    | some i =>
      rw [q] at e
      simp only [A.mp.injEq, and_true] at e
      subst e
      rw [h _ q]
  | .mq g es, e => by
    simp only [ren] at e ⊢
    cases q : pos o g with
    | none => rw [q] at e; cases e
    | some i =>
      rw [q] at e
      simp only [A.mq.injEq, and_true] at e
      subst e
      rw [h _ q]
  | .mo g es hole ob, e => by
    simp only [ren] at e ⊢
    cases q : pos o g with
    | none => rw [q] at e; cases e
    | some i =>
      rw [q] at e
      simp only [A.mo.injEq, and_true] at e
      subst e
      rw [h _ q]
  | .lk g n c v, e => by
    simp only [ren] at e ⊢
    cases q : pos o g with
    | none => rw [q] at e; cases e
    | some i =>
      rw [q] at e
      simp only [A.lk.injEq, and_true] at e
      subst e
      rw [h _ q]
  | .ow g es v, e => by
    simp only [ren] at e ⊢
    cases q : pos o g with
    | none => rw [q] at e; cases e
    | some i =>
      rw [q] at e
      simp only [A.ow.injEq, and_true] at e
      subst e
      rw [h _ q]
  | .sb g n c, e => by
    simp only [ren] at e ⊢
    cases q : pos o g with
    | none => rw [q] at e; cases e
    | some i =>
      rw [q] at e
      simp only [A.sb.injEq, and_true] at e
      subst e
      rw [h _ q]
  | .np g T u, e => by
    simp only [ren] at e ⊢
    cases q : pos o g with
    | none => rw [q] at e; cases e
    | some i =>
      rw [q] at e
      simp only [A.np.injEq, and_true] at e
      subst e
      rw [h _ q]
  | .bf g T s, e => by
    simp only [ren] at e ⊢
    cases q : pos o g with
    | none => rw [q] at e; cases e
    | some i =>
      rw [q] at e
      simp only [A.bf.injEq, and_true] at e
      subst e
      rw [h _ q]
  | .agg l, e => by simp only [ren, A.agg.injEq] at e ⊢; exact renL_fix h l e
  | .tup l, e => by simp only [ren, A.tup.injEq] at e ⊢; exact renL_fix h l e
  | .row l, e => by simp only [ren, A.row.injEq] at e ⊢; exact renL_fix h l e
  | .clo f l, e => by simp only [ren, A.clo.injEq, true_and] at e ⊢; exact renL_fix h l e
  | .bnd f l, e => by simp only [ren, A.bnd.injEq, true_and] at e ⊢; exact renL_fix h l e
  | .d _, _ => rfl
  | .ag _, _ => rfl
  | .rowd _, _ => rfl
  | .ni, _ => rfl
  | .fl _, _ => rfl
  | .any, _ => rfl
theorem renL_fix {o o' : List Nat} (h : ∀ g, pos o g = some g → pos o' g = some g) : ∀ l, renL o l = l → renL o' l = l
  | [], _ => rfl
  | a :: l, e => by
    simp only [renL, List.cons.injEq] at e ⊢
    exact ⟨ren_fix h a e.1, renL_fix h l e.2⟩
end
def monoB (o o' : List Nat) : Bool := (List.range o.length).all fun g => !(pos o g == some g) || pos o' g == some g
theorem monoB_spec {o o' : List Nat} (h : monoB o o' = true) (g : Nat) (hg : pos o g = some g) : pos o' g = some g := by
  have hlt := (List.getElem?_eq_some_iff.1 (pos_some hg)).1
  have := List.all_eq_true.1 h g (List.mem_range.2 hlt)
  simp only [hg, beq_self_eq_true, Bool.not_true, Bool.false_or, beq_iff_eq] at this
  exact this
end Go.Ab
namespace Go.Ab
open Go.RowKit
section
variable {P : Program} {C : Ctx} {n : Nat} {ops : Array Oper} {Q : Exit → St → Prop} {f : List (Nat × A)} {bx : List (Nat × List A)} {lv : List Nat} {gen : Nat}
end
end Go.Ab
namespace Go.Ab
open Go.RowKit
structure ParD where
  bxF : Nat → List (Nat × List A)
  bxT : Nat → List (Nat × List A)
  lv : Nat → List Nat
  gen : Nat → Nat
  ord : Nat → List Nat
  g0 : Nat
  z : List A
  cs : List Nat
  al : Nat
  R : List PanicEntry → Prop
def ParD.bx (S : ParD) (k : Nat) (b : Bool) : List (Nat × List A) := bif b then S.bxT k else S.bxF k
abbrev parL (bxs : List (List (Nat × List A))) (lvs : List (List Nat)) (gens : List Nat) (cs : List Nat) (al : Nat) : ParD := ⟨fun _ => [], fun k => bxs.getD k [], fun k => lvs.getD k [], fun k => gens.getD k 0, fun _ => [], 0, [], cs, al, fun _ => False⟩
def alw (S : ParD) (ops : Array Oper) (i k : Nat) (b : Bool) : Bool :=
  ((List.range S.cs.length).all fun j => bif Nat.blt j k then !reachB .any ops ops.size (S.cs.getD j 0) i else !reachB .any ops ops.size i (S.cs.getD j 0)) &&
  (bif b then !reachB .any ops ops.size S.al i else (Nat.blt S.al ops.size && !reachB .any ops ops.size i S.al))
theorem alwNo {S : ParD} {ops : Array Oper} {i k : Nat} {b : Bool} (h : alw S ops i k b = true) (h' : alw S ops i k b = false) : False := by rw [h] at h'; cases h'
section
variable {P : Program} (T : Tab P) {C : Ctx} {n : Nat} (S : ParD) {ops : Array Oper}
abbrev SD := Fr' × Nat × Bool
def SmD (C : Ctx) (n : Nat) (S : ParD) (b0 : Bool) (σ : SD) (act : Act) (w : World) : Prop :=
  (b0 = true → σ.2.2 = true) ∧ act.defers = C.ds ∧ ∃ G, SimF C n (S.bx σ.2.1 σ.2.2) (S.lv σ.2.1) (S.gen σ.2.1) σ.1 G act.tmps w ∧ (σ.2.2 = false → ∀ t a, σ.1 t = some a → ren (S.ord σ.2.1) a = a)
def XEd (P : Program) (C : Ctx) (n : Nat) (S : ParD) (ops : Array Oper) (o : Oper) (a : A) (k : Nat) (b : Bool) (φ : Fr') : Prop :=
  o.guard = none ∧ ∃ p, (∀ t x, look p t = some x → φ t = some x ∧ t ∈ o.looksAt ops) ∧
    ∀ g, WO P C n ops (fun e st => (e = .normal ∧ st = St.put ⟨p ++ g, S.bx (k + 1) b, S.lv (k + 1), S.gen (k + 1)⟩ o.dst a) ∨ ∃ c, e = .panic c ∧ S.R c) [o] ⟨p ++ g, S.bx k b, S.lv k, S.gen k⟩
def YD (P : Program) (T : Tab P) (C : Ctx) (n : Nat) (S : ParD) (ops : Array Oper) (i : Nat) (a : A) (σ : SD) : Prop :=
  ∃ o, ops[i]? = some o ∧ dstOK n o.dst = true ∧ σ.2.1 ≤ S.cs.length ∧ alw S ops i σ.2.1 σ.2.2 = true ∧
    ((S.cs[σ.2.1]? = some i ∧ i ≠ S.al ∧ (∀ b, alw S ops i σ.2.1 b = true → XEd P C n S ops o a σ.2.1 b σ.1) ∧ (alw S ops i σ.2.1 false = true → ren (S.ord (σ.2.1 + 1)) a = a)) ∨
     (i ∉ S.cs ∧ i = S.al ∧ σ.2.2 = false ∧ o.guard = none ∧ a = .ptr S.g0 0 ∧ ∃ e d dt, o.op = .alloc e ∧ o.dst = some d ∧ look' T.l e = some dt ∧ S.z = dt.z.map fun v => A.d (.v v)) ∨
     (i ∉ S.cs ∧ i ≠ S.al ∧ ∀ k b, k ≤ S.cs.length → alw S ops i k b = true → YA P C n (S.bx k b) (S.lv k) (S.gen k) ops o a σ.1 ∧ (b = false → ren (S.ord k) a = a)))
def efD (S : ParD) (ops : Array Oper) (i : Nat) (a : A) (σ : SD) : SD :=
  match ops[i]? with
  | none => σ
  | some o => (putF σ.1 o.dst a, (if S.cs[σ.2.1]? = some i then σ.2.1 + 1 else σ.2.1), if i = S.al then true else σ.2.2)
variable {T} {S}
theorem XEd_put {o : Oper} {a : A} {k : Nat} {b : Bool} {φ : Fr'} {dst : Option Nat} {x : A} (hd : ∀ d, dst = some d → d ∉ o.looksAt ops) : XEd P C n S ops o a k b (putF φ dst x) ↔ XEd P C n S ops o a k b φ := by
  constructor
  · rintro ⟨h0, p, h1, h2⟩
    exact ⟨h0, p, fun t y hy => ⟨(putF_key hd (h1 t y hy).2).symm.trans (h1 t y hy).1, (h1 t y hy).2⟩, h2⟩
  · rintro ⟨h0, p, h1, h2⟩
    exact ⟨h0, p, fun t y hy => ⟨(putF_key hd (h1 t y hy).2).trans (h1 t y hy).1, (h1 t y hy).2⟩, h2⟩
theorem alw_step {i k c : Nat} {b : Bool} (h : S.cs[k]? = some c) (hl : loose .any ops i c) : alw S ops i (k + 1) b = alw S ops i k b := by
  unfold alw
  congr 1
  rw [Bool.eq_iff_iff, List.all_eq_true, List.all_eq_true]
  have hk : S.cs.getD k 0 = c := by simp [List.getD_eq_getElem?_getD, h]
  have key : ∀ j, (bif Nat.blt j (k + 1) then !reachB .any ops ops.size (S.cs.getD j 0) i else !reachB .any ops ops.size i (S.cs.getD j 0)) = (bif Nat.blt j k then !reachB .any ops ops.size (S.cs.getD j 0) i else !reachB .any ops ops.size i (S.cs.getD j 0)) := fun j => by
    rcases Nat.lt_trichotomy j k with hj | rfl | hj
    · have h1 : Nat.blt j (k + 1) = true := by simp [Nat.blt_eq]; omega
      have h2 : Nat.blt j k = true := by simp [Nat.blt_eq]; omega
      rw [h1, h2]
    · have h1 : Nat.blt j (j + 1) = true := by simp [Nat.blt_eq]
      have h2 : Nat.blt j j = false := by cases q : Nat.blt j j with | false => rfl | true => simp [Nat.blt_eq] at q
      rw [h1, h2, hk, hl.1, hl.2]
      rfl
    · have h1 : Nat.blt j (k + 1) = false := by cases q : Nat.blt j (k + 1) with | false => rfl | true => simp [Nat.blt_eq] at q; omega
      have h2 : Nat.blt j k = false := by cases q : Nat.blt j k with | false => rfl | true => simp [Nat.blt_eq] at q; omega
      rw [h1, h2]
  exact ⟨fun h j hj => by rw [← key]; exact h j hj, fun h j hj => by rw [key]; exact h j hj⟩
theorem alw_al {i k : Nat} (hlt : S.al < ops.size) (hl : loose .any ops i S.al) : alw S ops i k true = alw S ops i k false := by
  unfold alw
  have h : Nat.blt S.al ops.size = true := by rw [Nat.blt_eq]; exact hlt
  rw [hl.1, hl.2, h]
  rfl
theorem loose.symm {md : Region.Mode} {i j : Nat} (h : loose md ops i j) : loose md ops j i := ⟨h.2, h.1⟩
theorem efD_at {i : Nat} {o : Oper} (h : ops[i]? = some o) (a : A) (σ : SD) : efD S ops i a σ = (putF σ.1 o.dst a, (if S.cs[σ.2.1]? = some i then σ.2.1 + 1 else σ.2.1), if i = S.al then true else σ.2.2) := by unfold efD; rw [h]
theorem alw_pull {i k c : Nat} {b : Bool} (h : S.cs[k]? = some c) (hl : loose .any ops i c) (ha : alw S ops i (k + 1) b = true) : alw S ops i k b = true := by rw [← alw_step h hl]; exact ha
theorem alw_push {i k c : Nat} {b : Bool} (h : S.cs[k]? = some c) (hl : loose .any ops i c) (ha : alw S ops i k b = true) : alw S ops i (k + 1) b = true := by rw [alw_step h hl]; exact ha
theorem swapD (hch : ∀ k c c', S.cs[k]? = some c → S.cs[k + 1]? = some c' → reachB .any ops ops.size c' c = true) {i j : Nat} {oi oj : Oper} (hi : ops[i]? = some oi) (hj : ops[j]? = some oj) (hij : i ≠ j) (hap : oi.apart ops oj = true) (hl : loose .any ops i j) :
    Swap (YD P T C n S ops) (efD S ops) i j := by
  obtain ⟨a1, a2, a3⟩ := Oper.apart_spec hap
  rintro a b ⟨φ, k, ph⟩ ⟨oi', hi', di, hk, ai, hyi⟩ ⟨oj', hj', dj, hk2, aj, hyj⟩
  rw [hi] at hi'
  cases hi'
  rw [hj] at hj'
  cases hj'
  have hcomm : putF (putF φ oi.dst a) oj.dst b = putF (putF φ oj.dst b) oi.dst a := putF_comm φ a b a2
  have mem_of : ∀ {k c : Nat}, S.cs[k]? = some c → c ∈ S.cs := fun h => List.mem_of_getElem? h
  have klt : ∀ {k c : Nat}, S.cs[k]? = some c → k + 1 ≤ S.cs.length := fun h => (List.getElem?_eq_some_iff.1 h).1
  rw [efD_at hi] at aj hyj hk2
  simp only [efD_at hi, efD_at hj]
  simp only at hk ai hyi hk2 aj hyj
  rcases hyi with ⟨ci, nai, xi, fi⟩ | ⟨nci, ali, rfl, gi, ei, hi6⟩ | ⟨nci, nai, yi⟩
  · -- i is of the chain
    simp only [if_pos ci, if_neg nai] at aj hyj hk2
    rcases hyj with ⟨cj, _⟩ | ⟨ncj, alj, rfl, gj, ej, hj6⟩ | ⟨ncj, naj, yj⟩
    · exact absurd (hch k i j ci cj) (by rw [hl.2]; simp)
    · have hsi : loose .any ops i S.al := by rw [← alj]; exact hl
      have hlt : S.al < ops.size := by rw [← alj]; exact (Array.getElem?_eq_some_iff.1 hj).1
      have n1 : ¬ S.cs[k]? = some j := fun h => ncj (mem_of h)
      refine ⟨⟨oj, hj, dj, hk, alw_pull ci hl.symm aj, .inr (.inl ⟨ncj, alj, rfl, gj, ej, hj6⟩)⟩, ?_, ?_⟩
      · refine ⟨oi, hi, di, ?_, ?_, .inl ⟨?_, nai, fun b hb => (XEd_put a3).2 ?_, ?_⟩⟩
        all_goals simp only [if_neg n1]
        · exact hk
        · rw [if_pos alj, alw_al hlt hsi]; exact ai
        · exact ci
        · simp only [if_neg n1] at hb
          exact xi b hb
        · exact fi
      · simp only [if_pos ci, if_neg nai, if_pos alj, if_neg n1, hcomm]
        have n2 : ¬ S.cs[k + 1]? = some j := fun h => ncj (mem_of h)
        rw [if_neg n2]
    · have n1 : ¬ S.cs[k]? = some j := fun h => ncj (mem_of h)
      have n2 : ¬ S.cs[k + 1]? = some j := fun h => ncj (mem_of h)
      refine ⟨⟨oj, hj, dj, hk, alw_pull ci hl.symm aj, .inr (.inr ⟨ncj, naj, fun k b h1 h2 => ⟨(YA_put a1).1 (yj k b h1 h2).1, (yj k b h1 h2).2⟩⟩)⟩, ?_, ?_⟩
      · refine ⟨oi, hi, di, ?_, ?_, .inl ⟨?_, nai, fun b hb => (XEd_put a3).2 ?_, ?_⟩⟩
        all_goals simp only [if_neg n1]
        · exact hk
        · rw [if_neg naj]; exact ai
        · exact ci
        · simp only [if_neg n1] at hb
          exact xi b hb
        · exact fi
      · simp only [if_pos ci, if_neg nai, if_neg naj, if_neg n1, if_neg n2, hcomm]
  · -- i is the allocation
    have n1 : ¬ S.cs[k]? = some i := fun h => nci (mem_of h)
    simp only [if_neg n1, if_pos ali] at aj hyj hk2
    have hsj : loose .any ops j S.al := by rw [← ali]; exact hl.symm
    have hlt : S.al < ops.size := by rw [← ali]; exact (Array.getElem?_eq_some_iff.1 hi).1
    rcases hyj with ⟨cj, naj, xj, fj⟩ | ⟨_, alj, h, _⟩ | ⟨ncj, naj, yj⟩
    · have n2 : ¬ S.cs[k + 1]? = some i := fun h => nci (mem_of h)
      refine ⟨⟨oj, hj, dj, hk, by rw [← alw_al hlt hsj]; exact aj, .inl ⟨cj, naj, fun b hb => (XEd_put a1).1 (xj b hb), fj⟩⟩, ?_, ?_⟩
      · refine ⟨oi, hi, di, ?_, ?_, .inr (.inl ⟨nci, ali, ?_, gi, ei, hi6⟩)⟩
        all_goals simp only [if_pos cj, if_neg naj]
        · exact klt cj
        · exact alw_push cj hl ai
      · simp only [if_neg n1, if_pos ali, if_pos cj, if_neg naj, if_neg n2, hcomm]
    · exact absurd (ali.trans alj.symm) hij
    · have n3 : ¬ S.cs[k]? = some j := fun h => ncj (mem_of h)
      refine ⟨⟨oj, hj, dj, hk, by rw [← alw_al hlt hsj]; exact aj, .inr (.inr ⟨ncj, naj, fun k b h1 h2 => ⟨(YA_put a1).1 (yj k b h1 h2).1, (yj k b h1 h2).2⟩⟩)⟩, ?_, ?_⟩
      · refine ⟨oi, hi, di, ?_, ?_, .inr (.inl ⟨nci, ali, ?_, gi, ei, hi6⟩)⟩
        all_goals simp only [if_neg n3, if_neg naj]
        · exact hk
        · exact ai
      · simp only [if_neg n1, if_pos ali, if_neg n3, if_neg naj, hcomm]
  · -- i leaves the ghost
    have n1 : ¬ S.cs[k]? = some i := fun h => nci (mem_of h)
    simp only [if_neg n1, if_neg nai] at aj hyj hk2
    rcases hyj with ⟨cj, naj, xj, fj⟩ | ⟨ncj, alj, rfl, gj, ej, hj6⟩ | ⟨ncj, naj, yj⟩
    · have n2 : ¬ S.cs[k + 1]? = some i := fun h => nci (mem_of h)
      refine ⟨⟨oj, hj, dj, hk, aj, .inl ⟨cj, naj, fun b hb => (XEd_put a1).1 (xj b hb), fj⟩⟩, ?_, ?_⟩
      · refine ⟨oi, hi, di, ?_, ?_, .inr (.inr ⟨nci, nai, fun k b h1 h2 => ⟨(YA_put a3).2 (yi k b h1 h2).1, (yi k b h1 h2).2⟩⟩)⟩
        all_goals simp only [if_pos cj, if_neg naj]
        · exact klt cj
        · exact alw_push cj hl ai
      · simp only [if_neg n1, if_neg nai, if_pos cj, if_neg naj, if_neg n2, hcomm]
    · have n3 : ¬ S.cs[k]? = some j := fun h => ncj (mem_of h)
      have hsi : loose .any ops i S.al := by rw [← alj]; exact hl
      have hlt : S.al < ops.size := by rw [← alj]; exact (Array.getElem?_eq_some_iff.1 hj).1
      refine ⟨⟨oj, hj, dj, hk, aj, .inr (.inl ⟨ncj, alj, rfl, gj, ej, hj6⟩)⟩, ?_, ?_⟩
      · refine ⟨oi, hi, di, ?_, ?_, .inr (.inr ⟨nci, nai, fun k b h1 h2 => ⟨(YA_put a3).2 (yi k b h1 h2).1, (yi k b h1 h2).2⟩⟩)⟩
        all_goals simp only [if_neg n3, if_pos alj]
        · exact hk
        · rw [alw_al hlt hsi]; exact ai
      · simp only [if_neg n1, if_neg nai, if_neg n3, if_pos alj, hcomm]
    · have n3 : ¬ S.cs[k]? = some j := fun h => ncj (mem_of h)
      refine ⟨⟨oj, hj, dj, hk, aj, .inr (.inr ⟨ncj, naj, fun k b h1 h2 => ⟨(YA_put a1).1 (yj k b h1 h2).1, (yj k b h1 h2).2⟩⟩)⟩, ?_, ?_⟩
      · refine ⟨oi, hi, di, ?_, ?_, .inr (.inr ⟨nci, nai, fun k b h1 h2 => ⟨(YA_put a3).2 (yi k b h1 h2).1, (yi k b h1 h2).2⟩⟩)⟩
        all_goals simp only [if_neg n3, if_neg naj]
        · exact hk
        · exact ai
      · simp only [if_neg n1, if_neg nai, if_neg n3, if_neg naj, hcomm]
theorem WO.mono1 {o : Oper} (hg : o.guard = none) {st : St} {Q1 Q2 : Exit → St → Prop} (hl : ∀ e st, Q1 e st → e ≠ .outgrown) (hq : ∀ e st, Q1 e st → Q2 e st) (h : WO P C n ops Q1 [o] st) : WO P C n ops Q2 [o] st := by
  intro tmps w hs
  have hw : Region.wanted o (yielded ops tmps) = true := by simp [Region.wanted, hg]
  have h := h tmps w hs
  simp only [wpL, hw, if_true] at h ⊢
  refine Oper.wp_either (fun c a w ⟨h1, st', h2, h3⟩ => ⟨h1, st', h2, hq _ _ h3⟩) (fun hlo => by obtain ⟨_, _, hq0⟩ := hlo; obtain ⟨_, st', _, he⟩ := hq0; exact hl _ _ he rfl) (fun act2 w2 ⟨h1, st', h2, h3⟩ => ⟨h1, st', h2, hq _ _ h3⟩) h
theorem WO.one_ {o : Oper} (hg : o.guard = none) {st st1 : St} {G : Gh} {tmps : Array Value} {w : World} {R : List PanicEntry → Prop} {Q' : Exit → Act → World → Prop} (hR : ∀ c act w, R c → act.defers = C.ds → (∃ st, Sim C n st act.tmps w) → Q' (.panic c) act w) (h : WO P C n ops (fun e st => (e = .normal ∧ st = st1) ∨ ∃ c, e = .panic c ∧ R c) [o] st) (hs : SimG C n st G tmps w) :
    o.wp P ⟨tmps, C.ds⟩ w (fun act w => act.defers = C.ds ∧ ∃ G, SimG C n st1 G act.tmps w) Q' := by
  have hw : Region.wanted o (yielded ops tmps) = true := by simp [Region.wanted, hg]
  have h := h tmps w ⟨G, hs⟩
  simp only [wpL, hw, if_true] at h
  refine Oper.wp_either (fun c a w hq => ?_) (fun hl => ?_) (fun act2 w2 hq => ?_) h
  · obtain ⟨h1, st', h2, he | ⟨c', he, hc⟩⟩ := hq
    · cases he.1
    · cases he
      exact hR c a w hc h1 ⟨st', h2⟩
  · obtain ⟨_, _, hq⟩ := hl
    obtain ⟨_, st', _, he | ⟨c', he, hc⟩⟩ := hq
    · cases he.1
    · cases he
  · obtain ⟨hdf, st', ⟨G', hs2⟩, he | ⟨c', he, hc⟩⟩ := hq
    · obtain ⟨_, rfl⟩ := he
      exact ⟨hdf, G', hs2⟩
    · cases he
theorem simF_lt {bx : List (Nat × List A)} {lv : List Nat} {gen : Nat} {φ : Fr'} {G : Gh} {tmps : Array Value} {w : World} (hs : SimF C n bx lv gen φ G tmps w) (t : Nat) (x : A) (hx : φ t = some x) : t < n := by
  obtain ⟨v, h1, _⟩ := hs.2 t x hx
  have := (Array.getElem?_eq_some_iff.1 h1).1
  rw [hs.1.size] at this
  exact this
theorem look_all {φ : Fr'} {p : List (Nat × A)} (hlt : ∀ t x, φ t = some x → t < n) (hp : ∀ t x, look p t = some x → φ t = some x) (t : Nat) : look (p ++ fallF n φ) t = φ t := by
  rw [look_app]
  cases q : look p t with
  | some x => exact (hp t x q).symm
  | none =>
    simp only
    unfold fallF
    rw [look_fall]
    cases e : φ t with
    | none => split <;> rfl
    | some x => rw [if_pos (List.mem_range.2 (hlt t x e))]
theorem putF_look {φ : Fr'} {f : List (Nat × A)} (h : ∀ t, look f t = φ t) {d : Nat} {a : A} {t : Nat} : look ((d, a) :: f) t = putF φ (some d) a t := by
  rw [look_cons]
  simp only [putF]
  by_cases e : t = d
  · subst e
    rw [if_pos rfl, if_pos rfl]
  · rw [if_neg e, if_neg (Ne.symm e), h]
def okD1 (S : ParD) (nb k : Nat) : Prop := (orderB (S.ord k) (S.gen k) nb = true ∧ pos (S.ord k) (S.gen k) = some S.g0) ∧ SubBR (S.ord k) ((S.gen k, S.z) :: S.bxF k) (S.bxT k) ∧ lvR (S.ord k) (S.lv k) (S.lv k) = true
def okD (S : ParD) (nb : Nat) : Nat → Prop
  | 0 => okD1 S nb 0
  | k + 1 => okD1 S nb (k + 1) ∧ monoB (S.ord k) (S.ord (k + 1)) = true ∧ okD S nb k
theorem okD.at {nb : Nat} : ∀ {m : Nat}, okD S nb m → ∀ k, k ≤ m → okD1 S nb k
  | 0, h, k, hk => by
    obtain rfl : k = 0 := by omega
    exact h
  | m + 1, h, k, hk => by
    rcases Nat.lt_or_ge k (m + 1) with hlt | hge
    · exact okD.at h.2.2 k (by omega)
    · obtain rfl : k = m + 1 := by omega
      exact h.1
theorem okD.mono {nb : Nat} : ∀ {m : Nat}, okD S nb m → ∀ k, k < m → monoB (S.ord k) (S.ord (k + 1)) = true
  | 0, _, k, hk => absurd hk (Nat.not_lt_zero _)
  | m + 1, h, k, hk => by
    rcases Nat.lt_or_ge k m with hlt | hge
    · exact okD.mono h.2.2 k hlt
    · obtain rfl : k = m := by omega
      exact h.2.1
theorem soundD {nb : Nat} [hnb : NB C nb] (b0 : Bool) (hok : b0 = false → okD S nb S.cs.length) (i : Nat) (a : A) (σ : SD) (act : Act) (w : World) (K : Act → World → Prop) {Q' : Exit → Act → World → Prop} (hR : ∀ c act w, S.R c → act.defers = C.ds → (∃ st, Sim C n st act.tmps w) → Q' (.panic c) act w) (hs : SmD C n S b0 σ act w) (hy : YD P T C n S ops i a σ) (hK : ∀ act w, SmD C n S b0 (efD S ops i a σ) act w → K act w) : wpOp P ops Q' i K act w := by
  obtain ⟨tmps, dfs⟩ := act
  obtain ⟨hb0, rfl, G, hs, hfix⟩ := hs
  obtain ⟨φ, k, ph⟩ := σ
  obtain ⟨o, ho, hd, hkl, hal, hy⟩ := hy
  rw [efD_at ho] at hK
  simp only at hs hfix hkl hal hy hK hb0
  unfold wpOp
  simp only [ho]
  rcases hy with ⟨hc, nal, hx, hr⟩ | ⟨nc, hal', rfl, hg, rfl, e, d, dt, hop, hdst, he, hz⟩ | ⟨nc, nal, hya⟩
  · obtain ⟨hg, p, hp, hx⟩ := hx ph hal
    rw [if_pos hc, if_neg nal] at hK
    have hw : Region.wanted o (yielded ops tmps) = true := by simp [Region.wanted, hg]
    rw [hw, if_pos rfl]
    refine .inl ?_
    have hlook := look_all (simF_lt hs) (fun t x hx => (hp t x hx).1)
    have hs' := hs.toG (f := p ++ fallF n φ) fun t x hx => by rw [← hlook]; exact hx
    refine Oper.wp_mono (fun act2 w2 ⟨hdf, G', hs2⟩ => hK act2 w2 ⟨hb0, hdf, G', ?_, fun hph t x hx => ?_⟩) (WO.one_ hg hR (hx (fallF n φ)) hs')
    · show SimF C n (S.bx (k + 1) ph) (S.lv (k + 1)) (S.gen (k + 1)) (putF φ o.dst a) G' act2.tmps w2
      cases hdst : o.dst with
      | none =>
        rw [hdst] at hs2
        refine ⟨{ hs2 with frame := fun t a ha => by simp [look] at ha }, fun t x hx => hs2.frame t x ?_⟩
        show look (p ++ fallF n φ) t = some x
        rw [hlook]
        exact hx
      | some d =>
        rw [hdst] at hs2
        refine ⟨{ hs2 with frame := fun t a ha => by simp [look] at ha }, fun t x hx => hs2.frame t x ?_⟩
        show look ((d, a) :: (p ++ fallF n φ)) t = some x
        rw [putF_look hlook]
        exact hx
    · simp only at hph hx
      have hbf : b0 = false := by cases b0 with | false => rfl | true => rw [hb0 rfl] at hph; cases hph
      have hm := monoB_spec ((hok hbf).mono k (List.getElem?_eq_some_iff.1 hc).1)
      cases hdst : o.dst with
      | none => rw [hdst] at hx; exact ren_fix hm x (hfix hph t x hx)
      | some d =>
        rw [hdst] at hx
        simp only [putF] at hx
        split at hx
        · cases hx; exact hr (by rw [← hph]; exact hal)
        · exact ren_fix hm x (hfix hph t x hx)
  · have hkc : ¬ S.cs[k]? = some i := fun h => nc (List.mem_of_getElem? h)
    rw [if_neg hkc, if_pos hal'] at hK
    have hw : Region.wanted o (yielded ops tmps) = true := by simp [Region.wanted, hg]
    rw [hw, if_pos rfl]
    refine .inl ?_
    have hbf : b0 = false := by cases b0 with | false => rfl | true => cases hb0 rfl
    obtain ⟨⟨hO, hpos⟩, hBR, hLR⟩ := (hok hbf).at k hkl
    have hlook : ∀ t, look (fallF n φ) t = φ t := look_all (p := []) (simF_lt hs) (fun t x hx => by simp [look] at hx)
    have hs' := hs.toG (f := fallF n φ) fun t x hx => by rw [← hlook]; exact hx
    have hwo : WO P C n ops (fun e st => (e = .normal ∧ st = St.put ⟨fallF n φ, (S.gen k, S.z) :: S.bx k false, S.lv k, S.gen k + 1⟩ o.dst (.ptr (S.gen k) 0)) ∨ ∃ c, e = .panic c ∧ False) [o] ⟨fallF n φ, S.bx k false, S.lv k, S.gen k⟩ :=
      WO.alloc T hg hd hop he (WO.nil (.inl ⟨rfl, by rw [hz]⟩))
    refine Oper.wp_mono (fun act2 w2 ⟨hdf, G', hs2⟩ => hK act2 w2 ⟨fun _ => rfl, hdf, renG (S.ord k) G', ?_, fun h => by cases h⟩) (WO.one_ (R := fun _ => False) hg (fun _ _ _ h => h.elim) hwo hs')
    simp only [orderB, Bool.and_eq_true] at hO
    obtain ⟨⟨hO1, hO2⟩, hO3⟩ := hO
    rw [hdst] at hs2 ⊢
    have h3 : SimG C n ⟨(d, .ptr S.g0 0) :: fallF n φ, S.bxT k, S.lv k, S.gen k⟩ (renG (S.ord k) G') act2.tmps w2 := by
      refine SimG.ren (gen' := S.gen k) hs2 (S.ord k) (nodup_of hO1) (Nat.le_of_ble_eq_true hO2) (fun i hi => ?_) (fun t x hx => ?_) (fun i l' hl' => ?_) (fun i hi => ?_)
      · have h4 := headB_get hO3 i (by rw [← hnb.h]; exact hi)
        simpa using h4
      · rw [look_cons] at hx
        show ∃ a, look ((d, .ptr (S.gen k) 0) :: fallF n φ) t = some a ∧ ren (S.ord k) a = x
        rw [look_cons]
        split at hx
        · rename_i e
          rw [if_pos e]
          cases hx
          exact ⟨_, rfl, by simp only [ren, hpos]⟩
        · rename_i e
          rw [if_neg e]
          rw [hlook] at hx ⊢
          exact ⟨x, hx, hfix rfl t x hx⟩
      · exact SubBR.le hBR i l' hl'
      · exact lvR_mem hLR i hi
    refine ⟨{ h3 with frame := fun t a ha => by simp [look] at ha }, fun t x hx => h3.frame t x ?_⟩
    show look ((d, _) :: fallF n φ) t = some x
    rw [putF_look hlook]
    exact hx
  · have hkc : ¬ S.cs[k]? = some i := fun h => nc (List.mem_of_getElem? h)
    rw [if_neg hkc, if_neg nal] at hK
    obtain ⟨hya, hr⟩ := hya k ph hkl hal
    have hfix' : ph = false → ∀ t x, putF φ o.dst a t = some x → ren (S.ord k) x = x := fun hph t x hx => by
      cases hdst : o.dst with
      | none => rw [hdst] at hx; exact hfix hph t x hx
      | some d =>
        rw [hdst] at hx
        simp only [putF] at hx
        split at hx
        · cases hx; exact hr hph
        · exact hfix hph t x hx
    obtain ⟨_, ⟨hw, f, hf, hp⟩ | ⟨hw, rfl⟩⟩ := hya
    · rw [wanted_of hs hw]
      simp only [if_true]
      refine .inl ?_
      have hg : Gives P o ⟨tmps, []⟩ w fun v w' => Below w.heap.size w w' ∧ Rep (enOf C G (S.gen k) w') v a := hp G tmps w (hs.toG fun t x hx => (hf t x hx).1)
      refine hg.ds.wp fun v w' ⟨hb, hr⟩ => ?_
      rw [Act.put_ds]
      exact hK _ _ ⟨hb0, rfl, G, hs.step hb hd hr, hfix'⟩
    · rw [wanted_of hs hw]
      simp only [Bool.false_eq_true, if_false]
      rw [Act.put_ds]
      exact hK _ _ ⟨hb0, rfl, G, hs.step (Below.refl _ _) hd (.tup #[] [] rfl (by simp)), hfix'⟩
def CD (P : Program) (T : Tab P) (C : Ctx) (n : Nat) (S : ParD) (ops : Array Oper) (Q : St → Prop) (l : List Oper) (i : Nat) (f : List (Nat × A)) (k : Nat) (b : Bool) : Prop :=
  ceG (YD P T C n S ops) (efD S ops) (fun σ => ∃ f', (∀ t, look f' t = σ.1 t) ∧ σ.2 = (S.cs.length, true) ∧ Q ⟨f', S.bxT S.cs.length, S.lv S.cs.length, S.gen S.cs.length⟩) l i (look f, k, b)
def chainB (ops : Array Oper) : List Nat → Bool
  | c :: c' :: r => reachB .any ops ops.size c' c && chainB ops (c' :: r)
  | _ => true
theorem chainB_spec {ops : Array Oper} : ∀ {cs : List Nat}, chainB ops cs = true → ∀ k c c', cs[k]? = some c → cs[k + 1]? = some c' → reachB .any ops ops.size c' c = true
  | [], _, k, c, c', h, _ => by simp at h
  | [_], _, k, c, c', _, h => by simp at h
  | x :: y :: r, h, k, c, c', h1, h2 => by
    simp only [chainB, Bool.and_eq_true] at h
    cases k with
    | zero =>
      simp at h1 h2
      subst h1; subst h2
      exact h.1
    | succ k => exact chainB_spec h.2 k c c' (by simpa using h1) (by simpa using h2)
def AllFix (o : List Nat) : List (Nat × A) → Prop
  | [] => True
  | (_, a) :: r => ren o a = a ∧ AllFix o r
theorem AllFix.at {o : List Nat} : ∀ {f : List (Nat × A)}, AllFix o f → ∀ t a, look f t = some a → ren o a = a
  | [], _, t, a, h => by simp [look] at h
  | (s, x) :: r, hf, t, a, h => by
    rw [look_cons] at h
    split at h
    · cases h; exact hf.1
    · exact hf.2.at t a h
theorem W.regionChain (T : Tab P) {nb : Nat} [hnb : NB C nb] {id : Nat} {l l1 l2 : List Oper} {f : List (Nat × A)} {bx : List (Nat × List A)} {lv : List Nat} {gen : Nat} {Q : Exit → St → Prop} (S : ParD) (b0 : Bool) (m : Nat) (hB : regionOKC m l.toArray = true) (hch : chainB l.toArray S.cs = true) (h1 : l.take m = l1) (h2 : l.drop m = l2)
    (hR : ∀ c st, S.R c → Q (.panic c) st) (hok : b0 = false → okD S nb S.cs.length ∧ AllFix (S.ord 0) f) (e1 : ∀ g c, look' (S.bx 0 b0) g = some c → look' bx g = some c) (e2 : S.lv 0 = lv) (e3 : Nat.ble gen (S.gen 0) = true)
    (h : CD P T C n S l.toArray (WO P C n l.toArray Q l2) l1 0 f 0 b0) : W P C n (.region id l.toArray true) Q ⟨f, bx, lv, gen⟩ := by
  subst h1; subst h2; subst e2
  intro tmps w ⟨G, hs⟩
  have hs : SimG C n ⟨f, bx, S.lv 0, S.gen 0⟩ G tmps w := SimG.later hs (g := S.gen 0) (Nat.le_of_ble_eq_true e3)
  have hs : SimG C n ⟨f, S.bx 0 b0, S.lv 0, S.gen 0⟩ G tmps w := { hs with box := fun g c hc => hs.box g c (e1 g c hc) }
  simp only [regionOKC, Bool.and_eq_true] at hB
  obtain ⟨⟨⟨hm, hw⟩, hfore⟩, hlex⟩ := hB
  have hm : m ≤ l.length := by simpa using Nat.le_of_ble_eq_true hm
  have hb : Below w.heap.size w { w with drawn := w.drawn + 1 } := (Below.refl _ w).drew
  have hs' : SimF C n (S.bx 0 b0) (S.lv 0) (S.gen 0) (look f) G tmps { w with drawn := w.drawn + 1 } := SimF.ofG (hs.evolve hb).2
  have hlen : (l.take m).length = m := by simp; omega
  refine wp_region_any T.mixed ?_
  have hsz : l.toArray.size = (l.take m).length + (l.drop m).length := by simp; omega
  rw [hsz]
  have hcl : Closed .any l.toArray (Array.replicate ((l.take m).length + (l.drop m).length) false) := fun j oj _ hl _ _ _ => by
    by_cases q : j < (l.take m).length + (l.drop m).length
    · simp only [Array.getD_eq_getD_getElem?, Array.getElem?_replicate] at hl
      rw [if_pos q] at hl
      cases hl
    · simp only [Array.getD_eq_getD_getElem?, Array.getElem?_replicate] at hl
      rw [if_neg q] at hl
      cases hl
  refine wpAny_of_G (m := m) (Sm := SmD C n S b0) (Y := YD P T C n S l.toArray) (ef := efD S l.toArray) (Q := fun σ => ∃ f', (∀ t, look f' t = σ.1 t) ∧ σ.2 = (S.cs.length, true) ∧ WO P C n l.toArray Q (l.drop m) ⟨f', S.bxT S.cs.length, S.lv S.cs.length, S.gen S.cs.length⟩)
    (fun i e σ act w K hs hy hk => soundD b0 (fun h => (hok h).1) i e σ act w K (fun c act w hc hd ⟨st, hs⟩ => ⟨hd, st, hs, hR c st hc⟩) hs hy hk) (fun listed σ act w hs hc hsp ⟨f', e1, e2, hq⟩ => ?_) _ _ (look f, 0, b0) ⟨tmps, C.ds⟩ _ ⟨fun h => h, rfl, G, hs', fun h => (hok h).2.at⟩ hcl ?_
  · obtain ⟨tmps, dfs⟩ := act
    obtain ⟨_, rfl, G, hs, _⟩ := hs
    rw [e2] at hs
    refine wpAny_tailT hw (foreB_spec hfore) (l.drop m) m listed ⟨tmps, C.ds⟩ w (Nat.le_refl _) (by simp; omega) (fun j => by simp [List.getElem?_drop]) hc hsp.1 hsp.2.1 hsp.2.2 ?_
    exact hq tmps w ⟨G, hs.toG (fun t a ha => by rw [← e1]; exact ha)⟩
  · refine wpG_lexR hw (fun i j oi oj hi hj hij him hjm hap hno => swapD (chainB_spec hch) hi hj hij hap hno) (l.take m) 0 _ _ (by rw [hlen]; omega) (fun j hj => ?_) hcl (by simp; omega) (fun j hj => by omega) (fun j _ hj => ?_) (by rw [hlen]; rw [hsz, hlen] at hlex; exact hlex) h
    · rw [hlen] at hj
      rw [Nat.zero_add]
      simp [List.getElem?_take, hj]
    · have hj' : j < l.length := by simpa using hj
      have e : min m l.length + (l.length - m) = l.length := by omega
      simp [e, hj']
variable {op : Op} {ty : TypeId} {pos : String} {af : Array Edge} {a : A} {d i k : Nat} {rest : List Oper} {f : List (Nat × A)} {Q : St → Prop} {b : Bool}
theorem CD.nil (h : Q ⟨f, S.bxT S.cs.length, S.lv S.cs.length, S.gen S.cs.length⟩) (hk : Nat.beq k S.cs.length = true) : CD P T C n S ops Q [] i f k true := by
  have := Nat.eq_of_beq_eq_true hk
  subst this
  exact ⟨f, fun _ => rfl, rfl, h⟩
def allD (p : Nat → Bool → Prop) : Nat → Prop
  | 0 => p 0 false ∧ p 0 true
  | k + 1 => p (k + 1) false ∧ p (k + 1) true ∧ allD p k
theorem allD.at {p : Nat → Bool → Prop} : ∀ {m : Nat}, allD p m → ∀ k b, k ≤ m → p k b
  | 0, h, k, b, hk => by
    obtain rfl : k = 0 := by omega
    cases b
    · exact h.1
    · exact h.2
  | m + 1, h, k, b, hk => by
    rcases Nat.lt_or_ge k (m + 1) with hlt | hge
    · exact h.2.2.at k b (by omega)
    · obtain rfl : k = m + 1 := by omega
      cases b
      · exact h.1
      · exact h.2.1
def memB (x : Nat) (l : List Nat) : Bool := l.any fun y => Nat.beq x y
theorem memB_not {x : Nat} {l : List Nat} (h : memB x l = false) : x ∉ l := fun hm => by
  have : memB x l = true := List.any_eq_true.2 ⟨x, hm, by simp⟩
  rw [h] at this
  cases this
theorem cdPu (hp : allD (fun k b => alw S ops i k b = true → Pu P C n ⟨restr f (slotsOf op), S.bx k b, S.lv k, S.gen k⟩ ⟨some d, op, ty, pos, af, none⟩ a ∧ (b = false → ren (S.ord k) a = a)) S.cs.length)
    (hi : ops[i]? = some ⟨some d, op, ty, pos, af, none⟩) (h1 : memB i S.cs = false) (h2 : Nat.beq i S.al = false) (h3 : (Nat.ble k S.cs.length && alw S ops i k b) = true) (hd : Nat.blt d n = true)
    (h : CD P T C n S ops Q rest (i + 1) ((d, a) :: f) k b) : CD P T C n S ops Q (⟨some d, op, ty, pos, af, none⟩ :: rest) i f k b := by
  simp only [Bool.and_eq_true] at h3
  have nc := memB_not h1
  have na : i ≠ S.al := fun e => by subst e; simp at h2
  refine ⟨a, ⟨_, hi, hd, Nat.le_of_ble_eq_true h3.1, h3.2, .inr (.inr ⟨nc, na, fun k b hk ha => ⟨YA.of_pu (hp.at k b hk ha).1 hd, (hp.at k b hk ha).2⟩⟩)⟩, ?_⟩
  rw [efD_at hi]
  simp only [if_neg na, if_neg (fun e => nc (List.mem_of_getElem? e) : ¬ S.cs[k]? = some i)]
  unfold CD at h
  rw [look_put] at h
  exact h
theorem cdPu' (h0 : Pu P C n ⟨restr f (slotsOf op), S.bx k b, S.lv k, S.gen k⟩ ⟨some d, op, ty, pos, af, none⟩ a) (hp : allD (fun k b => alw S ops i k b = true → Pu P C n ⟨restr f (slotsOf op), S.bx k b, S.lv k, S.gen k⟩ ⟨some d, op, ty, pos, af, none⟩ a ∧ (b = false → ren (S.ord k) a = a)) S.cs.length)
    (hi : ops[i]? = some ⟨some d, op, ty, pos, af, none⟩) (h1 : memB i S.cs = false) (h2 : Nat.beq i S.al = false) (h3 : (Nat.ble k S.cs.length && alw S ops i k b) = true) (hd : Nat.blt d n = true)
    (h : CD P T C n S ops Q rest (i + 1) ((d, a) :: f) k b) : CD P T C n S ops Q (⟨some d, op, ty, pos, af, none⟩ :: rest) i f k b := cdPu hp hi h1 h2 h3 hd h
theorem cdX (hx : ∀ b, alw S ops i k b = true → ∀ g, WO P C n ops (fun e st => e = .normal ∧ st = ⟨(d, a) :: (restr f (slotsOf op) ++ g), S.bx (k + 1) b, S.lv (k + 1), S.gen (k + 1)⟩) [⟨some d, op, ty, pos, af, none⟩] ⟨restr f (slotsOf op) ++ g, S.bx k b, S.lv k, S.gen k⟩)
    (hi : ops[i]? = some ⟨some d, op, ty, pos, af, none⟩) (h1 : S.cs[k]? = some i) (h2 : Nat.beq i S.al = false) (h3 : alw S ops i k b = true) (hr : alw S ops i k false = true → ren (S.ord (k + 1)) a = a) (hd : Nat.blt d n = true) (h : CD P T C n S ops Q rest (i + 1) ((d, a) :: f) (k + 1) b) : CD P T C n S ops Q (⟨some d, op, ty, pos, af, none⟩ :: rest) i f k b := by
  have na : i ≠ S.al := fun e => by subst e; simp at h2
  refine ⟨a, ⟨_, hi, hd, Nat.le_of_lt (List.getElem?_eq_some_iff.1 h1).1, h3, .inl ⟨h1, na, fun b hb => ⟨rfl, restr f (slotsOf op), fun t x hx => ?_, fun g => WO.mono1 rfl (fun e st h => by rw [h.1]; simp) (fun e st h => .inl h) (hx b hb g)⟩, hr⟩⟩, ?_⟩
  · obtain ⟨h1, h2⟩ := restr_look hx
    exact ⟨h1, List.mem_append.2 (.inl h2)⟩
  · rw [efD_at hi]
    simp only [if_neg na, if_pos h1]
    unfold CD at h
    rw [look_put] at h
    exact h
theorem W.regionL (T : Tab P) {nb : Nat} [hnb : NB C nb] {id : Nat} {l l1 l2 : List Oper} {f : List (Nat × A)} {bx : List (Nat × List A)} {lv : List Nat} {gen : Nat} {Q : Exit → St → Prop} (bxs : List (List (Nat × List A))) (lvs : List (List Nat)) (gens : List Nat) (cs : List Nat) (m : Nat) (hB : regionOKC m l.toArray = true) (hch : chainB l.toArray cs = true) (h1 : l.take m = l1) (h2 : l.drop m = l2)
    (h : CD P T C n (parL (bx :: bxs) (lv :: lvs) (gen :: gens) cs l.length) l.toArray (WO P C n l.toArray Q l2) l1 0 f 0 true) : W P C n (.region id l.toArray true) Q ⟨f, bx, lv, gen⟩ :=
  W.regionChain T (parL (bx :: bxs) (lv :: lvs) (gen :: gens) cs l.length) true m hB hch h1 h2 (fun _ _ h => h.elim) (fun h => by cases h) (fun _ _ h => h) rfl (by show Nat.ble gen gen = true; simp) h
end
end Go.Ab
namespace Go.Ab
open Go.RowKit
section
variable {P : Program} {C : Ctx} {n : Nat}
theorem W.regionLF (T : Tab P) {nb : Nat} [hnb : NB C nb] {id : Nat} {l l1 l2 : List Oper} {f : List (Nat × A)} {bx : List (Nat × List A)} {lv : List Nat} {gen : Nat} {Q : Exit → St → Prop} (F : List (Nat × List A) → List (List (Nat × List A))) (lvs : List (List Nat)) (gens : List Nat) (cs : List Nat) (m : Nat) (hB : regionOKC m l.toArray = true) (hch : chainB l.toArray cs = true) (h1 : l.take m = l1) (h2 : l.drop m = l2)
    (h : CD P T C n (parL (bx :: F bx) (lv :: lvs) (gen :: gens) cs l.length) l.toArray (WO P C n l.toArray Q l2) l1 0 f 0 true) : W P C n (.region id l.toArray true) Q ⟨f, bx, lv, gen⟩ :=
  W.regionL T (F bx) lvs gens cs m hB hch h1 h2 h
end
end Go.Ab
namespace Go.Ab
open Go.RowKit
/-! ### a code whose end is told at once -/
def W' (P : Program) (C : Ctx) (n : Nat) (c : Code) (B : Exit → Act → World → Prop) (st : St) : Prop := ∀ tmps w, Sim C n st tmps w → c.wp P B ⟨tmps, C.ds⟩ w
def WO' (P : Program) (C : Ctx) (n : Nat) (ops : Array Oper) (B : Exit → Act → World → Prop) (l : List Oper) (st : St) : Prop := ∀ tmps w, Sim C n st tmps w → wpL P ops B l ⟨tmps, C.ds⟩ w
def QS' (P : Program) (C : Ctx) (n : Nat) (y : Code) (B : Exit → Act → World → Prop) : Exit → St → Prop
  | .normal, st => W' P C n y B st
  | e, st => ∀ tmps w, Sim C n st tmps w → B e ⟨tmps, C.ds⟩ w
section
variable {P : Program} {C : Ctx} {n : Nat} {ops : Array Oper} {B : Exit → Act → World → Prop} {st : St} {o : Oper} {rest : List Oper} {a : A}
theorem W'.seq {x y : Code} (h : W P C n x (QS' P C n y B) st) : W' P C n (.seq x y) B st := by
  intro tmps w hs
  refine wp_seq (wp_mono (h tmps w hs) ?_)
  rintro e ⟨t, df⟩ w' ⟨hd, st', hs', hq⟩
  simp only at hd
  subst hd
  cases e <;> simp only [QS'] at hq <;> simp only [Exit.then]
  all_goals exact hq t w' hs'
theorem WO'.pu (hg : o.guard = none) (hd : dstOK n o.dst = true) (hp : Pu P C n st o a) (h : WO' P C n ops B rest (st.put o.dst a)) : WO' P C n ops B (o :: rest) st := by
  intro tmps w ⟨G, hs⟩
  simp only [wpL, Region.wanted, hg, if_true]
  refine (Gives.ds (hp G tmps w hs)).wp fun v w' ⟨hb, hr⟩ => ?_
  rw [Act.put_ds]
  exact h _ _ ⟨G, (hs.evolve hb).2.put (dstOK_lt hd) hr⟩
abbrev pp (b : Nat) : Value := .pointer (some ⟨b, 0, none⟩)
abbrev dfr (fid : FuncId) (b0 b1 b2 : Nat) : Deferred := ⟨.fn (.func fid) #[pp b0, pp b1, pp b2], #[]⟩
theorem WO'.defer (hg : o.guard = none) (hdst : o.dst = none) {x : Operand} {tys : Array TypeId} {fid : FuncId} (ho : o.op = .defer ⟨.value x, #[], tys⟩) (hx : av st.f x = some (.clo fid [.ptr 0 0, .ptr 1 0, .ptr 2 0]))
    (h : ∀ b0 b1 b2 tmps w G, SimG C n st G tmps w → G.box 0 = some b0 → G.box 1 = some b1 → G.box 2 = some b2 → wpL P ops B rest ⟨tmps, dfr fid b0 b1 b2 :: C.ds⟩ w) : WO' P C n ops B (o :: rest) st := by
  intro tmps w ⟨G, hs⟩
  simp only [wpL, Region.wanted, hg, if_true]
  have hr := hs.av hx
  rw [← Act.eval_ds tmps C.ds []] at hr
  generalize hv : Act.eval ⟨tmps, C.ds⟩ x = v at hr
  cases hr with
  | clo _ vs _ hsz hcd =>
  have hsz : vs.size = 3 := hsz
  obtain ⟨v0, v1, v2, rfl⟩ : ∃ v0 v1 v2, vs = #[v0, v1, v2] := ⟨vs[0], vs[1], vs[2], by
    apply Array.ext
    · simpa using hsz
    · intro i h1 h2
      match i with
      | 0 => rfl
      | 1 => rfl
      | 2 => rfl
      | i + 3 => simp at h2; omega⟩
  have r0 := hcd 0 v0 _ rfl rfl
  have r1 := hcd 1 v1 _ rfl rfl
  have r2 := hcd 2 v2 _ rfl rfl
  cases r0 with
  | ptr _ _ _ b0 _ hb0 e0 =>
  cases r1 with
  | ptr _ _ _ b1 _ hb1 e1 =>
  cases r2 with
  | ptr _ _ _ b2 _ hb2 e2 =>
  subst e0; subst e1; subst e2
  have hrun : (execOp (Act.eval ⟨tmps, C.ds⟩) o).run P w = .ok (.defer (dfr fid b0 b1 b2)) w := by
    unfold execOp
    rw [ho]
    simp only [resolve, hv, Deferred.ofValue, Sem.run_bind, Sem.run_pure, Result.andThen_ok, List.map_toArray, List.map_nil, Array.append_empty]
  unfold Oper.wp
  rw [hrun, Oper.upon_defer]
  rw [hdst]
  exact h b0 b1 b2 tmps w G hs hb0 hb1 hb2
/-! ### a callee panics: the other boxes stay -/
end
section
variable {P : Program} {C : Ctx} {n : Nat} {ops : Array Oper} {Q : Exit → St → Prop} {rest : List Oper} {st : St} {o : Oper}
end
section
variable {P : Program} {C : Ctx} {n : Nat} {ops : Array Oper} {Q : Exit → St → Prop} {rest : List Oper}
variable {f : List (Nat × A)} {bx : List (Nat × List A)} {lv : List Nat} {gen : Nat} {op : Op} {ty : TypeId} {pos : String} {af : Array Edge} {dst : Option Nat}
end
/-! ### the end of a function whose results are cells -/
theorem fin0 {P : Program} (T : Tab P) {C : Ctx} {n : Nat} {st : St} {G : Gh} {tmps : Array Value} {w : World} {fn : Func} {rs : List RV} {r : A} {l : List A} (hs : SimG C n st G tmps w) (hbx : C.bx = []) (hr : fn.results = (rs.map RV.var).toArray) (hl : resV T st.f st.bx rs = some l) (hno : norm [] (oneA l) = r) :
    ∃ v, (results fn tmps).run P w = .ok v w ∧ ∃ v1 G', Ending.returned v = .returned v1 ∧ SimG C 0 ⟨[], [], List.range 0, 0⟩ G' #[] w ∧ Rep (enOf C G' 0 w) v1 r := by
  obtain ⟨vs, hvs, hvl, hvr⟩ := run_resV T hs rs l hl
  refine ⟨_, run_resultsV hr hvs, _, ⟨fun _ => none, fun _ => none⟩, rfl, ?_, ?_⟩
  · exact { size := rfl, frame := fun t a ha => by simp [look] at ha, box := fun g cells hc => by simp [look'] at hc, gbox := fun g b hb => by simp at hb, inj := fun g g' b hb => by simp at hb,
            live := fun g hg => by simp at hg, gown := fun g r hr => by simp at hr, row := fun g b len cap sz pub hr => by simp at hr, mrow := fun g b bs hr => by simp at hr, sub := fun g b bs c lim hr => by simp at hr, gcell := fun g b hb => by simp at hb, xold := hs.xold, kold := hs.kold, lent := fun i b hb => by rw [hbx] at hb; simp at hb, fr := hs.fr }
  · rw [← hno]
    refine Rep.norm (order := []) (E := enOf C G st.gen w) (E2 := enOf C ⟨fun _ => none, fun _ => none⟩ 0 w) (fun b o u hu hn => ⟨hu, fun hp => hn ?_⟩) (fun g r' hg hr' => ?_) (by simp [enOf]) (oneA_rep hvl hvr)
    · rcases (hp : pvOf C ⟨fun _ => none, fun _ => none⟩ b o) with hp | ⟨g, hp⟩ | ⟨g, len, cap, sz, pub, hp, hle⟩ | ⟨g, b', bs, lim, hp, _⟩
      · exact Or.inl hp
      · cases hp
      · cases hp
      · cases hp
    · cases hr'
/-! ### a deferred closure that asks for the panic's value -/
section
variable {P : Program} {ops : Array Oper} {Q : Exit → Act → List Frame → World → Prop} {rest : List Nat} {i : Nat} {a : Act} {cs : List Frame} {w : World} {o : Oper}
end
end Go.Ab
namespace Go.Ab
theorem stE1 {e e' : Exit} {d : Nat} {a a' : A} {f : List (Nat × A)} {bx bx' : List (Nat × List A)} {lv lv' : List Nat} {gen gen' : Nat} (he : e = e') (ha : a = a') (hb : bx = bx') (hl : lv = lv') (hg : gen = gen') :
    e = e' ∧ (⟨(d, a) :: f, bx, lv, gen⟩ : St) = ⟨(d, a') :: f, bx', lv', gen'⟩ := by subst he ha hb hl hg; exact ⟨rfl, rfl⟩
end Go.Ab
namespace Go.Ab
open Go.RowKit
def boxE (es : List (List D)) (k : Nat) : List A := es.flatten.map A.d ++ List.replicate k .any
section
variable {C : Ctx} {n : Nat} {st : St} {G : Gh} {tmps : Array Value} {w : World}
theorem flat_len {sz : Nat} : ∀ {es : List (List D)}, (∀ (e : List D), e ∈ es → e.length = sz) → es.flatten.length = es.length * sz
  | [], _ => by simp
  | e :: es, h => by rw [List.flatten_cons, List.length_append, flat_len (fun x hx => h x (List.mem_cons_of_mem _ hx)), h e List.mem_cons_self, List.length_cons, Nat.succ_mul, Nat.add_comm]
theorem SimG.boxRow (h : SimG C n st G tmps w) {g b len cap sz : Nat} (hg : G.own g = some (.blk b len cap sz 0)) {es : List (List D)} {v : Value} (hx : RowX w (pvOf C G) (.blk b len cap sz 0) v es) (lv : List Nat) (hlv : ∀ g' ∈ lv, g' ∈ st.lv ∧ g' ≠ g) :
    ∃ G', SimG C n ⟨st.f, (st.gen, boxE es (cap * sz - len * sz)) :: st.bx, lv, st.gen + 1⟩ G' tmps w ∧ Rep (enOf C G' (st.gen + 1) w) v (.sb st.gen es.length cap) := by
  obtain ⟨rfl, hlen, _, hl, hr⟩ := hx
  obtain ⟨hmine, hnb, huniq, cur, T, hcur, hcs, hlc, hcm, hz, hpos, _, hone⟩ := h.row g b len cap sz 0 hg
  let G' : Gh := ⟨fun x => if x = st.gen then some b else G.box x, fun x => if x = g then none else G.own x⟩
  have hgl := h.gown g _ hg
  have hblt : b < w.heap.size := (Array.getElem?_eq_some_iff.1 hcur).1
  have hpv : ∀ b' o, pvOf C G' b' o → pvOf C G b' o := by
    rintro b' o (hp | ⟨g', hp⟩ | ⟨g', len', cap', sz', pub', hp, hl'⟩ | ⟨g', b2, bs, lim, hp, hm, hl'⟩)
    · exact .inl hp
    · simp only [G'] at hp
      split at hp
      · simp only [Option.some.injEq] at hp
        subst hp
        exact .inr (.inr (.inl ⟨g, len, cap, sz, 0, hg, Nat.zero_le _⟩))
      · exact .inr (.inl ⟨g', hp⟩)
    · simp only [G'] at hp
      split at hp
      · cases hp
      · exact .inr (.inr (.inl ⟨g', len', cap', sz', pub', hp, hl'⟩))
    · simp only [G'] at hp
      split at hp
      · cases hp
      · exact .inr (.inr (.inr ⟨g', b2, bs, lim, hp, hm, hl'⟩))
  have hle : (enOf C G st.gen w).le (enOf C G' (st.gen + 1) w) := leOf h.fr h.fr (fun b o u hu hn => ⟨hu, fun hp => hn (hpv b o hp)⟩) (fun g' b' hb' => by
      simp only [G']
      rw [if_neg (Nat.ne_of_lt (h.gbox g' b' hb').1)]
      exact hb')
    (fun g' r' hg' hr' => by
      simp only [G'] at hr'
      split at hr'
      · cases hr'
      · exact hr') (Nat.le_succ _) (fun _ _ _ _ _ _ _ _ => rfl) (fun _ _ _ _ _ => ⟨rfl, fun _ _ => rfl⟩) (.refl w)
  have hfl := flat_len hl
  have hsub : len * sz ≤ cap * sz := Nat.mul_le_mul_right _ hlc
  refine ⟨G', { size := h.size, frame := h.frame_mono hle, xold := h.xold, kold := h.kold, fr := h.fr, gcell := fun g' b' hb' => (by simp only [G'] at hb'; split at hb' <;> first | (simp only [Option.some.injEq] at hb'; subst hb'; exact ⟨_, _, _, hcur⟩) | exact h.gcell g' b' hb'), lent := ?_, box := ?_, gbox := ?_, inj := ?_, live := ?_, gown := ?_, row := ?_, mrow := ?_, sub := ?_ }, ?_⟩
  · intro g' cells hc
    simp only [look'_cons] at hc
    split at hc
    · rename_i e
      simp only [Option.some.injEq] at hc
      subst hc
      subst e
      refine ⟨b, cur, T, by simp [G'], hcur, ?_, fun i u hu => hone i u hu, fun i u a hu ha => ?_⟩
      · simp only [boxE, List.length_append, List.length_map, List.length_replicate, hfl, hlen]; omega
      · unfold boxE at ha
        rcases Nat.lt_or_ge i es.flatten.length with hi | hi
        · rw [List.getElem?_append_left (by rw [List.length_map]; exact hi), List.getElem?_map, Option.map_eq_some_iff] at ha
          obtain ⟨d, hd, rfl⟩ := ha
          have hi2 : i < len * sz := by rw [← hlen, ← hfl]; exact hi
          have hdiv : i / sz < es.length := by rw [hlen]; exact Nat.div_lt_of_lt_mul (by rw [Nat.mul_comm]; exact hi2)
          have he : es[i / sz]? = some es[i / sz] := by simp [hdiv]
          have hel := hl _ (List.mem_of_getElem? he)
          have hdd : es[i / sz][i % sz]? = some (es[i / sz][i % sz]'(by rw [hel]; exact Nat.mod_lt _ hz)) := by simp
          have hfg := flatten_get hl _ _ _ _ he hdd
          rw [Nat.div_add_mod' i sz, hd] at hfg
          obtain ⟨u', hu', hud⟩ := hr _ _ _ _ he hdd
          rw [Nat.div_add_mod' i sz, cellAt_row hcur] at hu'
          rw [hu] at hu'
          cases hu'
          rw [Option.some.inj hfg]
          exact .d (hud.mono hle.cell)
        · rw [List.getElem?_append_right (by rw [List.length_map]; exact hi)] at ha
          have := List.eq_of_mem_replicate (List.mem_of_getElem? ha)
          subst this
          exact .any _
    · obtain ⟨b', cs, T', h1, h2, h3, h4, h5⟩ := h.box g' cells hc
      exact ⟨b', cs, T', by simp only [G']; rw [if_neg (Nat.ne_of_lt (h.gbox g' b' h1).1)]; exact h1, h2, h3, h4, fun i u a hu ha => (h5 i u a hu ha).mono hle⟩
  · intro g' b' hb
    simp only [G'] at hb
    split at hb
    · rename_i e
      simp only [Option.some.injEq] at hb
      subst hb
      subst e
      exact ⟨Nat.lt_succ_self _, hblt, hmine⟩
    · obtain ⟨h1, h2⟩ := h.gbox g' b' hb
      exact ⟨Nat.lt_succ_of_lt h1, h2⟩
  · intro g1 g2 b' h1 h2
    simp only [G'] at h1 h2
    split at h1 <;> split at h2
    · simp_all
    · simp only [Option.some.injEq] at h1; subst h1; exact absurd h2 (hnb g2)
    · simp only [Option.some.injEq] at h2; subst h2; exact absurd h1 (hnb g1)
    · exact h.inj g1 g2 b' h1 h2
  · intro g' hg'
    obtain ⟨h1, h2⟩ := hlv g' hg'
    obtain ⟨r', hr'⟩ := h.live g' h1
    exact ⟨r', by simp only [G']; rw [if_neg h2]; exact hr'⟩
  · intro g' r' hr'
    simp only [G'] at hr'
    split at hr'
    · cases hr'
    · exact Nat.lt_succ_of_lt (h.gown g' r' hr')
  · intro g' b' len' cap' sz' pub' hr'
    simp only [G'] at hr'
    split at hr'
    · cases hr'
    · rename_i e2
      obtain ⟨h4, h5, h6, h7⟩ := h.row g' b' len' cap' sz' pub' hr'
      have hne : b' ≠ b := fun e => by subst e; exact e2 (huniq g' len' cap' sz' pub' hr')
      refine ⟨h4, fun g2 h2 => ?_, fun g2 len2 cap2 sz2 pub2 h2 => ?_, h7⟩
      · simp only [G'] at h2
        split at h2
        · simp only [Option.some.injEq] at h2; exact hne h2.symm
        · exact h5 g2 h2
      · simp only [G'] at h2
        split at h2
        · cases h2
        · exact h6 g2 len2 cap2 sz2 pub2 h2
  · intro g' b' bs hr'
    simp only [G'] at hr'
    split at hr'
    · cases hr'
    · obtain ⟨h4, h4b, h5, me, clock, h6⟩ := h.mrow g' b' bs hr'
      refine ⟨h4, fun g2 h2 => ?_, fun g2 bs2 h2 => ?_, me, clock, h6⟩
      · simp only [G'] at h2
        split at h2
        · simp only [Option.some.injEq] at h2; subst h2; rw [hcur] at h6; cases h6
        · exact h4b g2 h2
      · simp only [G'] at h2
        split at h2
        · cases h2
        · exact h5 g2 bs2 h2
  · intro g' b' bs c lim hr' hm
    simp only [G'] at hr'
    split at hr'
    · cases hr'
    · obtain ⟨h4, h5, h6, h7, h8⟩ := h.sub g' b' bs c lim hr' hm
      have hne : c ≠ b := fun e => h6 g _ _ _ _ (by rw [e]; exact hg)
      refine ⟨h4, fun g2 h2 => ?_, fun g2 len2 cap2 sz2 pub2 h2 => ?_, fun g2 b2 bs2 lim2 h2 hm2 => ?_, h8⟩
      · simp only [G'] at h2
        split at h2
        · simp only [Option.some.injEq] at h2; exact hne h2.symm
        · exact h5 g2 h2
      · simp only [G'] at h2
        split at h2
        · cases h2
        · exact h6 g2 _ _ _ _ h2
      · simp only [G'] at h2
        split at h2
        · cases h2
        · exact h7 g2 _ _ _ h2 hm2
  · intro i b' hb
    have h1 := h.lent i b' hb
    simp only [G']
    rw [if_neg (Nat.ne_of_lt (h.gbox i b' h1).1)]
    exact h1
  · exact .sb _ st.gen es.length cap b (Nat.lt_succ_self _) (by simp [enOf, G']) (by rw [hlen]; exact ⟨hlc, hcm⟩) (by rw [hlen])
end
section
variable {P : Program} (T : Tab P) {C : Ctx} {n : Nat} {ops : Array Oper} {Q : Exit → St → Prop} {rest : List Oper}
variable {f : List (Nat × A)} {bx : List (Nat × List A)} {lv : List Nat} {gen : Nat} {d : Nat} {op : Op} {ty : TypeId} {pos : String} {af : Array Edge} {a : A} {dst : Option Nat} {c : Code}
end
end Go.Ab
namespace Go.Ab
theorem noIdL_append : ∀ (l m : List A), noIdL (l ++ m) = (noIdL l && noIdL m)
  | [], m => by simp [noIdL]
  | a :: l, m => by simp [noIdL, noIdL_append l m, Bool.and_assoc]
theorem noIdL_ds : ∀ l : List D, noIdL (l.map A.d) = true
  | [] => rfl
  | d :: l => by simp [noIdL, noId, noIdL_ds l]
theorem noIdL_anys : ∀ k : Nat, noIdL (List.replicate k A.any) = true
  | 0 => rfl
  | k + 1 => by simp [List.replicate_succ, noIdL, noId, noIdL_anys k]
theorem renL_boxE (o : List Nat) (es : List (List D)) (k : Nat) : renL o (boxE es k) = boxE es k :=
  renL_noId o _ (by unfold boxE; rw [noIdL_append, noIdL_ds, noIdL_anys]; rfl)
section
variable {P : Program} {C : Ctx} {n : Nat} {ops : Array Oper} {Q : Exit → St → Prop} {rest : List Oper}
variable {f : List (Nat × A)} {bx : List (Nat × List A)} {lv : List Nat} {gen : Nat} {d : Nat} {ty : TypeId} {pos : String} {af : Array Edge}
end
end Go.Ab
namespace Go.Ab
open Go.RowKit
mutual
def noG (g : Nat) : A → Bool
  | .ptr g' _ => !Nat.beq g' g
  | .np g' _ _ => !Nat.beq g' g
  | .sb g' _ _ => !Nat.beq g' g
  | .lk g' _ _ _ => !Nat.beq g' g
  | .agg l => noGL g l
  | .tup l => noGL g l
  | .row l => noGL g l
  | .clo _ l => noGL g l
  | .bnd _ l => noGL g l
  | _ => true
def noGL (g : Nat) : List A → Bool
  | [] => true
  | a :: l => noG g a && noGL g l
end
theorem noGL_mem {g : Nat} : ∀ {l : List A}, noGL g l = true → ∀ a ∈ l, noG g a = true
  | [], _, a, ha => by cases ha
  | b :: l, h, a, ha => by
    simp only [noGL, Bool.and_eq_true] at h
    cases ha with
    | head => exact h.1
    | tail _ ha => exact noGL_mem h.2 a ha
theorem Rep.forget {E E' : En} {g : Nat} (hw : E.w = E'.w) (hc : ∀ b o u, cellAt E.w b o = some u → ¬ E.pv b o → cellAt E'.w b o = some u ∧ ¬ E'.pv b o) (hold : ∀ b, E.old b → E'.old b) (hb : ∀ g' b, g' ≠ g → E.box g' = some b → E'.box g' = some b) (ho : E'.own = E.own) (hg : E'.gen = E.gen)
    {v : Value} {a : A} (h : Rep E v a) (ha : noG g a = true) : Rep E' v a := by
  have hne : ∀ {g'}, (!Nat.beq g' g) = true → g' ≠ g := fun h e => by subst e; simp at h
  have hc' : ∀ b o u, cellAt E.w b o = some u → ¬ E.pv b o → cellAt E.w b o = some u ∧ ¬ E'.pv b o := fun b o u h1 h2 => ⟨h1, (hc b o u h1 h2).2⟩
  induction h with
  | any x => exact .any x
  | d hd => exact .d (hd.mono hc)
  | ag vs l hs hd => exact .ag vs l hs (fun i u x h1 h2 => (hd i u x h1 h2).mono hc)
  | own x g' es hd hgg hr => exact .own x g' es (hd.mono hc) (by rw [hg]; exact hgg) (fun r hr' => hr r (by rw [← ho]; exact hr'))
  | agg vs l hs hone _ ih => exact .agg vs l hs hone (fun i u x hu hx => ih i u x hu hx (noGL_mem (by simpa [noG] using ha) x (List.mem_of_getElem? hx)))
  | tup vs l hs _ ih => exact .tup vs l hs (fun i u x hu hx => ih i u x hu hx (noGL_mem (by simpa [noG] using ha) x (List.mem_of_getElem? hx)))
  | rowd b off l u hcc hd => exact .rowd b off l u (fun j hj => hc _ _ _ (hcc j hj).1 (hcc j hj).2) (fun j x hx => (hd j x hx).mono hc)
  | row b off l u hcc _ ih => exact .row b off l u (fun j hj => ⟨by rw [← hw]; exact (hcc j hj).1, hold _ (hcc j hj).2.1, (hcc j hj).2.2⟩) (fun j x hx => ih j x hx (noGL_mem (by simpa [noG] using ha) x (List.mem_of_getElem? hx)))
  | ptr x g' off b hgg hb0 hp => exact .ptr x g' off b (by rw [hg]; exact hgg) (hb g' b (hne (by simpa [noG] using ha)) hb0) hp
  | xs x g' es hgg h1 hx => exact .xs x g' es (by rw [hg]; exact hgg) h1 (fun r hr' => hw ▸ (hx r (by rw [← ho]; exact hr')).weak hc')
  | xp x g' i off l hgg h1 hx => exact .xp x g' i off l (by rw [hg]; exact hgg) h1 (fun r hr' => hw ▸ (hx r (by rw [← ho]; exact hr')).weak hc')
  | mp x g' es hgg h1 hx => exact .mp x g' es (by rw [hg]; exact hgg) h1 (fun r hr' => hw ▸ (hx r (by rw [← ho]; exact hr')).weak hc')
  | mq x g' es hgg h1 hx => exact .mq x g' es (by rw [hg]; exact hgg) h1 (fun r hr' => hw ▸ (hx r (by rw [← ho]; exact hr')).weak hc')
  | mo x g' es hole ob hgg h1 hx => exact .mo x g' es hole ob (by rw [hg]; exact hgg) h1 (fun r hr' => hw ▸ (hx r (by rw [← ho]; exact hr')).weak hc')
  | ni t x => exact .ni t x
  | fl x es hd hfl => exact .fl x es (hd.mono hc) hfl
  | bf x g' T s hgg h1 hx => exact .bf x g' T s (by rw [hg]; exact hgg) h1 (fun r hr' => hw ▸ hx r (by rw [← ho]; exact hr'))
  | np x g' T b hgg hb0 hT u hp => exact .np x g' T b (by rw [hg]; exact hgg) (hb g' b (hne (by simpa [noG] using ha)) hb0) (hw ▸ hT) u hp
  | sb x g' n c b hgg hb0 hn hp => exact .sb x g' n c b (by rw [hg]; exact hgg) (hb g' b (hne (by simpa [noG] using ha)) hb0) hn hp
  | fx x u g' es ou hx hgg hu hou => exact .fx x u g' es ou (hx.mono hc) (by rw [hg]; exact hgg) (fun r hr' => hw ▸ (hu r (by rw [← ho]; exact hr')).weak hc') hou
  | ol x u g1 E1 g' es hx hg1 hr1 hgg hu => exact .ol x u g1 E1 g' es (hx.mono hc) (by rw [hg]; exact hg1) (fun r hr' => hr1 r (by rw [← ho]; exact hr')) (by rw [hg]; exact hgg) (fun r hr' => hw ▸ (hu r (by rw [← ho]; exact hr')).weak hc')
  | ow x v g' es hd hgg hr => exact .ow x v g' es (hd.mono hc) (by rw [hg]; exact hgg) (fun r hr' => hr r (by rw [← ho]; exact hr'))
  | lk x g' n c b v hgg hb0 hn hp => exact .lk x g' n c b v (by rw [hg]; exact hgg) (hb g' b (hne (by simpa [noG] using ha)) hb0) hn hp
  | clo f vs l hs _ ih => exact .clo f vs l hs (fun i u x hu hx => ih i u x hu hx (noGL_mem (by simpa [noG] using ha) x (List.mem_of_getElem? hx)))
  | bnd f vs l hs _ ih => exact .bnd f vs l hs (fun i u x hu hx => ih i u x hu hx (noGL_mem (by simpa [noG] using ha) x (List.mem_of_getElem? hx)))
def cutF (g : Nat) : List Nat → List (Nat × A) → List (Nat × A)
  | _, [] => []
  | seen, (s, a) :: r => bif seen.any (Nat.beq s) then cutF g seen r else bif noG g a then (s, a) :: cutF g (s :: seen) r else cutF g (s :: seen) r
theorem cutF_look {g : Nat} : ∀ {f : List (Nat × A)} {seen : List Nat} {t : Nat} {a : A}, look (cutF g seen f) t = some a → look f t = some a ∧ noG g a = true ∧ t ∉ seen
  | [], _, t, a, h => by simp [cutF, look] at h
  | (s, b) :: r, seen, t, a, h => by
    simp only [cutF] at h
    cases q : seen.any (Nat.beq s) with
    | true =>
      rw [q] at h
      simp only [cond_true] at h
      obtain ⟨h1, h2, h3⟩ := cutF_look h
      have hm : s ∈ seen := by
        obtain ⟨y, hy, hb⟩ := List.any_eq_true.1 q
        rw [Nat.eq_of_beq_eq_true hb]; exact hy
      refine ⟨?_, h2, h3⟩
      rw [look_cons]
      rw [if_neg (fun e : s = t => h3 (e ▸ hm))]
      exact h1
    | false =>
      rw [q] at h
      simp only [cond_false] at h
      have hm : s ∉ seen := fun hm => by
        have : seen.any (Nat.beq s) = true := List.any_eq_true.2 ⟨s, hm, by simp⟩
        rw [q] at this; cases this
      cases q2 : noG g b with
      | true =>
        rw [q2] at h
        simp only [cond_true] at h
        rw [look_cons] at h
        split at h
        · rename_i e
          subst e
          cases h
          exact ⟨by rw [look_cons, if_pos rfl], q2, hm⟩
        · rename_i e
          obtain ⟨h1, h2, h3⟩ := cutF_look h
          exact ⟨by rw [look_cons, if_neg e]; exact h1, h2, fun hh => h3 (List.mem_cons_of_mem _ hh)⟩
      | false =>
        rw [q2] at h
        simp only [cond_false] at h
        obtain ⟨h1, h2, h3⟩ := cutF_look h
        exact ⟨by rw [look_cons, if_neg (fun e : s = t => h3 (e ▸ List.mem_cons_self))]; exact h1, h2, fun hh => h3 (List.mem_cons_of_mem _ hh)⟩
def cutBg (g : Nat) : List Nat → List (Nat × List A) → Option (List (Nat × List A))
  | _, [] => some []
  | seen, (s, c) :: r => bif seen.any (Nat.beq s) then cutBg g seen r else bif Nat.beq s g then cutBg g (s :: seen) r else bif noGL g c then (match cutBg g (s :: seen) r with | some l => some ((s, c) :: l) | none => none) else none
theorem look'_cons' {α : Type} {f : List (Nat × α)} {s t : Nat} {a : α} : look' ((s, a) :: f) t = if s = t then some a else look' f t := by
  rw [look'_cons]
theorem cutB_look {g : Nat} : ∀ {f f' : List (Nat × List A)} {seen : List Nat} {t : Nat} {a : List A}, cutBg g seen f = some f' → look' f' t = some a → look' f t = some a ∧ noGL g a = true ∧ t ≠ g ∧ t ∉ seen
  | [], f', _, t, a, hc, h => by simp [cutBg] at hc; subst hc; simp [look'] at h
  | (s, b) :: r, f', seen, t, a, hc, h => by
    simp only [cutBg] at hc
    cases q : seen.any (Nat.beq s) with
    | true =>
      rw [q] at hc
      simp only [cond_true] at hc
      obtain ⟨h1, h2, h3, h4⟩ := cutB_look hc h
      have hm : s ∈ seen := by
        obtain ⟨y, hy, hb⟩ := List.any_eq_true.1 q
        rw [Nat.eq_of_beq_eq_true hb]; exact hy
      exact ⟨by rw [look'_cons', if_neg (fun e : s = t => h4 (e ▸ hm))]; exact h1, h2, h3, h4⟩
    | false =>
      rw [q] at hc
      simp only [cond_false] at hc
      have hm : s ∉ seen := fun hm => by
        have : seen.any (Nat.beq s) = true := List.any_eq_true.2 ⟨s, hm, by simp⟩
        rw [q] at this; cases this
      cases q1 : Nat.beq s g with
      | true =>
        rw [q1] at hc
        simp only [cond_true] at hc
        obtain ⟨h1, h2, h3, h4⟩ := cutB_look hc h
        exact ⟨by rw [look'_cons', if_neg (fun e : s = t => h4 (e ▸ List.mem_cons_self))]; exact h1, h2, h3, fun hh => h4 (List.mem_cons_of_mem _ hh)⟩
      | false =>
        rw [q1] at hc
        simp only [cond_false] at hc
        cases q2 : noGL g b with
        | false => rw [q2] at hc; cases hc
        | true =>
          rw [q2] at hc
          simp only [cond_true] at hc
          split at hc
          · rename_i l hl
            simp only [Option.some.injEq] at hc
            subst hc
            rw [look'_cons'] at h
            split at h
            · rename_i e
              subst e
              cases h
              exact ⟨by rw [look'_cons', if_pos rfl], q2, fun e => by subst e; simp at q1, hm⟩
            · rename_i e
              obtain ⟨h1, h2, h3, h4⟩ := cutB_look hl h
              exact ⟨by rw [look'_cons', if_neg e]; exact h1, h2, h3, fun hh => h4 (List.mem_cons_of_mem _ hh)⟩
          · cases hc
section
variable {P : Program} (T : Tab P) {C : Ctx} {n : Nat} {ops : Array Oper} {Q : Exit → St → Prop} {rest : List Oper}
variable {f f' : List (Nat × A)} {bx bx' : List (Nat × List A)} {lv : List Nat} {gen : Nat} {d : Nat} {op : Op} {ty : TypeId} {pos : String} {af : Array Edge} {a : A} {dst : Option Nat} {c : Code}
end
end Go.Ab
namespace Go.Ab
open Go.RowKit
section
variable {P : Program} (T : Tab P) {C : Ctx} {n : Nat} {ops : Array Oper} {Q : Exit → St → Prop} {rest : List Oper}
variable {f : List (Nat × A)} {bx : List (Nat × List A)} {lv : List Nat} {gen : Nat} {d : Nat} {op : Op} {ty : TypeId} {pos : String} {af : Array Edge} {a : A} {dst : Option Nat} {c : Code}
theorem RowX.same {w : World} {pv : Nat → Nat → Prop} {r : Row} {v v' : Value} {es es' : List (List D)} (h : RowX w pv r v es) (h' : RowX w pv r v' es') : v = v' := by
  cases r with
  | nil => exact h.1.trans h'.1.symm
  | zero b => exact h.1.trans h'.1.symm
  | blk b len cap sz pub => exact h.1.trans h'.1.symm
  | mp b bs => exact h.elim
end
end Go.Ab
namespace Go.Ab
open Go.RowKit
def loA (f : List (Nat × A)) : Option Operand → Option Int
  | none => some 0
  | some x => match av f x with | some (.d (.v (.int _ v))) => some v | _ => none
def hiA (f : List (Nat × A)) (len : Nat) : Option Operand → Option Int
  | none => some (len : Int)
  | some x => match av f x with | some (.d (.v (.int _ v))) => some v | _ => none
theorem RepD.sub {w : World} {pv : Nat → Nat → Prop} {v : Value} {es : List (List D)} (h : RepD w pv v (.sl es)) {i j sz : Nat} (hij : i ≤ j) (hj : j ≤ es.length) (hsz : ∀ e ∈ es, e.length = sz) :
    ∃ a cap, v = .slice a es.length cap ∧ es.length ≤ cap ∧ RepD w pv (sliced a i j cap sz) (.sl ((es.take j).drop i)) := by
  cases h with
  | nil =>
    have e1 : j = 0 := by simpa using hj
    subst e1
    have e2 : i = 0 := by omega
    subst e2
    exact ⟨none, 0, rfl, Nat.le_refl _, .nil⟩
  | emp a cap hm =>
    have e1 : j = 0 := by simpa using hj
    subst e1
    have e2 : i = 0 := by omega
    subst e2
    refine ⟨some a, cap, rfl, Nat.zero_le _, ?_⟩
    simp only [sliced, List.take_zero, List.drop_zero, Nat.sub_zero]
    split
    · exact .emp a cap hm
    · exact .emp _ cap hm
  | sl b off len cap sz' es u hl hc hm hs hu hr =>
    refine ⟨_, cap, by rw [hl], by omega, ?_⟩
    rcases Nat.eq_or_lt_of_le hij with e | hlt
    · subst e
      rw [show (es.take i).drop i = [] from List.drop_eq_nil_of_le (List.length_take_le _ _)]
      simp only [sliced, Nat.sub_self]
      split
      · exact .emp _ _ (by omega)
      · exact .emp _ _ (by omega)
    · have e : sz' = sz := by
        obtain ⟨x, hx⟩ : ∃ x, es[0]? = some x := ⟨es[0]'(by omega), by simp⟩
        rw [← hs 0 x hx, hsz x (List.mem_of_getElem? hx)]
      subst e
      have hne : cap ≠ i := by omega
      have ha : ∀ (k : Nat) (x : List D), ((es.take j).drop i)[k]? = some x → es[i + k]? = some x ∧ k < j - i := fun k x hk => by
        have hk' := hk
        rw [List.getElem?_drop] at hk
        have h1 := (List.getElem?_eq_some_iff.1 hk).1
        rw [List.length_take] at h1
        rw [List.getElem?_take, if_pos (by omega)] at hk
        exact ⟨hk, by omega⟩
      simp only [sliced, if_neg hne, Option.map_some]
      rw [show (Addr.add ⟨b, off, none⟩ (i * sz')) = ⟨b, off + i * sz', none⟩ from by simp [Addr.add]]
      refine .sl b (off + i * sz') (j - i) (cap - i) sz' _ (fun k c => u (i + k) c) ?_ (by omega) (by omega) (fun k x hk => hs _ x (ha k x hk).1) (fun k c hk hc' => ?_) (fun k c x d hk hd => hr _ c x d (ha k x hk).1 hd)
      · rw [List.length_drop, List.length_take]; omega
      · have := hu (i + k) c (by omega) hc'
        rw [show off + (i + k) * sz' + c = off + i * sz' + k * sz' + c from by rw [Nat.add_mul]; omega] at this
        exact this
section
variable {P : Program} (T : Tab P) {C : Ctx} {n : Nat}
variable {f : List (Nat × A)} {bx : List (Nat × List A)} {lv : List Nat} {gen : Nat} {ty : TypeId} {pos : String} {af : Array Edge} {dst : Option Nat} {G : Gh} {tmps : Array Value} {w : World}
theorem bounds_run (b : Bool) {lo hi : Option Operand} {len cap : Nat} {i j : Int} (hs : SimG C n ⟨f, bx, lv, gen⟩ G tmps w) (hlo : loA f lo = some i) (hhi : hiA f len hi = some j) (h0 : 0 ≤ i) (hij : i ≤ j) (hj : j ≤ len) (hc : len ≤ cap) :
    (Instr.sliceBounds b len cap (lo.map (Act.eval ⟨tmps, []⟩)) (hi.map (Act.eval ⟨tmps, []⟩)) none).run P w = .ok (i.toNat, j.toNat, cap) w := by
  have ev : ∀ (x : Operand) (v : Int), (match av f x with | some (.d (.v (.int _ v))) => some v | _ => none) = some v → ∃ k, Act.eval ⟨tmps, []⟩ x = .int k v := fun x v h => by
    split at h
    · rename_i k v' hav
      simp only [Option.some.injEq] at h
      subst h
      have hr := hs.av hav
      generalize Act.eval ⟨tmps, []⟩ x = y at hr
      cases hr with | d hr => cases hr with | v _ _ => exact ⟨k, rfl⟩
    · cases h
  have ehj : (j.toNat : Int) = j := Int.toNat_of_nonneg (by omega)
  have hh : ((match hi.map (Act.eval ⟨tmps, []⟩) with | some v => Instr.sliceBound v cap (if b then .sliceAcap else .sliceAlen) | none => pure len : Sem Nat)).run P w = .ok j.toNat w := by
    cases hi with
    | none =>
      simp only [hiA, Option.some.injEq] at hhi
      subst hhi
      simp
    | some x =>
      obtain ⟨k, e⟩ := ev x j hhi
      simp only [Option.map_some, e]
      exact run_sliceBound w k j cap _ (by omega) (by omega)
  have hl : ((match lo.map (Act.eval ⟨tmps, []⟩) with | some v => Instr.sliceBound v j.toNat (if (none : Option Value).isSome then .slice3C else .sliceB) | none => pure 0 : Sem Nat)).run P w = .ok i.toNat w := by
    cases lo with
    | none =>
      simp only [loA, Option.some.injEq] at hlo
      subst hlo
      simp
    | some x =>
      obtain ⟨k, e⟩ := ev x i hlo
      simp only [Option.map_some, e]
      exact run_sliceBound w k i j.toNat _ (by omega) (by omega)
  unfold Instr.sliceBounds
  cases hi with
  | none =>
    cases lo with
    | none =>
      simp only [Option.map_none, Sem.run_bind, Sem.run_pure, Result.andThen_ok] at hh hl ⊢
      simp_all
    | some x =>
      simp only [Option.map_none, Option.map_some, Sem.run_bind, Sem.run_pure, Result.andThen_ok] at hh hl ⊢
      simp only [Result.ok.injEq, and_true] at hh
      rw [← hh] at hl ⊢
      simp_all
  | some y =>
    cases lo with
    | none =>
      simp only [Option.map_none, Option.map_some, Sem.run_bind, Sem.run_pure, Result.andThen_ok] at hh hl ⊢
      rw [hh]
      simp_all
    | some x =>
      simp only [Option.map_some, Sem.run_bind, Sem.run_pure, Result.andThen_ok] at hh hl ⊢
      rw [hh]
      simp_all
theorem sliceV {α : Type} {fn : α → List D} {t e : Nat} {x : Operand} {lo hi : Option Operand} {td ed : TyD} {a : A} {l r : List α} {i j : Int} (hx : av f x = some a) (hes : slOf a = some (l.map fn)) (ht : look' T.l t = some td) (hk : td.k = .slice e) (he : look' T.l e = some ed)
    (hn : ∀ x, (fn x).length = ed.n) (hlo : loA f lo = some i) (hhi : hiA f l.length hi = some j) (h0 : 0 ≤ i) (hij : i ≤ j) (hj : j ≤ (l.length : Int)) (hr : (l.take j.toNat).drop i.toNat = r) :
    Pu P C n ⟨f, bx, lv, gen⟩ ⟨dst, .slice t x lo hi none, ty, pos, af, none⟩ (.d (.sl (r.map fn))) := by
  subst hr
  refine PuOK.pu fun G tmps w hs => ?_
  have hrx := slOf_rep hes (hs.av hx)
  obtain ⟨a', cap, hv, hcap, hrep⟩ := hrx.sub (i := i.toNat) (j := j.toNat) (sz := ed.n) (by omega) (by rw [List.length_map]; omega) (fun y hy => by obtain ⟨z, _, rfl⟩ := List.mem_map.1 hy; exact hn z)
  rw [List.length_map] at hv hcap
  have hu := T.u_slice ht hk
  have hpe : P.elem t = e := by simp [Program.elem, hu]
  have hu' : P.underlying t = some (.slice (P.elem t)) := by rw [hpe]; exact hu
  refine ⟨sliced a' i.toNat j.toNat cap ed.n, ?_, .d (by rw [← List.map_take, ← List.map_drop] at hrep; exact hrep)⟩
  unfold execOp
  show Sem.run P _ w = _
  simp only [Sem.run_bind, run_sliceAt_slice w t _ _ _ _ hu', hv, run_slice_any w t a' l.length cap hu', Option.map_none, bounds_run (P := P) true hs hlo hhi h0 hij hj hcap, Result.andThen_ok, hpe, T.sizeOf he]
  rfl
end
end Go.Ab
namespace Go.Ab
open Go.RowKit
section
variable {P : Program} (T : Tab P) {C : Ctx} {n : Nat} {ops : Array Oper} {Q : Exit → St → Prop} {rest : List Oper}
variable {f f' : List (Nat × A)} {bx bx' : List (Nat × List A)} {lv : List Nat} {gen : Nat} {d : Nat} {op : Op} {ty : TypeId} {pos : String} {af : Array Edge} {a : A} {dst : Option Nat} {c : Code} {o : Oper}
theorem RowX.slice {w : World} {pv : Nat → Nat → Prop} {r : Row} {v : Value} {es : List (List D)} (h : RowX w pv r v es) : ∃ a l c, v = .slice a l c := by
  cases r with
  | nil => exact ⟨_, _, _, h.1⟩
  | zero b => exact ⟨_, _, _, h.1⟩
  | blk b len cap sz pub => exact ⟨_, _, _, h.1⟩
  | mp b bs => exact h.elim
theorem SimG.recell {G : Gh} {tmps : Array Value} {w : World} (hs : SimG C n ⟨f, bx, lv, gen⟩ G tmps w) {g0 : Nat} {cells cells' : List A} (hb : look' bx g0 = some cells) (hlen : cells'.length = cells.length)
    (hc : ∀ b cs T, G.box g0 = some b → w.heap[b]? = some (.cells cs T (0, 0)) → (∀ (i : Nat) (x : Value) (a : A), cs[i]? = some x → cells[i]? = some a → Rep (enOf C G gen w) x a) → ∀ (i : Nat) (x : Value) (a : A), cs[i]? = some x → cells'[i]? = some a → Rep (enOf C G gen w) x a) :
    SimG C n ⟨f, (g0, cells') :: bx, lv, gen⟩ G tmps w := by
  refine { hs with box := fun g' l hl => ?_ }
  simp only [look'_cons] at hl
  split at hl
  · rename_i e
    subst e
    simp only [Option.some.injEq] at hl
    subst hl
    obtain ⟨b, cs, T', h1, h2, h3, h4, h5⟩ := hs.box g0 cells hb
    exact ⟨b, cs, T', h1, h2, by rw [hlen]; exact h3, h4, hc b cs T' h1 h2 h5⟩
  · exact hs.box g' l hl
end
end Go.Ab
namespace Go.Ab
open Go.RowKit Go.MapKept
section
variable {P : Program} (T : Tab P) {C : Ctx} {n : Nat} {ops : Array Oper} {Q : Exit → St → Prop} {rest : List Oper}
variable {f : List (Nat × A)} {bx : List (Nat × List A)} {lv : List Nat} {gen : Nat} {d : Nat} {ty : TypeId} {pos : String} {af : Array Edge} {dst : Option Nat}
variable {α β : Type} [DecidableEq α] {kf : α → Value} {vf : β → D}
end
end Go.Ab
namespace Go.Ab
open Go.RowKit
def keptO : Obj → Bool
  | .cells .. => true
  | .map .. => true
  | _ => false
theorem cellAt_blk {w : World} {b o : Nat} {u : Value} (h : cellAt w b o = some u) : ∃ cs T f, w.heap[b]? = some (.cells cs T f) ∧ cs[o]? = some u := by
  unfold cellAt World.cell? at h
  cases hb : w.heap[b]? with
  | none => simp [hb] at h
  | some x =>
    cases x <;> simp_all
section
variable {C : Ctx} {n : Nat} {st : St} {G : Gh} {tmps : Array Value} {w : World}
theorem SimG.agree (h : SimG C n st G tmps w) {w' : World} (e1 : w'.os = w.os) (e2 : w'.tape = w.tape) (e3 : w'.output = w.output) (hsz : w.heap.size ≤ w'.heap.size)
    (hk : ∀ (b : Nat) (o : Obj), w.heap[b]? = some o → keptO o = true → w'.heap[b]? = some o) (hold : ∀ b, b < C.w0.heap.size → ¬ C.fp b → w'.heap[b]? = w.heap[b]?) : SimG C n st G tmps w' := by
  have hcell : ∀ {b o : Nat} {u : Value}, Ab.cellAt w b o = some u → Ab.cellAt w' b o = some u := fun {b o u} hu => by
    obtain ⟨cs, T, f, h1, h2⟩ := cellAt_blk hu
    rw [cellAt_row (hk b _ h1 rfl)]; exact h2
  have htk : TyKept w w' := fun b cs T f h => ⟨cs, f, hk b _ h rfl⟩
  have hfr : Fr C w' := ⟨e1.trans h.fr.os, e2.trans h.fr.tape, e3.trans h.fr.output, Nat.le_trans h.fr.size hsz, fun b h1 h2 => (hold b h1 h2).trans (h.fr.block b h1 h2), fun b o u hk' hu => hcell (h.fr.cells b o u hk' hu), h.fr.ty.trans htk⟩
  have hle : (enOf C G st.gen w).le (enOf C G st.gen w') := leOf h.fr hfr (fun b o u hu hn => ⟨hcell hu, hn⟩) (fun _ _ h => h) (fun _ _ _ h => h) (Nat.le_refl _) (fun g b len cap sz pub _ hr => by
      obtain ⟨_, _, _, cur, T, h3, _⟩ := h.row g b len cap sz pub hr
      rw [h3]; exact hk b _ h3 rfl) (fun g b bs _ hr => ⟨by
        obtain ⟨_, _, _, me, clock, h3⟩ := h.mrow g b bs hr
        rw [h3]; exact hk b _ h3 rfl, fun p hp => by
        obtain ⟨_, _, _, _, cur, T, h3, _⟩ := h.sub g b bs p.1 p.2 hr hp
        rw [h3]; exact hk p.1 _ h3 rfl⟩) htk
  refine { size := h.size, frame := h.frame_mono hle, inj := h.inj, live := h.live, gown := h.gown, xold := h.xold, kold := h.kold, lent := h.lent, fr := hfr, gcell := fun g b hb => gcTy htk (h.gcell g b hb), box := ?_, gbox := ?_, row := ?_, mrow := ?_, sub := ?_ }
  · intro g cells hc
    obtain ⟨b, cs, T, h1, h2, h3, h4, h5⟩ := h.box g cells hc
    exact ⟨b, cs, T, h1, hk b _ h2 rfl, h3, h4, fun i u a hu ha => (h5 i u a hu ha).mono hle⟩
  · intro g b hb
    obtain ⟨h1, h2, h3⟩ := h.gbox g b hb
    exact ⟨h1, Nat.lt_of_lt_of_le h2 hsz, h3⟩
  · intro g b len cap sz pub hr
    obtain ⟨h1, h2, h3, cur, T, h4, h5⟩ := h.row g b len cap sz pub hr
    exact ⟨h1, h2, h3, cur, T, hk b _ h4 rfl, h5⟩
  · intro g b bs hr
    obtain ⟨h1, h2, h3, me, clock, h4⟩ := h.mrow g b bs hr
    exact ⟨h1, h2, h3, me, clock, hk b _ h4 rfl⟩
  · intro g b bs c lim hr hm
    obtain ⟨h1, h2, h3, h4, cur, T, h5, h6⟩ := h.sub g b bs c lim hr hm
    exact ⟨h1, h2, h3, h4, cur, T, hk c _ h5 rfl, h6⟩
/-! ### the walk begun anew in the world that is -/
def claimed (G : Gh) (b : Nat) : Prop := (∃ g, G.box g = some b) ∨ ∃ g r lim, G.own g = some r ∧ r.isAt b lim
def reC (C : Ctx) (G : Gh) (w : World) (ds : List Deferred) : Ctx := { w0 := w, fp := claimed G, x := C.x, keep := C.keep, bx := [], ds := ds }
theorem SimG.claimed_mine (h : SimG C n st G tmps w) {b : Nat} (hc : claimed G b) : C.w0.heap.size ≤ b ∨ C.fp b := by
  rcases hc with ⟨g, hg⟩ | ⟨g, r, lim, hg, hr⟩
  · exact (h.gbox g b hg).2.2.1
  · exact (h.rowAt hg hr).1.1
theorem SimG.reroot (h : SimG C n st G tmps w) (ds : List Deferred) : SimG (reC C G w ds) n st G tmps w := by
  have hfr : Fr (reC C G w ds) w := ⟨rfl, rfl, rfl, Nat.le_refl _, fun _ _ _ => rfl, fun _ _ _ _ h => h, .refl w⟩
  have hle : (enOf C G st.gen w).le (enOf (reC C G w ds) G st.gen w) := ⟨fun b o u hu hn => ⟨hu, hn⟩, fun b o u hu ho => ⟨hu, cellAt_lt hu, fun hc => (h.claimed_mine hc).elim (fun h1 => by have := ho.1; omega) ho.2⟩, fun _ _ h => h, fun _ _ _ h => h, Nat.le_refl _, fun _ _ _ _ _ _ _ _ => rfl, fun _ _ _ _ _ => ⟨rfl, fun _ _ => rfl⟩, TyKept.refl _⟩
  refine { size := h.size, frame := fun t a ha => ?_, inj := h.inj, live := h.live, gown := h.gown, xold := ?_, kold := ?_, lent := fun i b hb => (by simp [reC] at hb), fr := hfr, gcell := h.gcell, box := ?_, gbox := ?_, row := ?_, mrow := ?_, sub := ?_ }
  · obtain ⟨v, h1, h2⟩ := h.frame t a ha
    exact ⟨v, h1, h2.mono hle⟩
  · intro g cells hc
    obtain ⟨b, cs, T, h1, h2, h3, h4, h5⟩ := h.box g cells hc
    exact ⟨b, cs, T, h1, h2, h3, h4, fun i u a hu ha => (h5 i u a hu ha).mono hle⟩
  · intro g b hb
    obtain ⟨h1, h2, h3⟩ := h.gbox g b hb
    exact ⟨h1, h2, .inr (.inl ⟨g, hb⟩), h3.2⟩
  · intro g b len cap sz pub hr
    obtain ⟨h1, h2⟩ := h.row g b len cap sz pub hr
    exact ⟨⟨.inr (.inr ⟨g, _, pub, hr, rfl, rfl⟩), h1.2⟩, h2⟩
  · intro g b bs hr
    obtain ⟨h1, h2⟩ := h.mrow g b bs hr
    exact ⟨⟨.inr (.inr ⟨g, _, 0, hr, Or.inl ⟨rfl, rfl⟩⟩), h1.2⟩, h2⟩
  · intro g b bs c lim hr hm
    obtain ⟨h1, h2⟩ := h.sub g b bs c lim hr hm
    exact ⟨⟨.inr (.inr ⟨g, _, lim, hr, Or.inr hm⟩), h1.2⟩, h2⟩
  · intro b o hx
    obtain ⟨h1, h2⟩ := h.xold b o hx
    exact ⟨Nat.lt_of_lt_of_le h1 h.fr.size, fun hc => (h.claimed_mine hc).elim (fun h3 => by omega) h2⟩
  · intro b o hk
    exact Nat.lt_of_lt_of_le (h.kold b o hk) h.fr.size
theorem SimG.rerootGC {P : Program} [Met P] [hC : GC P C] (h : SimG C n st G tmps w) (ds : List Deferred) : GC P (reC C G w ds) := by
  obtain ⟨W, h1, h2, h3⟩ := hC.h
  refine ⟨W, h1, Nat.le_trans h2 h.fr.size, fun b hb => ⟨(h.fr.block b (Nat.lt_of_lt_of_le hb h2) (h3 b hb).2).trans (h3 b hb).1, fun hc => ?_⟩⟩
  rcases h.claimed_mine hc with h4 | h4
  · omega
  · exact (h3 b hb).2 h4
mutual
def noRow : A → Bool
  | .row _ => false
  | .agg l => noRowL l
  | .tup l => noRowL l
  | .clo _ l => noRowL l
  | .bnd _ l => noRowL l
  | _ => true
def noRowL : List A → Bool
  | [] => true
  | a :: l => noRow a && noRowL l
end
theorem noRowL_mem : ∀ {l : List A}, noRowL l = true → ∀ a ∈ l, noRow a = true
  | [], _, _, h => by cases h
  | b :: l, h, a, ha => by
    simp only [noRowL, Bool.and_eq_true] at h
    cases ha with
    | head => exact h.1
    | tail _ ha => exact noRowL_mem h.2 a ha
def noRowS (st : St) : Bool := st.f.all (fun x => noRow x.2) && st.bx.all (fun x => noRowL x.2)
theorem Rep.anyOld {E E' : En} (hw : E.w = E'.w) (hp : E.pv = E'.pv) (hbb : E.box = E'.box) (ho : E.own = E'.own) (hgg : E.gen = E'.gen) {v : Value} {a : A} (h : Rep E v a) (ha : noRow a = true) : Rep E' v a := by
  obtain ⟨w', pv', old', box', own', gen'⟩ := E'
  obtain ⟨w0, pv0, old0, box0, own0, gen0⟩ := E
  simp only at hw hp hbb ho hgg
  subst hw; subst hp; subst hbb; subst ho; subst hgg
  induction h with
  | any x => exact .any x
  | d hd => exact .d hd
  | ag vs l hs hd => exact .ag vs l hs hd
  | own x g es hd hg hr => exact .own x g es hd hg hr
  | agg vs l hs hone _ ih => exact .agg vs l hs hone (fun i u x hu hx => ih i u x hu hx (noRowL_mem (by simpa [noRow] using ha) x (List.mem_of_getElem? hx)))
  | tup vs l hs _ ih => exact .tup vs l hs (fun i u x hu hx => ih i u x hu hx (noRowL_mem (by simpa [noRow] using ha) x (List.mem_of_getElem? hx)))
  | rowd b off l u hc hd => exact .rowd b off l u hc hd
  | row b off l u hc _ _ => simp [noRow] at ha
  | ptr x g off b hg hb hp => exact .ptr x g off b hg hb hp
  | xs x g es hg h1 hx => exact .xs x g es hg h1 hx
  | xp x g i off l hg h1 hx => exact .xp x g i off l hg h1 hx
  | mp x g es hg h1 hx => exact .mp x g es hg h1 hx
  | mq x g es hg h1 hx => exact .mq x g es hg h1 hx
  | mo x g es hole ob hg h1 hx => exact .mo x g es hole ob hg h1 hx
  | ni t x => exact .ni t x
  | fl x es hd hc => exact .fl x es hd hc
  | bf x g T s hg h1 hx => exact .bf x g T s hg h1 hx
  | np x g T b hg hb hT u hx => exact .np (E := ⟨w0, pv0, old', box0, own0, gen0⟩) x g T b hg hb hT u hx
  | sb x g n c b hg hb hn hx => exact .sb x g n c b hg hb hn hx
  | fx x u g es ou hx hg hu ho => exact .fx x u g es ou hx hg hu ho
  | ol x u g' E' g es hx hg' hr' hg hu => exact .ol x u g' E' g es hx hg' hr' hg hu
  | ow x v g es hd hg hr => exact .ow x v g es hd hg hr
  | lk x g n c b v hg hb hn hx => exact .lk x g n c b v hg hb hn hx
  | clo f vs l hs _ ih => exact .clo f vs l hs (fun i u x hu hx => ih i u x hu hx (noRowL_mem (by simpa [noRow] using ha) x (List.mem_of_getElem? hx)))
  | bnd f vs l hs _ ih => exact .bnd f vs l hs (fun i u x hu hx => ih i u x hu hx (noRowL_mem (by simpa [noRow] using ha) x (List.mem_of_getElem? hx)))
theorem look_mem' {f : List (Nat × A)} {t : Nat} {a : A} (h : look f t = some a) : (t, a) ∈ f := by
  induction f with
  | nil => simp [look] at h
  | cons x r ih =>
    obtain ⟨s, b⟩ := x
    rw [look_cons] at h
    split at h
    · rename_i e; cases h; subst e; exact List.mem_cons_self
    · exact List.mem_cons_of_mem _ (ih h)
theorem SimG.unroot (h : SimG C n st G tmps w) (hbx : C.bx = []) {ds : List Deferred} {st' : St} {G' : Gh} {tmps' : Array Value} {w' : World} (h' : SimG (reC C G w ds) n st' G' tmps' w') (hno : noRowS st' = true) : SimG C n st' G' tmps' w' := by
  simp only [noRowS, Bool.and_eq_true, List.all_eq_true] at hno
  have hm : ∀ {b lim}, (reC C G w ds).mine b lim → C.mine b lim := fun {b lim} hm => ⟨hm.1.elim (fun h1 => .inl (Nat.le_trans h.fr.size h1)) h.claimed_mine, hm.2⟩
  have hrep : ∀ {v a}, Rep (enOf (reC C G w ds) G' st'.gen w') v a → noRow a = true → Rep (enOf C G' st'.gen w') v a := fun hr ha => Rep.anyOld (E := enOf (reC C G w ds) G' st'.gen w') (E' := enOf C G' st'.gen w') rfl rfl rfl rfl rfl hr ha
  refine { size := h'.size, frame := fun t a ha => ?_, inj := h'.inj, live := h'.live, gown := h'.gown, xold := h.xold, kold := h.kold, lent := fun i b hb => (by rw [hbx] at hb; simp at hb), gcell := h'.gcell, fr := ?_, box := ?_, gbox := ?_, row := ?_, mrow := ?_, sub := ?_ }
  · obtain ⟨v, h1, h2⟩ := h'.frame t a ha
    exact ⟨v, h1, hrep h2 (hno.1 _ (look_mem' ha))⟩
  · intro g cells hc
    obtain ⟨b, cs, T, h1, h2, h3, h4, h5⟩ := h'.box g cells hc
    exact ⟨b, cs, T, h1, h2, h3, h4, fun i u a hu ha => hrep (h5 i u a hu ha) (noRowL_mem (hno.2 _ (look'_mem hc)) a (List.mem_of_getElem? ha))⟩
  · intro g b hb
    obtain ⟨h1, h2, h3⟩ := h'.gbox g b hb
    exact ⟨h1, h2, hm h3⟩
  · intro g b len cap sz pub hr
    obtain ⟨h1, h2⟩ := h'.row g b len cap sz pub hr
    exact ⟨hm h1, h2⟩
  · intro g b bs hr
    obtain ⟨h1, h2⟩ := h'.mrow g b bs hr
    exact ⟨hm h1, h2⟩
  · intro g b bs c lim hr hmm
    obtain ⟨h1, h2⟩ := h'.sub g b bs c lim hr hmm
    exact ⟨hm h1, h2⟩
  · refine ⟨h'.fr.os.trans h.fr.os, h'.fr.tape.trans h.fr.tape, h'.fr.output.trans h.fr.output, Nat.le_trans h.fr.size h'.fr.size, fun b h1 h2 => ?_, fun b o u hk hu => h'.fr.cells b o u hk (h.fr.cells b o u hk hu), h.fr.ty.trans h'.fr.ty⟩
    exact (h'.fr.block b (Nat.lt_of_lt_of_le h1 h.fr.size) (fun hc => (h.claimed_mine hc).elim (fun h3 => by omega) h2)).trans (h.fr.block b h1 h2)
end
/-! ### walks over which marks may stand on the deferred calls -/
abbrev mkD (D : Nat) : Deferred := ⟨.collected D, #[]⟩
def DsOK (n0 : Nat) (ds : List Deferred) (w : World) : Prop := ∃ Ds : List Nat, ds = Ds.map mkD ∧ Ds.Nodup ∧ ∀ D ∈ Ds, n0 ≤ D ∧ w.heap[D]? = some (Obj.deferred (some []))
def liftD (C : Ctx) (n : Nat) (Q : Exit → St → Prop) : Exit → Act → World → Prop := fun e a w => DsOK C.w0.heap.size a.defers w ∧ ∃ st, Sim C n st a.tmps w ∧ Q e st
def Wd (P : Program) (C : Ctx) (n : Nat) (c : Code) (Q : Exit → St → Prop) (st : St) : Prop := ∀ tmps ds w, Sim C n st tmps w → DsOK C.w0.heap.size ds w → c.wp P (liftD C n Q) ⟨tmps, ds⟩ w
def QSd (P : Program) (C : Ctx) (n : Nat) (y : Code) (Q : Exit → St → Prop) : Exit → St → Prop
  | .normal, s => Wd P C n y Q s
  | e, s => Q e s
def QN (Q : Exit → St → Prop) : Exit → St → Prop := fun e s => noRowS s = true ∧ Q e s
def QLd {ι : Type} (C : Ctx) (n : Nat) (S : ι → St) (μ : ι → Nat) (m : Nat) (Q : Exit → St → Prop) : Exit → St → Prop
  | .normal, s => ∃ j, μ j < m ∧ ∀ (tmps : Array Value) (w : World), Sim C n s tmps w → Sim C n (S j) tmps w
  | e, s => Q e s
section
variable {P : Program} [Met P] {C : Ctx} {n : Nat} {Q : Exit → St → Prop} {st : St}
theorem DsOK.kept {n0 : Nat} {ds : List Deferred} {w w' : World} (h : DsOK n0 ds w) (hk : ∀ D : Nat, w.heap[D]? = some (Obj.deferred (some [])) → w'.heap[D]? = some (Obj.deferred (some []))) : DsOK n0 ds w' :=
  let ⟨Ds, h1, h2, h3⟩ := h; ⟨Ds, h1, h2, fun D hD => ⟨(h3 D hD).1, hk D (h3 D hD).2⟩⟩
theorem SimG.notDef {G : Gh} {tmps : Array Value} {w : World} (h : SimG C n st G tmps w) {D : Nat} {o : Obj} (hD : w.heap[D]? = some o) (ho : keptO o = false) : ¬ claimed G D := by
  rintro (⟨g, hg⟩ | ⟨g, r, lim, hg, hr⟩)
  · obtain ⟨cs, T, f, h2⟩ := h.gcell g D hg
    rw [hD] at h2; cases h2; cases ho
  · cases r with
    | nil => exact hr.elim
    | zero _ => exact hr.elim
    | blk b len cap sz pub =>
      obtain ⟨rfl, rfl⟩ := hr
      obtain ⟨_, _, _, cur, T, h4, _⟩ := h.row g b len cap sz lim hg
      rw [hD] at h4; cases h4; cases ho
    | mp b bs =>
      rcases hr with ⟨rfl, rfl⟩ | hm
      · obtain ⟨_, _, _, me, clock, h4⟩ := h.mrow g b bs hg
        rw [hD] at h4; cases h4; cases ho
      · obtain ⟨_, _, _, _, cur, T, h4, _⟩ := h.sub g b bs D lim hg hm
        rw [hD] at h4; cases h4; cases ho
end
end Go.Ab
namespace Go.Ab
open Go.RowKit
section
variable {P : Program} [Met P] {C : Ctx} {n : Nat} {Q : Exit → St → Prop} {st st' : St} {c : Code}
theorem Wd.ofW [GC P C] (hbx : C.bx = []) (h : ∀ C', NB C' 0 → GC P C' → W P C' n c (QN Q) st) : Wd P C n c Q st := by
  intro tmps ds w ⟨G, hs⟩ hds
  refine wp_mono (h (reC C G w ds) ⟨rfl⟩ (hs.rerootGC ds) tmps w ⟨G, hs.reroot ds⟩) ?_
  rintro e ⟨t, d⟩ w' ⟨hd, st', ⟨G', hs'⟩, hno, hq⟩
  have hd : d = ds := hd
  subst hd
  refine ⟨hds.kept fun D hD => ?_, st', ⟨G', hs.unroot hbx hs' hno⟩, hq⟩
  exact (hs'.fr.block D (Array.getElem?_eq_some_iff.1 hD).1 (hs.notDef hD rfl)).trans hD
omit [Met P] in
theorem Wd.seq {x y : Code} (h : Wd P C n x (QSd P C n y Q) st) : Wd P C n (.seq x y) Q st := by
  intro tmps ds w hs hds
  refine wp_seq (wp_mono (h tmps ds w hs hds) ?_)
  rintro e ⟨t, d⟩ w' ⟨hd, st', hs', hq⟩
  cases e <;> simp only [QSd] at hq <;> simp only [Exit.then]
  · exact hq t d w' hs' hd
  all_goals exact ⟨hd, st', hs', hq⟩
theorem Wd.seqW [GC P C] (hbx : C.bx = []) {x y : Code} (h : ∀ C', NB C' 0 → GC P C' → W P C' n x (QN (QSd P C n y Q)) st) : Wd P C n (.seq x y) Q st := Wd.seq (Wd.ofW hbx h)
omit [Met P] in
theorem Wd.block {id : Nat} (h : Wd P C n c (QB id Q) st) : Wd P C n (.block id c) Q st := by
  intro tmps ds w hs hds
  refine wp_block (wp_mono (h tmps ds w hs hds) ?_)
  rintro e ⟨t, d⟩ w' ⟨hd, st', hs', hq⟩
  cases e <;> simp only [QB] at hq <;> simp only [Exit.inBlock]
  case exit i =>
    split
    · rename_i e; rw [if_pos e] at hq; exact ⟨hd, st', hs', hq⟩
    · rename_i e; rw [if_neg e] at hq; exact ⟨hd, st', hs', hq⟩
  all_goals exact ⟨hd, st', hs', hq⟩
omit [Met P] in
theorem Wd.conv (hle : ∀ (tmps : Array Value) (w : World), Sim C n st tmps w → Sim C n st' tmps w) (h : Wd P C n c Q st') : Wd P C n c Q st :=
  fun tmps ds w hs hds => h tmps ds w (hle tmps w hs) hds
omit [Met P] in
theorem Wd.loop {ι : Type} (S : ι → St) (μ : ι → Nat) (hr : ∀ i, Wd P C n c (QLd C n S μ (μ i) Q) (S i)) (i : ι) : Wd P C n (.loop c) Q (S i) := by
  intro tmps ds w hs hds b k cs
  have key : ∀ (m : Nat) (i : ι) (tmps : Array Value) (ds : List Deferred) (w : World), μ i = m → Sim C n (S i) tmps w → DsOK C.w0.heap.size ds w →
      ∃ e a' w', liftD C n Q e a' w' ∧ Arrives P (lone (b.at ⟨tmps, ds⟩ (.code c :: .inLoop c :: k)) cs w) b k cs e a' w' := by
    intro m
    induction m using Nat.strongRecOn with
    | _ m ih =>
      intro i tmps ds w hm hs hds
      obtain ⟨e, ⟨t1, d1⟩, w1, ⟨hd, st1, hs1, hq⟩, harr⟩ := hr i tmps ds w hs hds b (.inLoop c :: k) cs
      simp only at hd
      cases e with
      | normal =>
        obtain ⟨j, hlt, hcv⟩ := hq
        obtain ⟨e2, a2, w2, hq2, harr2⟩ := ih (μ j) (hm ▸ hlt) j t1 d1 w1 rfl (hcv t1 w1 hs1) hd
        exact ⟨e2, a2, w2, hq2, .of_steps (Steps.trans harr (.one step_inLoop)) harr2⟩
      | exit id => exact ⟨_, ⟨t1, d1⟩, w1, ⟨hd, st1, hs1, hq⟩, .pass (x := .inLoop c) rfl (fun _ _ => .inl (by simp)) harr⟩
      | goto l => exact ⟨_, ⟨t1, d1⟩, w1, ⟨hd, st1, hs1, hq⟩, .pass (x := .inLoop c) rfl (fun _ _ => .inl (by simp)) harr⟩
      | ret => exact ⟨_, ⟨t1, d1⟩, w1, ⟨hd, st1, hs1, hq⟩, .pass (x := .inLoop c) rfl (fun _ _ => .inl (by simp)) harr⟩
      | panic ch => exact ⟨_, ⟨t1, d1⟩, w1, ⟨hd, st1, hs1, hq⟩, .pass (x := .inLoop c) rfl (fun _ _ => .inl (by simp)) harr⟩
      | outgrown => exact ⟨_, ⟨t1, d1⟩, w1, ⟨hd, st1, hs1, hq⟩, .pass (x := .inLoop c) rfl (fun _ _ => .inl (by simp)) harr⟩
  obtain ⟨e, a', w', hq, harr⟩ := key _ i tmps ds w rfl hs hds
  exact ⟨e, a', w', hq, .of_steps (.one step_loop) harr⟩
theorem SimG.turned {G : Gh} {tmps : Array Value} {w : World} (h : SimG C n st G tmps w) {r : Nat} {o : Obj} (hr : w.heap[r]? = some o) (ho : keptO o = false) (hn : C.w0.heap.size ≤ r) (o' : Obj) : SimG C n st G tmps (w.putObj r o') :=
  h.agree rfl rfl rfl (by simp) (fun b x hb hx => by
    rw [World.putObj_heap_other (fun e => by subst e; rw [hr] at hb; cases hb; rw [ho] at hx; cases hx)]; exact hb) (fun b hb _ => World.putObj_heap_other (by omega))
theorem SimG.drew {G : Gh} {tmps : Array Value} {w : World} (h : SimG C n st G tmps w) : SimG C n st G tmps w.drew :=
  h.agree rfl rfl rfl (Nat.le_refl _) (fun _ _ hb _ => hb) (fun _ _ _ => rfl)
omit [Met P] in
theorem leaves_ds {fn : Func} {tmps : Array Value} {R : Ending → World → Prop} {m : Nat} : ∀ (Ds : List Nat) (w : World) (st : St) (G : Gh), SimG C n st G tmps w → Ds.Nodup → (∀ D ∈ Ds, C.w0.heap.size ≤ D ∧ w.heap[D]? = some (Obj.deferred (some []))) →
    (∀ w' G, SimG C n st G tmps w' → ∃ v, (results fn tmps).run P w' = .ok v w' ∧ R (.returned v) w') → LeavesInM Fence.wide m P fn tmps R (Ds.map mkD) .returning w
  | [], w, st, G, hs, _, _, h => h w G hs
  | D :: Ds, w, st, G, hs, hn, hD, h => by
    obtain ⟨h1, h2⟩ := hD D (by simp)
    rw [List.nodup_cons] at hn
    refine ⟨by simp, .inl ⟨D, _, rfl, run_takeDeferred h2, leaves_ds Ds _ st G (hs.turned h2 rfl h1 _) hn.2 (fun E hE => ?_) h⟩⟩
    obtain ⟨h3, h4⟩ := hD E (by simp [hE])
    exact ⟨h3, by rw [World.putObj_heap_other (fun e => hn.1 (by rw [← e]; exact hE))]; exact h4⟩
theorem Does.of_Wd (T : Tab P) {f : FuncId} {fn : Func} {c : Code} {rs : List RV} {n : Nat} {args : List A} {r : A} (hf : P.funcs[f]? = some fn) (hname : (fn.name == "runtime.NumGoroutine") = false) (hb : fn.body = some c) (hn : fn.ntmps = n)
    (hr : fn.results = (rs.map RV.var).toArray) (hlen : Nat.ble args.length n = true)
    (h : ∀ C, C.bx = [] → GC P C → Wd P C n c (fun e st => (match e with | .normal => True | .ret => True | _ => False) ∧ ∃ l, resV T st.f st.bx rs = some l ∧ norm [] (oneA l) = r) ⟨args0 0 args, [], [], 0⟩) : Does P f args r 0 := by
  have hlen := Nat.le_of_ble_eq_true hlen
  refine ⟨⟨fn, hf, hname, by rw [hb]; rfl⟩, fun C vals w hG hw hp hx hsz hrep => ?_⟩
  subst hw
  refine callsIn_wide.1 (callsIn_of_wp_marks (F := Fence.wide) (n := 0) hf hb trivial ?_ rfl)
  refine wpIn_wide.2 ?_
  refine wp_mono (h C hp.2.2.1 hG (vals ++ Array.replicate (fn.ntmps - vals.size) undef) [] C.w0 ⟨G0, ?_⟩ ⟨[], rfl, List.nodup_nil, fun D hD => by cases hD⟩) ?_
  · refine { size := by simp [hn]; omega, frame := fun t a ha => ?_, box := fun g cells hc => by simp [look'] at hc, gbox := fun g b hb => by simp [G0] at hb, inj := fun g g' b hb => by simp [G0] at hb, gcell := fun g b hb => by simp [G0] at hb,
             live := fun g hg => by simp at hg, gown := fun g r hr => by simp [G0] at hr, row := fun g b len cap sz pub hr => by simp [G0] at hr, mrow := fun g b bs hr => by simp [G0] at hr, sub := fun g b bs c lim hr => by simp [G0] at hr, xold := fun b o hb => ⟨hx b o hb, hp.1 b⟩, kold := fun b o hb => absurd hb (hp.2.1 b o), lent := fun i b hb => by rw [hp.2.2.1] at hb; simp at hb,
             fr := ⟨rfl, rfl, rfl, Nat.le_refl _, fun _ _ _ => rfl, fun _ _ _ hb => absurd hb (hp.2.1 _ _), TyKept.refl _⟩ }
    obtain ⟨_, h1⟩ := args0_look args 0 t a ha
    have h2 : t < args.length := (List.getElem?_eq_some_iff.1 (by simpa using h1)).1
    have h3 : t < vals.size := by omega
    have h4 : vals[t]? = some vals[t] := by simp [h3]
    exact ⟨vals[t], by rw [Array.getElem?_append_left h3]; exact h4, hrep t _ a h4 (by simpa using h1)⟩
  · rintro e ⟨tmps, df⟩ w' ⟨⟨Ds, hd, hnd, hDs⟩, st, ⟨G, hs⟩, he, l, hl, hno⟩
    simp only at hd
    subst hd
    have hfin : LeavesInM Fence.wide 0 P fn tmps (fun e w' => ∃ v G', e = .returned v ∧ SimG C 0 ⟨[], [], List.range 0, 0⟩ G' #[] w' ∧ Rep (enOf C G' 0 w') v r) (Ds.map mkD) .returning w' :=
      leaves_ds Ds w' st G hs hnd hDs fun w2 G2 hs2 => by
        obtain ⟨v, h1, v1, G', h2, h3, h4⟩ := fin0 T hs2 hp.2.2.1 hr hl hno
        exact ⟨v, h1, v1, G', h2, h3, h4⟩
    cases e with
    | normal => exact hfin
    | ret => exact hfin
    | exit _ => exact he.elim
    | goto _ => exact he.elim
    | panic _ => exact he.elim
    | outgrown => exact he.elim
end
/-! ### a range over slices.Chunk's iterator, where there is one chunk -/
def RoundB (P : Program) [Met P] (n : Nat) (body : Code) (V : List (Nat × A)) (b0 : List (List A)) (m : Nat) (b1 : List (List A)) (k : Nat) : Prop :=
  ∀ (C : Ctx) (G : Gh) (tmps : Array Value) (w : World) (l q : Nat), GC P C → C.w0 = w → C.bx.length = b0.length → C.ds = [] → SimG C n ⟨V, bxs 0 b0, (List.range m).map (b0.length + ·), b0.length + m⟩ G tmps w →
    body.wpIn (Fence.wide.inRound l) q P (fun e _ w' => e = .normal ∧ ∃ G', SimG C 0 ⟨[], bxs 0 b1, (List.range k).map (b0.length + ·), b0.length + k⟩ G' #[] w') ⟨tmps, []⟩ w
def ChunkIt (P : Program) (fid : FuncId) : Prop :=
  ∀ (l : Nat) (W : World) (b0 o0 b1 o1 : Nat) (a : Addr) (len cap : Nat) (R : World → Prop), cellAt W b0 o0 = some (.slice (some a) len cap) → cellAt W b1 o1 = some (.int .i64 1000) → 0 < len → len ≤ 1000 → len ≤ cap → cap ≤ maxLen →
    YieldAt Fence.wide 0 P l #[.slice (some a) len len] W.drew (fun e W' => e = .returned (.bool true) ∧ (∃ a' cap', cellAt W' b0 o0 = some (.slice a' len cap')) ∧ cellAt W' b1 o1 = some (.int .i64 1000) ∧ R W') →
    Calls P fid #[.func (.yield l) #[] #[], .pointer (some ⟨b0, o0, none⟩), .pointer (some ⟨b1, o1, none⟩)] W fun e W' => (∃ v, e = .returned v) ∧ R W'
end Go.Ab
namespace Go.Ab
open Go.RowKit
theorem chunk_val {w : World} {pv : Nat → Nat → Prop} {v : Value} {es : List (List D)} (h : RepD w pv v (.sl es)) (hp : 0 < es.length) : ∃ (a : Addr) (cap : Nat), v = .slice (some a) es.length cap ∧ es.length ≤ cap ∧ cap ≤ maxLen ∧ RepD w pv (.slice (some a) es.length es.length) (.sl es) := by
  cases h with
  | nil => simp at hp
  | emp a cap hm => simp at hp
  | sl b off len cap sz _ u hl hc hm hs hu hr => subst hl; exact ⟨_, cap, rfl, hc, hm, .sl b off es.length es.length sz es u rfl (Nat.le_refl _) (by omega) hs hu hr⟩
theorem slice_len {w : World} {pv : Nat → Nat → Prop} {v : Value} {es : List (List D)} (h : RepD w pv v (.sl es)) : ∃ (a : Option Addr) (cap : Nat), v = .slice a es.length cap := by
  cases h with
  | nil => exact ⟨_, _, rfl⟩
  | emp a cap hm => exact ⟨_, _, rfl⟩
  | sl b off len cap sz _ u hl hc hm hs hu hr => subst hl; exact ⟨_, _, rfl⟩
theorem iter_of {C : Ctx} {n : Nat} {st : St} {G : Gh} {tmps : Array Value} {w : World} (hs : SimG C n st G tmps w) {g : Operand} {fid : FuncId} {es : List (List D)} {x : Value} (hg : av st.f g = some (.clo fid [.rowd [.sl es], .rowd [.v x]])) :
    ∃ b0 o0 b1 o1, Act.eval ⟨tmps, []⟩ g = .func (.func fid) #[] #[.pointer (some ⟨b0, o0, none⟩), .pointer (some ⟨b1, o1, none⟩)] ∧ (∃ u, cellAt w b0 o0 = some u ∧ RepD w (pvOf C G) u (.sl es)) ∧ cellAt w b1 o1 = some x := by
  have hr := hs.av hg
  generalize Act.eval ⟨tmps, []⟩ g = v at hr
  cases hr with
  | clo _ vs _ hsz hcd =>
  have hsz : vs.size = 2 := hsz
  obtain ⟨v0, v1, rfl⟩ : ∃ v0 v1, vs = #[v0, v1] := ⟨vs[0], vs[1], by
    apply Array.ext
    · simpa using hsz
    · intro i h1 h2
      match i with
      | 0 => rfl
      | 1 => rfl
      | i + 2 => simp at h2; omega⟩
  have r0 := hcd 0 v0 _ rfl rfl
  have r1 := hcd 1 v1 _ rfl rfl
  cases r0 with
  | rowd b0 o0 _ u0 hc0 hd0 =>
  cases r1 with
  | rowd b1 o1 _ u1 hc1 hd1 =>
  refine ⟨b0, o0, b1, o1, rfl, ⟨u0 0, ?_, hd0 0 _ rfl⟩, ?_⟩
  · have h1 := (hc0 0 (by simp)).1
    rw [Nat.add_zero] at h1
    exact h1
  · have h1 := (hc1 0 (by simp)).1
    have h2 := hd1 0 _ rfl
    generalize u1 0 = y at h1 h2
    rw [Nat.add_zero] at h1
    cases h2 with | v _ _ => exact h1
section
variable {P : Program} [Met P] {C : Ctx} [GC P C] {n : Nat} {Q : Exit → St → Prop} {st : St}
theorem Wd.range {g : Operand} {par d id : Nat} {ty : TypeId} {pos : String} {af : Array Edge} {body : Code} {es : List (List D)} {fid : FuncId}
    (hg : av st.f g = some (.clo fid [.rowd [.sl es], .rowd [.v (.int .i64 1000)]])) (hok : FnOK P fid) (hit : ChunkIt P fid) (hes : 0 < es.length) (hes2 : es.length ≤ 1000) (hpn : Nat.blt par n = true) (hdn : Nat.blt d n = true)
    (gs os : List Nat) (hgs : nodupB gs = true) (hos : nodupB os = true) (hov : (os.all fun g => st.lv.any fun h => Nat.beq h g) = true) {V : List (Nat × A)} {b0 b1 : List (List A)} {m k : Nat} (hb : lendBx st.bx gs os gs = some b0) (hm : os.length = m)
    (hV : ∀ t a', look V t = some a' → ∃ a, look st.f t = some a ∧ lendA st.bx gs os 5 a = a') (hVp : (V.all fun x => !Nat.beq x.1 par) = true)
    (hbody : RoundB P n body ((d, .d (.sl es)) :: V) b0 m b1 k) (hl1 : b1.length = b0.length)
    (h : Q .normal ⟨st.f, zipB gs st.gen gs b1 ++ st.bx, (List.range k).map (b0.length + · + st.gen) ++ st.lv.filter (fun g => !os.any (Nat.beq g)), b0.length + k + st.gen⟩) :
    Wd P C n (.rangeFunc g #[par] (.region id #[⟨some d, .assign (.tmp par), ty, pos, af, none⟩] false) body) Q st := by
  subst hm
  intro tmps ds w ⟨G, hs⟩ ⟨Ds, hds, hDn, hDs⟩
  have hds : ds = Ds.map mkD := hds
  subst hds
  have hpn := Nat.le_of_ble_eq_true hpn
  have hdn := Nat.le_of_ble_eq_true hdn
  obtain ⟨p0, o0, p1, o1, hev, ⟨u0, hu0, hr0⟩, hu1⟩ := iter_of hs hg
  obtain ⟨a, cap, rfl, hc1, hc2, hr1⟩ := chunk_val hr0 hes
  refine (wpIn_wide (n := 1)).1 (wpIn_rangeFunc ?_)
  intro fn _
  obtain ⟨rec, hrec⟩ : ∃ rec : LoopState → Option Code → Loop, rec = fun s pe => { state := s, pending := pe, fn, tmps := tmps, params := #[par], assign := .region id #[⟨some d, .assign (.tmp par), ty, pos, af, none⟩] false, body, defers := w.heap.size } := ⟨_, rfl⟩
  obtain ⟨W1, hW1⟩ : ∃ W1, (w.alloc (.deferred (some []))).alloc (.loop (rec .ready none)) = W1 := ⟨_, rfl⟩
  have hL1 : W1.heap[w.heap.size + 1]? = some (.loop (rec .ready none)) := by
    rw [← hW1]; have := World.alloc_heap_new (w.alloc (.deferred (some []))) (.loop (rec .ready none)); rwa [World.size_alloc] at this
  have hb1 : Below w.heap.size w W1 := by
    rw [← hW1]; exact ((Below.refl _ w).alloc (Nat.le_refl _) _).alloc (by simp) _
  have hK1 : W1.heap[w.heap.size]? = some (.deferred (some [])) := by
    rw [← hW1]; exact (Below.heap_alloc _ _ _ (by simp)).trans (World.alloc_heap_new w _)
  have hs1 : SimG C n st G tmps W1 := (hs.evolve hb1).2
  have hsz1 : w.heap.size ≤ W1.heap.size := hb1.size
  have hcw : ∀ {b o u}, cellAt w b o = some u → cellAt W1 b o = some u := fun {b o u} hu => by rw [cellAt_same (hb1.block b (cellAt_lt hu))]; exact hu
  have hwz := hs.fr.size
  refine ⟨w.heap.size + 1, [{ target := .collected w.heap.size, args := #[] }], W1, { target := .fn (.func fid) #[.pointer (some ⟨p0, o0, none⟩), .pointer (some ⟨p1, o1, none⟩)], args := #[.func (.yield (w.heap.size + 1)) #[] #[]] }, W1, fid,
    #[.func (.yield (w.heap.size + 1)) #[] #[]] ++ #[.pointer (some ⟨p0, o0, none⟩), .pointer (some ⟨p1, o1, none⟩)], W1, ?_, ?_, ?_, ?_, fun _ => Nat.le_refl _, ?_⟩
  · rw [← hW1, hrec]; exact run_enterLoop_outer _ _ _ _ _
  · have hev' : Act.eval ⟨tmps, Ds.map mkD⟩ g = .func (.func fid) #[] #[.pointer (some ⟨p0, o0, none⟩), .pointer (some ⟨p1, o1, none⟩)] := by rw [Act.eval_ds tmps _ []]; exact hev
    simp only [resolve, hev']
    simp [go_sem]
  · intro f' _; trivial
  · obtain ⟨fn2, hfn2, hname2, hbody2⟩ := hok
    simp only [Sem.run_bind, Sem.run_pure, Result.andThen_ok, invoke, callFunc, run_program, hfn2, hname2, hbody2, Bool.false_eq_true, if_false]
  refine CallsIn.mono (callsIn_wide.2 (hit (w.heap.size + 1) W1 p0 o0 p1 o1 a es.length cap
    (fun W' => ∃ G', SimG C n ⟨st.f, zipB gs st.gen gs b1 ++ st.bx, (List.range k).map (b0.length + · + st.gen) ++ st.lv.filter (fun g => !os.any (Nat.beq g)), b0.length + k + st.gen⟩ G' tmps W' ∧
      W'.heap[w.heap.size + 1]? = some (.loop (rec .ready none)) ∧ ∀ D : Nat, D ≠ w.heap.size + 1 → W1.heap[D]? = some (Obj.deferred (some [])) → W'.heap[D]? = some (Obj.deferred (some [])))
    (hcw hu0) (hcw hu1) hes hes2 hc1 hc2 ?_)) ?_
  · -- the round
    have hsd : SimG C n st G tmps W1.drew := hs1.drew
    have hLd : W1.drew.heap[w.heap.size + 1]? = some (.loop (rec .ready none)) := hL1
    have hy := run_yield (P := P) (args := #[.slice (some a) es.length es.length]) hLd (by rw [hrec]; rfl)
    rw [hrec] at hy
    refine ⟨fn, _, _, body, hy, roundIn_of_wpIn trivial ?_⟩
    generalize hW2 : W1.drew.putObj (w.heap.size + 1) (.loop { rec .ready none with state := .busy }) = W2
    have hbr := run_beginRound (P := P) hLd (by rw [hrec])
    rw [hW2] at hbr
    have hlt1 : w.heap.size + 1 < W1.heap.size := (Array.getElem?_eq_some_iff.1 hL1).1
    have hL2 : W2.heap[w.heap.size + 1]? = some (.loop { rec .ready none with state := .busy }) := by rw [← hW2]; exact World.putObj_heap_same hlt1
    have hoth2 : ∀ b, b ≠ w.heap.size + 1 → W2.heap[b]? = W1.heap[b]? := fun b hb => by rw [← hW2, World.putObj_heap_other hb]; rfl
    have hs2 : SimG C n st G tmps W2 := by rw [← hW2]; exact hsd.turned hLd rfl (by omega) _
    have hc2' : ∀ {b o u}, cellAt w b o = some u → cellAt W2 b o = some u := fun {b o u} hu => by
      have := hcw hu
      rw [cellAt_same (hoth2 b (fun e => by have := cellAt_lt hu; omega))]; exact this
    obtain ⟨hlen, hent⟩ := hs2.lend (gs := gs) (os := os) (nodup_of hgs) (nodup_of hos) (fun g hg => by
      obtain ⟨y, hy, he⟩ := List.any_eq_true.1 (List.all_eq_true.1 hov g hg)
      exact Nat.eq_of_beq_eq_true he ▸ hy) hb
    obtain ⟨hbl, hbg⟩ := lendBx_get hb
    have hsize : tmps.size = n := hs.size
    obtain ⟨tm, htm⟩ : ∃ tm, (tmps.setIfInBounds par (.slice (some a) es.length es.length)).setIfInBounds d (.slice (some a) es.length es.length) = tm := ⟨_, rfl⟩
    have hent2 : SimG (lendC C G W2 gs os) n ⟨(d, .d (.sl es)) :: V, bxs 0 b0, (List.range os.length).map (b0.length + ·), b0.length + os.length⟩ (lendG G gs os) tm W2 := by
      refine { hent with size := by rw [← htm]; simp [hsize], frame := fun t x hx => ?_ }
      rw [look_cons] at hx
      split at hx
      · rename_i e
        subst e
        cases hx
        refine ⟨.slice (some a) es.length es.length, by rw [← htm, Array.getElem?_setIfInBounds_self_of_lt (by simp [hsize]; omega)], .d (hr1.mono fun b o u hu hn => ⟨hc2' hu, fun hp => hn (lend_pv hp)⟩)⟩
      · rename_i e
        obtain ⟨y, hy1, rfl⟩ := hV t x hx
        have hne : t ≠ par := fun e2 => by
          subst e2
          have := List.all_eq_true.1 hVp _ (look_mem' hx)
          simp at this
        obtain ⟨v, hv, hvr⟩ := hs2.frame t y hy1
        exact ⟨v, by rw [← htm, Array.getElem?_setIfInBounds_ne e, Array.getElem?_setIfInBounds_ne (Ne.symm hne)]; exact hv, Rep.lend hs2 gs os (by show _ ≤ b0.length + os.length; omega) 5 v y hvr⟩
    have hrun := hbody (lendC C G W2 gs os) (lendG G gs os) tm W2 (w.heap.size + 1) 0 (GC.inLend hs2) rfl hlen rfl hent2
    have hw : ∀ (ops : Array Oper) (t : Array Value), Region.wanted ⟨some d, .assign (.tmp par), ty, pos, af, none⟩ (yielded ops t) = true := fun _ _ => rfl
    have htp : (tmps.setIfInBounds par (.slice (some a) es.length es.length))[par]? = some (.slice (some a) es.length es.length) := Array.getElem?_setIfInBounds_self_of_lt (by omega)
    have e0 : (Array.foldl (fun (t : Array Value) (x : Nat × Value) => t.setIfInBounds x.1 x.2) tmps ((#[par] : Array Nat).zip #[Value.slice (some a) es.length es.length])) = tmps.setIfInBounds par (.slice (some a) es.length es.length) := by simp
    show (Code.region _ _ _).wpIn _ _ P _ ⟨Array.foldl (fun (t : Array Value) (x : Nat × Value) => t.setIfInBounds x.1 x.2) tmps ((#[par] : Array Nat).zip #[Value.slice (some a) es.length es.length]), []⟩ _
    rw [e0]
    refine wpIn_region ?_
    show wpOpsIn _ _ P #[_] _ [0] _ _
    simp only [wpOpsIn, List.getElem?_toArray, List.getElem?_cons_zero, hw, if_true]
    refine ⟨fun _ _ => trivial, ?_⟩
    have hex : Sem.run P (Oper.semAt (Fence.wide.inRound (w.heap.size + 1)).round (Act.eval ⟨tmps.setIfInBounds par (.slice (some a) es.length es.length), []⟩) ⟨some d, .assign (.tmp par), ty, pos, af, none⟩) W1.drew = .ok (.value (.slice (some a) es.length es.length)) W1.drew := by
      rw [Oper.semAt_eq _ _ _ (fun c h => by cases h)]
      show Sem.run P (execOp _ _) _ = _
      simp only [execOp, Act.eval]
      have hgd : (tmps.setIfInBounds par (Value.slice (some a) es.length es.length)).getD par undef = .slice (some a) es.length es.length := by
        rw [Array.getD_eq_getD_getElem?, htp]; rfl
      rw [hgd]
      rfl
    rw [hex]
    show ∃ w₂, _
    refine ⟨W2, hbr, ?_⟩
    have etm : (Act.put ⟨tmps.setIfInBounds par (.slice (some a) es.length es.length), []⟩ (some d) (.slice (some a) es.length es.length)) = ⟨tm, []⟩ := by rw [← htm]; rfl
    show body.wpIn _ _ P _ (Act.put ⟨tmps.setIfInBounds par (.slice (some a) es.length es.length), []⟩ (some d) (.slice (some a) es.length es.length)) W2
    rw [etm]
    refine wpIn_mono hrun ?_
    rintro e a3 W3 ⟨rfl, G3, hs3⟩
    obtain ⟨G4, _, hs4⟩ := hs2.unlend hb hl1 hs3
    have hkeep : ∀ {b : Nat} {o : Obj}, W2.heap[b]? = some o → keptO o = false → W3.heap[b]? = some o := fun {b o} hbo ho => by
      refine (hs3.fr.block b (Array.getElem?_eq_some_iff.1 hbo).1 (fun hl => hs2.notDef hbo ho ?_)).trans hbo
      rcases hl with ⟨g', _, hg'⟩ | ⟨lim, g', _, r, hr', hra⟩
      · exact .inl ⟨g', hg'⟩
      · exact .inr ⟨g', r, lim, hr', hra⟩
    have hL3 := hkeep hL2 rfl
    have her := run_endRound (P := P) none hL3
    refine ⟨_, _, her, rfl, ?_⟩
    have hs5 := hs4.turned hL3 rfl (by omega) (.loop { { rec .ready none with state := LoopState.busy } with state := if (none : Option Code).isNone then .ready else .done, pending := none })
    obtain ⟨q0, r0, q1, r1, hev2, ⟨u2, hu2, hr2⟩, hu3⟩ := iter_of hs5 (g := g) (fid := fid) (es := es) (x := .int .i64 1000) hg
    rw [hev] at hev2
    simp only [Value.func.injEq, true_and] at hev2
    have hev3 := congrArg Array.toList hev2
    simp only [List.cons.injEq, Value.pointer.injEq, Option.some.injEq, Addr.mk.injEq, and_true] at hev3
    obtain ⟨⟨rfl, rfl⟩, rfl, rfl⟩ := hev3
    obtain ⟨a2, cap2, rfl⟩ := slice_len hr2
    refine ⟨⟨a2, cap2, hu2⟩, hu3, G4, hs5, ?_, fun D hne hD => ?_⟩
    · rw [hrec]
      exact World.putObj_heap_same (Array.getElem?_eq_some_iff.1 hL3).1
    · rw [World.putObj_heap_other hne]
      exact hkeep (by rw [hoth2 D hne]; exact hD) rfl
  · rintro e W3 ⟨⟨v, rfl⟩, G', hs3, hl3, hd3⟩
    have hel := run_endLoop (P := P) hl3 (by rw [hrec]; simp)
    rw [hrec] at hel
    refine ⟨none, _, hel, ?_⟩
    have hne : ∀ D, W1.heap[D]? = some (Obj.deferred (some [])) → D ≠ w.heap.size + 1 := fun D hD e => by rw [e, hL1] at hD; cases hD
    have hfin : ∀ D : Nat, W1.heap[D]? = some (Obj.deferred (some [])) → (W3.putObj (w.heap.size + 1) (.loop { rec .ready none with state := .exhausted })).heap[D]? = some (Obj.deferred (some [])) := fun D hD => by
      rw [World.putObj_heap_other (hne D hD)]; exact hd3 D (hne D hD) hD
    rw [hrec] at hfin
    refine ⟨⟨w.heap.size :: Ds, rfl, ?_, fun D hD => ?_⟩, _, ⟨G', hs3.turned hl3 rfl (by omega) _⟩, h⟩
    · rw [List.nodup_cons]
      refine ⟨fun hm => ?_, hDn⟩
      have := (Array.getElem?_eq_some_iff.1 (hDs _ hm).2).1
      omega
    · rcases List.mem_cons.1 hD with rfl | hD
      · exact ⟨hwz, hfin _ hK1⟩
      · obtain ⟨h1, h2⟩ := hDs D hD
        exact ⟨h1, hfin D (by rw [hb1.block D (Array.getElem?_eq_some_iff.1 h2).1]; exact h2)⟩
end
end Go.Ab
namespace Go.Tb
open Go.Ab
structure Good (e : Ev) : Prop where
  time : 0 ≤ e.time ∧ e.time ≤ 1000000000000
  kind : 1 ≤ e.kind ∧ e.kind < 13
  noName : (frmOf e.kind).name = false → e.name = B #[]
  noN : (frmOf e.kind).n = false → e.n = 0
  noM : (frmOf e.kind).m = false → e.m = 0
  noStack : (frmOf e.kind).stack = false → e.stack = []
  name : (frmOf e.kind).name = true → nameErr e.name = 0
  stack : (frmOf e.kind).name = false → framesErr e.stack = 0
  n : (frmOf e.kind).n = true → (frmOf e.kind).least ≤ e.n ∧ e.n ≤ (frmOf e.kind).most
  stop : e.kind = 9 → e.n ≠ 2 → e.m = 0
  m : (frmOf e.kind).m = true → (e.kind ≠ 9 ∨ e.n = 2) → (frmOf e.kind).mLeast ≤ e.m ∧ e.m ≤ (frmOf e.kind).mMost
theorem Good.frames {e : Ev} (g : Good e) : framesErr e.stack = 0 := by
  cases h : (frmOf e.kind).name with
  | false => exact g.stack h
  | true =>
    have : (frmOf e.kind).stack = false := by
      rcases kinds g.kind.1 g.kind.2 with q | q | q | q | q | q | q | q | q | q | q | q <;> rw [q] at h ⊢ <;> revert h <;> decide
    rw [g.noStack this]
    rfl
end Go.Tb
namespace Go.Tb
open Go.Ab
def swW : ByteArray := B #[115, 119, 105, 116, 99, 104]
def blW : ByteArray := B #[98, 108, 111, 99, 107]
def wkW : ByteArray := B #[119, 97, 107, 101]
def numF (s : ByteArray) (most : Int) : Int × Bool := ((numP s).1, (numP s).2 && decide (0 ≤ (numP s).1) && decide ((numP s).1 ≤ most))
def cntM : List (ByteArray × Int) := [(swW, 3), (blW, 3), (wkW, 2)]
def cntF (w : ByteArray) : Int := (mget cntM w).getD 0
def numsF : List ByteArray → Bool → Bool
  | [], b => b
  | w :: r, b => numsF r (b && (numF w 1000000000000000).2)
structure LineR where
  at_ : Int
  cpu : Int
  word : ByteArray
  l : List Int
  e : Int
deriving DecidableEq
def badLine : LineR := ⟨0, 0, B #[], [], 10⟩
def lineW (w : List ByteArray) : LineR :=
  match w with
  | a :: b :: k :: r =>
    if cntF k = 0 ∨ (r.length : Int) ≠ cntF k then badLine
    else if numsF r (numF a 1000000000000).2 = false ∨ (numF b 63).2 = false ∨ (k = swW ∧ ¬ ((r.map fun w => (numF w 1000000000000000).1)[1]?.getD 0 ∈ [(0 : Int), 1, 3])) then badLine
    else ⟨(numF a 1000000000000).1, (numF b 63).1, k, r.map fun w => (numF w 1000000000000000).1, 0⟩
  | _ => badLine
def lineF (s : ByteArray) : LineR := lineW (cutB s 32)
end Go.Tb
namespace Go.Tb
open Go.Ab
theorem cntM_nodup : (cntM.map (·.1)).Nodup := by decide
theorem cnt_val (k : ByteArray) : (k = swW ∧ cntF k = 3) ∨ (k = blW ∧ cntF k = 3) ∨ (k = wkW ∧ cntF k = 2) ∨ (k ≠ swW ∧ k ≠ blW ∧ k ≠ wkW ∧ cntF k = 0) := by
  unfold cntF cntM
  by_cases h1 : k = swW
  · exact .inl ⟨h1, by rw [mget_cons, if_pos h1.symm]; rfl⟩
  · by_cases h2 : k = blW
    · exact .inr (.inl ⟨h2, by rw [mget_cons, if_neg (Ne.symm h1), mget_cons, if_pos h2.symm]; rfl⟩)
    · by_cases h3 : k = wkW
      · exact .inr (.inr (.inl ⟨h3, by rw [mget_cons, if_neg (Ne.symm h1), mget_cons, if_neg (Ne.symm h2), mget_cons, if_pos h3.symm]; rfl⟩))
      · exact .inr (.inr (.inr ⟨h1, h2, h3, by rw [mget_cons, if_neg (Ne.symm h1), mget_cons, if_neg (Ne.symm h2), mget_cons, if_neg (Ne.symm h3)]; rfl⟩))
def LineR.res (x : LineR) : A := .tup [.d (ci x.at_), .d (ci x.cpu), .d (.v (.string x.word)), .d (.sl (x.l.map ic)), .d (ci x.e)]
theorem cut_size {s w : ByteArray} {c : UInt8} (h : w ∈ cutB s c) : w.size ≤ s.size := by
  unfold cutB at h
  obtain ⟨x, hx, rfl⟩ := List.mem_map.1 h
  have h1 := cutL_mem c _ x hx
  have h2 : s.data.toList.length = s.size := Array.length_toList
  have h3 : (ofL x).size = x.length := (Array.length_toList (xs := (ofL x).data)).symm
  omega
theorem lineW_short {l : List ByteArray} (h : l.length < 3) : lineW l = badLine := by
  match l, h with
  | [], _ => rfl
  | [_], _ => rfl
  | [_, _], _ => rfl
theorem lineW_cnt {a b k : ByteArray} {r : List ByteArray} (h : cntF k = 0 ∨ (r.length : Int) ≠ cntF k) : lineW (a :: b :: k :: r) = badLine := by
  simp only [lineW]
  rw [if_pos h]
abbrev nv (w : ByteArray) : Int := (numF w 1000000000000000).1
theorem lineW_eq {a b k : ByteArray} {r : List ByteArray} (h1 : cntF k ≠ 0) (h2 : (r.length : Int) = cntF k) (y : Int) (hy : k = swW → (r.map nv)[1]? = some y) :
    lineW (a :: b :: k :: r) = if (bif !(numsF r (numF a 1000000000000).2) then true else bif !(numF b 63).2 then true else bif decide (k = swW) then !([0, 1, 3].any fun x => decide (y = x)) else false) = true then badLine
      else ⟨(numF a 1000000000000).1, (numF b 63).1, k, r.map nv, 0⟩ := by
  simp only [lineW]
  rw [if_neg (by simp [h1, h2])]
  cases hA : numsF r (numF a 1000000000000).2 with
  | false => simp
  | true =>
    cases hB : (numF b 63).2 with
    | false => simp
    | true =>
      by_cases hk : k = swW
      · have := hy hk
        unfold nv at this ⊢
        rw [this]
        by_cases q0 : y = 0 <;> by_cases q1 : y = 1 <;> by_cases q3 : y = 3 <;> simp [hk, q0, q1, q3]
      · simp [hk]
abbrev InS := List Int × List (Int × List Ev)
def addF (x : InS) (th : Int) (e : Ev) : InS :=
  if th = 0 then x else (if ((mget x.2 th).getD []) = [] then x.1 ++ [th] else x.1, mput x.2 th ((mget x.2 th).getD [] ++ [e]))
def evW (at_ w m : Int) : Ev := ⟨at_, 10, B #[], w, m, []⟩
def evS (at_ n m : Int) : Ev := ⟨at_, 9, B #[], n, m, []⟩
def evR (at_ cpu : Int) : Ev := ⟨at_, 8, B #[], cpu, 0, []⟩
def lineE (x : LineR) : List (Int × Ev) :=
  if x.word = wkW then [(x.l[0]?.getD 0, evW x.at_ (x.l[1]?.getD 0) 0)]
  else [(x.l[0]?.getD 0, if x.word = swW then evS x.at_ (x.l[1]?.getD 0) 0 else evS x.at_ 2 (x.l[1]?.getD 0)), (x.l[2]?.getD 0, evR x.at_ x.cpu)]
def addsF (x : InS) (l : List (Int × Ev)) : InS := l.foldl (fun x p => addF x p.1 p.2) x
def OkIn (n : Nat) (x : InS) : Prop := (x.2.map (·.1)).Nodup ∧ x.1.length ≤ n ∧ ∀ p ∈ x.2, p.2.length ≤ n
theorem OkIn.get {n : Nat} {x : InS} (h : OkIn n x) (th : Int) : ((mget x.2 th).getD []).length ≤ n := by
  unfold mget
  cases q : x.2.find? fun p => decide (p.1 = th) with
  | none => simp
  | some p => simpa [q] using h.2.2 p (List.mem_of_find?_eq_some q)
theorem OkIn.add {n : Nat} {x : InS} (h : OkIn n x) (th : Int) (e : Ev) : OkIn (n + 1) (addF x th e) := by
  unfold addF
  split
  · exact ⟨h.1, Nat.le_succ_of_le h.2.1, fun p hp => Nat.le_succ_of_le (h.2.2 p hp)⟩
  · refine ⟨mput_nodup h.1 _ _, ?_, fun p hp => ?_⟩
    · have := h.2.1
      simp only
      split <;> simp <;> omega
    · have key : ∀ {l : List (Int × List Ev)} {y : List Ev}, p ∈ mput l th y → p = (th, y) ∨ p ∈ l := by
        intro l
        induction l with
        | nil => intro y hp; simp [mput] at hp; exact .inl hp
        | cons q r ih =>
          intro y hp
          simp only [mput] at hp
          split at hp
          · rcases List.mem_cons.1 hp with h | h
            · exact .inl h
            · exact .inr (List.mem_cons_of_mem _ h)
          · rcases List.mem_cons.1 hp with h | h
            · exact .inr (h ▸ List.mem_cons_self)
            · exact (ih h).imp id (List.mem_cons_of_mem _)
      rcases key hp with rfl | hp
      · have := h.get th
        simp only [List.length_append, List.length_singleton]
        omega
      · exact Nat.le_succ_of_le (h.2.2 p hp)
theorem OkIn.mono {n m : Nat} {x : InS} (h : OkIn n x) (hn : n ≤ m) : OkIn m x := ⟨h.1, Nat.le_trans h.2.1 hn, fun p hp => Nat.le_trans (h.2.2 p hp) hn⟩
end Go.Tb
namespace Go.Ab
open Go.RowKit Go.MapKept
section
variable {C : Ctx} {n : Nat} {st : St} {G : Gh} {tmps : Array Value} {w : World}
theorem SimG.split (h : SimG C n st G tmps w) {g b : Nat} {bs bs' : List (Nat × Nat)} (hg : G.own g = some (.mp b bs)) (hsub : ∀ p ∈ bs', p ∈ bs) (r2 : Row) (hr2 : ∀ b' bs', r2 ≠ .mp b' bs')
    (hr3 : ∀ c len cap sz pub, r2 = .blk c len cap sz pub → (c, pub) ∈ bs ∧ (∀ p ∈ bs', p.1 ≠ c) ∧ ∃ cur T, w.heap[c]? = some (.cells cur T (0, 0)) ∧ cur.size = cap * sz ∧ len ≤ cap ∧ cap ≤ maxLen ∧ 0 < sz ∧ 0 < len ∧ pub ≤ len * sz ∧ OneC cur)
    (lv : List Nat) (hlv : ∀ g' ∈ lv, g' ∈ st.lv ∧ g' ≠ g) :
    ∃ G' : Gh, G'.box = G.box ∧ G'.own st.gen = some (.mp b bs') ∧ G'.own (st.gen + 1) = some r2 ∧ (enOf C G st.gen w).le (enOf C G' (st.gen + 2) w) ∧ SimG C n { st with lv := st.gen :: (st.gen + 1) :: lv, gen := st.gen + 2 } G' tmps w := by
  let own' : Nat → Option Row := fun g' => if g' = st.gen then some (.mp b bs') else if g' = st.gen + 1 then some r2 else if g' = g then none else G.own g'
  have hgl := h.gown g _ hg
  have ublk : ∀ {g' c len cap sz pub}, own' g' = some (.blk c len cap sz pub) → (g' = st.gen + 1 ∧ r2 = .blk c len cap sz pub) ∨ (g' ≠ st.gen ∧ g' ≠ st.gen + 1 ∧ g' ≠ g ∧ G.own g' = some (.blk c len cap sz pub)) := by
    intro g' c len cap sz pub hr
    simp only [own'] at hr
    split at hr
    · cases hr
    · split at hr
      · rename_i e; exact .inl ⟨e, Option.some.inj hr⟩
      · split at hr
        · cases hr
        · rename_i e1 e2 e3; exact .inr ⟨e1, e2, e3, hr⟩
  have ump : ∀ {g' b2 bs2}, own' g' = some (.mp b2 bs2) → (g' = st.gen ∧ b2 = b ∧ bs2 = bs') ∨ (g' ≠ st.gen ∧ g' ≠ st.gen + 1 ∧ g' ≠ g ∧ G.own g' = some (.mp b2 bs2)) := by
    intro g' b2 bs2 hr
    simp only [own'] at hr
    split at hr
    · rename_i e; simp only [Option.some.injEq, Row.mp.injEq] at hr; exact .inl ⟨e, hr.1.symm, hr.2.symm⟩
    · split at hr
      · exact absurd (Option.some.inj hr) (hr2 _ _)
      · split at hr
        · cases hr
        · rename_i e1 e2 e3; exact .inr ⟨e1, e2, e3, hr⟩
  have hpv : ∀ b' o, pvOf C ⟨G.box, own'⟩ b' o → pvOf C G b' o := by
    rintro b' o (hp | hp | ⟨g', len', cap', sz', pub', hp, hl'⟩ | ⟨g', b2, bs2, lim, hp, hm, hl'⟩)
    · exact .inl hp
    · exact .inr (.inl hp)
    · rcases ublk hp with ⟨_, e⟩ | ⟨_, _, _, e⟩
      · exact .inr (.inr (.inr ⟨g, b, bs, pub', hg, (hr3 _ _ _ _ _ e).1, hl'⟩))
      · exact .inr (.inr (.inl ⟨g', len', cap', sz', pub', e, hl'⟩))
    · rcases ump hp with ⟨_, rfl, rfl⟩ | ⟨_, _, _, e⟩
      · exact .inr (.inr (.inr ⟨g, _, bs, lim, hg, hsub _ hm, hl'⟩))
      · exact .inr (.inr (.inr ⟨g', b2, bs2, lim, e, hm, hl'⟩))
  have hle : (enOf C G st.gen w).le (enOf C ⟨G.box, own'⟩ (st.gen + 2) w) := leOf h.fr h.fr (fun b' o u hu hn => ⟨hu, fun hp => hn (hpv b' o hp)⟩) (fun _ _ h => h)
    (fun g' r' hg' hr' => by
      simp only [own', if_neg (Nat.ne_of_lt hg'), if_neg (Nat.ne_of_lt (Nat.lt_succ_of_lt hg'))] at hr'
      split at hr'
      · cases hr'
      · exact hr') (by omega) (fun _ _ _ _ _ _ _ _ => rfl) (fun _ _ _ _ _ => ⟨rfl, fun _ _ => rfl⟩) (.refl w)
  refine ⟨⟨G.box, own'⟩, rfl, by simp [own'], by simp [own'], hle, { size := h.size, frame := h.frame_mono hle, inj := h.inj, xold := h.xold, kold := h.kold, lent := h.lent, fr := h.fr, gcell := h.gcell, box := ?_, gbox := ?_, live := ?_, gown := ?_, row := ?_, mrow := ?_, sub := ?_ }⟩
  · intro g' cells hc
    obtain ⟨b', cs, T', h1, h2, h3, h4, h5⟩ := h.box g' cells hc
    exact ⟨b', cs, T', h1, h2, h3, h4, fun i u a hu ha => (h5 i u a hu ha).mono hle⟩
  · intro g' b' hb
    obtain ⟨h1, h2, h3⟩ := h.gbox g' b' hb
    exact ⟨by simp only; omega, h2, h3⟩
  · intro g' hg'
    rcases List.mem_cons.1 hg' with rfl | hg'
    · exact ⟨_, by simp [own']; rfl⟩
    · rcases List.mem_cons.1 hg' with rfl | hg'
      · exact ⟨_, by simp [own']; rfl⟩
      · obtain ⟨h1, h2⟩ := hlv g' hg'
        obtain ⟨r', hr'⟩ := h.live g' h1
        have := h.gown g' r' hr'
        exact ⟨r', by simp only [own']; rw [if_neg (by omega), if_neg (by omega), if_neg h2]; exact hr'⟩
  · intro g' r' hr'
    simp only [own'] at hr'
    split at hr'
    · simp only; omega
    · split at hr'
      · simp only; omega
      · split at hr'
        · cases hr'
        · have := h.gown g' r' hr'; simp only; omega
  · intro g' b' len cap sz pub hr'
    rcases ublk hr' with ⟨e0, e⟩ | ⟨_, e1, e2, e⟩
    · obtain ⟨q1, q2, q3⟩ := hr3 _ _ _ _ _ e
      obtain ⟨s1, s2, s3, _⟩ := h.sub g b bs b' pub hg q1
      refine ⟨s1, s2, fun g2 len2 cap2 sz2 pub2 h2 => ?_, q3⟩
      rcases ublk h2 with ⟨e3, _⟩ | ⟨_, _, _, e3⟩
      · omega
      · exact absurd e3 (s3 _ _ _ _ _)
    · obtain ⟨s1, s2, s3, s4⟩ := h.row g' b' len cap sz pub e
      refine ⟨s1, s2, fun g2 len2 cap2 sz2 pub2 h2 => ?_, s4⟩
      rcases ublk h2 with ⟨_, e3⟩ | ⟨_, _, _, e3⟩
      · exact absurd e ((h.sub g b bs b' pub2 hg (hr3 _ _ _ _ _ e3).1).2.2.1 _ _ _ _ _)
      · exact s3 _ _ _ _ _ e3
  · intro g' b' bs2 hr'
    rcases ump hr' with ⟨e0, rfl, rfl⟩ | ⟨e0, e1, e2, e⟩
    · obtain ⟨s1, s2, s3, s4⟩ := h.mrow g _ bs hg
      refine ⟨s1, s2, fun g2 bs3 h2 => ?_, s4⟩
      rcases ump h2 with ⟨e3, _⟩ | ⟨_, _, e4, e3⟩
      · omega
      · exact absurd (s3 g2 bs3 e3) e4
    · obtain ⟨s1, s2, s3, s4⟩ := h.mrow g' b' bs2 e
      refine ⟨s1, s2, fun g2 bs3 h2 => ?_, s4⟩
      rcases ump h2 with ⟨_, rfl, _⟩ | ⟨_, _, _, e3⟩
      · exact absurd (s3 g bs hg).symm e2
      · exact s3 g2 bs3 e3
  · intro g' b' bs2 c lim hr' hm
    rcases ump hr' with ⟨e0, rfl, rfl⟩ | ⟨e0, e1, e2, e⟩
    · obtain ⟨s1, s2, s3, s4, s5⟩ := h.sub g _ bs c lim hg (hsub _ hm)
      refine ⟨s1, s2, fun g2 len cap sz pub h2 => ?_, fun g2 b3 bs3 lim2 h2 hm2 => ?_, s5⟩
      · rcases ublk h2 with ⟨_, e3⟩ | ⟨_, _, _, e3⟩
        · exact (hr3 _ _ _ _ _ e3).2.1 _ hm rfl
        · exact s3 _ _ _ _ _ e3
      · rcases ump h2 with ⟨e3, rfl, rfl⟩ | ⟨_, _, e4, e3⟩
        · exact ⟨by omega, (s4 g _ bs lim2 hg (hsub _ hm2)).2⟩
        · exact absurd (s4 g2 b3 bs3 lim2 e3 hm2).1 e4
    · obtain ⟨s1, s2, s3, s4, s5⟩ := h.sub g' b' bs2 c lim e hm
      refine ⟨s1, s2, fun g2 len cap sz pub h2 => ?_, fun g2 b3 bs3 lim2 h2 hm2 => ?_, s5⟩
      · rcases ublk h2 with ⟨_, e3⟩ | ⟨_, _, _, e3⟩
        · exact e2 ((s4 g b bs pub hg (hr3 _ _ _ _ _ e3).1).1).symm
        · exact s3 _ _ _ _ _ e3
      · rcases ump h2 with ⟨_, rfl, rfl⟩ | ⟨_, _, _, e3⟩
        · exact absurd ((s4 g _ bs lim2 hg (hsub _ hm2)).1).symm e2
        · exact s4 g2 b3 bs3 lim2 e3 hm2
theorem SimG.join (h : SimG C n st G tmps w) {g g2 b : Nat} {bs bs' : List (Nat × Nat)} (hg : G.own g = some (.mp b bs)) {r2 : Row} (hg2 : G.own g2 = some r2) (hgg : g2 ≠ g) (hsub : ∀ p ∈ bs', p ∈ bs ∨ ∃ len cap sz, r2 = .blk p.1 len cap sz p.2) (me : Array MapEntry) (clock : Nat)
    (lv : List Nat) (hlv : ∀ g' ∈ lv, g' ∈ st.lv ∧ g' ≠ g ∧ g' ≠ g2) :
    ∃ G' : Gh, G'.box = G.box ∧ G'.own st.gen = some (.mp b bs') ∧ (enOf C G st.gen w).le (enOf C G' (st.gen + 1) { w with heap := w.heap.setIfInBounds b (.map me clock) }) ∧ SimG C n { st with lv := st.gen :: lv, gen := st.gen + 1 } G' tmps { w with heap := w.heap.setIfInBounds b (.map me clock) } := by
  obtain ⟨hmine, hnb, huniq, me0, clock0, hcur⟩ := h.mrow g b bs hg
  obtain ⟨hnew, hoth⟩ := heap_set (o' := Obj.map me clock) hcur
  let own' : Nat → Option Row := fun g' => if g' = st.gen then some (.mp b bs') else if g' = g then none else if g' = g2 then none else G.own g'
  generalize hw' : ({ w with heap := w.heap.setIfInBounds b (.map me clock) } : World) = w'
  have e1 : w'.heap = w.heap.setIfInBounds b (.map me clock) := by rw [← hw']
  have e2 : w'.os = w.os := by rw [← hw']
  have e3 : w'.tape = w.tape := by rw [← hw']
  have e4 : w'.output = w.output := by rw [← hw']
  rw [← e1] at hnew hoth
  have hsz : w'.heap.size = w.heap.size := by rw [e1]; simp
  have hnocell : ∀ o, Ab.cellAt w b o = none := fun o => by simp [Ab.cellAt, World.cell?, hcur]
  have hcell : ∀ b' o u, Ab.cellAt w b' o = some u → Ab.cellAt w' b' o = some u := fun b' o u hu => by
    have hne : b' ≠ b := fun e => by subst e; rw [hnocell] at hu; cases hu
    rw [cellAt_same (hoth b' hne)]; exact hu
  have hcb : ∀ {c : Nat} {cs : Array Value} {T : TypeId} {f : Nat × Nat}, w.heap[c]? = some (.cells cs T f) → w'.heap[c]? = some (.cells cs T f) := fun {c cs T f} hc => by
    rw [hoth c (fun e => by rw [e, hcur] at hc; cases hc)]; exact hc
  have htk : TyKept w w' := fun b' cs T f h => ⟨cs, f, hcb h⟩
  have hgl := h.gown g _ hg
  have hgl2 := h.gown g2 _ hg2
  have uold : ∀ {g' r'}, own' g' = some r' → g' ≠ st.gen → G.own g' = some r' ∧ g' ≠ g ∧ g' ≠ g2 := by
    intro g' r' hr hne
    simp only [own', if_neg hne] at hr
    split at hr
    · cases hr
    · split at hr
      · cases hr
      · rename_i e1 e2; exact ⟨hr, e1, e2⟩
  have unew : ∀ {r'}, own' st.gen = some r' → r' = .mp b bs' := fun {r'} hr => by simpa [own'] using hr.symm
  have ublk : ∀ {g' c len cap sz pub}, own' g' = some (.blk c len cap sz pub) → g' ≠ st.gen ∧ g' ≠ g ∧ g' ≠ g2 ∧ G.own g' = some (.blk c len cap sz pub) := fun {g' c len cap sz pub} hr => by
    have hne : g' ≠ st.gen := fun e => by subst e; cases unew hr
    obtain ⟨q1, q2, q3⟩ := uold hr hne
    exact ⟨hne, q2, q3, q1⟩
  have ump : ∀ {g' b2 bs2}, own' g' = some (.mp b2 bs2) → (g' = st.gen ∧ b2 = b ∧ bs2 = bs') ∨ (g' ≠ st.gen ∧ g' ≠ g ∧ g' ≠ g2 ∧ G.own g' = some (.mp b2 bs2)) := fun {g' b2 bs2} hr => by
    by_cases e : g' = st.gen
    · subst e
      have := unew hr
      simp only [Row.mp.injEq] at this
      exact .inl ⟨rfl, this.1, this.2⟩
    · obtain ⟨q1, q2, q3⟩ := uold hr e
      exact .inr ⟨e, q2, q3, q1⟩
  have hclm : ∀ {c lim}, (c, lim) ∈ bs' → C.mine c lim ∧ (∀ g', G.box g' ≠ some c) ∧ (∀ g' len cap sz pub, G.own g' = some (.blk c len cap sz pub) → g' = g2 ∧ pub = lim) ∧ (∀ g' b3 bs3 lim', G.own g' = some (.mp b3 bs3) → (c, lim') ∈ bs3 → g' = g ∧ lim' = lim ∧ (c, lim) ∈ bs) ∧ ∃ cur T, w.heap[c]? = some (.cells cur T (0, 0)) ∧ lim ≤ cur.size ∧ OneC cur := by
    intro c lim hm
    rcases hsub _ hm with hm | ⟨len, cap, sz, hr⟩
    · obtain ⟨s1, s2, s3, s4, s5⟩ := h.sub g b bs c lim hg hm
      exact ⟨s1, s2, fun g' len cap sz pub hr => absurd hr (s3 _ _ _ _ _), fun g' b3 bs3 lim' hr hm' => ⟨(s4 g' b3 bs3 lim' hr hm').1, (s4 g' b3 bs3 lim' hr hm').2, hm⟩, s5⟩
    · rw [hr] at hg2
      obtain ⟨s1, s2, s3, cur, T, s4, s5, s6, s7, s8, s9, s10, s11⟩ := h.row g2 c len cap sz lim hg2
      refine ⟨s1, s2, fun g' len' cap' sz' pub' hr' => ?_, fun g' b3 bs3 lim' hr' hm' => absurd hg2 ((h.sub g' b3 bs3 c lim' hr' hm').2.2.1 _ _ _ _ _), cur, T, s4, ?_, s11⟩
      · have := s3 g' len' cap' sz' pub' hr'
        subst this
        rw [hg2] at hr'
        simp only [Option.some.injEq, Row.blk.injEq] at hr'
        exact ⟨rfl, hr'.2.2.2.2.symm⟩
      · have : len * sz ≤ cap * sz := Nat.mul_le_mul_right _ s6
        omega
  have hpv : ∀ b' o, pvOf C ⟨G.box, own'⟩ b' o → pvOf C G b' o := by
    rintro b' o (hp | hp | ⟨g', len', cap', sz', pub', hp, hl'⟩ | ⟨g', b2, bs2, lim, hp, hm, hl'⟩)
    · exact .inl hp
    · exact .inr (.inl hp)
    · exact .inr (.inr (.inl ⟨g', len', cap', sz', pub', (ublk hp).2.2.2, hl'⟩))
    · rcases ump hp with ⟨_, rfl, rfl⟩ | ⟨_, _, _, e⟩
      · rcases hsub _ hm with hm | ⟨len, cap, sz, hr⟩
        · exact .inr (.inr (.inr ⟨g, _, bs, lim, hg, hm, hl'⟩))
        · rw [hr] at hg2; exact .inr (.inr (.inl ⟨g2, len, cap, sz, lim, hg2, hl'⟩))
      · exact .inr (.inr (.inr ⟨g', b2, bs2, lim, e, hm, hl'⟩))
  have hfr : Fr C w' := ⟨e2.trans h.fr.os, e3.trans h.fr.tape, e4.trans h.fr.output, by rw [hsz]; exact h.fr.size, fun b' h1 h2 => by
    rw [hoth b' (fun e => by subst e; exact hmine.1.elim (fun hm => by omega) h2)]; exact h.fr.block b' h1 h2, fun b' o u hk hu => hcell b' o u (h.fr.cells b' o u hk hu), h.fr.ty.trans htk⟩
  have hle : (enOf C G st.gen w).le (enOf C ⟨G.box, own'⟩ (st.gen + 1) w') := leOf h.fr hfr (fun b' o u hu hn => ⟨hcell b' o u hu, fun hp => hn (hpv b' o hp)⟩) (fun _ _ h => h)
    (fun g' r' hg' hr' => (uold hr' (Nat.ne_of_lt hg')).1) (Nat.le_succ _) (fun g' b' len' cap' sz' pub' hg' hr' => by
      obtain ⟨_, _, _, cur, T, q1, _⟩ := h.row g' b' len' cap' sz' pub' (uold hr' (Nat.ne_of_lt hg')).1
      rw [q1]; exact hcb q1) (fun g' b' bs2 hg' hr' => by
      obtain ⟨q1, q2, q3⟩ := uold hr' (Nat.ne_of_lt hg')
      refine ⟨hoth b' (fun e => by subst e; exact q2 (huniq g' bs2 q1)), fun p hp => ?_⟩
      obtain ⟨_, _, _, _, cur, T, q4, _⟩ := h.sub g' b' bs2 p.1 p.2 q1 hp
      rw [q4]; exact hcb q4) htk
  refine ⟨⟨G.box, own'⟩, rfl, by simp [own'], hle, { size := h.size, frame := h.frame_mono hle, inj := h.inj, xold := h.xold, kold := h.kold, lent := h.lent, fr := hfr, gcell := fun g' b' hb' => gcTy htk (h.gcell g' b' hb'), box := ?_, gbox := ?_, live := ?_, gown := ?_, row := ?_, mrow := ?_, sub := ?_ }⟩
  · intro g' cells hc
    obtain ⟨b', cs, T', h1, h2, h3, h4, h5⟩ := h.box g' cells hc
    exact ⟨b', cs, T', h1, hcb h2, h3, h4, fun i u a hu ha => (h5 i u a hu ha).mono hle⟩
  · intro g' b' hb
    obtain ⟨h1, h2, h3⟩ := h.gbox g' b' hb
    exact ⟨Nat.lt_succ_of_lt h1, by rw [hsz]; exact h2, h3⟩
  · intro g' hg'
    rcases List.mem_cons.1 hg' with rfl | hg'
    · exact ⟨_, by simp [own']; rfl⟩
    · obtain ⟨h1, h2, h3⟩ := hlv g' hg'
      obtain ⟨r', hr'⟩ := h.live g' h1
      exact ⟨r', by simp only [own', if_neg (Nat.ne_of_lt (h.gown g' r' hr')), if_neg h2, if_neg h3]; exact hr'⟩
  · intro g' r' hr'
    by_cases e : g' = st.gen
    · simp only; omega
    · exact Nat.lt_succ_of_lt (h.gown g' r' (uold hr' e).1)
  · intro g' b' len cap sz pub hr'
    obtain ⟨_, _, _, e⟩ := ublk hr'
    obtain ⟨s1, s2, s3, cur, T, s4, s5⟩ := h.row g' b' len cap sz pub e
    exact ⟨s1, s2, fun g3 len2 cap2 sz2 pub2 h2 => s3 _ _ _ _ _ (ublk h2).2.2.2, cur, T, hcb s4, s5⟩
  · intro g' b' bs2 hr'
    rcases ump hr' with ⟨n0, rfl, rfl⟩ | ⟨n0, n1, n2, e⟩
    · refine ⟨hmine, hnb, fun g3 bs3 h2 => ?_, me, clock, hnew⟩
      rcases ump h2 with ⟨q, _⟩ | ⟨_, q2, _, q3⟩
      · omega
      · exact absurd (huniq g3 bs3 q3) q2
    · obtain ⟨s1, s2, s3, me2, cl2, s4⟩ := h.mrow g' b' bs2 e
      have hne : b' ≠ b := fun e => by subst e; exact n1 (huniq g' bs2 (by assumption))
      refine ⟨s1, s2, fun g3 bs3 h2 => ?_, me2, cl2, by rw [hoth b' hne]; exact s4⟩
      rcases ump h2 with ⟨_, q, _⟩ | ⟨_, _, _, q3⟩
      · exact absurd q hne
      · exact s3 g3 bs3 q3
  · intro g' b' bs2 c lim hr' hm
    rcases ump hr' with ⟨n0, rfl, rfl⟩ | ⟨n0, n1, n2, e⟩
    · obtain ⟨s1, s2, s3, s4, cur, T, s5, s6⟩ := hclm hm
      refine ⟨s1, s2, fun g3 len cap sz pub h2 => ?_, fun g3 b3 bs3 lim2 h2 hm2 => ?_, cur, T, hcb s5, s6⟩
      · obtain ⟨_, _, q3, q4⟩ := ublk h2
        exact q3 (s3 _ _ _ _ _ q4).1
      · rcases ump h2 with ⟨q, rfl, rfl⟩ | ⟨_, q2, _, q3⟩
        · refine ⟨by omega, ?_⟩
          obtain ⟨_, _, t3, t4, _⟩ := hclm hm2
          rcases hsub _ hm with q4 | ⟨len, cap, sz, q4⟩
          · exact ((t4 g _ bs lim hg q4).2.1).symm
          · rw [q4] at hg2
            exact ((t3 g2 len cap sz lim hg2).2).symm
        · exact absurd (s4 g3 b3 bs3 lim2 q3 hm2).1 q2
    · obtain ⟨s1, s2, s3, s4, cur, T, s5, s6⟩ := h.sub g' b' bs2 c lim e hm
      refine ⟨s1, s2, fun g3 len cap sz pub h2 => s3 _ _ _ _ _ (ublk h2).2.2.2, fun g3 b3 bs3 lim2 h2 hm2 => ?_, cur, T, hcb s5, s6⟩
      rcases ump h2 with ⟨_, rfl, rfl⟩ | ⟨_, _, _, q3⟩
      · exact absurd ((hclm hm2).2.2.2.1 g' b' bs2 lim e hm).1 n1
      · exact s4 g3 b3 bs3 lim2 q3 hm2
end
end Go.Ab
namespace Go.Ab
open Go.RowKit Go.MapKept
def moes {α γ : Type} (kf : α → Value) (fn : γ → List D) (l : List (α × List γ)) : List (Value × List (List D)) := l.map fun p => (kf p.1, p.2.map fn)
section
variable {α γ : Type} {kf : α → Value} {fn : γ → List D}
theorem moes_at {l : List (α × List γ)} {i : Nat} {k : Value} {x : List (List D)} (h : (moes kf fn l)[i]? = some (k, x)) : ∃ p, l[i]? = some p ∧ k = kf p.1 ∧ x = p.2.map fn := by
  simp only [moes, List.getElem?_map, Option.map_eq_some_iff] at h
  obtain ⟨p, hp, e⟩ := h
  simp only [Prod.mk.injEq] at e
  exact ⟨p, hp, e.1.symm, e.2.symm⟩
theorem moes_mem {l : List (α × List γ)} {k : Value} {x : List (List D)} (h : (k, x) ∈ moes kf fn l) : ∃ p ∈ l, k = kf p.1 ∧ x = p.2.map fn := by
  obtain ⟨i, hi⟩ := List.mem_iff_getElem?.1 h
  obtain ⟨p, hp, e⟩ := moes_at hi
  exact ⟨p, List.mem_of_getElem? hp, e⟩
structure MoAt (w : World) (pv : Nat → Nat → Prop) (b : Nat) (bs : List (Nat × Nat)) (kf : α → Value) (fn : γ → List D) (l : List (α × List γ)) (hole : Option Value) (me : Array MapEntry) (clock : Nat) (ps : Value → Option Nat) : Prop where
  hb : w.heap[b]? = some (.map me clock)
  st : Stamped me clock
  mi : MeIs w pv kf (fun x : List γ => D.sl (x.map fn)) me l
  inj : ∀ p p' : α × List γ, ∀ c, p ∈ l → p' ∈ l → hole ≠ some (kf p.1) → hole ≠ some (kf p'.1) → ps (kf p.1) = some c → ps (kf p'.1) = some c → kf p.1 = kf p'.1
  at_ : ∀ (i : Nat) (m : MapEntry) (p : α × List γ), me[i]? = some m → l[i]? = some p → hole ≠ some (kf p.1) → SlAt w (ps (kf p.1)) bs m.val (p.2.map fn)
theorem MoAt.of {w : World} {pv : Nat → Nat → Prop} {b : Nat} {bs : List (Nat × Nat)} {v : Value} {l : List (α × List γ)} {hole : Option Value} (h : RowMO w pv (.mp b bs) v (moes kf fn l) hole) : v = .map (some b) ∧ ∃ me clock ps, MoAt w pv b bs kf fn l hole me clock ps := by
  obtain ⟨h1, me, clock, h2, h3, h4, ps, h5, h6⟩ := h
  refine ⟨h1, me, clock, ps, h2, h3, ⟨by rw [h4]; simp [moes], fun i m p hm hp => ?_⟩, fun p p' c hp hp' q1 q2 q3 q4 => ?_, fun i m p hm hp hh => ?_⟩
  · obtain ⟨q1, q2, q3, _⟩ := h6 i m (kf p.1) (p.2.map fn) hm (by simp [moes, hp])
    exact ⟨q1, q2, q3⟩
  · exact h5 _ _ (p.2.map fn) (p'.2.map fn) c (List.mem_map.2 ⟨p, hp, rfl⟩) (List.mem_map.2 ⟨p', hp', rfl⟩) q1 q2 q3 q4
  · exact (h6 i m (kf p.1) (p.2.map fn) hm (by simp [moes, hp])).2.2.2 hh
theorem MoAt.to {w : World} {pv : Nat → Nat → Prop} {b : Nat} {bs : List (Nat × Nat)} {l : List (α × List γ)} {hole : Option Value} {me : Array MapEntry} {clock : Nat} {ps : Value → Option Nat} (h : MoAt w pv b bs kf fn l hole me clock ps) : RowMO w pv (.mp b bs) (.map (some b)) (moes kf fn l) hole := by
  refine ⟨rfl, me, clock, h.hb, h.st, by rw [h.mi.1]; simp [moes], ps, fun k k' x x' c hk hk' q1 q2 q3 q4 => ?_, fun i m k x hm hk => ?_⟩
  · obtain ⟨p, hp, rfl, rfl⟩ := moes_mem hk
    obtain ⟨p', hp', rfl, rfl⟩ := moes_mem hk'
    exact h.inj p p' c hp hp' q1 q2 q3 q4
  · obtain ⟨p, hp, rfl, rfl⟩ := moes_at hk
    obtain ⟨q1, q2, q3⟩ := h.mi.2 i m p hm hp
    exact ⟨q1, q2, q3, h.at_ i m p hm hp⟩
theorem SlAt.mono {w w' : World} {bs bs' : List (Nat × Nat)} {o : Option Nat} {v : Value} {l : List (List D)} (h : SlAt w o bs v l) (hc : ∀ c lim, o = some c → (c, lim) ∈ bs → (c, lim) ∈ bs' ∧ w'.heap[c]? = w.heap[c]?) : SlAt w' o bs' v l := by
  cases o with
  | none => exact h
  | some c =>
    obtain ⟨cap, sz, cur, T, a1, a2, a3, a4, a5, a6, a7, a8, a9⟩ := h
    obtain ⟨q1, q2⟩ := hc c _ rfl a2
    exact ⟨cap, sz, cur, T, a1, q1, a3, a4, a5, a6, a7, by rw [q2]; exact a8, a9⟩
end
section
variable {P : Program} (T : Tab P) {C : Ctx} {n : Nat} {ops : Array Oper} {Q : Exit → St → Prop} {rest : List Oper}
variable {f : List (Nat × A)} {bx : List (Nat × List A)} {lv : List Nat} {gen : Nat} {d : Nat} {ty : TypeId} {pos : String} {af : Array Edge} {dst : Option Nat} {c : Code}
variable {α γ : Type} [DecidableEq α] {kf : α → Value} {fn : γ → List D}
omit [DecidableEq α] in
theorem SimG.moAt {st : St} {G : Gh} {tmps : Array Value} {w : World} (hs : SimG C n st G tmps w) {v : Value} {g : Nat} {l : List (α × List γ)} {hole : Option Value} {ob : Option Nat} (hr : Rep (enOf C G st.gen w) v (.mo g (moes kf fn l) hole ob)) (hgl : g ∈ st.lv) :
    ∃ b bs me clock ps, G.own g = some (.mp b bs) ∧ v = .map (some b) ∧ MoAt w (pvOf C G) b bs kf fn l hole me clock ps := by
  obtain ⟨r, hgr⟩ := hs.live g hgl
  cases hr with
  | mo _ _ _ _ _ hgg h1 hrow =>
  have hx := hrow r hgr
  cases r with
  | nil => exact hx.elim
  | zero b => exact hx.elim
  | blk b len cap sz pub => exact hx.elim
  | mp b bs =>
    obtain ⟨h2, me, clock, ps, h3⟩ := MoAt.of hx
    exact ⟨b, bs, me, clock, ps, hgr, h2, h3⟩
theorem mkMapO {t : TypeId} (hd : Nat.blt d n = true) (h : WO P C n ops Q rest ⟨(d, .mo gen [] none none) :: f, bx, gen :: lv, gen + 1⟩) : WO P C n ops Q (⟨some d, .makeMap t none, ty, pos, af, none⟩ :: rest) ⟨f, bx, lv, gen⟩ := by
  refine WO.step (st := ⟨f, bx, lv, gen⟩) rfl fun tmps w ⟨G, hs⟩ => ?_
  obtain ⟨G', hs', hr⟩ := hs.newMap
  refine gives_value (v := .map (some w.heap.size)) (w' := w.alloc (.map #[] 0)) ?_ ⟨_, ⟨G', hs'.put (dst := some d) (dstOK_lt (dst := some d) hd) ?_⟩, h⟩
  · unfold execOp
    show Sem.run P _ w = .ok _ _
    simp [Instr.makeMap, Sem.run_bind, Result.andThen]
  · cases hr with
    | mp _ _ _ hgg h1 hrow =>
    refine .mo _ _ _ _ _ hgg ⟨h1, fun b hb => by cases hb⟩ (fun r hr => ?_)
    have hx := hrow r hr
    cases r with
    | nil => exact hx.elim
    | zero b => exact hx.elim
    | blk b len cap sz pub => exact hx.elim
    | mp b bs =>
      obtain ⟨q1, me, clock, q2, q3, q4, _⟩ := hx
      exact ⟨q1, me, clock, q2, q3, q4, fun _ => none, fun _ _ _ _ _ h => (by cases h), fun i m k x hm hk => (by simp at hk)⟩
theorem W.nameMo (gq jq : Nat) {g : Nat} {cq : List A} {es : List (Value × List (List D))} {hole : Option Value} (hq : look' bx gq = some cq) (hj : cq[jq]? = some (.mo g es hole none)) (hgl : (lv.any fun h => Nat.beq h g) = true)
    (h : ∀ b, W P C n c Q ⟨f, (gq, cq.set jq (.mo g es hole (some b))) :: bx, lv, gen⟩) : W P C n c Q ⟨f, bx, lv, gen⟩ := by
  intro tmps w ⟨G, hs⟩
  obtain ⟨r, hgr⟩ := hs.live g (memAny hgl)
  obtain ⟨b0, cs0, T0, p1, p2, p3, p4, p5⟩ := hs.box gq cq hq
  have hjl : jq < cs0.size := by rw [p3]; exact (List.getElem?_eq_some_iff.1 hj).1
  have hx0 : cs0[jq]? = some cs0[jq] := by simp [hjl]
  have hrep := p5 jq _ _ hx0 hj
  generalize hv : cs0[jq] = v at hrep hx0
  cases hrep with
  | mo _ _ _ _ _ hgg h1 hrow =>
  have hx := hrow r hgr
  cases r with
  | nil => exact hx.elim
  | zero b => exact hx.elim
  | blk b len cap sz pub => exact hx.elim
  | mp b bs =>
    have hvb : v = .map (some b) := hx.1
    refine h b tmps w ⟨G, hs.recell hq (by simp) fun b3 cs3 T3 q1 q2 q3 i x' a' hxx ha => ?_⟩
    by_cases e : jq = i
    · subst e
      rw [List.getElem?_set_self (List.getElem?_eq_some_iff.1 hj).1] at ha
      simp only [Option.some.injEq] at ha
      subst ha
      rw [p1] at q1
      cases q1
      rw [p2] at q2
      cases q2
      rw [hx0] at hxx
      cases hxx
      exact .mo _ _ _ _ _ hgg ⟨h1.1, fun b' hb' => by cases hb'; exact hvb⟩ hrow
    · rw [List.getElem?_set_ne e] at ha
      exact q3 i x' a' hxx ha
theorem run_mapGetX {w : World} {pv : Nat → Nat → Prop} {β : Type} {vf : β → D} {mt k e : Nat} {td ed : TyD} (ht : look' T.l mt = some td) (htk : td.k = .map k e) (he : look' T.l e = some ed) (hkt : KeyT P k kf) {zx : Value} (hzc : ed.z = [zx]) (hzk : notSt ed.k = true) {b : Nat} {me : Array MapEntry} {clock : Nat}
    (hb : w.heap[b]? = some (.map me clock)) {l : List (α × β)} (h : MeIs w pv kf vf me l) (hn : (l.map (·.1)).Nodup) (a : α) :
    ∃ v, (Instr.lookup mt (.map (some b)) (kf a) false).run P w = .ok v w ∧ ((mget l a = none ∧ (∀ p ∈ l, p.1 ≠ a) ∧ v = zx) ∨ ∃ (j : Nat) (m : MapEntry) (p : α × β), me[j]? = some m ∧ l[j]? = some p ∧ p.1 = a ∧ v = m.val ∧ mget l a = some p.2 ∧ RepD w pv v (vf p.2)) := by
  obtain ⟨d, hd, hk⟩ := hkt.ty
  have hm := T.u_map ht htk
  rcases h.find hkt hn a with ⟨h1, h2, h3⟩ | ⟨j, en, p, h1, h2, h3, h4, h5, h6, h7⟩
  · obtain ⟨i, zv, hi, _, _, hiz, hzl, _, _, hkz⟩ := T.info he
    have hzv : zv = zx := by
      rw [hzc] at hzl
      cases hke : ed.k <;> rw [hke] at hzk hkz <;> cases zv <;> simp_all [Value.cells, notSt]
    subst hzv
    refine ⟨zv, ?_, .inl ⟨h3, h2, rfl⟩⟩
    unfold Instr.lookup
    simp only [Sem.run_bind, run_underlying hm, Result.andThen_ok, Go.MapKept.run_getObj_map hb, Sem.run_pure, run_checkKey hd (hk a), h1]
    have : (zeroValue e).run P w = .ok zv w := by simp [zeroValue, typeInfo, Sem.run_bind, run_program, hi, hiz, Result.andThen]
    simp only [this, Result.andThen_ok]
    rfl
  · refine ⟨en.val, ?_, .inr ⟨j, en, p, h2, h3, h4, rfl, h6, h7⟩⟩
    unfold Instr.lookup
    simp only [Sem.run_bind, run_underlying hm, Result.andThen_ok, Go.MapKept.run_getObj_map hb, Sem.run_pure, run_checkKey hd (hk a), h1]
    rfl
theorem mapLookO {mt k e : Nat} {td ed : TyD} {m kx : Operand} {g : Nat} {l : List (α × List γ)} {a : α} {ob : Option Nat} (hm : av f m = some (.mo g (moes kf fn l) none ob)) (hk : av f kx = some (.d (.v (kf a))))
    (ht : look' T.l mt = some td) (htk : td.k = .map k e) (he : look' T.l e = some ed) (hkt : KeyT P k kf) (hgl : (lv.any fun h => Nat.beq h g) = true) (hzc : ed.z = [.slice none 0 0]) (hzk : notSt ed.k = true) (hn : (l.map (·.1)).Nodup) {r : List (List D)} (hr : ((mget l a).getD []).map fn = r) :
    Pu P C n ⟨f, bx, lv, gen⟩ ⟨dst, .lookup mt m kx false, ty, pos, af, none⟩ (.d (.sl r)) := by
  subst hr
  refine PuOK.pu fun G tmps w hs => ?_
  have hrm := hs.av hm
  have hrk := hs.av hk
  generalize hv : Act.eval ⟨tmps, []⟩ m = v at hrm
  generalize hvk : Act.eval ⟨tmps, []⟩ kx = vk at hrk
  obtain ⟨b, bs, me, clock, ps, hgb, rfl, hmo⟩ := hs.moAt hrm (memAny hgl)
  cases hrk with | d hrk => cases hrk with | v _ hok =>
  obtain ⟨u, h1, h2⟩ := run_mapGetX (P := P) T ht htk he hkt hzc hzk hmo.hb hmo.mi hn a
  refine ⟨u, ?_, ?_⟩
  · unfold execOp
    show Sem.run P _ w = .ok _ _
    simp only [hv, hvk, Sem.run_bind, h1, Result.andThen_ok, Sem.run_pure]
    rfl
  · rcases h2 with ⟨q1, _, rfl⟩ | ⟨j, mm, p, _, _, _, _, q1, q2⟩
    · rw [q1]; exact .d .nil
    · rw [q1]; exact .d q2
theorem loadMo (gq jq : Nat) {t : TypeId} {p : Operand} {g b : Nat} {cq : List A} {es : List (Value × List (List D))} {hole : Option Value} (hp : av f p = some (.ptr gq jq)) (hq : look' bx gq = some cq) (hj : cq[jq]? = some (.mo g es hole (some b)))
    (hev : evPu T f bx (.load t p) = some (.mo g es hole (some b))) : Pu P C n ⟨f, bx, lv, gen⟩ ⟨dst, .load t p, ty, pos, af, none⟩ (.d (.v (.map (some b)))) := by
  intro G tmps w hs
  refine (Pu.ev (P := P) (C := C) (n := n) (st := ⟨f, bx, lv, gen⟩) T hev G tmps w hs).mono fun v w' ⟨h1, h2⟩ => ⟨h1, ?_⟩
  cases h2 with
  | mo _ _ _ _ _ _ h3 _ => rw [h3.2 b rfl]; exact .d (.v _ rfl)
end
end Go.Ab
namespace Go.Ab
open Go.RowKit Go.MapKept
theorem RepD.szs {w : World} {pv : Nat → Nat → Prop} {v : Value} {es : List (List D)} (h : RepD w pv v (.sl es)) : ∃ s, ∀ (e : List D), e ∈ es → e.length = s := by
  cases h with
  | nil => exact ⟨0, by simp⟩
  | emp => exact ⟨0, by simp⟩
  | sl b off len cap sz _ u hl hc hm hs hu hr => exact ⟨sz, fun e he => by obtain ⟨i, hi⟩ := List.mem_iff_getElem?.1 he; exact hs i e hi⟩
section
variable {P : Program} (T : Tab P) {C : Ctx} {n : Nat} {ops : Array Oper} {Q : Exit → St → Prop} {rest : List Oper}
variable {f : List (Nat × A)} {bx : List (Nat × List A)} {lv : List Nat} {gen : Nat} {d : Nat} {ty : TypeId} {pos : String} {af : Array Edge} {dst : Option Nat} {c : Code}
variable {α γ : Type} [DecidableEq α] {kf : α → Value} {fn : γ → List D}
theorem mapTakeN (gq jq : Nat) {mt k e : Nat} {td ed : TyD} {m kx : Operand} {g b : Nat} {cq : List A} {l : List (α × List γ)} {a : α} (hd : Nat.blt d n = true) (hm : av f m = some (.d (.v (.map (some b))))) (hq : look' bx gq = some cq) (hj : cq[jq]? = some (.mo g (moes kf fn l) none (some b)))
    (hk : av f kx = some (.d (.v (kf a)))) (ht : look' T.l mt = some td) (htk : td.k = .map k e) (he : look' T.l e = some ed) (hkt : KeyT P k kf) (hgl : (lv.any fun h => Nat.beq h g) = true) (hzc : ed.z = [.slice none 0 0]) (hzk : notSt ed.k = true) (hn : (l.map (·.1)).Nodup)
    {x : List (List D)} (hx : ((mget l a).getD []).map fn = x) {lv' : List Nat} (hlv : gen :: (gen + 1) :: dropId lv g = lv') {cq' : List A} (hcq : cq.set jq (.mo gen (moes kf fn l) (some (kf a)) (some b)) = cq')
    (h : WO P C n ops Q rest ⟨(d, .own (gen + 1) x) :: f, (gq, cq') :: bx, lv', gen + 2⟩) : WO P C n ops Q (⟨some d, .lookup mt m kx false, ty, pos, af, none⟩ :: rest) ⟨f, bx, lv, gen⟩ := by
  subst hcq; subst hlv; subst hx
  refine WO.step (st := ⟨f, bx, lv, gen⟩) rfl fun tmps w ⟨G, hs⟩ => ?_
  have hrm := hs.av hm
  have hrk := hs.av hk
  generalize hv : Act.eval ⟨tmps, []⟩ m = v at hrm
  generalize hvk : Act.eval ⟨tmps, []⟩ kx = vk at hrk
  cases hrm with | d hrm => cases hrm with | v _ hom =>
  cases hrk with | d hrk => cases hrk with | v _ hok =>
  obtain ⟨b0, cs0, T0, p1, p2, p3, p4, p5⟩ := hs.box gq cq hq
  have hjl : jq < cs0.size := by rw [p3]; exact (List.getElem?_eq_some_iff.1 hj).1
  have hx0 : cs0[jq]? = some cs0[jq] := by simp [hjl]
  have hrep := p5 jq _ _ hx0 hj
  have hvb : cs0[jq] = .map (some b) := by
    generalize cs0[jq] = y at hrep
    cases hrep with | mo _ _ _ _ _ _ h1 _ => exact h1.2 b rfl
  rw [hvb] at hrep
  obtain ⟨b', bs, me, clock, ps, hgb, hbb, hmo⟩ := hs.moAt hrep (memAny hgl)
  simp only [Value.map.injEq, Option.some.injEq] at hbb
  subst hbb
  obtain ⟨u, h1, h2⟩ := run_mapGetX (P := P) T ht htk he hkt hzc hzk hmo.hb hmo.mi hn a
  have h0 : (execOp (Act.eval ⟨tmps, []⟩) ⟨some d, .lookup mt m kx false, ty, pos, af, none⟩).run P w = .ok (.value u) w := by
    unfold execOp
    show Sem.run P _ w = .ok _ _
    simp only [hv, hvk, Sem.run_bind, h1, Result.andThen_ok, Sem.run_pure]
  have key : ∀ (x : List (List D)) (r2 : Row) (bs' : List (Nat × Nat)), (∀ p ∈ bs', p ∈ bs) → (∀ b' bs', r2 ≠ .mp b' bs') →
      (∀ c len cap sz pub, r2 = .blk c len cap sz pub → (c, pub) ∈ bs ∧ (∀ p ∈ bs', p.1 ≠ c) ∧ ∃ cur T, w.heap[c]? = some (.cells cur T (0, 0)) ∧ cur.size = cap * sz ∧ len ≤ cap ∧ cap ≤ maxLen ∧ 0 < sz ∧ 0 < len ∧ pub ≤ len * sz ∧ OneC cur) →
      (∀ (i : Nat) (mm : MapEntry) (p : α × List γ), me[i]? = some mm → l[i]? = some p → some (kf a) ≠ some (kf p.1) → SlAt w (ps (kf p.1)) bs' mm.val (p.2.map fn)) →
      RepD w (pvOf C G) u (.sl x) → (∃ s, (∀ (e : List D), e ∈ x → e.length = s) ∧ RowIs r2 u x.length s) →
      ∃ G', SimG C n ⟨(d, .own (gen + 1) x) :: f, (gq, cq.set jq (.mo gen (moes kf fn l) (some (kf a)) (some b))) :: bx, gen :: (gen + 1) :: dropId lv g, gen + 2⟩ G' (Act.put ⟨tmps, []⟩ (some d) u).tmps w := by
    intro x r2 bs' hsub hr2 hr3 hat hxd hrow
    obtain ⟨G', hGb, ho1, ho2, hle, hs'⟩ := hs.split hgb hsub r2 hr2 hr3 (dropId lv g) (fun g' hg' => dropId_mem hg')
    have hmo' : MoAt w (pvOf C G') b bs' kf fn l (some (kf a)) me clock ps := ⟨hmo.hb, hmo.st, hmo.mi.mono fun b o u hu hp => hle.cell b o u hu hp, fun p p' c hp hp' _ _ q3 q4 => hmo.inj p p' c hp hp' (by simp) (by simp) q3 q4, hat⟩
    have hs2 := hs'.recell (f := f) (bx := bx) (lv := gen :: (gen + 1) :: dropId lv g) (gen := gen + 2) hq (cells' := cq.set jq (.mo gen (moes kf fn l) (some (kf a)) (some b))) (by simp) fun b3 cs3 T3 q1 q2 q3 i x' a' hxx ha => by
      by_cases e : jq = i
      · subst e
        rw [List.getElem?_set_self (List.getElem?_eq_some_iff.1 hj).1] at ha
        simp only [Option.some.injEq] at ha
        subst ha
        rw [hGb, p1] at q1
        cases q1
        rw [p2] at q2
        cases q2
        rw [hx0, hvb] at hxx
        cases hxx
        exact .mo _ _ _ _ _ (by simp [enOf]) ⟨rfl, fun b' hb' => by cases hb'; rfl⟩ (fun r hr => by
          have : G'.own gen = some r := hr
          rw [ho1] at this
          cases this
          exact hmo'.to)
      · rw [List.getElem?_set_ne e] at ha
        exact q3 i x' a' hxx ha
    refine ⟨G', hs2.put (dst := some d) (dstOK_lt (dst := some d) hd) (.own _ _ x (hxd.mono fun b o u hu hp => hle.cell b o u hu hp) (by simp [enOf]) (fun r hr => ?_))⟩
    have : G'.own (gen + 1) = some r := hr
    rw [ho2] at this
    cases this
    exact hrow
  refine gives_value h0 ?_
  rcases h2 with ⟨q1, q2, rfl⟩ | ⟨j, mm, p, q1, q2, q3, q4, q5, q6⟩
  · obtain ⟨G', hG'⟩ := key [] .nil bs (fun _ h => h) (fun _ _ h => by cases h) (fun _ _ _ _ _ h => by cases h) (fun i mm p hm hp _ => hmo.at_ i mm p hm hp (by simp)) .nil ⟨0, by simp, rfl, rfl⟩
    refine ⟨_, ⟨G', hG'⟩, ?_⟩
    rw [q1] at h
    exact h
  · subst q3; subst q4
    have hsl := hmo.at_ j mm p q1 q2 (by simp)
    rw [q5] at h
    obtain ⟨s, hsz⟩ := q6.szs
    cases hps : ps (kf p.1) with
    | none =>
      rw [hps] at hsl
      rcases hsl with ⟨t1, t2⟩ | ⟨c, off, t1⟩
      · obtain ⟨G', hG'⟩ := key (p.2.map fn) .nil bs (fun _ h => h) (fun _ _ h => by cases h) (fun _ _ _ _ _ h => by cases h) (fun i mm p hm hp _ => hmo.at_ i mm p hm hp (by simp)) q6 ⟨s, hsz, t1, by rw [t2]; rfl⟩
        exact ⟨_, ⟨G', hG'⟩, h⟩
      · obtain ⟨G', hG'⟩ := key (p.2.map fn) (.zero c) bs (fun _ h => h) (fun _ _ h => by cases h) (fun _ _ _ _ _ h => by cases h) (fun i mm p hm hp _ => hmo.at_ i mm p hm hp (by simp)) q6 ⟨s, hsz, off, t1⟩
        exact ⟨_, ⟨G', hG'⟩, h⟩
    | some c =>
      rw [hps] at hsl
      obtain ⟨cap, sz, cur, T1, t1, t2, t3, t4, t5, t6, t7, t8, t9, t10⟩ := hsl
      obtain ⟨G', hG'⟩ := key (p.2.map fn) (.blk c (p.2.map fn).length cap sz ((p.2.map fn).length * sz)) (bs.filter fun q => !Nat.beq q.1 c) (fun q hq => (List.mem_filter.1 hq).1) (fun _ _ h => by cases h)
        (fun c' len' cap' sz' pub' h => by
          simp only [Row.blk.injEq] at h
          obtain ⟨rfl, rfl, rfl, rfl, rfl⟩ := h
          exact ⟨t2, fun q hq e => by have := (List.mem_filter.1 hq).2; rw [e] at this; simp at this, cur, T1, t8, t9, t6, t7, t4, t5, Nat.le_refl _, t10⟩)
        (fun i m2 p2 hm2 hp2 hne => (hmo.at_ i m2 p2 hm2 hp2 (by simp)).mono fun c' lim e1 e2 => ⟨List.mem_filter.2 ⟨e2, by
          have : c' ≠ c := fun e => by
            subst e
            have := hmo.inj p p2 c' (List.mem_of_getElem? q2) (List.mem_of_getElem? hp2) (by simp) (by simp) hps e1
            exact hne (by rw [this])
          cases hq : Nat.beq c' c with
          | false => rfl
          | true => exact absurd (Nat.eq_of_beq_eq_true hq) this⟩, rfl⟩) q6 ⟨sz, t3, t1, rfl, rfl, rfl⟩
      exact ⟨_, ⟨G', hG'⟩, h⟩
theorem run_mapPutX {w : World} {pv : Nat → Nat → Prop} {β : Type} {vf : β → D} {mt k e : Nat} {td : TyD} (ht : look' T.l mt = some td) (htk : td.k = .map k e) (hkt : KeyT P k kf) {b : Nat} {me : Array MapEntry} {clock : Nat} (hb : w.heap[b]? = some (.map me clock)) {l : List (α × β)}
    (hst : Stamped me clock) (h : MeIs w pv kf vf me l) (hn : (l.map (·.1)).Nodup) (a : α) (hka : okc (kf a) = true) {v : Value} {y : β} (hv : RepD w pv v (vf y)) :
    ∃ me' clock', (Instr.mapUpdate mt (.map (some b)) (kf a) v).run P w = .ok () { w with heap := w.heap.setIfInBounds b (.map me' clock') } ∧ Stamped me' clock' ∧ MeIs w pv kf vf me' (mput l a y) ∧
      ∀ (i : Nat) (m : MapEntry) (p : α × β), me'[i]? = some m → (mput l a y)[i]? = some p → (p = (a, y) ∧ m.val = v) ∨ (p.1 ≠ a ∧ ∃ m0, me[i]? = some m0 ∧ l[i]? = some p ∧ m0.val = m.val) := by
  obtain ⟨d, hd, hk⟩ := hkt.ty
  have hm := T.u_map ht htk
  rcases h.find hkt hn a with ⟨h1, h2, _⟩ | ⟨j, en, p, h1, h2, h3, h4, h5, _, _⟩
  · refine ⟨me.push ⟨kf a, v, clock⟩, clock + 1, ?_, stamped_push hst (fun x hx => ?_), ?_, ?_⟩
    · unfold Instr.mapUpdate
      simp only [Sem.run_bind, run_underlying hm, Result.andThen_ok, Go.MapKept.run_getObj_map hb, run_checkKey hd (hk a), h1]
      exact Go.MapKept.run_setObj_map _ hb
    · obtain ⟨i, hi⟩ := List.mem_iff_getElem?.1 hx
      have hi' : me[i]? = some x := by simpa using hi
      have hlt : i < l.length := by rw [← h.1]; exact (Array.getElem?_eq_some_iff.1 hi').1
      rw [(h.2 i x l[i] hi' (by simp [hlt])).1]
      exact fun e => h2 l[i] (by simp) (hkt.inj _ _ e)
    · rw [mput_new h2]
      refine ⟨by simp [h.1], fun i m p hm hp => ?_⟩
      rw [Array.getElem?_push] at hm
      split at hm
      · rename_i hi
        rw [List.getElem?_append_right (by rw [hi, h.1]; exact Nat.le_refl _)] at hp
        have : i - l.length = 0 := by rw [hi, h.1]; omega
        rw [this] at hp
        simp only [List.getElem?_cons_zero, Option.some.injEq] at hp
        simp only [Option.some.injEq] at hm
        subst hm; subst hp
        exact ⟨rfl, hka, hv⟩
      · have hlt : i < l.length := by rw [← h.1]; exact (Array.getElem?_eq_some_iff.1 hm).1
        rw [List.getElem?_append_left hlt] at hp
        exact h.2 i m p hm hp
    · rw [mput_new h2]
      intro i m p hm hp
      rw [Array.getElem?_push] at hm
      split at hm
      · rename_i hi
        rw [List.getElem?_append_right (by rw [hi, h.1]; exact Nat.le_refl _)] at hp
        have : i - l.length = 0 := by rw [hi, h.1]; omega
        rw [this] at hp
        simp only [List.getElem?_cons_zero, Option.some.injEq] at hp
        simp only [Option.some.injEq] at hm
        subst hm; subst hp
        exact .inl ⟨rfl, rfl⟩
      · have hlt : i < l.length := by rw [← h.1]; exact (Array.getElem?_eq_some_iff.1 hm).1
        rw [List.getElem?_append_left hlt] at hp
        exact .inr ⟨h2 p (List.mem_of_getElem? hp), m, hm, hp, rfl⟩
  · refine ⟨me.modify j fun e => { e with key := kf a, val := v }, clock, ?_, stamped_modify hst j _ (fun _ _ => rfl) (fun e _ he => by rw [h2] at he; cases he; exact h5.symm), ?_, ?_⟩
    · unfold Instr.mapUpdate
      simp only [Sem.run_bind, run_underlying hm, Result.andThen_ok, Go.MapKept.run_getObj_map hb, run_checkKey hd (hk a), h1, h2, Option.map_some, Option.getD_some, h5, run_keyThatStays (hk a)]
      exact Go.MapKept.run_setObj_map _ hb
    · subst h4
      rw [mput_at hn h3]
      refine ⟨by simp [h.1], fun i m q hm hq => ?_⟩
      rw [Array.getElem?_modify] at hm
      rw [List.getElem?_set] at hq
      by_cases hij : j = i
      · subst hij
        rw [if_pos rfl] at hm hq
        rw [h2] at hm
        rw [if_pos (List.getElem?_eq_some_iff.1 h3).1] at hq
        simp only [Option.map_some, Option.some.injEq] at hm hq
        subst hm; subst hq
        exact ⟨rfl, hka, hv⟩
      · rw [if_neg hij] at hm hq
        exact h.2 i m q hm hq
    · subst h4
      rw [mput_at hn h3]
      intro i m q hm hq
      rw [Array.getElem?_modify] at hm
      rw [List.getElem?_set] at hq
      by_cases hij : j = i
      · subst hij
        rw [if_pos rfl] at hm hq
        rw [h2] at hm
        rw [if_pos (List.getElem?_eq_some_iff.1 h3).1] at hq
        simp only [Option.map_some, Option.some.injEq] at hm hq
        subst hm; subst hq
        exact .inl ⟨rfl, rfl⟩
      · rw [if_neg hij] at hm hq
        refine .inr ⟨fun e => hij ?_, m, hm, hq, rfl⟩
        have h6 : (l.map (·.1))[j]? = some p.1 := by simp [h3]
        have h7 : (l.map (·.1))[i]? = some p.1 := by simp [hq, e]
        obtain ⟨hj1, hj2⟩ := List.getElem?_eq_some_iff.1 h6
        obtain ⟨hi1, hi2⟩ := List.getElem?_eq_some_iff.1 h7
        have hpw := List.pairwise_iff_getElem.1 hn
        rcases Nat.lt_trichotomy j i with hlt | heq | hgt
        · exact absurd (hj2.trans hi2.symm) (hpw j i hj1 hi1 hlt)
        · exact heq
        · exact absurd (hi2.trans hj2.symm) (hpw i j hi1 hj1 hgt)
open Classical in
theorem mapPutN (gq jq : Nat) {mt k e : Nat} {td : TyD} {m kx x : Operand} {g g2 b : Nat} {cq : List A} {l : List (α × List γ)} {a : α} {y : List γ} (hm : av f m = some (.d (.v (.map (some b))))) (hq : look' bx gq = some cq) (hj : cq[jq]? = some (.mo g (moes kf fn l) (some (kf a)) (some b)))
    (hk : av f kx = some (.d (.v (kf a)))) (hx : av f x = some (.own g2 (y.map fn))) (ht : look' T.l mt = some td) (htk : td.k = .map k e) (hkt : KeyT P k kf) (hgl : (lv.any fun h => Nat.beq h g) = true) (hgl2 : (lv.any fun h => Nat.beq h g2) = true) (hgg : Nat.beq g2 g = false) (hn : (l.map (·.1)).Nodup)
    {lv' : List Nat} (hlv : gen :: dropId (dropId lv g) g2 = lv') {cq' : List A} (hcq : cq.set jq (.mo gen (moes kf fn (mput l a y)) none none) = cq')
    (h : WO P C n ops Q rest ⟨f, (gq, cq') :: bx, lv', gen + 1⟩) : WO P C n ops Q (⟨none, .mapUpdate mt m kx x, ty, pos, af, none⟩ :: rest) ⟨f, bx, lv, gen⟩ := by
  subst hcq; subst hlv
  refine WO.step (st := ⟨f, bx, lv, gen⟩) rfl fun tmps w ⟨G, hs⟩ => ?_
  have hrm := hs.av hm
  have hrk := hs.av hk
  have hrx := hs.av hx
  generalize hv : Act.eval ⟨tmps, []⟩ m = v at hrm
  generalize hvk : Act.eval ⟨tmps, []⟩ kx = vk at hrk
  generalize hvx : Act.eval ⟨tmps, []⟩ x = vx at hrx
  cases hrm with | d hrm => cases hrm with | v _ hom =>
  cases hrk with | d hrk => cases hrk with | v _ hok =>
  obtain ⟨r2, hg2⟩ := hs.live g2 (memAny hgl2)
  cases hrx with
  | own _ _ _ hxd hgg2 hxr =>
  obtain ⟨s, hsz, hri⟩ := hxr r2 hg2
  have hne : g2 ≠ g := fun e => by subst e; simp at hgg
  obtain ⟨b0, cs0, T0, p1, p2, p3, p4, p5⟩ := hs.box gq cq hq
  have hjl : jq < cs0.size := by rw [p3]; exact (List.getElem?_eq_some_iff.1 hj).1
  have hx0 : cs0[jq]? = some cs0[jq] := by simp [hjl]
  have hrep := p5 jq _ _ hx0 hj
  have hvb : cs0[jq] = .map (some b) := by
    generalize cs0[jq] = y at hrep
    cases hrep with | mo _ _ _ _ _ _ h1 _ => exact h1.2 b rfl
  rw [hvb] at hrep
  obtain ⟨b', bs, me, clock, ps, hgb, hbb, hmo⟩ := hs.moAt hrep (memAny hgl)
  simp only [Value.map.injEq, Option.some.injEq] at hbb
  subst hbb
  obtain ⟨me', clock', hrun, hst', hmi', hwh⟩ := run_mapPutX (P := P) T (y := y) ht htk hkt hmo.hb hmo.st hmo.mi hn a hok hxd
  have h0 : (execOp (Act.eval ⟨tmps, []⟩) ⟨none, .mapUpdate mt m kx x, ty, pos, af, none⟩).run P w = .ok .skip { w with heap := w.heap.setIfInBounds b (.map me' clock') } := by
    unfold execOp
    show Sem.run P _ w = .ok _ _
    simp only [hv, hvk, hvx, Sem.run_bind, hrun, Result.andThen_ok, Sem.run_pure]
  obtain ⟨hnew, hoth⟩ := heap_set (o' := Obj.map me' clock') hmo.hb
  obtain ⟨bs', oc, hbs1, hbs2, hoc⟩ : ∃ (bs' : List (Nat × Nat)) (oc : Option Nat), (∀ p ∈ bs, p ∈ bs') ∧ (∀ p ∈ bs', p ∈ bs ∨ ∃ len cap sz, r2 = .blk p.1 len cap sz p.2) ∧ (SlAt w oc bs' vx (y.map fn) ∧ ∀ c, oc = some c → ∃ len cap sz pub, r2 = .blk c len cap sz pub) := by
    cases r2 with
    | nil => exact ⟨bs, none, fun _ h => h, fun _ h => .inl h, .inl ⟨hri.1, List.eq_nil_of_length_eq_zero hri.2⟩, fun c hc => by cases hc⟩
    | zero c => exact ⟨bs, none, fun _ h => h, fun _ h => .inl h, .inr ⟨c, hri⟩, fun c hc => by cases hc⟩
    | mp _ _ => exact hri.elim
    | blk c len cap sz pub =>
      obtain ⟨t1, t2, t3, t4⟩ := hri
      obtain ⟨_, _, _, cur, T1, u1, u2, u3, u4, u5, u6, u7, u8⟩ := hs.row g2 c len cap sz pub hg2
      refine ⟨(c, pub) :: bs, some c, fun p hp => List.mem_cons_of_mem _ hp, fun p hp => ?_, ⟨cap, sz, cur, T1, by rw [t1, t2], ?_, fun e he => (hsz e he).trans t3, u5, by omega, by omega, u4, u1, u2, u8⟩, fun c' hc' => by cases hc'; exact ⟨len, cap, sz, pub, rfl⟩⟩
      · rcases List.mem_cons.1 hp with rfl | hp
        · exact .inr ⟨len, cap, sz, rfl⟩
        · exact .inl hp
      · rw [t2, ← t4]; exact List.mem_cons_self
  obtain ⟨G', hGb, ho1, hle, hs'⟩ := hs.join hgb hg2 hne hbs2 me' clock' (dropId (dropId lv g) g2) (fun g' hg' => by
    obtain ⟨t1, t2⟩ := dropId_mem hg'
    obtain ⟨t3, t4⟩ := dropId_mem t1
    exact ⟨t3, t4, t2⟩)
  have hcells : ∀ {c : Nat} {cs : Array Value} {T : TypeId} {ff : Nat × Nat}, w.heap[c]? = some (.cells cs T ff) → (w.heap.setIfInBounds b (.map me' clock'))[c]? = w.heap[c]? := fun {c cs T ff} hc => hoth c (fun e => by rw [e, hmo.hb] at hc; cases hc)
  have hslw : ∀ {o : Option Nat} {v : Value} {z : List (List D)} {bs1 bs2 : List (Nat × Nat)}, SlAt w o bs1 v z → (∀ p ∈ bs1, p ∈ bs2) → SlAt { w with heap := w.heap.setIfInBounds b (.map me' clock') } o bs2 v z := fun {o v z bs1 bs2} hz hb2 => by
    cases o with
    | none => exact hz
    | some c =>
      obtain ⟨cap, sz, cur, T1, t1, t2, t3, t4, t5, t6, t7, t8, t9⟩ := hz
      exact ⟨cap, sz, cur, T1, t1, hb2 _ t2, t3, t4, t5, t6, t7, (hcells t8).trans t8, t9⟩
  have hclaim : ∀ (p : α × List γ) (c : Nat), p ∈ l → p.1 ≠ a → ps (kf p.1) = some c → ∃ lim, (c, lim) ∈ bs := fun p c hp hpa hc => by
    obtain ⟨i, hi⟩ := List.mem_iff_getElem?.1 hp
    have hil : i < me.size := by rw [hmo.mi.1]; exact (List.getElem?_eq_some_iff.1 hi).1
    have := hmo.at_ i me[i] p (by simp [hil]) hi (fun e => hpa (hkt.inj _ _ (Option.some.inj e)).symm)
    rw [hc] at this
    obtain ⟨cap, sz, cur, T1, t1, t2, _⟩ := this
    exact ⟨_, t2⟩
  have hmem : ∀ p ∈ mput l a y, p.1 ≠ a → p ∈ l := fun p hp hpa => by
    obtain ⟨i, hi⟩ := List.mem_iff_getElem?.1 hp
    have hil : i < me'.size := by rw [hmi'.1]; exact (List.getElem?_eq_some_iff.1 hi).1
    rcases hwh i me'[i] p (by simp [hil]) hi with ⟨e, _⟩ | ⟨_, m0, _, e, _⟩
    · rw [e] at hpa; exact absurd rfl hpa
    · exact List.mem_of_getElem? e
  have hnot : ∀ (c : Nat), oc = some c → ∀ lim, (c, lim) ∉ bs := fun c hc lim hm => by
    obtain ⟨len, cap, sz, pub, e⟩ := hoc.2 c hc
    rw [e] at hg2
    exact (hs.sub g b bs c lim hgb hm).2.2.1 _ _ _ _ _ hg2
  have hmo' : MoAt { w with heap := w.heap.setIfInBounds b (.map me' clock') } (pvOf C G') b bs' kf fn (mput l a y) none me' clock' (fun k => if k = kf a then oc else ps k) := by
    refine ⟨hnew, hst', hmi'.mono fun b o u hu hp => hle.cell b o u hu hp, fun p p' c hp hp' _ _ q3 q4 => ?_, fun i mm p hmm hp _ => ?_⟩
    · by_cases e1 : p.1 = a
      · by_cases e2 : p'.1 = a
        · rw [e1, e2]
        · rw [e1, if_pos rfl] at q3
          rw [if_neg (fun e => e2 (hkt.inj _ _ e))] at q4
          obtain ⟨lim, hm⟩ := hclaim p' c (hmem p' hp' e2) e2 q4
          exact absurd hm (hnot c q3 lim)
      · rw [if_neg (fun e => e1 (hkt.inj _ _ e))] at q3
        by_cases e2 : p'.1 = a
        · rw [e2, if_pos rfl] at q4
          obtain ⟨lim, hm⟩ := hclaim p c (hmem p hp e1) e1 q3
          exact absurd hm (hnot c q4 lim)
        · rw [if_neg (fun e => e2 (hkt.inj _ _ e))] at q4
          exact hmo.inj p p' c (hmem p hp e1) (hmem p' hp' e2) (fun e => e1 (hkt.inj _ _ (Option.some.inj e)).symm) (fun e => e2 (hkt.inj _ _ (Option.some.inj e)).symm) q3 q4
    · rcases hwh i mm p hmm hp with ⟨e, e2⟩ | ⟨e, m0, e2, e3, e4⟩
      · rw [e, e2]
        simp only [if_true]
        exact hslw hoc.1 (fun _ h => h)
      · rw [if_neg (fun e' => e (hkt.inj _ _ e')), ← e4]
        exact hslw (hmo.at_ i m0 p e2 e3 (fun e' => e (hkt.inj _ _ (Option.some.inj e')).symm)) hbs1
  refine gives_skip h0 ⟨_, ⟨G', hs'.recell (f := f) (bx := bx) (lv := gen :: dropId (dropId lv g) g2) (gen := gen + 1) hq (by simp) fun b3 cs3 T3 q1 q2 q3 i x' a' hxx ha => ?_⟩, h⟩
  by_cases e : jq = i
  · subst e
    have hlt : jq < cq.length := (List.getElem?_eq_some_iff.1 hj).1
    rw [List.getElem?_set_self hlt] at ha
    simp only [Option.some.injEq] at ha
    subst ha
    rw [hGb, p1] at q1
    cases q1
    rw [show ({ w with heap := w.heap.setIfInBounds b (.map me' clock') } : World).heap[b0]? = w.heap[b0]? from hcells p2, p2] at q2
    cases q2
    rw [hx0, hvb] at hxx
    cases hxx
    exact .mo _ _ _ _ _ (by simp [enOf]) ⟨rfl, fun b' hb' => by cases hb'⟩ (fun r hr => by
      have : G'.own gen = some r := hr
      rw [ho1] at this
      cases this
      exact hmo'.to)
  · rw [List.getElem?_set_ne e] at ha
    exact q3 i x' a' hxx ha
end
end Go.Ab
namespace Go.Ab
theorem insOf {P : Program} {C : Ctx} {n : Nat} {ops : Array Oper} {Q : Exit → St → Prop} {rest : List Oper} {st : St} {mt : TypeId} {m k x : Operand} {ty : TypeId} {pos : String} {af : Array Edge}
    (h : WO P C n ops Q (⟨none, .mapUpdate mt m k x, ty, pos, af, none⟩ :: rest) st) : WO P C n ops Q (⟨none, .insert mt m k x, ty, pos, af, none⟩ :: rest) st := fun tmps w hs => h tmps w hs
end Go.Ab
namespace Go.Ab
open Go.RowKit
def noDefer (o : Oper) : Bool := match o.op with | .defer _ => false | _ => true
section
variable {P : Program} {n : Nat}
theorem rowsIn_wide' {q : Nat} {row : String} {args : Array Value} {w : World} {R : Value → World → Prop} (h : Rows P row args w R) : RowsIn Fence.wide q P row args w R :=
  fun c cs _ => let ⟨v, w', r, s⟩ := h c cs; ⟨v, w', r, stepsIn_wide.2 s⟩
theorem oper_mono2 {o : Oper} {a : Act} {w : World} {next next' : Act → World → Prop} {Q Q' : Exit → Act → World → Prop} (h : o.wp P a w next Q) (hn : ∀ a w, next a w → next' a w) (hq : ∀ e a w, Q e a w → Q' e a w) : o.wp P a w next' Q' := by
  unfold Oper.wp at h ⊢
  generalize (execOp a.eval o).run P w = res at h ⊢
  cases res with
  | ok x w' =>
    cases x <;> simp only [Oper.upon] at h ⊢
    case value v => exact hn _ _ h
    case skip => exact hn _ _ h
    case defer d => exact hn _ _ h
    case enter f args =>
      refine h.mono fun e w'' he => ?_
      cases e with
      | returned v => exact hn _ _ he
      | panicked c => exact hq _ _ _ he
      | outgrown => exact let ⟨a, w, h⟩ := he; ⟨a, w, hq _ _ _ h⟩
    case row row args => exact h.mono fun v w'' he => hn _ _ he
  | halt x w' =>
    cases x <;> simp only [Oper.upon] at h ⊢
    exact hq _ _ _ h
theorem wpL_mono {ops : Array Oper} {Q Q' : Exit → Act → World → Prop} (hq : ∀ e a w, Q e a w → Q' e a w) : ∀ (l : List Oper) (a : Act) (w : World), wpL P ops Q l a w → wpL P ops Q' l a w
  | [], _, _, h => hq _ _ _ h
  | o :: l, a, w, h => by
    simp only [wpL] at h ⊢
    split
    · rename_i hw
      rw [if_pos hw] at h
      exact oper_mono2 h (fun a w => wpL_mono hq l a w) hq
    · rename_i hw
      rw [if_neg hw] at h
      exact wpL_mono hq l _ _ h
theorem oper_in {r q : Nat} {o : Oper} {a : Act} {w : World} {next next' : Act → World → Prop} {Q : Exit → Act → World → Prop} (hnd : noDefer o = true) (h : o.wp P a w next Q) (hn : ∀ a w, next a w → next' a w) : o.wpIn (Fence.wide.inRound r) q P a w next' Q := by
  refine ⟨fun _ _ => trivial, ?_⟩
  rw [Oper.semAt_eq _ _ _ (fun c hc => by simp [noDefer, hc] at hnd)]
  unfold Oper.wp at h
  generalize (execOp a.eval o).run P w = res at h ⊢
  cases res with
  | ok x w' =>
    cases x <;> simp only [Oper.upon] at h <;> simp only [Oper.uponIn]
    case value v => exact hn _ _ h
    case skip => exact hn _ _ h
    case defer d => exact hn _ _ h
    case enter f args =>
      refine ⟨fun hh => (by cases hh), CallsIn.inRound r ((callsIn_wide.2 h).mono fun e w'' he => ?_)⟩
      cases e with
      | returned v => exact hn _ _ he
      | panicked c => exact he
      | outgrown => exact he
    case row row args => exact ⟨fun hh => (by cases hh), (rowsIn_wide' (h.mono fun v w'' he => hn _ _ he) : RowsIn Fence.wide (q - 1) P row args w' _)⟩
  | halt x w' =>
    cases x <;> simp only [Oper.upon] at h <;> simp only [Oper.uponIn]
    exact h
theorem wpL_in {r q : Nat} {ops : Array Oper} {Q : Exit → Act → World → Prop} : ∀ (l : List Oper) (k : Nat), (∀ j : Nat, l[j]? = ops[k + j]?) → (l.all noDefer = true) → ∀ (a : Act) (w : World), wpL P ops Q l a w → wpOpsIn (Fence.wide.inRound r) q P ops Q (List.range' k l.length) a w
  | [], k, _, _, a, w, h => by simpa [wpOpsIn, wpL] using h
  | o :: l, k, hl, hd, a, w, h => by
    have h0 : ops[k]? = some o := by simpa using (hl 0).symm
    simp only [List.all_cons, Bool.and_eq_true] at hd
    simp only [List.length_cons, List.range'_succ, wpOpsIn, h0]
    simp only [wpL] at h
    have ih := fun a w => wpL_in (r := r) (q := q) (Q := Q) l (k + 1) (fun j => by have := hl (j + 1); simpa [Nat.add_assoc, Nat.add_comm 1 j] using this) hd.2 a w
    split
    · rename_i hw
      rw [if_pos hw] at h
      exact oper_in hd.1 h ih
    · rename_i hw
      rw [if_neg hw] at h
      exact ⟨fun _ _ => trivial, ih _ _ h⟩
end
def QR (b1 : List (List A)) (k : Nat) (st : St) : Prop := ∃ order, order.length = k ∧ nodupB (ordB b1.length order) = true ∧ (∀ g ∈ order, g ∈ st.lv) ∧ ∀ (i : Nat) (c : List A), b1[i]? = some c → ∃ c0, look' st.bx i = some c0 ∧ renL (ordB b1.length order) c0 = c
theorem QR.mk {b1 : List (List A)} {k : Nat} {st : St} (order : List Nat) (hk : order.length = k) (hnd : nodupB (ordB b1.length order) = true) (hov : (order.all fun g => st.lv.any fun h => Nat.beq h g) = true)
    (hb : ∀ (i : Nat) (c : List A), b1[i]? = some c → ∃ c0, look' st.bx i = some c0 ∧ renL (ordB b1.length order) c0 = c) : QR b1 k st :=
  ⟨order, hk, hnd, fun g hg => by
    obtain ⟨x, hx, he⟩ := List.any_eq_true.1 (List.all_eq_true.1 hov g hg)
    exact Nat.eq_of_beq_eq_true he ▸ hx, hb⟩
section
variable {P : Program} [Met P] {n : Nat}
theorem QR.sim {C : Ctx} {st : St} {G : Gh} {tmps : Array Value} {w : World} {b0 b1 : List (List A)} {k : Nat} (hs : SimG C n st G tmps w) (hq : QR b1 k st) (hnb : C.bx.length = b0.length) (hbl : b1.length = b0.length) :
    ∃ G', SimG C 0 ⟨[], bxs 0 b1, (List.range k).map (b0.length + ·), b0.length + k⟩ G' #[] w := by
  obtain ⟨order, hol, hnd, hov, hbx⟩ := hq
  have holen : (ordB b1.length order).length = b0.length + k := by simp [ordB, hol, hbl]
  have hget : ∀ i, i < C.bx.length → (ordB b1.length order)[i]? = some i := fun i hi => by
    unfold ordB
    rw [List.getElem?_append_left (by simp; omega), List.getElem?_range (by omega)]
  refine ⟨renG (ordB b1.length order) G, SimG.noFrame (hs.ren (f' := []) (bx' := bxs 0 b1) (lv' := (List.range k).map (b0.length + ·)) (gen' := b0.length + k) (ordB b1.length order) (nodup_of hnd) (by omega) hget (fun t a ha => by simp [look] at ha) (fun i c hc => ?_) (fun i hi => ?_)) rfl⟩
  · obtain ⟨_, h1⟩ := bxs_look b1 0 i c hc
    simp only [Nat.sub_zero] at h1
    obtain ⟨c0, h2, h3⟩ := hbx i c h1
    have hlt : i < b1.length := (List.getElem?_eq_some_iff.1 h1).1
    exact ⟨i, c0, hget i (by rw [hnb, ← hbl]; exact hlt), h2, by rw [← renL_map]; exact h3⟩
  · obtain ⟨j, hj, rfl⟩ := List.mem_map.1 hi
    have hj : j < k := by simpa using hj
    have hj2 : j < order.length := by omega
    refine ⟨order[j], ?_, hov _ (List.getElem_mem hj2)⟩
    unfold ordB
    rw [List.getElem?_append_right (by simp; omega)]
    simp [hbl, hj2]
theorem RoundB.of2 {id i1 i2 : Nat} {l1 l2 : List Oper} {V : List (Nat × A)} {b0 b1 : List (List A)} {m k : Nat} (hbl : b1.length = b0.length) (hd1 : l1.all noDefer = true) (hd2 : l2.all noDefer = true)
    (h : ∀ C, NB C b0.length → GC P C → WO P C n l1.toArray (fun e s => e = .normal ∧ WO P C n l2.toArray (fun e s => e = .normal ∧ QR b1 k s) l2 s) l1 ⟨V, bxs 0 b0, (List.range m).map (b0.length + ·), b0.length + m⟩) :
    RoundB P n (.block id (.seq (.region i1 l1.toArray false) (.region i2 l2.toArray false))) V b0 m b1 k := by
  intro C G tmps w l q hG hw hnb hds hs
  refine wpIn_block (wpIn_seq (wpIn_region ?_))
  have h1 := h C ⟨hnb⟩ hG tmps w ⟨G, hs⟩
  rw [hds] at h1
  have h2 : wpL P l1.toArray (Exit.then ((Code.region i2 l2.toArray false).wpIn (Fence.wide.inRound l) q P (Exit.inBlock id fun e _ w' => e = .normal ∧ ∃ G', SimG C 0 ⟨[], bxs 0 b1, (List.range k).map (b0.length + ·), b0.length + k⟩ G' #[] w')) (Exit.inBlock id fun e _ w' => e = .normal ∧ ∃ G', SimG C 0 ⟨[], bxs 0 b1, (List.range k).map (b0.length + ·), b0.length + k⟩ G' #[] w')) l1 ⟨tmps, []⟩ w := by
    refine wpL_mono (fun e a w' hq => ?_) l1 _ _ h1
    obtain ⟨hd, st, ⟨G2, hs2⟩, rfl, hw2⟩ := hq
    obtain ⟨tm, d⟩ := a
    have hd : d = C.ds := hd
    rw [hds] at hd
    subst hd
    refine wpIn_region ?_
    have h3 := hw2 tm w' ⟨G2, hs2⟩
    rw [hds] at h3
    have h4 : wpL P l2.toArray (Exit.inBlock id fun e _ w' => e = .normal ∧ ∃ G', SimG C 0 ⟨[], bxs 0 b1, (List.range k).map (b0.length + ·), b0.length + k⟩ G' #[] w') l2 ⟨tm, []⟩ w' := by
      refine wpL_mono (fun e a w3 hq => ?_) l2 _ _ h3
      obtain ⟨_, st3, ⟨G3, hs3⟩, rfl, hq3⟩ := hq
      exact ⟨rfl, hq3.sim hs3 hnb hbl⟩
    have := wpL_in (P := P) (r := l) (q := q) l2 0 (by simp) hd2 _ _ h4
    rw [show List.range l2.toArray.size = List.range' 0 l2.length by simp [List.range_eq_range']]
    exact this
  have := wpL_in (P := P) (r := l) (q := q) l1 0 (by simp) hd1 _ _ h2
  rw [show List.range l1.toArray.size = List.range' 0 l1.length by simp [List.range_eq_range']]
  exact this
end
section
variable {P : Program} (T : Tab P) {C : Ctx} {n : Nat} {Q : Exit → St → Prop} {c : Code}
variable {f f' : List (Nat × A)} {bx bx' : List (Nat × List A)} {lv : List Nat} {gen : Nat}
theorem freezeP [hnb : NB C 0] (s : Nat) {g : Nat} {l : List D} (hl : look f s = some (.ptr g 0)) (hb : look' bx g = some (l.map .d)) (hsn : Nat.blt s n = true) (hf : cutF g [] f = f') (hbx : cutBg g [] bx = some bx')
    (h : W P C n c Q ⟨(s, .rowd l) :: f', bx', lv, gen⟩) : W P C n c Q ⟨f, bx, lv, gen⟩ := by
  subst hf
  intro tmps w ⟨G, hs⟩
  obtain ⟨v, hv, hr⟩ := hs.frame _ _ hl
  obtain ⟨b, cs, T', hgb, hw, h3, h4, h5⟩ := hs.box _ _ hb
  cases hr with
  | ptr _ _ _ b' hgg hb' hx =>
  have hb' : G.box g = some b' := hb'
  rw [hgb] at hb'
  cases hb'
  let G' : Gh := ⟨fun x => if x = g then none else G.box x, G.own⟩
  have hpv : ∀ b' o, pvOf C G' b' o → pvOf C G b' o := by
    rintro b' o (hp | ⟨g', hp⟩ | hp)
    · exact .inl hp
    · simp only [G'] at hp
      split at hp
      · cases hp
      · exact .inr (.inl ⟨g', hp⟩)
    · exact .inr (.inr hp)
  have hnot : ∀ o, ¬ pvOf C G' b o := by
    rintro o (hp | ⟨g', hp⟩ | ⟨g', len, cap, sz, pub, hp, _⟩ | ⟨g', b2, bs, lim, hp, hm, _⟩)
    rotate_right
    · exact (hs.sub g' b2 bs b lim hp hm).2.1 g hgb
    · have := hs.xold b o hp
      rcases (hs.gbox g b hgb).2.2.1 with hm | hm
      · omega
      · exact this.2 hm
    · simp only [G'] at hp
      split at hp
      · cases hp
      · rename_i e; exact e (hs.inj g' g b hp hgb)
    · exact (hs.row g' b len cap sz pub hp).2.1 g hgb
  have hrep : ∀ {v : Value} {a : A}, Rep (enOf C G gen w) v a → noG g a = true → Rep (enOf C G' gen w) v a := fun h ha =>
    Rep.forget (E := enOf C G gen w) (E' := enOf C G' gen w) rfl (fun b o u hu hn => ⟨hu, fun hp => hn (hpv b o hp)⟩) (fun b h => h) (fun g' b hne hb => by show (if g' = g then none else G.box g') = some b; rw [if_neg hne]; exact hb) rfl rfl h ha
  have hs' : SimG C n ⟨cutF g [] f, bx', lv, gen⟩ G' tmps w := by
    refine { size := hs.size, frame := ?_, box := ?_, gbox := ?_, inj := ?_, live := hs.live, gown := hs.gown, row := ?_, mrow := ?_, sub := ?_, gcell := fun g' b2 hb2 => (by simp only [G'] at hb2; split at hb2 <;> first | (cases hb2; done) | exact hs.gcell g' b2 hb2), xold := hs.xold, kold := hs.kold, lent := ?_, fr := hs.fr }
    · intro t a ha
      obtain ⟨h1, h2, _⟩ := cutF_look ha
      obtain ⟨v, hv, hr⟩ := hs.frame t a h1
      exact ⟨v, hv, hrep hr h2⟩
    · intro g' cells hc
      obtain ⟨h1, h2, h6, _⟩ := cutB_look hbx hc
      obtain ⟨b2, cs2, T2, p1, p2, p3, p4, p5⟩ := hs.box g' cells h1
      exact ⟨b2, cs2, T2, by simp only [G']; rw [if_neg h6]; exact p1, p2, p3, p4, fun i u a hu ha => hrep (p5 i u a hu ha) (noGL_mem h2 a (List.mem_of_getElem? ha))⟩
    · intro g' b2 hb2
      simp only [G'] at hb2
      split at hb2
      · cases hb2
      · exact hs.gbox g' b2 hb2
    · intro g1 g2 b2 h1 h2
      simp only [G'] at h1 h2
      split at h1
      · cases h1
      · split at h2
        · cases h2
        · exact hs.inj g1 g2 b2 h1 h2
    · intro g' b2 len cap sz pub hr
      obtain ⟨p1, p2, p3⟩ := hs.row g' b2 len cap sz pub hr
      refine ⟨p1, fun g2 h2 => ?_, p3⟩
      simp only [G'] at h2
      split at h2
      · cases h2
      · exact p2 g2 h2
    · intro g' b2 bs hr
      obtain ⟨p1, p2, p3⟩ := hs.mrow g' b2 bs hr
      refine ⟨p1, fun g2 h2 => ?_, p3⟩
      simp only [G'] at h2
      split at h2
      · cases h2
      · exact p2 g2 h2
    · intro g' b2 bs c lim hr hm
      obtain ⟨p1, p2, p3⟩ := hs.sub g' b2 bs c lim hr hm
      refine ⟨p1, fun g2 h2 => ?_, p3⟩
      simp only [G'] at h2
      split at h2
      · cases h2
      · exact p2 g2 h2
    · intro i b2 hb2
      have := hnb.h
      have hi := (List.getElem?_eq_some_iff.1 hb2).1
      omega
  have hdata : Rep (enOf C G' gen w) v (.rowd l) := by
    rw [hx]
    refine .rowd b 0 l (fun j => cs[j]?.getD default) (fun j hj => ?_) (fun j x hx => ?_)
    · have hj' : j < cs.size := by rw [h3]; simpa using hj
      have e1 : cs[j]? = some cs[j] := by simp [hj']
      refine ⟨?_, hnot _⟩
      show cellAt w b (0 + j) = _
      rw [Nat.zero_add, cellAt_row hw, e1]; rfl
    · have hj' : j < cs.size := by rw [h3]; simpa using (List.getElem?_eq_some_iff.1 hx).1
      have e1 : cs[j]? = some cs[j] := by simp [hj']
      have := hrep (h5 j _ (.d x) e1 (by simp [hx])) rfl
      rw [e1]
      show RepD w _ cs[j] x
      generalize cs[j] = u at this
      cases this with | d hd => exact hd
  refine h tmps w ⟨G', ?_⟩
  have := hs'.set (d := s) (Nat.le_of_ble_eq_true hsn) hdata
  rwa [set_same hv] at this
end
end Go.Ab
namespace Go.Ab
theorem DoesB.nilA {P : Program} [Met P] {f : FuncId} {args args' : List A} {b0 b1 : List (List A)} {r : A} {m k : Nat} (h : DoesB P f args' b0 m r b1 k) (ha : args.map Ab.nilA = args') : DoesB P f args b0 m r b1 k := by
  subst ha
  exact ⟨h.ok, h.len, fun C G vals w hG hw hx hds hfp hs hsz hrep => h.calls C G vals w hG hw hx hds hfp hs (by simpa using hsz) (fun i u a hu ha => by
    rw [List.getElem?_map, Option.map_eq_some_iff] at ha
    obtain ⟨y, hy, rfl⟩ := ha
    exact (hrep i u y hu hy).nilA)⟩
end Go.Ab
namespace Go.Ab
open Go.RowKit Go.MapKept
theorem Rep.forgetG {E E' : En} {g : Nat} (hw : E.w = E'.w) (hc : ∀ b o u, cellAt E.w b o = some u → ¬ E.pv b o → cellAt E'.w b o = some u ∧ ¬ E'.pv b o) (hold : ∀ b, E.old b → E'.old b) (hb : ∀ g' b, g' ≠ g → E.box g' = some b → E'.box g' = some b) (ho : ∀ g' r, g' < E.gen → E'.own g' = some r → E.own g' = some r) (hg : E.gen ≤ E'.gen)
    {v : Value} {a : A} (h : Rep E v a) (ha : noG g a = true) : Rep E' v a := by
  have hne : ∀ {g'}, (!Nat.beq g' g) = true → g' ≠ g := fun h e => by subst e; simp at h
  have hc' : ∀ b o u, cellAt E.w b o = some u → ¬ E.pv b o → cellAt E.w b o = some u ∧ ¬ E'.pv b o := fun b o u h1 h2 => ⟨h1, (hc b o u h1 h2).2⟩
  induction h with
  | any x => exact .any x
  | d hd => exact .d (hd.mono hc)
  | ag vs l hs hd => exact .ag vs l hs (fun i u x h1 h2 => (hd i u x h1 h2).mono hc)
  | own x g' es hd hgg hr => exact .own x g' es (hd.mono hc) (Nat.lt_of_lt_of_le hgg hg) (fun r hr' => hr r (ho _ r hgg hr'))
  | agg vs l hs hone _ ih => exact .agg vs l hs hone (fun i u x hu hx => ih i u x hu hx (noGL_mem (by simpa [noG] using ha) x (List.mem_of_getElem? hx)))
  | tup vs l hs _ ih => exact .tup vs l hs (fun i u x hu hx => ih i u x hu hx (noGL_mem (by simpa [noG] using ha) x (List.mem_of_getElem? hx)))
  | rowd b off l u hcc hd => exact .rowd b off l u (fun j hj => hc _ _ _ (hcc j hj).1 (hcc j hj).2) (fun j x hx => (hd j x hx).mono hc)
  | row b off l u hcc _ ih => exact .row b off l u (fun j hj => ⟨by rw [← hw]; exact (hcc j hj).1, hold _ (hcc j hj).2.1, (hcc j hj).2.2⟩) (fun j x hx => ih j x hx (noGL_mem (by simpa [noG] using ha) x (List.mem_of_getElem? hx)))
  | ptr x g' off b hgg hb0 hp => exact .ptr x g' off b (Nat.lt_of_lt_of_le hgg hg) (hb g' b (hne (by simpa [noG] using ha)) hb0) hp
  | xs x g' es hgg h1 hx => exact .xs x g' es (Nat.lt_of_lt_of_le hgg hg) h1 (fun r hr' => hw ▸ (hx r (ho _ r hgg hr')).weak hc')
  | xp x g' i off l hgg h1 hx => exact .xp x g' i off l (Nat.lt_of_lt_of_le hgg hg) h1 (fun r hr' => hw ▸ (hx r (ho _ r hgg hr')).weak hc')
  | mp x g' es hgg h1 hx => exact .mp x g' es (Nat.lt_of_lt_of_le hgg hg) h1 (fun r hr' => hw ▸ (hx r (ho _ r hgg hr')).weak hc')
  | mq x g' es hgg h1 hx => exact .mq x g' es (Nat.lt_of_lt_of_le hgg hg) h1 (fun r hr' => hw ▸ (hx r (ho _ r hgg hr')).weak hc')
  | mo x g' es hole ob hgg h1 hx => exact .mo x g' es hole ob (Nat.lt_of_lt_of_le hgg hg) h1 (fun r hr' => hw ▸ (hx r (ho _ r hgg hr')).weak hc')
  | ni t x => exact .ni t x
  | fl x es hd hfl => exact .fl x es (hd.mono hc) hfl
  | bf x g' T s hgg h1 hx => exact .bf x g' T s (Nat.lt_of_lt_of_le hgg hg) h1 (fun r hr' => hw ▸ hx r (ho _ r hgg hr'))
  | np x g' T b hgg hb0 hT u hp => exact .np x g' T b (Nat.lt_of_lt_of_le hgg hg) (hb g' b (hne (by simpa [noG] using ha)) hb0) (hw ▸ hT) u hp
  | sb x g' n c b hgg hb0 hn hp => exact .sb x g' n c b (Nat.lt_of_lt_of_le hgg hg) (hb g' b (hne (by simpa [noG] using ha)) hb0) hn hp
  | fx x u g' es ou hx hgg hu hou => exact .fx x u g' es ou (hx.mono hc) (Nat.lt_of_lt_of_le hgg hg) (fun r hr' => hw ▸ (hu r (ho _ r hgg hr')).weak hc') hou
  | ol x u g1 E1 g' es hx hg1 hr1 hgg hu => exact .ol x u g1 E1 g' es (hx.mono hc) (Nat.lt_of_lt_of_le hg1 hg) (fun r hr' => hr1 r (ho _ r hg1 hr')) (Nat.lt_of_lt_of_le hgg hg) (fun r hr' => hw ▸ (hu r (ho _ r hgg hr')).weak hc')
  | ow x v g' es hd hgg hr => exact .ow x v g' es (hd.mono hc) (Nat.lt_of_lt_of_le hgg hg) (fun r hr' => hr r (ho _ r hgg hr'))
  | lk x g' n c b v hgg hb0 hn hp => exact .lk x g' n c b v (Nat.lt_of_lt_of_le hgg hg) (hb g' b (hne (by simpa [noG] using ha)) hb0) hn hp
  | clo f vs l hs _ ih => exact .clo f vs l hs (fun i u x hu hx => ih i u x hu hx (noGL_mem (by simpa [noG] using ha) x (List.mem_of_getElem? hx)))
  | bnd f vs l hs _ ih => exact .bnd f vs l hs (fun i u x hu hx => ih i u x hu hx (noGL_mem (by simpa [noG] using ha) x (List.mem_of_getElem? hx)))
section
variable {C : Ctx} {n : Nat} {G : Gh} {tmps : Array Value} {w : World}
variable {f : List (Nat × A)} {bx bx' : List (Nat × List A)} {lv : List Nat} {gen : Nat}
theorem SimG.rowBox (hs : SimG C n ⟨f, bx, lv, gen⟩ G tmps w) (hnb : C.bx = []) {g b : Nat} {l : List D} (hgb : G.box g = some b) (hb : look' bx g = some (l.map .d)) (hpos : 0 < l.length) (hbx : cutBg g [] bx = some bx') :
    ∃ G' cs T, w.heap[b]? = some (.cells cs T (0, 0)) ∧ cs.size = l.length ∧ OneC cs ∧ (∀ (j : Nat) (u : Value) (d : D), cs[j]? = some u → l[j]? = some d → RepD w (pvOf C G') u d) ∧ G'.own gen = some (.blk b 1 1 l.length 0) ∧ (∀ g', g' ≠ gen → G'.own g' = G.own g') ∧
      (∀ b' o, pvOf C G' b' o → pvOf C G b' o) ∧ SimG C n ⟨cutF g [] f, bx', gen :: lv, gen + 1⟩ G' tmps w := by
  obtain ⟨b0, cs, T', hgb0, hw, h3, h4, h5⟩ := hs.box _ _ hb
  rw [hgb] at hgb0
  cases hgb0
  simp only [List.length_map] at h3
  let own' : Nat → Option Row := fun g' => if g' = gen then some (.blk b 1 1 l.length 0) else G.own g'
  let G' : Gh := ⟨fun x => if x = g then none else G.box x, own'⟩
  have ublk : ∀ {g' c len cap sz pub}, own' g' = some (.blk c len cap sz pub) → (g' = gen ∧ c = b ∧ len = 1 ∧ cap = 1 ∧ sz = l.length ∧ pub = 0) ∨ (g' ≠ gen ∧ G.own g' = some (.blk c len cap sz pub)) := by
    intro g' c len cap sz pub hr
    simp only [own'] at hr
    split at hr
    · rename_i e
      simp only [Option.some.injEq, Row.blk.injEq] at hr
      exact .inl ⟨e, hr.1.symm, hr.2.1.symm, hr.2.2.1.symm, hr.2.2.2.1.symm, hr.2.2.2.2.symm⟩
    · rename_i e; exact .inr ⟨e, hr⟩
  have ump : ∀ {g' b2 bs2}, own' g' = some (.mp b2 bs2) → G.own g' = some (.mp b2 bs2) := by
    intro g' b2 bs2 hr
    simp only [own'] at hr
    split at hr
    · cases hr
    · exact hr
  have hpv : ∀ b' o, pvOf C G' b' o → pvOf C G b' o := by
    rintro b' o (hp | ⟨g', hp⟩ | ⟨g', len', cap', sz', pub', hp, hl'⟩ | ⟨g', b2, bs2, lim, hp, hm, hl'⟩)
    · exact .inl hp
    · simp only [G'] at hp
      split at hp
      · cases hp
      · exact .inr (.inl ⟨g', hp⟩)
    · rcases ublk hp with ⟨_, rfl, _⟩ | ⟨_, e⟩
      · exact .inr (.inl ⟨g, hgb⟩)
      · exact .inr (.inr (.inl ⟨g', len', cap', sz', pub', e, hl'⟩))
    · exact .inr (.inr (.inr ⟨g', b2, bs2, lim, ump hp, hm, hl'⟩))
  have hrep : ∀ {v : Value} {a : A}, Rep (enOf C G gen w) v a → noG g a = true → Rep (enOf C G' (gen + 1) w) v a := fun h ha =>
    Rep.forgetG (E := enOf C G gen w) (E' := enOf C G' (gen + 1) w) rfl (fun b o u hu hn => ⟨hu, fun hp => hn (hpv b o hp)⟩) (fun b h => h) (fun g' b hne hb => by show (if g' = g then none else G.box g') = some b; rw [if_neg hne]; exact hb)
      (fun g' r hg' hr => by
        have hr : own' g' = some r := hr
        have hg' : g' < gen := hg'
        simp only [own', if_neg (Nat.ne_of_lt hg')] at hr
        exact hr) (Nat.le_succ gen) h ha
  refine ⟨G', cs, T', hw, h3, h4, fun j u d hu hd => ?_, by simp [G', own'], fun g' hg' => by simp [G', own', hg'], hpv, ?_⟩
  · have := hrep (h5 j u (.d d) hu (by simp [hd])) rfl
    cases this with | d hd => exact hd
  · refine { size := hs.size, frame := ?_, box := ?_, gbox := ?_, inj := ?_, live := ?_, gown := ?_, row := ?_, mrow := ?_, sub := ?_, gcell := fun g' b2 hb2 => (by simp only [G'] at hb2; split at hb2 <;> first | (cases hb2; done) | exact hs.gcell g' b2 hb2), xold := hs.xold, kold := hs.kold, lent := ?_, fr := hs.fr }
    · intro t a ha
      obtain ⟨h1, h2, _⟩ := cutF_look ha
      obtain ⟨v, hv, hr⟩ := hs.frame t a h1
      exact ⟨v, hv, hrep hr h2⟩
    · intro g' cells hc
      obtain ⟨h1, h2, h6, _⟩ := cutB_look hbx hc
      obtain ⟨b2, cs2, T2, p1, p2, p3, p4, p5⟩ := hs.box g' cells h1
      exact ⟨b2, cs2, T2, by simp only [G']; rw [if_neg h6]; exact p1, p2, p3, p4, fun i u a hu ha => hrep (p5 i u a hu ha) (noGL_mem h2 a (List.mem_of_getElem? ha))⟩
    · intro g' b2 hb2
      simp only [G'] at hb2
      split at hb2
      · cases hb2
      · obtain ⟨q1, q2⟩ := hs.gbox g' b2 hb2
        exact ⟨Nat.lt_succ_of_lt q1, q2⟩
    · intro g1 g2 b2 h1 h2
      simp only [G'] at h1 h2
      split at h1
      · cases h1
      · split at h2
        · cases h2
        · exact hs.inj g1 g2 b2 h1 h2
    · intro g' hg'
      rcases List.mem_cons.1 hg' with rfl | hg'
      · exact ⟨_, by simp [G', own']; rfl⟩
      · obtain ⟨r, hr⟩ := hs.live g' hg'
        exact ⟨r, by simp only [G', own', if_neg (Nat.ne_of_lt (hs.gown g' r hr))]; exact hr⟩
    · intro g' r hr
      have hr : own' g' = some r := hr
      simp only [own'] at hr
      split at hr
      · simp only; omega
      · exact Nat.lt_succ_of_lt (hs.gown g' r hr)
    · intro g' b2 len cap sz pub hr
      rcases ublk hr with ⟨e, rfl, rfl, rfl, rfl, rfl⟩ | ⟨e, hr⟩
      · refine ⟨(hs.gbox g _ hgb).2.2, fun g2 h2 => ?_, fun g2 len2 cap2 sz2 pub2 h2 => ?_, cs, T', hw, by rw [h3]; simp, Nat.le_refl _, by simp [maxLen], hpos, by decide, Nat.zero_le _, h4⟩
        · simp only [G'] at h2
          split at h2
          · cases h2
          · rename_i e2; exact e2 (hs.inj _ _ _ h2 hgb)
        · rcases ublk h2 with ⟨e2, _⟩ | ⟨_, e2⟩
          · rw [e, e2]
          · exact absurd hgb ((hs.row _ _ _ _ _ _ e2).2.1 g)
      · obtain ⟨p1, p2, p3, p4⟩ := hs.row g' b2 len cap sz pub hr
        refine ⟨p1, fun g2 h2 => ?_, fun g2 len2 cap2 sz2 pub2 h2 => ?_, p4⟩
        · simp only [G'] at h2
          split at h2
          · cases h2
          · exact p2 g2 h2
        · rcases ublk h2 with ⟨_, rfl, _⟩ | ⟨_, e2⟩
          · exact absurd hgb (p2 g)
          · exact p3 _ _ _ _ _ e2
    · intro g' b2 bs hr
      obtain ⟨p1, p2, p3, p4⟩ := hs.mrow g' b2 bs (ump hr)
      refine ⟨p1, fun g2 h2 => ?_, fun g2 bs2 h2 => p3 g2 bs2 (ump h2), p4⟩
      simp only [G'] at h2
      split at h2
      · cases h2
      · exact p2 g2 h2
    · intro g' b2 bs c lim hr hm
      obtain ⟨p1, p2, p3, p4, p5⟩ := hs.sub g' b2 bs c lim (ump hr) hm
      refine ⟨p1, fun g2 h2 => ?_, fun g2 len cap sz pub h2 => ?_, fun g2 b3 bs3 lim2 h2 hm2 => p4 g2 b3 bs3 lim2 (ump h2) hm2, p5⟩
      · simp only [G'] at h2
        split at h2
        · cases h2
        · exact p2 g2 h2
      · rcases ublk h2 with ⟨_, rfl, _⟩ | ⟨_, e2⟩
        · exact p2 g hgb
        · exact p3 _ _ _ _ _ e2
    · intro i b2 hb2
      rw [hnb] at hb2
      simp at hb2
end
end Go.Ab
