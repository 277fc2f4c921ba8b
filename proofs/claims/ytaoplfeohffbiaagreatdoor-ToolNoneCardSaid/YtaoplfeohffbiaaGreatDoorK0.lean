/- A part of the proof. -/
import Derived.WalkKit
import Derived.Lib.ItoaNum
import Derived.Lib.DecodeN
import Derived.WalkSpells
import Derived.WalkLawsBesides
import Derived.Deep.QuietTactic
import Derived.Laws.StructEq

/-! The package-level variables that walks ask for, and what they hold. -/
namespace Go.Proofs.YtaoplfeohffbiaaGreatDoor.Sx
set_option linter.unusedSimpArgs false
set_option linter.unusedVariables false
set_option linter.unusedSectionVars false

/-- The variables' blocks. -/
def GB : List Nat := [4, 2, 3]
/-- What they hold. -/
structure GW (w : World) : Prop where
  pow : ∃ T fz, w.heap[4]? = some (.cells (Lib.pow10Tab.map fun z => Value.int .u64 z).toArray T fz)
  uf : ∀ c, c < 256 → w.cell? ⟨2, c, none⟩ = some (.int .u8 (Lib.firstT c))
  ua : ∀ i, i < 16 → w.cell? ⟨3, 2 * i, none⟩ = some (.int .u8 (Lib.accLo i)) ∧ w.cell? ⟨3, 2 * i + 1, none⟩ = some (.int .u8 (Lib.accHi i))
theorem rowIn {w : World} {b : Nat} {o : Obj} (e : w.heap[b]? = some o) : b < w.heap.size := by
  rcases Nat.lt_or_ge b w.heap.size with h' | h'
  · exact h'
  · simp [Array.getElem?_eq_none h'] at e
theorem cellIn {w : World} {b : Nat} {u : Value} (e : w.cell? ⟨b, 0, none⟩ = some u) : b < w.heap.size := by
  unfold World.cell? at e
  rcases Nat.lt_or_ge b w.heap.size with h' | h'
  · exact h'
  · simp [Array.getElem?_eq_none h'] at e
theorem GW.stay {w w' : World} (h : ∀ b ∈ GB, w'.heap[b]? = w.heap[b]?) (hg : GW w) : GW w' where
  pow := let ⟨T, fz, e⟩ := hg.pow; ⟨T, fz, (h 4 (by simp [GB])).trans e⟩
  uf := fun c hc => (World.cell?_of_block (h 2 (by simp [GB]))).trans (hg.uf c hc)
  ua := fun i hi => ⟨(World.cell?_of_block (h 3 (by simp [GB]))).trans (hg.ua i hi).1, (World.cell?_of_block (h 3 (by simp [GB]))).trans (hg.ua i hi).2⟩
theorem GW.lt {w : World} (hg : GW w) : ∀ b ∈ GB, b < w.heap.size := fun b h => by
  simp only [GB, List.mem_cons, List.not_mem_nil, or_false] at h
  rcases h with rfl | rfl | rfl
  · obtain ⟨T, fz, e⟩ := hg.pow; exact rowIn e
  · exact cellIn (hg.uf 0 (by decide))
  · exact cellIn (hg.ua 0 (by decide)).1

/-- errors.As where it finds its target: the function, the error's type, the target's. -/
def asL : List (Nat × Nat × Nat) := []

end Go.Proofs.YtaoplfeohffbiaaGreatDoor.Sx

/-! The data of the symbolic interpreter: types, what cells read as, symbolic values, objects, and that all of it survives a step. -/
namespace Go.Proofs.YtaoplfeohffbiaaGreatDoor.Sx
set_option linter.unusedSimpArgs false
set_option linter.unusedVariables false
set_option linter.unusedSectionVars false
noncomputable section

/-! ### Types and data -/
inductive Ty where
  | int (k : IntKind) | bool | str | unit | opq
  | pair (a b : Ty) | slice (z : Nat) (e : Ty)
  deriving DecidableEq

@[reducible] def Ty.den : Ty → Type
  | .int _ => Int
  | .bool => Bool
  | .str => List UInt8
  | .unit => Unit
  | .opq => Value
  | .pair a b => a.den × b.den
  | .slice _ e => List e.den

def Ty.n : Ty → Nat
  | .unit => 0
  | .pair a b => a.n + b.n
  | _ => 1

def Ty.zero : (t : Ty) → t.den
  | .int _ => (0 : Int)
  | .bool => false
  | .str => []
  | .unit => ()
  | .opq => .nilFunc
  | .pair a b => (a.zero, b.zero)
  | .slice _ _ => []

/-- What a value of the type always fulfils. -/
def Ty.wf : (t : Ty) → t.den → Prop
  | .int k, n => k.has n
  | .bool, _ => True
  | .str, s => s.length ≤ 140737488355328
  | .unit, _ => True
  | .opq, v => v.oneCell' = true
  | .pair a b, x => a.wf x.1 ∧ b.wf x.2
  | .slice z e, xs => xs.length * z ≤ 140737488355328 ∧ ∀ x ∈ xs, e.wf x

/-- These cells read as x; no block of S is met. -/
def Rd (S : Nat → Prop) (w : World) : (t : Ty) → List Value → t.den → Prop
  | .int k, vs, n => vs = [.int k n] ∧ k.has n
  | .bool, vs, b => vs = [.bool b]
  | .str, vs, s => vs = [.string ⟨s.toArray⟩] ∧ s.length ≤ 140737488355328
  | .unit, vs, _ => vs = []
  | .opq, vs, v => vs = [v] ∧ v.oneCell' = true
  | .pair a b, vs, x => ∃ v1 v2, vs = v1 ++ v2 ∧ Rd S w a v1 x.1 ∧ Rd S w b v2 x.2
  | .slice z e, vs, xs => xs.length * z ≤ 140737488355328 ∧
      ((∃ a c, vs = [.slice a 0 c] ∧ xs = []) ∨
       ∃ b off c, vs = [.slice (some ⟨b, off, none⟩) xs.length c] ∧ xs.length ≤ c ∧ xs ≠ [] ∧ ¬ S b ∧ b < w.heap.size ∧
         ∀ i (h : i < xs.length), ∃ us : List Value, us.length = e.n ∧ (∀ j u, us[j]? = some u → w.cell? ⟨b, off + i * e.n + j, none⟩ = some u) ∧ Rd S w e us xs[i])

theorem cell_lt {w : World} {b off : Nat} {u : Value} (h : w.cell? ⟨b, off, none⟩ = some u) : b < w.heap.size := by
  unfold World.cell? at h
  rcases Nat.lt_or_ge b w.heap.size with h' | h'
  · exact h'
  · simp [Array.getElem?_eq_none h'] at h

theorem cell_same {w w' : World} {b off : Nat} (h : w'.heap[b]? = w.heap[b]?) : w'.cell? ⟨b, off, none⟩ = w.cell? ⟨b, off, none⟩ :=
  World.cell?_of_block (w := w) h

theorem Rd.mono {S S' : Nat → Prop} {w w' : World} (hsz : w.heap.size ≤ w'.heap.size)
    (h : ∀ b, b < w.heap.size → ¬ S b → w'.heap[b]? = w.heap[b]? ∧ ¬ S' b) : ∀ (t : Ty) (vs : List Value) (x : t.den), Rd S w t vs x → Rd S' w' t vs x
  | .int _, _, _, r => r
  | .bool, _, _, r => r
  | .str, _, _, r => r
  | .unit, _, _, r => r
  | .opq, _, _, r => r
  | .pair a b, _, _, ⟨v1, v2, e, r1, r2⟩ => ⟨v1, v2, e, Rd.mono hsz h a v1 _ r1, Rd.mono hsz h b v2 _ r2⟩
  | .slice _ e, _, _, ⟨hl, r⟩ => by
    refine ⟨hl, r.imp id ?_⟩
    rintro ⟨b, off, c, ev, hc, hne, hS, hb, hx⟩
    obtain ⟨h1, h2⟩ := h b hb hS
    refine ⟨b, off, c, ev, hc, hne, h2, Nat.lt_of_lt_of_le hb hsz, fun i hi => ?_⟩
    obtain ⟨us, hu, hcell, hr⟩ := hx i hi
    exact ⟨us, hu, fun j u hj => by rw [cell_same h1]; exact hcell j u hj, Rd.mono hsz h e us _ hr⟩

theorem Rd.len {S : Nat → Prop} {w : World} : ∀ (t : Ty) (vs : List Value) (x : t.den), Rd S w t vs x → vs.length = t.n
  | .int _, _, _, r => by rw [r.1]; rfl
  | .bool, _, _, r => by rw [show _ = _ from r]; rfl
  | .str, _, _, r => by rw [r.1]; rfl
  | .unit, _, _, r => by rw [show _ = _ from r]; rfl
  | .opq, _, _, r => by rw [r.1]; rfl
  | .pair a b, _, _, ⟨v1, v2, e, r1, r2⟩ => by rw [e, List.length_append, Rd.len a v1 _ r1, Rd.len b v2 _ r2]; rfl
  | .slice _ _, _, _, ⟨_, r⟩ => by
    rcases r with ⟨a, c, e, _⟩ | ⟨b, off, c, e, _⟩ <;> rw [e] <;> rfl

theorem Rd.wf {S : Nat → Prop} {w : World} : ∀ (t : Ty) (vs : List Value) (x : t.den), Rd S w t vs x → t.wf x
  | .int _, _, _, r => r.2
  | .bool, _, _, _ => trivial
  | .str, _, _, r => r.2
  | .unit, _, _, _ => trivial
  | .opq, _, _, r => r.2
  | .pair a b, _, _, ⟨v1, v2, _, r1, r2⟩ => ⟨Rd.wf a v1 _ r1, Rd.wf b v2 _ r2⟩
  | .slice _ e, _, xs, ⟨hl, r⟩ => by
    refine ⟨hl, fun x hx => ?_⟩
    rcases r with ⟨a, c, _, e0⟩ | ⟨b, off, c, _, _, _, _, _, hr⟩
    · subst e0; cases hx
    · obtain ⟨i, hi, rfl⟩ := List.mem_iff_getElem.1 hx
      obtain ⟨us, _, _, hr'⟩ := hr i hi
      exact Rd.wf e us _ hr'

/-! ### Symbolic values -/
inductive S1 where
  | unk
  | int (k : IntKind) (n : Int)
  | bool (b : Bool)
  | mb (t f : Bool)
  | str (s : List UInt8)
  | sub (o lo hi : Nat)
  | nils
  | ro (t : Ty) (x : t.den)
  | pb (o off : Nat)
  | pe (o i off : Nat)
  | pr (t : Ty) (x : t.den) (off : Nat)
  | fn (f : Nat) (caps : List (Nat × Nat))
  | yl (o : Nat)
  /-- An interface's value: a pointer into a box; a number. -/
  | ifp (t : TypeId) (o off : Nat)
  | ifi (t : TypeId) (k : IntKind) (n : Int)
  /-- A slice over a box: the elements' cells, where it begins, how many, the capacity (if it is known). -/
  | sb (o z off n : Nat) (k : Option Nat)
  /-- A map; a function whose first arguments are bound. -/
  | mr (o : Nat)
  | fb (f : Nat) (first : List (Nat × Nat))
  | val (v : Value)

inductive SV where
  | unk
  | s (x : S1)
  | agg (l : List S1)
  | tup (l : List (Bool × List S1))
  | gd (g : Bool) (x : SV)

/-- lp: the record of a range over a function: its state (0 ready, 1 busy, 2 done), the frame where it began, its left sides, its code, the jump that waits. -/
inductive Ob where
  | dead
  | box (T : TypeId) (cs : List S1)
  | arr (fz : Bool) (z : Nat) (e : Ty) (xs : List e.den)
  | lp (s : Nat) (fr : List SV) (ps : List Nat) (asg body : Code) (pd : Option Code)
  /-- A walk through a string. -/
  | it (s : List UInt8) (pos : Nat)
  /-- A map. -/
  | mp (es : List (S1 × SV))

/-- (By its recursor: so the kernel reckons quickly.) -/
noncomputable def gl (l : List SV) : Nat → SV := List.rec (motive := fun _ => Nat → SV) (fun _ => .unk) (fun x _ ih n => Nat.rec (motive := fun _ => SV) x (fun m _ => ih m) n) l
theorem gl_nil (i : Nat) : gl [] i = .unk := rfl
theorem gl_zero (x : SV) (l : List SV) : gl (x :: l) 0 = x := rfl
theorem gl_succ (x : SV) (l : List SV) (n : Nat) : gl (x :: l) (n + 1) = gl l n := rfl

def lpS : Nat → LoopState
  | 0 => .ready
  | 1 => .busy
  | _ => .done

def Ob.mut : Ob → Bool
  | .dead => false
  | .box _ _ => true
  | .arr fz _ _ _ => !fz
  | .lp .. => true
  | .it .. => true
  | .mp .. => true

abbrev Loc := Nat → Option (Nat × Nat)

structure Env where
  ob : Nat → Ob
  loc : Loc
  born : Nat → Prop
  bad : Nat → Prop

/-- What nobody else may look at: the own objects' blocks, and what is barred from the first. -/
def Env.owned (E : Env) (b : Nat) : Prop := E.bad b ∨ ∃ o off, (E.ob o).mut = true ∧ E.loc o = some (b, off)

/-- What a symbolic value says of a value. -/
def S1ok (E : Env) (w : World) : S1 → Value → Prop
  | .unk, _ => True
  | .int k n, v => v = .int k n ∧ k.has n
  | .bool b, v => v = .bool b
  | .mb t f, v => ∃ b, v = .bool b ∧ (b = true → t = true) ∧ (b = false → f = true)
  | .str s, v => v = .string ⟨s.toArray⟩ ∧ s.length ≤ 140737488355328
  | .sub o lo hi, v => E.born o ∧ match E.ob o with
    | .arr _ _ e xs => lo ≤ hi ∧ hi ≤ xs.length ∧ match E.loc o with
      | none => v = .slice none 0 0 ∧ hi = 0
      | some (b, off) => (∃ c cs T fz, v = .slice (some ⟨b, off + lo * e.n, none⟩) (hi - lo) c ∧ xs.length - lo ≤ c ∧ w.heap[b]? = some (.cells cs T fz) ∧ off + (lo + c) * e.n ≤ cs.size) ∨ (xs.length ≤ lo ∧ ∃ q, v = .slice q 0 0)
    | _ => v.oneCell' = true
  | .nils, v => v = .slice none 0 0
  | .ro t x, v => Rd E.owned w t [v] x
  | .pb o off, v => E.born o ∧ match E.ob o with
    | .box _ _ => ∃ b, E.loc o = some (b, 0) ∧ v = .pointer (some ⟨b, off, none⟩)
    | _ => v.oneCell' = true
  | .pe o i off, v => E.born o ∧ match E.ob o with
    | .arr _ _ e xs => i < xs.length ∧ ∃ b f, E.loc o = some (b, f) ∧ v = .pointer (some ⟨b, f + i * e.n + off, none⟩)
    | _ => v.oneCell' = true
  | .pr t x off, v => ∃ b f us, v = .pointer (some ⟨b, f + off, none⟩) ∧ ¬ E.owned b ∧ b < w.heap.size ∧ us.length = t.n ∧ (∀ j u, us[j]? = some u → w.cell? ⟨b, f + j, none⟩ = some u) ∧ Rd E.owned w t us x
  | .fn f caps, v => ∃ vs : List Value, v = .func (.func f) #[] vs.toArray ∧ vs.length = caps.length ∧
      ∀ (i o off : Nat), caps[i]? = some (o, off) → E.born o ∧ match E.ob o with
        | .box _ _ => ∃ b, E.loc o = some (b, 0) ∧ vs[i]? = some (.pointer (some ⟨b, off, none⟩))
        | _ => True
  | .yl o, v => E.born o ∧ match E.ob o with
    | .lp .. => ∃ b, E.loc o = some (b, 0) ∧ v = .func (.yield b) #[] #[]
    | .it .. => ∃ b, E.loc o = some (b, 0) ∧ v = .pointer (some ⟨b, 0, none⟩)
    | _ => v.oneCell' = true
  | .ifp t o off, v => E.born o ∧ match E.ob o with
    | .box _ _ => ∃ b, E.loc o = some (b, 0) ∧ v = .iface t (.pointer (some ⟨b, off, none⟩))
    | _ => v.oneCell' = true
  | .ifi t k n, v => v = .iface t (.int k n) ∧ k.has n
  | .sb o z off n k, v => E.born o ∧ match E.ob o with
    | .box _ cs => ∃ b off' c, E.loc o = some (b, 0) ∧ v = .slice (some ⟨b, off', none⟩) n c ∧ (c ≠ 0 → off' = off) ∧ n ≤ c ∧ (∀ c', k = some c' → c = c') ∧ off + n * z ≤ cs.length ∧ ∃ us T fz, w.heap[b]? = some (.cells us T fz) ∧ off + c * z ≤ us.size
    | _ => v.oneCell' = true
  | .mr o, v => E.born o ∧ match E.ob o with
    | .mp _ => ∃ b, E.loc o = some (b, 0) ∧ v = .map (some b)
    | _ => v.oneCell' = true
  | .fb f caps, v => ∃ vs : List Value, v = .func (.func f) vs.toArray #[] ∧ vs.length = caps.length ∧
      ∀ (i o off : Nat), caps[i]? = some (o, off) → E.born o ∧ match E.ob o with
        | .box _ _ => ∃ b, E.loc o = some (b, 0) ∧ vs[i]? = some (.pointer (some ⟨b, off, none⟩))
        | _ => True
  | .val u, v => v = u

def S1sok (E : Env) (w : World) (l : List S1) (vs : List Value) : Prop :=
  vs.length = l.length ∧ ∀ (i : Nat) x v, l[i]? = some x → vs[i]? = some v → S1ok E w x v

def SVok (E : Env) (w : World) : SV → Value → Prop
  | .unk, _ => True
  | .s x, v => S1ok E w x v
  | .agg l, v => ∃ vs : List Value, v = .agg vs.toArray ∧ S1sok E w l vs
  | .tup l, v => ∃ vs : List Value, v = .tuple vs.toArray ∧ vs.length = l.length ∧
      ∀ (i : Nat) (bl : Bool × List S1) u, l[i]? = some bl → vs[i]? = some u →
        (bl.1 = true → ∃ us : List Value, u = .agg us.toArray ∧ S1sok E w bl.2 us) ∧ (bl.1 = false → S1sok E w bl.2 [u])
  | .gd g x, v => (g = true → SVok E w x v) ∧ (g = false → v = undef)

/-- Of one kind, none shorter. -/
def same : Ob → Ob → Prop
  | .box Tb cs, .box T' cs' => (T', cs'.length) = (Tb, cs.length)
  | .arr _ z e xs, .arr _ z' e' xs' => z' = z ∧ e' = e ∧ xs'.length = xs.length
  | .lp .., .lp .. => True
  | .it .., .it .. => True
  | .mp .., .mp .. => True
  | _, _ => False

theorem same.refl {x : Ob} (h : x ≠ .dead) : same x x := by
  cases x with
  | dead => exact absurd rfl h
  | box Tb cs => rfl
  | arr fz z e xs => exact ⟨rfl, rfl, rfl⟩
  | lp s fr ps a b pd => trivial
  | it s2 p2 => trivial
  | mp es2 => trivial

/-- What is no cells stays; a loop's record stays one. -/
def OthK : Obj → Option Obj → Prop
  | .cells .., _ => True
  | .loop _, y => ∃ r, y = some (.loop r)
  | .stringIter _ _, y => ∃ s p, y = some (.stringIter s p)
  | .map _ _, y => ∃ s p, y = some (.map s p)
  | x, y => y = some x
theorem OthK.same {x : Obj} : OthK x (some x) := by
  cases x <;> first | trivial | exact ⟨_, rfl⟩ | exact ⟨_, _, rfl⟩ | rfl
theorem OthK.trans {x : Obj} {y z : Option Obj} (h : OthK x y) (k : ∀ x', y = some x' → OthK x' z) : OthK x z := by
  cases x <;> first | trivial | exact k _ h | (obtain ⟨r, e⟩ := h; exact (k (.loop r) e :)) | (obtain ⟨s, p, e⟩ := h; exact (k (.stringIter s p) e :)) | (obtain ⟨s, p, e⟩ := h; exact (k (.map s p) e :))

structure Evo (E E' : Env) (w w' : World) : Prop where
  born : ∀ o, E.born o → E'.born o
  keep : ∀ o, E.born o → E'.ob o = .dead ∨ (same (E.ob o) (E'.ob o) ∧ E'.loc o = E.loc o)
  own : ∀ b, b < w.heap.size → E'.owned b → E.owned b
  mem : ∀ b, b < w.heap.size → ¬ E.owned b → w'.heap[b]? = w.heap[b]?
  blk : ∀ (b : Nat) (cs : Array Value) (T : TypeId) (fz : Nat × Nat), w.heap[b]? = some (Obj.cells cs T fz) → ∃ (cs' : Array Value) (fz' : Nat × Nat), w'.heap[b]? = some (Obj.cells cs' T fz') ∧ cs'.size = cs.size
  size : w.heap.size ≤ w'.heap.size
  bad : E'.bad = E.bad
  oth : ∀ (b : Nat) (x : Obj), w.heap[b]? = some x → OthK x w'.heap[b]?

theorem Evo.rd {E E' : Env} {w w' : World} (h : Evo E E' w w') {t : Ty} {vs : List Value} {x : t.den} (r : Rd E.owned w t vs x) : Rd E'.owned w' t vs x :=
  Rd.mono h.size (fun b hb hS => ⟨h.mem b hb hS, fun hS' => hS (h.own b hb hS')⟩) t vs x r

theorem ref_one {E : Env} {w : World} {x : S1} {v : Value} (h : (∃ o lo hi, x = .sub o lo hi) ∨ (∃ o off, x = .pb o off) ∨ (∃ o i off, x = .pe o i off) ∨ (∃ o, x = .yl o) ∨ (∃ t o off, x = .ifp t o off) ∨ (∃ o z off n k, x = .sb o z off n k) ∨ (∃ o, x = .mr o)) (r : S1ok E w x v) : v.oneCell' = true := by
  rcases h with ⟨o, lo, hi, rfl⟩ | ⟨o, off, rfl⟩ | ⟨o, i, off, rfl⟩ | ⟨o, rfl⟩ | ⟨t, o, off, rfl⟩ | ⟨o, z, off, n, k, rfl⟩ | ⟨o, rfl⟩
  · obtain ⟨_, r⟩ := r
    cases ho : E.ob o with
    | dead => rw [ho] at r; exact r
    | box Tb cs => rw [ho] at r; exact r
    | lp s fr ps a b pd => rw [ho] at r; exact r
    | it s2 p2 => rw [ho] at r; exact r
    | mp es2 => rw [ho] at r; exact r
    | arr fz z e xs =>
      rw [ho] at r
      obtain ⟨_, _, r⟩ := r
      cases hl : E.loc o with
      | none => rw [hl] at r; rw [r.1]; rfl
      | some p =>
        obtain ⟨b, off⟩ := p
        rw [hl] at r
        rcases r with ⟨_, _, _, _, e, _⟩ | ⟨_, _, e⟩ <;> rw [e] <;> rfl
  · obtain ⟨_, r⟩ := r
    cases ho : E.ob o with
    | dead => rw [ho] at r; exact r
    | box Tb cs => rw [ho] at r; obtain ⟨_, _, e⟩ := r; rw [e]; rfl
    | arr fz z e xs => rw [ho] at r; exact r
    | lp s fr ps a b pd => rw [ho] at r; exact r
    | it s2 p2 => rw [ho] at r; exact r
    | mp es2 => rw [ho] at r; exact r
  · obtain ⟨_, r⟩ := r
    cases ho : E.ob o with
    | dead => rw [ho] at r; exact r
    | box Tb cs => rw [ho] at r; exact r
    | lp s fr ps a b pd => rw [ho] at r; exact r
    | it s2 p2 => rw [ho] at r; exact r
    | mp es2 => rw [ho] at r; exact r
    | arr fz z e xs => rw [ho] at r; obtain ⟨_, _, _, _, e⟩ := r; rw [e]; rfl
  · obtain ⟨_, r⟩ := r
    cases ho : E.ob o with
    | dead => rw [ho] at r; exact r
    | box Tb cs => rw [ho] at r; exact r
    | arr fz z e xs => rw [ho] at r; exact r
    | lp s fr ps a b pd => rw [ho] at r; obtain ⟨_, _, e⟩ := r; rw [e]; rfl
    | it s2 p2 => rw [ho] at r; obtain ⟨_, _, e⟩ := r; rw [e]; rfl
    | mp es2 => rw [ho] at r; exact r
  · obtain ⟨_, r⟩ := r
    cases ho : E.ob o with
    | dead => rw [ho] at r; exact r
    | box Tb cs => rw [ho] at r; obtain ⟨_, _, e⟩ := r; rw [e]; rfl
    | arr fz z e xs => rw [ho] at r; exact r
    | lp s fr ps a b pd => rw [ho] at r; exact r
    | it s2 p2 => rw [ho] at r; exact r
    | mp es2 => rw [ho] at r; exact r
  · obtain ⟨_, r⟩ := r
    cases ho : E.ob o with
    | dead => rw [ho] at r; exact r
    | box Tb cs => rw [ho] at r; obtain ⟨_, _, _, _, e, _⟩ := r; rw [e]; rfl
    | arr fz z e xs => rw [ho] at r; exact r
    | lp s fr ps a b pd => rw [ho] at r; exact r
    | it s2 p2 => rw [ho] at r; exact r
    | mp es2 => rw [ho] at r; exact r
  · obtain ⟨_, r⟩ := r
    cases ho : E.ob o with
    | dead => rw [ho] at r; exact r
    | box Tb cs => rw [ho] at r; exact r
    | arr fz z e xs => rw [ho] at r; exact r
    | lp s fr ps a b pd => rw [ho] at r; exact r
    | it s2 p2 => rw [ho] at r; exact r
    | mp es2 => rw [ho] at r; obtain ⟨_, _, e⟩ := r; rw [e]; rfl

theorem Evo.s1 {E E' : Env} {w w' : World} (h : Evo E E' w w') {x : S1} {v : Value} (r : S1ok E w x v) : S1ok E' w' x v := by
  cases x with
  | unk => trivial
  | int k n => exact r
  | bool b => exact r
  | mb t f => exact r
  | str s => exact r
  | nils => exact r
  | val u => exact r
  | ifi t k n => exact r
  | ro t x => exact h.rd r
  | sub o lo hi =>
    have h1 := ref_one (.inl ⟨_, _, _, rfl⟩) r
    obtain ⟨hb, r⟩ := r
    refine ⟨h.born o hb, ?_⟩
    rcases h.keep o hb with hd | ⟨hs, hl⟩
    · rw [hd]; exact h1
    · cases ho : E.ob o with
      | dead => rw [ho] at hs; exact hs.elim
      | box Tb cs => rw [ho] at hs; cases ho' : E'.ob o with
        | dead => rw [ho'] at hs; exact hs.elim
        | box T' cs' => exact h1
        | arr fz z e xs => rw [ho'] at hs; exact hs.elim
        | lp s fr ps a b pd => exact h1
        | it s2 p2 => exact h1
        | mp es2 => exact h1
      | lp s fr ps a b pd => rw [ho] at hs; cases ho' : E'.ob o with
        | dead => rw [ho'] at hs; exact hs.elim
        | box T' cs' => exact h1
        | arr fz z e xs => rw [ho'] at hs; exact hs.elim
        | lp s' fr' ps' a' b' pd' => exact h1
        | it s2 p2 => exact h1
        | mp es2 => exact h1
      | it s fr => rw [ho] at hs; cases ho' : E'.ob o with
        | dead => rw [ho'] at hs; exact hs.elim
        | box T' cs' => exact h1
        | arr fz z e xs => rw [ho'] at hs; exact hs.elim
        | lp s' fr' ps' a' b' pd' => exact h1
        | it s2 p2 => exact h1
        | mp es2 => exact h1
      | mp es => rw [ho] at hs; cases ho' : E'.ob o with
        | dead => rw [ho'] at hs; exact hs.elim
        | box T' cs' => exact h1
        | arr fz z e xs => rw [ho'] at hs; exact hs.elim
        | lp s' fr' ps' a' b' pd' => exact h1
        | it s2 p2 => exact h1
        | mp es2 => exact h1
      | arr fz z e xs =>
        rw [ho] at hs r
        cases ho' : E'.ob o with
        | dead => rw [ho'] at hs; exact hs.elim
        | box T' cs' => exact h1
        | lp s' fr' ps' a' b' pd' => exact h1
        | it s2 p2 => exact h1
        | mp es2 => exact h1
        | arr fz' z' e' xs' =>
          rw [ho'] at hs
          obtain ⟨rfl, rfl, hle⟩ := hs
          obtain ⟨h1, h2, h3⟩ := r
          refine ⟨h1, by omega, ?_⟩
          rw [hl]
          cases hloc : E.loc o with
          | none => rw [hloc] at h3; exact h3
          | some p =>
            obtain ⟨b, off⟩ := p
            rw [hloc] at h3
            rcases h3 with ⟨c, cs, T, fzz, e1, e2, e3, e4⟩ | ⟨e1, e2⟩
            · obtain ⟨cs', fz', e5, e6⟩ := h.blk b cs T fzz e3
              exact .inl ⟨c, cs', T, fz', e1, by omega, e5, by rw [e6]; exact e4⟩
            · exact .inr ⟨by omega, e2⟩
  | pb o off =>
    have h1 := ref_one (.inr (.inl ⟨_, _, rfl⟩)) r
    obtain ⟨hb, r⟩ := r
    refine ⟨h.born o hb, ?_⟩
    rcases h.keep o hb with hd | ⟨hs, hl⟩
    · rw [hd]; exact h1
    · cases ho' : E'.ob o with
      | dead => exact h1
      | arr fz z e xs => exact h1
      | lp s' fr' ps' a' b' pd' => exact h1
      | it s2 p2 => exact h1
      | mp es2 => exact h1
      | box T' cs' =>
        rw [ho'] at hs
        cases ho : E.ob o with
        | dead => rw [ho] at hs; exact hs.elim
        | arr fz z e xs => rw [ho] at hs; exact hs.elim
        | lp s fr ps a b pd => rw [ho] at hs; exact hs.elim
        | it s2 p2 => rw [ho] at hs; exact hs.elim
        | mp es2 => rw [ho] at hs; exact hs.elim
        | box Tb cs =>
          rw [ho] at r
          show ∃ b, E'.loc o = some (b, 0) ∧ _
          rw [hl]; exact r
  | ifp t o off =>
    have h1 := ref_one (.inr (.inr (.inr (.inr (.inl ⟨_, _, _, rfl⟩))))) r
    obtain ⟨hb, r⟩ := r
    refine ⟨h.born o hb, ?_⟩
    rcases h.keep o hb with hd | ⟨hs, hl⟩
    · rw [hd]; exact h1
    · cases ho' : E'.ob o with
      | dead => exact h1
      | arr fz z e xs => exact h1
      | lp s' fr' ps' a' b' pd' => exact h1
      | it s2 p2 => exact h1
      | mp es2 => exact h1
      | box T' cs' =>
        rw [ho'] at hs
        cases ho : E.ob o with
        | dead => rw [ho] at hs; exact hs.elim
        | arr fz z e xs => rw [ho] at hs; exact hs.elim
        | lp s fr ps a b pd => rw [ho] at hs; exact hs.elim
        | it s2 p2 => rw [ho] at hs; exact hs.elim
        | mp es2 => rw [ho] at hs; exact hs.elim
        | box Tb cs =>
          rw [ho] at r
          show ∃ b, E'.loc o = some (b, 0) ∧ _
          rw [hl]; exact r
  | pe o i off =>
    have h1 := ref_one (.inr (.inr (.inl ⟨_, _, _, rfl⟩))) r
    obtain ⟨hb, r⟩ := r
    refine ⟨h.born o hb, ?_⟩
    rcases h.keep o hb with hd | ⟨hs, hl⟩
    · rw [hd]; exact h1
    · cases ho' : E'.ob o with
      | dead => exact h1
      | box Tb cs => exact h1
      | lp s' fr' ps' a' b' pd' => exact h1
      | it s2 p2 => exact h1
      | mp es2 => exact h1
      | arr fz' z' e' xs' =>
        rw [ho'] at hs
        cases ho : E.ob o with
        | dead => rw [ho] at hs; exact hs.elim
        | box Tb cs => rw [ho] at hs; exact hs.elim
        | lp s fr ps a b pd => rw [ho] at hs; exact hs.elim
        | it s2 p2 => rw [ho] at hs; exact hs.elim
        | mp es2 => rw [ho] at hs; exact hs.elim
        | arr fz z e xs =>
          rw [ho] at r hs
          obtain ⟨rfl, rfl, hle⟩ := hs
          refine ⟨by have := r.1; omega, ?_⟩
          rw [hl]; exact r.2
  | pr t x off =>
    obtain ⟨b, f, us, e1, hS, hlt, hlen, hc, hr⟩ := r
    exact ⟨b, f, us, e1, fun hS' => hS (h.own b hlt hS'), Nat.lt_of_lt_of_le hlt h.size, hlen, fun j u hj => by rw [cell_same (h.mem b hlt hS)]; exact hc j u hj, h.rd hr⟩
  | fn f caps =>
    obtain ⟨vs, e1, e2, r⟩ := r
    refine ⟨vs, e1, e2, fun i o off hi => ?_⟩
    obtain ⟨hb, r⟩ := r i o off hi
    refine ⟨h.born o hb, ?_⟩
    rcases h.keep o hb with hd | ⟨hs, hl⟩
    · simp [hd]
    · cases ho' : E'.ob o with
      | dead => trivial
      | arr fz z e xs => trivial
      | lp s' fr' ps' a' b' pd' => trivial
      | it s2 p2 => trivial
      | mp es2 => trivial
      | box T' cs' =>
        rw [ho'] at hs
        cases ho : E.ob o with
        | dead => rw [ho] at hs; exact hs.elim
        | arr fz z e xs => rw [ho] at hs; exact hs.elim
        | lp s fr ps a b pd => rw [ho] at hs; exact hs.elim
        | it s2 p2 => rw [ho] at hs; exact hs.elim
        | mp es2 => rw [ho] at hs; exact hs.elim
        | box Tb cs =>
          rw [ho] at r
          show ∃ b, E'.loc o = some (b, 0) ∧ _
          rw [hl]; exact r
  | yl o =>
    have h1 := ref_one (.inr (.inr (.inr (.inl ⟨_, rfl⟩)))) r
    obtain ⟨hb, r⟩ := r
    refine ⟨h.born o hb, ?_⟩
    rcases h.keep o hb with hd | ⟨hs, hl⟩
    · rw [hd]; exact h1
    · cases ho' : E'.ob o with
      | dead => exact h1
      | box Tb cs => exact h1
      | arr fz z e xs => exact h1
      | lp s' fr' ps' a' b' pd' =>
        rw [ho'] at hs
        cases ho : E.ob o with
        | dead => rw [ho] at hs; exact hs.elim
        | box Tb cs => rw [ho] at hs; exact hs.elim
        | arr fz z e xs => rw [ho] at hs; exact hs.elim
        | it s2 p2 => rw [ho] at hs; exact hs.elim
        | mp es2 => rw [ho] at hs; exact hs.elim
        | lp s fr ps a b pd =>
          rw [ho] at r
          show ∃ b, E'.loc o = some (b, 0) ∧ _
          rw [hl]; exact r
      | it s' p' =>
        rw [ho'] at hs
        cases ho : E.ob o with
        | dead => rw [ho] at hs; exact hs.elim
        | box Tb cs => rw [ho] at hs; exact hs.elim
        | arr fz z e xs => rw [ho] at hs; exact hs.elim
        | lp s fr ps a b pd => rw [ho] at hs; exact hs.elim
        | mp es2 => rw [ho] at hs; exact hs.elim
        | it s2 p2 =>
          rw [ho] at r
          show ∃ b, E'.loc o = some (b, 0) ∧ _
          rw [hl]; exact r
      | mp es2 => exact h1
  | sb o z off n k =>
    have h1 := ref_one (.inr (.inr (.inr (.inr (.inr (.inl ⟨_, _, _, _, _, rfl⟩)))))) r
    obtain ⟨hb, r⟩ := r
    refine ⟨h.born o hb, ?_⟩
    rcases h.keep o hb with hd | ⟨hs, hl⟩
    · rw [hd]; exact h1
    · cases ho' : E'.ob o with
      | dead => exact h1
      | arr fz z e xs => exact h1
      | lp s' fr' ps' a' b' pd' => exact h1
      | it s2 p2 => exact h1
      | mp es2 => exact h1
      | box T' cs' =>
        rw [ho'] at hs
        cases ho : E.ob o with
        | dead => rw [ho] at hs; exact hs.elim
        | arr fz z e xs => rw [ho] at hs; exact hs.elim
        | lp s fr ps a b pd => rw [ho] at hs; exact hs.elim
        | it s2 p2 => rw [ho] at hs; exact hs.elim
        | mp es2 => rw [ho] at hs; exact hs.elim
        | box Tb cs =>
          rw [ho] at r hs
          obtain ⟨b, off', c, e1, e2, e3, e4, e5, e6, us, T, fz, e7, e8⟩ := r
          obtain ⟨cs2, fz2, e9, e10⟩ := h.blk b us T fz e7
          have hlen : cs'.length = cs.length := (Prod.mk.inj hs).2
          refine ⟨b, off', c, ?_, e2, e3, e4, e5, by omega, cs2, T, fz2, e9, by omega⟩
          rw [hl]; exact e1
  | mr o =>
    have h1 := ref_one (.inr (.inr (.inr (.inr (.inr (.inr ⟨_, rfl⟩)))))) r
    obtain ⟨hb, r⟩ := r
    refine ⟨h.born o hb, ?_⟩
    rcases h.keep o hb with hd | ⟨hs, hl⟩
    · rw [hd]; exact h1
    · cases ho' : E'.ob o with
      | dead => exact h1
      | box Tb cs => exact h1
      | arr fz z e xs => exact h1
      | lp s' fr' ps' a' b' pd' => exact h1
      | it s2 p2 => exact h1
      | mp es' =>
        rw [ho'] at hs
        cases ho : E.ob o with
        | dead => rw [ho] at hs; exact hs.elim
        | box Tb cs => rw [ho] at hs; exact hs.elim
        | arr fz z e xs => rw [ho] at hs; exact hs.elim
        | lp s fr ps a b pd => rw [ho] at hs; exact hs.elim
        | it s2 p2 => rw [ho] at hs; exact hs.elim
        | mp es2 =>
          rw [ho] at r
          show ∃ b, E'.loc o = some (b, 0) ∧ _
          rw [hl]; exact r
  | fb f caps =>
    obtain ⟨vs, e1, e2, r⟩ := r
    refine ⟨vs, e1, e2, fun i o off hi => ?_⟩
    obtain ⟨hb, r⟩ := r i o off hi
    refine ⟨h.born o hb, ?_⟩
    rcases h.keep o hb with hd | ⟨hs, hl⟩
    · simp [hd]
    · cases ho' : E'.ob o with
      | dead => trivial
      | arr fz z e xs => trivial
      | lp s' fr' ps' a' b' pd' => trivial
      | it s2 p2 => trivial
      | mp es2 => trivial
      | box T' cs' =>
        rw [ho'] at hs
        cases ho : E.ob o with
        | dead => rw [ho] at hs; exact hs.elim
        | arr fz z e xs => rw [ho] at hs; exact hs.elim
        | lp s fr ps a b pd => rw [ho] at hs; exact hs.elim
        | it s2 p2 => rw [ho] at hs; exact hs.elim
        | mp es2 => rw [ho] at hs; exact hs.elim
        | box Tb cs =>
          rw [ho] at r
          show ∃ b, E'.loc o = some (b, 0) ∧ _
          rw [hl]; exact r

theorem Evo.s1s {E E' : Env} {w w' : World} (h : Evo E E' w w') {l : List S1} {vs : List Value} (r : S1sok E w l vs) : S1sok E' w' l vs :=
  ⟨r.1, fun i x v h1 h2 => h.s1 (r.2 i x v h1 h2)⟩

theorem Evo.sv {E E' : Env} {w w' : World} (h : Evo E E' w w') : ∀ {x : SV} {v : Value}, SVok E w x v → SVok E' w' x v
  | .unk, _, _ => trivial
  | .s _, _, r => h.s1 r
  | .agg _, _, ⟨vs, e, r⟩ => ⟨vs, e, h.s1s r⟩
  | .tup _, _, ⟨vs, e, hl, r⟩ => ⟨vs, e, hl, fun i bl u h1 h2 =>
      ⟨fun hb => let ⟨us, e', r'⟩ := (r i bl u h1 h2).1 hb; ⟨us, e', h.s1s r'⟩, fun hb => h.s1s ((r i bl u h1 h2).2 hb)⟩⟩
  | .gd _ _, _, r => ⟨fun hg => h.sv (r.1 hg), r.2⟩

theorem Evo.refl (E : Env) (w : World) (hd : ∀ o, E.born o → E.ob o = .dead ∨ E.ob o ≠ .dead) : Evo E E w w :=
  ⟨fun _ h => h, fun o h => (hd o h).imp id (fun h => ⟨same.refl h, rfl⟩), fun _ _ h => h, fun _ _ _ => rfl, fun b cs T fz h => ⟨cs, fz, h, rfl⟩, Nat.le_refl _, rfl, fun b x h => by rw [h]; exact OthK.same⟩

theorem Evo.rfl' {E : Env} {w : World} : Evo E E w w := Evo.refl E w fun o _ => by
  cases E.ob o <;> simp

theorem same.trans {x y z : Ob} (h : same x y) (k : same y z) : same x z := by
  cases x <;> cases y <;> cases z <;> simp only [same] at * <;> first | exact k.trans h | omega | exact ⟨k.1.trans h.1, k.2.1.trans h.2.1, k.2.2.trans h.2.2⟩

theorem Evo.trans {E E' E'' : Env} {w w' w'' : World} (h : Evo E E' w w') (k : Evo E' E'' w' w'') : Evo E E'' w w'' where
  born o ho := k.born o (h.born o ho)
  keep o ho := by
    rcases k.keep o (h.born o ho) with k1 | ⟨k1, k2⟩
    · exact .inl k1
    · rcases h.keep o ho with h1 | ⟨h1, h2⟩
      · rw [h1] at k1; exact k1.elim
      · exact .inr ⟨h1.trans k1, k2.trans h2⟩
  own b hb ho := h.own b hb (k.own b (Nat.lt_of_lt_of_le hb h.size) ho)
  mem b hb ho := (k.mem b (Nat.lt_of_lt_of_le hb h.size) (fun h' => ho (h.own b hb h'))).trans (h.mem b hb ho)
  blk b cs T fz hc := by
    obtain ⟨cs', fz', h1, h2⟩ := h.blk b cs T fz hc
    obtain ⟨cs'', fz'', k1, k2⟩ := k.blk b cs' T fz' h1
    exact ⟨cs'', fz'', k1, k2.trans h2⟩
  size := Nat.le_trans h.size k.size
  bad := k.bad.trans h.bad
  oth b x hb := (h.oth b x hb).trans fun x' hx => k.oth b x' hx

/-! ### The memory of a state -/
structure Ctx where
  w0 : World
  mod : Nat → Prop
  sus : List (SV × Value)
  bad : Nat → Prop
  /-- The round that the frame belongs to: the loop's object and block. -/
  rd : Option (Nat × Nat)
  /-- This round and those that wait. -/
  rds : List (Nat × Nat)
  /-- The marks' blocks of the frames that wait. -/
  mrk : List Nat
  /-- Where the walk began, if that is to be told. -/
  st0 : Option (Env × World)

def ObOk (E : Env) (w : World) (o : Nat) : Ob → Prop
  | .dead => True
  | .box Tb cs => ∃ b vs ex, E.loc o = some (b, 0) ∧ w.heap[b]? = some (.cells (vs ++ ex) Tb (0, 0)) ∧ S1sok E w cs vs.toList
  | .arr fz z e xs => xs.length * z ≤ 140737488355328 ∧ match E.loc o with
    | none => xs = []
    | some (b, off) => ∃ vs T fzz, w.heap[b]? = some (.cells vs T fzz) ∧ (fz = false → fzz = (0, 0)) ∧ off + xs.length * e.n ≤ vs.size ∧
        ∀ i (h : i < xs.length), Rd E.owned w e ((vs.toList.drop (off + i * e.n)).take e.n) xs[i]
  | .lp s fr ps asg body pd => ∃ b r, E.loc o = some (b, 0) ∧ w.heap[b]? = some (.loop r) ∧ r.state = lpS s ∧ r.params = ps.toArray ∧ r.assign = asg ∧ r.body = body ∧ r.pending = pd ∧ r.tmps.size = fr.length ∧
      ∀ i, SVok E w (gl fr i) (r.tmps.getD i undef)
  | .it s pos => ∃ b, E.loc o = some (b, 0) ∧ w.heap[b]? = some (.stringIter ⟨s.toArray⟩ pos) ∧ s.length ≤ 140737488355328
  | .mp es => ∃ b ents c, E.loc o = some (b, 0) ∧ w.heap[b]? = some (.map ents c) ∧ ents.size = es.length ∧ ∀ (i : Nat) x e, es[i]? = some x → ents[i]? = some e → S1ok E w x.1 e.key ∧ SVok E w x.2 e.val

/-- A round's record. -/
def RdAt (E : Env) (w : World) (p : Nat × Nat) : Prop := E.born p.1 ∧ (E.ob p.1 = .dead ∨ E.loc p.1 = some (p.2, 0)) ∧ ∃ r, w.heap[p.2]? = some (.loop r)
theorem RdAt.evo {E E' : Env} {w w' : World} {p : Nat × Nat} (m : RdAt E w p) (h : Evo E E' w w') : RdAt E' w' p := by
  obtain ⟨h1, h2, r, h3⟩ := m
  refine ⟨h.born _ h1, ?_, h.oth _ _ h3⟩
  rcases h.keep _ h1 with hd | ⟨hs, hl⟩
  · exact .inl hd
  · rcases h2 with hd | h2
    · rw [hd] at hs; exact hs.elim
    · exact .inr (hl.trans h2)

structure Mem (G : Ctx) (E : Env) (w : World) : Prop where
  hp : ∀ o, E.born o → ObOk E w o (E.ob o)
  unb : ∀ o, ¬ E.born o → E.ob o = .dead
  sep : ∀ o o' b f f', E.ob o ≠ .dead → E.ob o' ≠ .dead → E.loc o = some (b, f) → E.loc o' = some (b, f') → o = o'
  new : ∀ o b f, E.ob o ≠ .dead → E.loc o = some (b, f) → G.w0.heap.size ≤ b ∨ G.mod b
  bad : ∀ b, E.bad b → b < G.w0.heap.size ∧ ¬ G.mod b
  bd : E.bad = G.bad
  os : w.os = G.w0.os
  tape : w.tape = G.w0.tape
  output : w.output = G.w0.output
  size : G.w0.heap.size ≤ w.heap.size
  old : ∀ b, b < G.w0.heap.size → ¬ G.mod b → w.heap[b]? = G.w0.heap[b]?
  sus : ∀ p ∈ G.sus, SVok E w p.1 p.2
  rdk : ∀ p ∈ G.rds, RdAt E w p
  mks : ∀ b ∈ G.mrk, w.heap[b]? = some (.deferred (some []))
  gl : GW G.w0 ∧ ∀ b ∈ GB, ¬ G.mod b ∧ ¬ G.bad b
  ev : ∀ E0 w1, G.st0 = some (E0, w1) → w1.heap.size ≤ G.w0.heap.size ∧ Evo E0 E w1 w

theorem ObOk.evo {E E' : Env} {w w' : World} (h : Evo E E' w w') {o : Nat} {x : Ob} (hl : E'.loc o = E.loc o)
    (hblk : ∀ b f, x ≠ .dead → E.loc o = some (b, f) → w'.heap[b]? = w.heap[b]?) (r : ObOk E w o x) : ObOk E' w' o x := by
  cases x with
  | dead => trivial
  | box Tb cs =>
    obtain ⟨b, vs, T, h1, h2, h3⟩ := r
    exact ⟨b, vs, T, hl.trans h1, (hblk b 0 (by simp) h1).trans h2, h.s1s h3⟩
  | arr fz z e xs =>
    obtain ⟨h0, r⟩ := r
    refine ⟨h0, ?_⟩
    rw [hl]
    cases hloc : E.loc o with
    | none => rw [hloc] at r; exact r
    | some p =>
      obtain ⟨b, off⟩ := p
      rw [hloc] at r
      obtain ⟨vs, T, fzz, h1, h2, h3, h4⟩ := r
      exact ⟨vs, T, fzz, (hblk b off (by simp) hloc).trans h1, h2, h3, fun i hi => h.rd (h4 i hi)⟩
  | lp s fr ps asg body pd =>
    obtain ⟨b, r, h1, h2, h3, h4, h5, h6, h7, h8, h9⟩ := r
    exact ⟨b, r, hl.trans h1, (hblk b 0 (by simp) h1).trans h2, h3, h4, h5, h6, h7, h8, fun i => h.sv (h9 i)⟩
  | it s pos =>
    obtain ⟨b, h1, h2, h3⟩ := r
    exact ⟨b, hl.trans h1, (hblk b 0 (by simp) h1).trans h2, h3⟩
  | mp es =>
    obtain ⟨b, ents, c, h1, h2, h3, h4⟩ := r
    exact ⟨b, ents, c, hl.trans h1, (hblk b 0 (by simp) h1).trans h2, h3, fun i x e k1 k2 => ⟨h.s1 (h4 i x e k1 k2).1, h.sv (h4 i x e k1 k2).2⟩⟩

/-- The memory behind a step: what has turned (ch) is told anew. -/
theorem Mem.step {G : Ctx} {E E' : Env} {w w' : World} (m : Mem G E w) (h : Evo E E' w w') (ch : Nat → Prop)
    (hst : ∀ o, E'.born o → ¬ ch o → E.born o ∧ E'.ob o = E.ob o ∧ E'.loc o = E.loc o ∧ ∀ b f, E.ob o ≠ .dead → E.loc o = some (b, f) → w'.heap[b]? = w.heap[b]?)
    (hch : ∀ o, ch o → ObOk E' w' o (E'.ob o))
    (unb : ∀ o, ¬ E'.born o → E'.ob o = .dead)
    (sep : ∀ o o' b f f', E'.ob o ≠ .dead → E'.ob o' ≠ .dead → E'.loc o = some (b, f) → E'.loc o' = some (b, f') → o = o')
    (new : ∀ o b f, E'.ob o ≠ .dead → E'.loc o = some (b, f) → G.w0.heap.size ≤ b ∨ G.mod b)
    (os : w'.os = w.os) (tape : w'.tape = w.tape) (output : w'.output = w.output)
    (old : ∀ b, b < G.w0.heap.size → ¬ G.mod b → w'.heap[b]? = w.heap[b]?) : Mem G E' w' where
  hp := fun o hb => by
    by_cases hc : ch o
    · exact hch o hc
    · obtain ⟨h1, h2, h3, h4⟩ := hst o hb hc
      rw [h2]
      exact (m.hp o h1).evo h h3 h4
  unb := unb
  sep := sep
  new := new
  bad := fun b hb => m.bad b (by rw [← h.bad]; exact hb)
  bd := h.bad.trans m.bd
  os := os.trans m.os
  tape := tape.trans m.tape
  output := output.trans m.output
  size := Nat.le_trans m.size h.size
  old := fun b hb hm => (old b hb hm).trans (m.old b hb hm)
  sus := fun p hp => h.sv (m.sus p hp)
  rdk := fun p hp => (m.rdk p hp).evo h
  mks := fun b hb => h.oth b _ (m.mks b hb)
  gl := m.gl
  ev := fun E0 w1 h0 => ⟨(m.ev E0 w1 h0).1, (m.ev E0 w1 h0).2.trans h⟩

end
end Go.Proofs.YtaoplfeohffbiaaGreatDoor.Sx

/-! The symbolic step of one operation, and the symbolic run of straight code. -/
namespace Go.Proofs.YtaoplfeohffbiaaGreatDoor.Sx
set_option linter.unusedSimpArgs false
set_option linter.unusedVariables false
set_option linter.unusedSectionVars false
noncomputable section

/-! ### Frames and objects as lists -/
noncomputable def sl (l : List SV) : Nat → SV → List SV := List.rec (motive := fun _ => Nat → SV → List SV) (fun _ _ => []) (fun x l ih n v => Nat.rec (motive := fun _ => List SV) (v :: l) (fun m _ => x :: ih m v) n) l
theorem sl_nil (i : Nat) (v : SV) : sl [] i v = [] := rfl
theorem sl_zero (x : SV) (l : List SV) (v : SV) : sl (x :: l) 0 v = v :: l := rfl
theorem sl_succ (x : SV) (l : List SV) (n : Nat) (v : SV) : sl (x :: l) (n + 1) v = x :: sl l n v := rfl

def g1 : List S1 → Nat → S1
  | [], _ => .unk
  | x :: _, 0 => x
  | _ :: l, n + 1 => g1 l n

def take1 : List S1 → Nat → List S1
  | [], _ => []
  | _ :: _, 0 => []
  | x :: l, n + 1 => x :: take1 l n

def drop1 : List S1 → Nat → List S1
  | [], _ => []
  | x :: l, 0 => x :: l
  | _ :: l, n + 1 => drop1 l n

/-- The cells ws laid over l from off on. -/
def lay : List S1 → Nat → List S1 → List S1
  | [], _, _ => []
  | l, _, [] => l
  | _ :: l, 0, v :: ws => v :: lay l 0 ws
  | x :: l, n + 1, ws => x :: lay l n ws

noncomputable def fo (l : List (Nat × Ob)) : Nat → Ob := List.rec (motive := fun _ => Nat → Ob) (fun _ => .dead) (fun p _ ih o => bif Nat.beq p.1 o then p.2 else ih o) l
theorem nb_eq (i o : Nat) : Nat.beq i o = (i == o) := by rw [Bool.eq_iff_iff]; simp [Nat.beq_eq]
theorem fo_nil (o : Nat) : fo [] o = .dead := rfl
theorem fo_cons (i : Nat) (x : Ob) (l : List (Nat × Ob)) (o : Nat) : fo ((i, x) :: l) o = bif i == o then x else fo l o := by rw [← nb_eq]; rfl

noncomputable def uo (l : List (Nat × Ob)) : Nat → Ob → List (Nat × Ob) := List.rec (motive := fun _ => Nat → Ob → List (Nat × Ob)) (fun o y => [(o, y)]) (fun p l ih o y => bif Nat.beq p.1 o then (p.1, y) :: l else p :: ih o y) l
theorem uo_nil (o : Nat) (y : Ob) : uo [] o y = [(o, y)] := rfl
theorem uo_cons (i : Nat) (x : Ob) (l : List (Nat × Ob)) (o : Nat) (y : Ob) : uo ((i, x) :: l) o y = bif i == o then (i, y) :: l else (i, x) :: uo l o y := by rw [← nb_eq]; rfl

def uos : List (Nat × Ob) → List (Nat × Ob) → List (Nat × Ob)
  | l, [] => l
  | l, (o, y) :: ws => uos (uo l o y) ws

def isA : Ob → Bool
  | .arr _ _ _ _ => true
  | _ => false

structure St where
  fr : List SV
  hp : List (Nat × Ob)
  nx : Nat

/-! ### Numbers -/
def wr (k : IntKind) (n : Int) : Int := k.wrap n

def inB : IntKind → Int → Bool
  | .i8, n => decide (-128 ≤ n) && decide (n ≤ 127)
  | .i16, n => decide (-32768 ≤ n) && decide (n ≤ 32767)
  | .i32, n => decide (-2147483648 ≤ n) && decide (n ≤ 2147483647)
  | .i64, n => decide (-9223372036854775808 ≤ n) && decide (n ≤ 9223372036854775807)
  | .u8, n => decide (0 ≤ n) && decide (n ≤ 255)
  | .u16, n => decide (0 ≤ n) && decide (n ≤ 65535)
  | .u32, n => decide (0 ≤ n) && decide (n ≤ 4294967295)
  | .u64, n => decide (0 ≤ n) && decide (n ≤ 18446744073709551615)

def keq : IntKind → IntKind → Bool
  | .i8, .i8 => true
  | .i16, .i16 => true
  | .i32, .i32 => true
  | .i64, .i64 => true
  | .u8, .u8 => true
  | .u16, .u16 => true
  | .u32, .u32 => true
  | .u64, .u64 => true
  | _, _ => false

def ofSl : Option Addr → Nat → Nat → S1
  | none, 0, 0 => .nils
  | a, n, c => .val (.slice a n c)

def of1 : Value → S1
  | .int k n => bif inB k n then .int k n else .val (.int k n)
  | .bool b => .bool b
  | .slice a n c => ofSl a n c
  | .string s => bif decide (s.data.toList.length ≤ 140737488355328) then .str s.data.toList else .val (.string s)
  | v => .val v

def ofVal : Value → SV
  | .agg cs => .agg (cs.toList.map of1)
  | .tuple _ => .unk
  | v => .s (of1 v)

def ev (fr : List SV) : Operand → SV
  | .tmp t => gl fr t
  | .const v => ofVal v
  | .global g => .s (.val (.pointer (some ⟨g, 0, none⟩)))
  | .func f => .s (.fn f [])

/-! ### Typed data and cells -/
/-- The cells of a datum, its slices as read-only ones. -/
def cellsS : (t : Ty) → t.den → List S1
  | .int k, n => [.int k n]
  | .bool, b => [.bool b]
  | .str, s => [.str s]
  | .unit, _ => []
  | .opq, v => [.ro .opq v]
  | .pair a b, x => cellsS a x.1 ++ cellsS b x.2
  | .slice z e, xs => [.ro (.slice z e) xs]

def Ty.cast : (t t' : Ty) → t.den → Option t'.den := fun t t' x => if h : t = t' then some (h ▸ x) else none

theorem Ty.cast_self (t : Ty) (x : t.den) : Ty.cast t t x = some x := by simp [Ty.cast]

/-- Data out of cells; what is left of the cells. -/
def rdS (ob : Nat → Ob) : (t : Ty) → List S1 → Option (t.den × List S1)
  | .int k, .int k' n :: r => bif keq k' k then some (n, r) else none
  | .bool, .bool b :: r => some (b, r)
  | .str, .str s :: r => some (s, r)
  | .unit, r => some ((), r)
  | .opq, .val v :: r => bif v.oneCell' then some (v, r) else none
  | .opq, .ro t x :: r => match Ty.cast t .opq x with
    | some y => some (y, r)
    | none => none
  | .opq, .fn f [] :: r => some (.func (.func f) #[] #[], r)
  | .pair a b, l => match rdS ob a l with
    | some (x, l') => match rdS ob b l' with
      | some (y, l'') => some ((x, y), l'')
      | none => none
    | none => none
  | .slice z e, .ro t x :: r => match Ty.cast t (.slice z e) x with
    | some y => some (y, r)
    | none => none
  | .slice _ _, .nils :: r => some ([], r)
  | .slice z e, .sub o lo hi :: r => match ob o with
    | .arr _ z' e' xs => match Ty.cast (.slice z' e') (.slice z e) xs with
      | some (ys : List e.den) => some ((ys.drop lo).take (hi - lo), r)
      | none => none
    | _ => none
  | _, _ => none

def Ty.nsl : Ty → Nat
  | .slice _ _ => 1
  | .pair a b => a.nsl + b.nsl
  | _ => 0

/-- The cells of a datum in new memory, its slices as objects from number i on. -/
def injS : (t : Ty) → t.den → Nat → List S1
  | .int k, n, _ => [.int k n]
  | .bool, b, _ => [.bool b]
  | .str, s, _ => [.str s]
  | .unit, _, _ => []
  | .opq, v, _ => [.ro .opq v]
  | .pair a b, x, i => injS a x.1 i ++ injS b x.2 (i + a.nsl)
  | .slice _ _, xs, i => [.sub i 0 xs.length]

def injO : (t : Ty) → t.den → Nat → List (Nat × Ob)
  | .pair a b, x, i => injO a x.1 i ++ injO b x.2 (i + a.nsl)
  | .slice z e, xs, i => [(i, .arr false z e xs)]
  | _, _, _ => []

/-! ### What is known of the program's types: each is met by a closed fact -/
def tyOf (P : Program) : Nat → TypeId → Option Ty
  | 0, _ => none
  | d + 1, t =>
    match P.underlying t with
    | some (.int k) => some (.int k)
    | some .bool => some .bool
    | some .string => some .str
    | some (.slice e) => match P.info? e, tyOf P d e with
      | some i, some ty => some (.slice i.bytes ty)
      | _, _ => none
    | some (.struct fs) => fs.toList.foldr (fun f acc => match tyOf P d f.type, acc with
      | some a, some b => some (.pair a b)
      | _, _ => none) (some .unit)
    | some (.array ..) => none
    | some (.float _) => none
    | some (.complex _) => none
    | some _ => some .opq
    | none => none

/-- Of a slice's type: the element's type and its bytes. -/
def elemI (P : Program) (t : TypeId) : Option (Ty × Nat) :=
  match P.underlying t with
  | some (.slice e) => match P.info? e, tyOf P 20 e with
    | some i, some ty => match i.zero with
      | some z => if i.size = ty.n ∧ 0 < i.bytes ∧ 0 < ty.n ∧ z.cells.size = ty.n then some (ty, i.bytes) else none
      | none => none
    | _, _ => none
  | _ => none

/-- Is it a struct or an array; how many cells. -/
def aggI (P : Program) (t : TypeId) : Option (Bool × Nat) :=
  match P.underlying t, P.info? t with
  | some (.struct _), some i => some (true, i.size)
  | some (.array ..), some i => some (true, i.size)
  | some _, some i => if i.size = 1 then some (false, 1) else none
  | _, _ => none

def fldI (P : Program) (t : TypeId) (f : Nat) : Option Nat :=
  match P.underlying t with
  | some (.struct fs) => match fs[f]? with
    | some fd => if P.cellsOf fd.type = 0 then none else some fd.offset
    | none => none
  | _ => none

/-- A field of a value: is it a struct or an array, its offset, its cells. -/
def fieldI (P : Program) (t : TypeId) (f : Nat) : Option (Bool × Nat × Nat) :=
  match P.underlying t with
  | some (.struct fs) => match fs[f]? with
    | some fd => match aggI P fd.type with
      | some (b, n) => some (b, fd.offset, n)
      | none => none
    | none => none
  | _ => none

def zeroI (P : Program) (t : TypeId) : Option (List S1) :=
  match P.info? t with
  | some i => match i.zero with
    | some v => if v.cells.size = i.size ∧ (∀ x ∈ v.cells.toList, Value.oneCell' x = true) then some (v.cells.toList.map of1) else none
    | none => none
  | none => none

def isStr (P : Program) (t : TypeId) : Bool := match P.underlying t with | some .string => true | _ => false
def isBool (P : Program) (t : TypeId) : Bool := match P.underlying t with | some .bool => true | _ => false

/-! ### One operation -/
def SV.cells : SV → List S1
  | .s x => [x]
  | .agg l => l
  | _ => []

/-- What is owed for a guarded value, and the value. -/
def pkP : SV → Prop
  | .gd g x => g = true ∧ pkP x
  | _ => True
def pkV : SV → SV
  | .gd _ x => pkV x
  | x => x

structure Up where
  owe : Prop
  val : SV
  ws : List (Nat × Ob)
  hi : Nat
  gives : Prop

def upV (owe : Prop) (nx : Nat) (x : SV) : Option Up := some ⟨owe, x, [], nx, True⟩

def pickB (c x y : Bool) : Bool := bif c then x else y

def sPick0 (c : Bool) : SV → SV → Option SV
  | .s (.bool x), .s (.bool y) => some (.s (.bool (pickB c x y)))
  | .s (.int k x), .s (.int k' y) => bif keq k k' then some (.s (.int k (bif c then x else y))) else none
  | _, _ => none

def sPick (c : Bool) (x y : SV) : Option SV := match sPick0 c x y with
  | some r => some r
  | none => match c with
    | true => some x
    | false => some y

/-- The picked one is owed under its condition alone. -/
def oPick (c : Bool) (a b : SV) : Prop := (c = true → pkP a) ∧ (c = false → pkP b)

/-- The bits of a number. -/
def ub (k : IntKind) (x : Int) : Nat := (x % ((2 ^ k.bits : Nat) : Int)).toNat
/-- All bits. -/
def allI (k : IntKind) : Int := if k.signed then -1 else k.max

def sBinI (k : IntKind) (x y : Int) : BinOp → Option (Prop × S1)
  | .add => some (True, .int k (wr k (x + y)))
  | .sub => some (True, .int k (wr k (x - y)))
  | .mul => some (True, .int k (wr k (x * y)))
  | .quo => some (y ≠ 0, .int k (wr k (x.tdiv y)))
  | .rem => some (y ≠ 0, .int k (x.tmod y))
  | .eql => some (True, .bool (decide (x = y)))
  | .neq => some (True, .bool (!decide (x = y)))
  | .lss => some (True, .bool (decide (x < y)))
  | .leq => some (True, .bool (decide (x ≤ y)))
  | .gtr => some (True, .bool (decide (y < x)))
  | .geq => some (True, .bool (decide (y ≤ x)))
  | .and => some (True, .int k (wr k ((ub k x &&& ub k y : Nat) : Int)))
  | .or => some (True, .int k (wr k ((ub k x ||| ub k y : Nat) : Int)))
  | .xor => some (True, .int k (wr k ((ub k x ^^^ ub k y : Nat) : Int)))
  | .andNot => some (True, .int k (wr k ((ub k x &&& (2 ^ k.bits - 1 - ub k y) : Nat) : Int)))
  | _ => none

def sShI (k : IntKind) (x y : Int) : BinOp → Option (Prop × S1)
  | .shl => some (0 ≤ y, .int k (wr k (x * ((2 ^ (min y.toNat k.bits) : Nat) : Int))))
  | .shr => some (0 ≤ y, .int k (x.fdiv ((2 ^ (min y.toNat k.bits) : Nat) : Int)))
  | _ => none

def sBinS (x y : List UInt8) : BinOp → Option (Prop × S1)
  | .add => some (x.length + y.length ≤ 140737488355328, .str (x ++ y))
  | .eql => some (True, .bool (decide (x = y)))
  | .neq => some (True, .bool (!decide (x = y)))
  | .lss => some (True, .bool (Op.bytesLess x y))
  | .leq => some (True, .bool (Op.bytesLess x y || decide (x = y)))
  | .gtr => some (True, .bool (!(Op.bytesLess x y || decide (x = y))))
  | .geq => some (True, .bool (!Op.bytesLess x y))
  | _ => none

/-- Of a struct's type whose fields are numbers, bools and strings, a cell each: of which kind each is. -/
def flatF (P : Program) : List Field → Nat → Option (List Nat)
  | [], _ => some []
  | f :: l, i => match P.underlying f.type, P.info? f.type, flatF P l (i + 1) with
    | some (.int _), some inf, some ks => if f.name ≠ "_" ∧ f.offset = i ∧ inf.size = 1 then some (0 :: ks) else none
    | some .bool, some inf, some ks => if f.name ≠ "_" ∧ f.offset = i ∧ inf.size = 1 then some (1 :: ks) else none
    | some .string, some inf, some ks => if f.name ≠ "_" ∧ f.offset = i ∧ inf.size = 1 then some (2 :: ks) else none
    | _, _, _ => none
def flatI (P : Program) (t : TypeId) : Option (List Nat) := match P.underlying t with
  | some (.struct fs) => if P.stoodInHeld t = false ∧ P.eqGuardType P.depth t = false then flatF P fs.toList 0 else none
  | _ => none
def eqC1 (a : Bool) : Option Bool → Option Bool
  | some b => some (a && b)
  | none => none
def eqC : List Nat → List S1 → List S1 → Option Bool
  | [], [], [] => some true
  | 0 :: ks, .int k x :: l, .int k' y :: m => bif keq k k' then eqC1 (decide (x = y)) (eqC ks l m) else none
  | 1 :: ks, .bool x :: l, .bool y :: m => eqC1 (x == y) (eqC ks l m)
  | 2 :: ks, .str x :: l, .str y :: m => eqC1 (decide (x = y)) (eqC ks l m)
  | _, _, _ => none

def sBin (P : Program) (op : BinOp) (t : TypeId) : SV → SV → Option (Prop × S1)
  | .s (.int k x), .s (.int k' y) => match sShI k x y op with
    | some r => some r
    | none => bif keq k k' then sBinI k x y op else none
  | .s (.str x), .s (.str y) => sBinS x y op
  | .s (.bool x), .s (.bool y) => bif isBool P t then (match op with
    | .eql => some (True, .bool (x == y))
    | .neq => some (True, .bool (!(x == y)))
    | _ => none) else none
  | .agg l, .agg m => match flatI P t with
    | some ks => match eqC ks l m with
      | some b => match op with
        | .eql => some (True, .bool b)
        | .neq => some (True, .bool (!b))
        | _ => none
      | none => none
    | none => none
  | _, _ => none

/-- May a slice be nil; may it be none? -/
def nilB (ob : Nat → Ob) : S1 → Option (Bool × Bool)
  | .nils => some (true, false)
  | .ro (.slice _ _) xs => some (xs.isEmpty, true)
  | .sub o lo hi => match ob o with
    | .arr _ _ _ _ => some (Nat.beq (hi - lo) 0, true)
    | _ => none
  | _ => none

def isPtr (P : Program) (t : TypeId) : Bool := match P.underlying t with | some (.pointer _) => true | _ => false
/-- A type whose values may lie in an interface. -/
def mkI (P : Program) (t : TypeId) : Bool := match P.underlying t with | some (.interface _) => false | some _ => true | none => false
def isIf (P : Program) (t : TypeId) : Bool := match P.underlying t with | some (.interface _) => true | _ => false
def isFn (P : Program) (t : TypeId) : Bool := match P.underlying t with | some (.func _ _ _) => true | _ => false

/-- Is a pointer nil? -/
def ptrB (ob : Nat → Ob) : S1 → Option Bool
  | .pb o _ => match ob o with
    | .box _ _ => some false
    | _ => none
  | .pe o _ _ => match ob o with
    | .arr _ _ _ _ => some false
    | _ => none
  | .pr _ _ _ => some false
  | .val (.pointer p) => some p.isNone
  | _ => none

def isNI : Value → Option Bool
  | .nilIface => some true
  | .iface _ _ => some false
  | _ => none

/-- Is an interface nil? -/
def ifB (ob : Nat → Ob) : S1 → Option Bool
  | .ifp _ o _ => match ob o with
    | .box _ _ => some false
    | _ => none
  | .ifi _ _ _ => some false
  | .val v => isNI v
  | .ro .opq v => isNI v
  | _ => none

/-- A slice, a pointer, a function, an interface held against nil. -/
def sNil (P : Program) (ob : Nat → Ob) (op : BinOp) (t : TypeId) : SV → SV → Option S1
  | .s x, .s (.val (.pointer none)) => match isPtr P t, ptrB ob x with
    | true, some b => match op with
      | .eql => some (.bool b)
      | .neq => some (.bool (!b))
      | _ => none
    | _, _ => none
  | .s (.fn _ _), .s (.val .nilFunc) => match isFn P t with
    | true => match op with
      | .eql => some (.bool false)
      | .neq => some (.bool true)
      | _ => none
    | false => none
  | .s x, .s .nils => match elemI P t, nilB ob x with
    | some _, some p => match op with
      | .eql => some (.mb p.1 p.2)
      | .neq => some (.mb p.2 p.1)
      | _ => none
    | _, _ => none
  | _, _ => none

/-- An interface held against nil. -/
def sIf (P : Program) (ob : Nat → Ob) (op : BinOp) (t : TypeId) : SV → Operand → Option S1
  | .s x, .const .nilIface => match isIf P t, ifB ob x with
    | true, some b => match op with
      | .eql => some (.bool b)
      | .neq => some (.bool (!b))
      | _ => none
    | _, _ => none
  | _, _ => none

def sUn (op : UnOp) : SV → Option S1
  | .s (.bool b) => match op with | .not => some (.bool (!b)) | _ => none
  | .s (.mb t f) => match op with | .not => some (.mb f t) | _ => none
  | .s (.int k n) => match op with
    | .neg => some (.int k (wr k (-n)))
    | .xor => some (.int k (wr k ((ub k (allI k) ^^^ ub k n : Nat) : Int)))
    | _ => none
  | _ => none

def cellOr (agg : Bool) (cs : List S1) (off n : Nat) : SV := bif agg then .agg (take1 (drop1 cs off) n) else .s (g1 cs off)

def sLoad (ob : Nat → Ob) (agg : Bool) (n : Nat) : SV → Option (Prop × SV)
  | .s (.pb o off) => match ob o with
    | .box Tb cs => some (off + n ≤ cs.length, cellOr agg cs off n)
    | _ => none
  | .s (.pe o i off) => match ob o with
    | .arr _ _ e xs => some (off + n ≤ e.n, cellOr agg (cellsS e (xs.getD i e.zero)) off n)
    | _ => none
  | .s (.pr t x off) => some (off + n ≤ t.n, cellOr agg (cellsS t x) off n)
  | _ => none

/-- May these cells be stored? -/
def stl : List S1 → Bool
  | [] => true
  | .unk :: _ => false
  | .val v :: l => v.oneCell' && stl l
  | _ :: l => stl l

def ids : List S1 → List Nat
  | [] => []
  | .sub o _ _ :: l => o :: ids l
  | _ :: l => ids l

/-- These objects are written no more. -/
def freeze (ob : Nat → Ob) : List Nat → List (Nat × Ob)
  | [] => []
  | o :: l => match ob o with
    | .arr _ z e xs => (o, .arr true z e xs) :: freeze ob l
    | _ => freeze ob l

def sStore (ob : Nat → Ob) (n : Nat) (vs : List S1) : SV → Option (Prop × List (Nat × Ob))
  | .s (.pb o off) => match ob o with
    | .box Tb cs => bif stl vs then some (off + n ≤ cs.length ∧ vs.length = n, [(o, .box Tb (lay cs off vs))]) else none
    | _ => none
  | .s (.pe o i off) => match ob o with
    | .arr false z e xs => match rdS ob e (lay (cellsS e (xs.getD i e.zero)) off vs), stl vs with
      | some (y, []), true => some (off + n ≤ e.n ∧ vs.length = n ∧ ¬ o ∈ ids vs, freeze ob (ids vs) ++ [(o, .arr false z e (xs.set i y))])
      | _, _ => none
    | _ => none
  | _ => none

/-- Of an array's type: how long it is, the cells of an element. -/
def arrI (P : Program) (t : TypeId) : Option (Nat × Nat) :=
  match P.underlying t with
  | some (.array n e) => match P.info? e with
    | some i => some (n, i.size)
    | none => none
  | _ => none

def sIndex (P : Program) (ob : Nat → Ob) (t : TypeId) (i : Int) : SV → Option (Prop × S1)
  | .s (.pb o off) => match ob o with
    | .box _ _ => match arrI P t with
      | some (len, n) => some (0 ≤ i ∧ i < (len : Nat), .pb o (off + i.toNat * n))
      | none => none
    | _ => none
  | .s (.sub o lo hi) => match ob o with
    | .arr _ z e _ => match elemI P t with
      | some (e', _) => if e' = e then some (0 ≤ i ∧ i < (hi - lo : Nat), .pe o (lo + i.toNat) 0) else none
      | none => none
    | _ => none
  | .s (.ro (.slice z e) xs) => match elemI P t with
    | some (e', _) => if e' = e then some (0 ≤ i ∧ i < (xs.length : Nat), .pr e (xs.getD i.toNat e.zero) 0) else none
    | none => none
  | _ => none

def optI : Option SV → Int → Option Int
  | none, d => some d
  | some (.s (.int _ n)), _ => some n
  | some _, _ => none

def sSlice (P : Program) (ob : Nat → Ob) (t : TypeId) (lo hi : Option SV) : SV → Option (Prop × S1)
  | .s (.sub o l h) => match ob o with
    | .arr _ z e xs => match elemI P t with
      | some (e', _) => if e' = e then (match optI lo 0, optI hi ((h - l : Nat) : Int) with
        | some a, some b => some (0 ≤ a ∧ a ≤ b ∧ b ≤ (xs.length - l : Nat), .sub o (l + a.toNat) (l + b.toNat))
        | _, _ => none) else none
      | none => none
    | _ => none
  | .s (.ro (.slice z e) xs) => match elemI P t with
    | some (e', _) => if e' = e then (match optI lo 0, optI hi (xs.length : Int) with
      | some a, some b => some (0 ≤ a ∧ a ≤ b ∧ b ≤ (xs.length : Int), .ro (.slice z e) ((xs.drop a.toNat).take (b.toNat - a.toNat)))
      | _, _ => none) else none
    | none => none
  | .s (.str s) => bif isStr P t then (match optI lo 0, optI hi (s.length : Int) with
    | some a, some b => some (0 ≤ a ∧ a ≤ b ∧ b ≤ (s.length : Int), .str ((s.drop a.toNat).take (b.toNat - a.toNat)))
    | _, _ => none) else none
  | _ => none

/-- The parts of a slice's literal, in their order from i on. -/
def sParts (ob : Nat → Ob) (e : Ty) (fr : List SV) : List (Nat × Operand) → Nat → Option (List e.den)
  | [], _ => some []
  | (j, x) :: ps, i => bif j == i then (match rdS ob e (ev fr x).cells with
    | some (y, []) => match sParts ob e fr ps (i + 1) with
      | some l => some (y :: l)
      | none => none
    | _ => none) else none

def idsParts (fr : List SV) : List (Nat × Operand) → List Nat
  | [] => []
  | (_, x) :: ps => ids (ev fr x).cells ++ idsParts fr ps

def placesI (P : Program) (t : TypeId) : Option (List (Nat × Nat)) :=
  match P.underlying t with
  | some (.struct fs) => fs.toList.mapM (fun f => (P.info? f.type).map fun i => (f.offset, i.size))
  | _ => none

def isSA : SV → Bool
  | .s _ => true
  | .agg _ => true
  | _ => false

/-- The parts of a struct's literal laid over its zero cells. -/
def sFill (pl : List (Nat × Nat)) (fr : List SV) : List (Nat × Operand) → List S1 → Option (List S1)
  | [], cs => some cs
  | (f, x) :: ps, cs => match pl[f]? with
    | some (off, n) => bif (ev fr x).cells.length == n && Nat.ble (off + n) cs.length && stl (ev fr x).cells && isSA (ev fr x) then sFill pl fr ps (lay cs off (ev fr x).cells) else none
    | none => none

def sLen (P : Program) (ob : Nat → Ob) (t : TypeId) : SV → Option Nat
  | .s (.sub o lo hi) => match ob o with
    | .arr _ z _ _ => match elemI P t with | some _ => (bif Nat.ble 1 z then some (hi - lo) else none) | none => none
    | _ => none
  | .s (.ro (.slice z _) xs) => match elemI P t with | some _ => (bif Nat.ble 1 z then some xs.length else none) | none => none
  | .s (.str s) => bif isStr P t then some s.length else none
  | .s .nils => match elemI P t with | some _ => some 0 | none => none
  | _ => none

/-- A slice as a list, to be appended to (its object, if it has one, is used up). -/
def sOwn (ob : Nat → Ob) (z : Nat) (e : Ty) : SV → Option (List e.den × List Nat)
  | .s .nils => some ([], [])
  | .s (.sub o lo hi) => match ob o with
    | .arr false z' e' xs => match Ty.cast (.slice z' e') (.slice z e) xs with
      | some (ys : List e.den) => some ((ys.drop lo).take (hi - lo), [o])
      | none => none
    | _ => none
  | _ => none

/-- A slice as a list, to be read. -/
def sList (ob : Nat → Ob) (z : Nat) (e : Ty) : SV → Option (List e.den)
  | .s x => match rdS ob (.slice z e) [x] with
    | some (ys, []) => some ys
    | _ => none
  | _ => none

def kill : List Nat → List (Nat × Ob)
  | [] => []
  | o :: l => (o, .dead) :: kill l

def sAppend (P : Program) (ob : Nat → Ob) (nx : Nat) (t : TypeId) (s x : SV) : Option Up :=
  match elemI P t with
  | some (e, z) => match sOwn ob z e s, sList ob z e x with
    | some (xs, os), some ys => some ⟨(xs.length + ys.length) * z ≤ 140737488355328, .s (.sub nx 0 (xs.length + ys.length)), kill os ++ [(nx, .arr false z e (xs ++ ys))], nx + 1, True⟩
    | _, _ => none
  | none => none

def sMin (mn : Bool) : SV → SV → Option SV
  | .s (.int k x), .s (.int k' y) => bif keq k k' then some (.s (.int k (bif mn then (if y < x then y else x) else (if x < y then y else x)))) else none
  | _, _ => none

/-! ### Contracts -/
def tyL : List (Bool × Ty) → Ty
  | [] => .unit
  | (_, t) :: l => .pair t (tyL l)

structure Con where
  f : FuncId
  as : List (Bool × Ty)
  rs : List (Bool × Ty)
  pre : (tyL as).den → Prop
  F : (tyL as).den → (tyL rs).den
  /-- May the results lie in memory that they share with the arguments? Then both are only read from there on. -/
  sh : Bool

def findC (f : Nat) : List Con → Option Con
  | [] => none
  | c :: l => bif c.f == f then some c else findC f l

def shape : Bool → SV → Bool
  | true, .agg _ => true
  | false, .s _ => true
  | _, _ => false

/-- The arguments as data. -/
def sArgs (ob : Nat → Ob) : (as : List (Bool × Ty)) → List SV → Option (tyL as).den
  | [], [] => some ()
  | (b, t) :: as, x :: xs => bif shape b x then (match rdS ob t x.cells, sArgs ob as xs with
    | some (y, []), some ys => some (y, ys)
    | _, _ => none) else none
  | _, _ => none

def resL : (rs : List (Bool × Ty)) → (tyL rs).den → Nat → List (Bool × List S1)
  | [], _, _ => []
  | (b, t) :: rs, y, i => (b, injS t y.1 i) :: resL rs y.2 (i + t.nsl)

/-- Results that are only read. -/
def roL : (rs : List (Bool × Ty)) → (tyL rs).den → List (Bool × List S1)
  | [], _ => []
  | (b, t) :: rs, y => (b, cellsS t y.1) :: roL rs y.2

def resV : List (Bool × List S1) → SV
  | [(true, l)] => .agg l
  | [(false, [x])] => .s x
  | l => .tup l

def resO : (rs : List (Bool × Ty)) → (tyL rs).den → Nat → List (Nat × Ob)
  | [], _, _ => []
  | (_, t) :: rs, y, i => injO t y.1 i ++ resO rs y.2 (i + t.nsl)

def Ty.hasSl : Ty → Bool
  | .slice _ _ => true
  | .pair a b => a.hasSl || b.hasSl
  | _ => false

/-- Slices within slices. -/
def Ty.nest : Ty → Bool
  | .slice _ e => e.hasSl
  | .pair a b => a.nest || b.nest
  | _ => false

def nestL : List (Bool × Ty) → Bool
  | [] => false
  | (_, t) :: rs => t.nest || nestL rs

def sTup : List (Bool × List S1) → Nat → Option SV
  | [], _ => none
  | (true, l) :: _, 0 => some (.agg l)
  | (false, [x]) :: _, 0 => some (.s x)
  | (false, _) :: _, 0 => none
  | _ :: l, n + 1 => sTup l n

def nslL : List (Bool × Ty) → Nat
  | [] => 0
  | (_, t) :: rs => t.nsl + nslL rs

def pkPs (fr : List SV) : List Operand → Prop
  | [] => True
  | x :: l => pkP (ev fr x) ∧ pkPs fr l

def pkVs (fr : List SV) : List Operand → List SV
  | [] => []
  | x :: l => pkV (ev fr x) :: pkVs fr l

def allIds : List SV → List Nat
  | [] => []
  | x :: l => ids x.cells ++ allIds l

/-- A character as bytes. -/
def encV (n : Int) : List UInt8 := (Utf8.encode n).data.toList

/-- Numbers as bytes. -/
def bsL (l : List Int) : List UInt8 := l.map fun n => UInt8.ofNat n.toNat

def isByteTy : Ty → Bool
  | .int .u8 => true
  | _ => false

def sConv (P : Program) (ob : Nat → Ob) (src dst : TypeId) : SV → Option S1
  | .s (.int _ n) => match P.underlying src, P.underlying dst with
    | some (.int _), some (.int k') => some (.int k' (wr k' n))
    | some (.int _), some .string => some (.str (encV n))
    | _, _ => none
  | .s (.str s) => bif isStr P src && isStr P dst then some (.str s) else none
  | .s x => match elemI P src with
    | some (e, z) => bif isByteTy e && isStr P dst then (match sList ob z (.int .u8) (.s x) with
      | some (l : List Int) => some (.str (bsL l))
      | none => none) else none
    | none => none
  | _ => none

/-- Characters as bytes. -/
def rsL (l : List Int) : List UInt8 := l.flatMap encV

def isRuneTy : Ty → Bool
  | .int .i32 => true
  | _ => false

/-- A list of characters as a string. -/
def sRun (P : Program) (ob : Nat → Ob) (src dst : TypeId) : SV → Option S1
  | .s x => match elemI P src with
    | some (e, z) => bif isRuneTy e && (isStr P dst && Nat.ble 4 z) then (match sList ob z (.int .i32) (.s x) with
      | some (l : List Int) => some (.str (rsL l))
      | none => none) else none
    | none => none
  | _ => none

def capsOf (fr : List SV) : List Operand → Option (List (Nat × Nat))
  | [] => some []
  | x :: l => match ev fr x, capsOf fr l with
    | .s (.pb o off), some r => some ((o, off) :: r)
    | _, _ => none

def sCall (P : Program) (Cs : List Con) (ob : Nat → Ob) (nx : Nat) (fr : List SV) (c : Call) : Option Up :=
  match c.callee, c.args.toList, c.argTypes.toList with
  | .builtin .len, [x], t :: _ => match sLen P ob t (pkV (ev fr x)) with
    | some n => upV (pkP (ev fr x)) nx (.s (.int .i64 (n : Int)))
    | none => none
  | .builtin .append, [s, x], [t, t'] => bif t == t' then (match sAppend P ob nx t (pkV (ev fr s)) (pkV (ev fr x)) with
    | some u => some { u with owe := pkP (ev fr s) ∧ pkP (ev fr x) ∧ u.owe }
    | none => none) else none
  | .builtin .min, [x, y], _ => match sMin true (pkV (ev fr x)) (pkV (ev fr y)) with
    | some v => upV (pkP (ev fr x) ∧ pkP (ev fr y)) nx v
    | none => none
  | .builtin .max, [x, y], _ => match sMin false (pkV (ev fr x)) (pkV (ev fr y)) with
    | some v => upV (pkP (ev fr x) ∧ pkP (ev fr y)) nx v
    | none => none
  | .value f, args, _ => match pkV (ev fr f) with
    | .s (.fn g []) => match findC g Cs with
      | some con => match sArgs ob con.as (pkVs fr args) with
        | some x => match con.sh with
          | true => some ⟨pkP (ev fr f) ∧ pkPs fr args ∧ con.pre x, resV (roL con.rs (con.F x)), freeze ob (allIds (pkVs fr args)), nx, (tyL con.rs).wf (con.F x)⟩
          | false => some ⟨pkP (ev fr f) ∧ pkPs fr args ∧ con.pre x, resV (resL con.rs (con.F x) nx),
            (bif nestL con.rs then freeze ob (allIds (pkVs fr args)) else []) ++ resO con.rs (con.F x) nx, nx + nslL con.rs, (tyL con.rs).wf (con.F x)⟩
        | none => none
      | none => none
    | _ => none
  | _, _, _ => none

/-- Boxes, all of them? -/
def boxes (ob : Nat → Ob) : List (Nat × Nat) → Bool
  | [] => true
  | (o, _) :: l => match ob o with
    | .box _ _ => boxes ob l
    | _ => false

def uPick (P : Program) (ob : Nat → Ob) (nx : Nat) (fr : List SV) (c a b : Operand) : Option Up := match pkV (ev fr c) with
    | .s (.bool cb) => match sPick cb (pkV (ev fr a)) (pkV (ev fr b)) with
      | some v => upV (pkP (ev fr c) ∧ oPick cb (ev fr a) (ev fr b)) nx v
      | none => none
    | _ => none

def uAlloc (P : Program) (ob : Nat → Ob) (nx : Nat) (fr : List SV) (t : TypeId) : Option Up := match zeroI P t with
    | some cs => bif stl cs then some ⟨True, .s (.pb nx 0), [(nx, .box t cs)], nx + 1, True⟩ else none
    | none => none

def uBox (P : Program) (ob : Nat → Ob) (nx : Nat) (fr : List SV) (t : TypeId) (x : Operand) : Option Up := bif stl (pkV (ev fr x)).cells && isSA (pkV (ev fr x)) then
      some ⟨pkP (ev fr x), .s (.pb nx 0), [(nx, .box t (pkV (ev fr x)).cells)], nx + 1, True⟩ else none

def uLoad (P : Program) (ob : Nat → Ob) (nx : Nat) (fr : List SV) (t : TypeId) (a : Operand) : Option Up := match aggI P t with
    | some (b, n) => match sLoad ob b n (pkV (ev fr a)) with
      | some (p, v) => upV (pkP (ev fr a) ∧ p) nx v
      | none => none
    | none => none

def uStore (P : Program) (ob : Nat → Ob) (nx : Nat) (fr : List SV) (t : TypeId) (a v : Operand) : Option Up := match aggI P t with
    | some (b, n) => bif shape b (pkV (ev fr v)) then (match sStore ob n (pkV (ev fr v)).cells (pkV (ev fr a)) with
      | some (p, ws) => some ⟨pkP (ev fr a) ∧ pkP (ev fr v) ∧ p, .unk, ws, nx, True⟩
      | none => none) else none
    | none => none

def uBin (P : Program) (ob : Nat → Ob) (nx : Nat) (fr : List SV) (op : BinOp) (t : TypeId) (x y : Operand) : Option Up := match sBin P op t (pkV (ev fr x)) (pkV (ev fr y)) with
    | some (p, v) => upV (pkP (ev fr x) ∧ pkP (ev fr y) ∧ p) nx (.s v)
    | none => match sNil P ob op t (pkV (ev fr x)) (pkV (ev fr y)) with
      | some v => upV (pkP (ev fr x) ∧ pkP (ev fr y)) nx (.s v)
      | none => match sIf P ob op t (pkV (ev fr x)) y with
        | some v => upV (pkP (ev fr x)) nx (.s v)
        | none => none

def uUn (P : Program) (ob : Nat → Ob) (nx : Nat) (fr : List SV) (op : UnOp) (x : Operand) : Option Up := match sUn op (pkV (ev fr x)) with
    | some v => upV (pkP (ev fr x)) nx (.s v)
    | none => none

def uConv (P : Program) (ob : Nat → Ob) (nx : Nat) (fr : List SV) (src dst : TypeId) (x : Operand) : Option Up := match sConv P ob src dst (pkV (ev fr x)) with
    | some v => upV (pkP (ev fr x)) nx (.s v)
    | none => match sRun P ob src dst (pkV (ev fr x)) with
      | some v => upV (pkP (ev fr x)) nx (.s v)
      | none => none

def uExt (P : Program) (ob : Nat → Ob) (nx : Nat) (fr : List SV) (x : Operand) (i : Nat) : Option Up := match pkV (ev fr x) with
    | .tup l => match sTup l i with
      | some v => upV (pkP (ev fr x)) nx v
      | none => none
    | _ => none

def uField (P : Program) (ob : Nat → Ob) (nx : Nat) (fr : List SV) (t : TypeId) (x : Operand) (f : Nat) : Option Up := match pkV (ev fr x), fieldI P t f with
    | .agg l, some (b, off, n) => upV (pkP (ev fr x) ∧ off + n ≤ l.length) nx (cellOr b l off n)
    | _, _ => none

def uFAddr (P : Program) (ob : Nat → Ob) (nx : Nat) (fr : List SV) (t : TypeId) (x : Operand) (f : Nat) : Option Up := match fldI P t f with
    | some d => match pkV (ev fr x) with
      | .s (.pb o off) => match ob o with | .box _ _ => upV (pkP (ev fr x)) nx (.s (.pb o (off + d))) | _ => none
      | .s (.pe o i off) => match ob o with | .arr _ _ _ _ => upV (pkP (ev fr x)) nx (.s (.pe o i (off + d))) | _ => none
      | .s (.pr t' x' off) => upV (pkP (ev fr x)) nx (.s (.pr t' x' (off + d)))
      | _ => none
    | none => none

def uIAddr (P : Program) (ob : Nat → Ob) (nx : Nat) (fr : List SV) (t : TypeId) (x i : Operand) : Option Up := match pkV (ev fr i) with
    | .s (.int _ n) => match sIndex P ob t n (pkV (ev fr x)) with
      | some (p, v) => upV (pkP (ev fr x) ∧ pkP (ev fr i) ∧ p) nx (.s v)
      | none => none
    | _ => none

def uIndex (P : Program) (ob : Nat → Ob) (nx : Nat) (fr : List SV) (t : TypeId) (x i : Operand) : Option Up := match pkV (ev fr i), pkV (ev fr x) with
    | .s (.int _ n), .s (.str s) => bif isStr P t then upV (pkP (ev fr x) ∧ pkP (ev fr i) ∧ 0 ≤ n ∧ n < (s.length : Int)) nx (.s (.int .u8 ((s.getD n.toNat 0).toNat : Int))) else none
    | _, _ => none

def uSlice (P : Program) (ob : Nat → Ob) (nx : Nat) (fr : List SV) (t : TypeId) (x : Operand) (lo hi : Option Operand) : Option Up := match sSlice P ob t (lo.map fun y => pkV (ev fr y)) (hi.map fun y => pkV (ev fr y)) (pkV (ev fr x)) with
    | some (p, v) => upV (pkP (ev fr x) ∧ pkPs fr (lo.toList ++ hi.toList) ∧ p) nx (.s v)
    | none => none

def uBSl (P : Program) (ob : Nat → Ob) (nx : Nat) (fr : List SV) (t : TypeId) (n : Nat) (ps : Array (Nat × Operand)) : Option Up := match elemI P t with
    | some (e, z) => match sParts ob e fr ps.toList 0 with
      | some l => bif l.length == n && decide (n * e.n ≤ 16777216) && decide (n * z ≤ 140737488355328) then
          some ⟨True, .s (.sub nx 0 n), freeze ob (idsParts fr ps.toList) ++ [(nx, .arr false z e l)], nx + 1, True⟩ else none
      | none => none
    | none => none

def uBuild (P : Program) (ob : Nat → Ob) (nx : Nat) (fr : List SV) (t : TypeId) (ps : Array (Nat × Operand)) : Option Up := match placesI P t, zeroI P t with
    | some pl, some cs => match sFill pl fr ps.toList cs with
      | some l => upV True nx (.agg l)
      | none => none
    | _, _ => none

def uNil (P : Program) (ob : Nat → Ob) (nx : Nat) (fr : List SV) (x : Operand) : Option Up := match pkV (ev fr x) with
    | .s (.pb o off) => match ob o with | .box _ _ => upV (pkP (ev fr x)) nx (.s (.pb o off)) | _ => none
    | .s (.pe o i off) => match ob o with | .arr _ _ _ _ => upV (pkP (ev fr x)) nx (.s (.pe o i off)) | _ => none
    | .s (.pr t x' off) => upV (pkP (ev fr x)) nx (.s (.pr t x' off))
    | .s (.fn f caps) => upV (pkP (ev fr x)) nx (.s (.fn f caps))
    | _ => none

def uMk (P : Program) (ob : Nat → Ob) (nx : Nat) (fr : List SV) (f : FuncId) (first caps : Array Operand) : Option Up := match first.toList, capsOf fr caps.toList with
    | [], some l => bif boxes ob l then upV True nx (.s (.fn f l)) else none
    | _, _ => none

def uIfc (P : Program) (ob : Nat → Ob) (nx : Nat) (fr : List SV) (t : TypeId) (x : Operand) : Option Up := match mkI P t with
    | false => none
    | true => match pkV (ev fr x) with
      | .s (.pb o off) => match ob o with
        | .box _ _ => upV (pkP (ev fr x)) nx (.s (.ifp t o off))
        | _ => none
      | .s (.int k n) => upV (pkP (ev fr x)) nx (.s (.ifi t k n))
      | _ => none

def uRng (P : Program) (ob : Nat → Ob) (nx : Nat) (fr : List SV) (t : TypeId) (x : Operand) : Option Up := match pkV (ev fr x) with
    | .s (.str s) => bif isStr P t then some ⟨pkP (ev fr x), .s (.yl nx), [(nx, .it s 0)], nx + 1, True⟩ else none
    | _ => none

def stepU (P : Program) (Cs : List Con) (ob : Nat → Ob) (nx : Nat) (fr : List SV) : Op → Option Up
  | .move x => upV True nx (ev fr x)
  | .assign x => upV True nx (ev fr x)
  | .pick c a b => uPick P ob nx fr c a b
  | .alloc t => uAlloc P ob nx fr t
  | .box t x => uBox P ob nx fr t x
  | .load t a => uLoad P ob nx fr t a
  | .store t a v => uStore P ob nx fr t a v
  | .binOp op t x y _ => uBin P ob nx fr op t x y
  | .unOp op _ x => uUn P ob nx fr op x
  | .convert src dst x => uConv P ob nx fr src dst x
  | .extract x i => uExt P ob nx fr x i
  | .field t x f => uField P ob nx fr t x f
  | .fieldAddr t x f => uFAddr P ob nx fr t x f
  | .indexAddr t x i => uIAddr P ob nx fr t x i
  | .index t x i => uIndex P ob nx fr t x i
  | .slice t x lo hi none => uSlice P ob nx fr t x lo hi
  | .buildSlice t n ps => uBSl P ob nx fr t n ps
  | .build t ps => uBuild P ob nx fr t ps
  | .nilCheck x => uNil P ob nx fr x
  | .makeFunc (.func f) first caps => uMk P ob nx fr f first caps
  | .call c => sCall P Cs ob nx fr c
  | .makeInterface t x => uIfc P ob nx fr t x
  | .range t x => uRng P ob nx fr t x
  | _ => none

/-! ### Rows of bytes that grow (strings.Builder) -/
def ptrT (P : Program) (t : TypeId) : Option TypeId := match P.underlying t with
  | some (.pointer e) => some e
  | _ => none
def isUns (P : Program) (t : TypeId) : Bool := match P.underlying t with
  | some .unsafePointer => true
  | _ => false
def elT (P : Program) (t : TypeId) : Option TypeId := match P.underlying t with
  | some (.slice e) => some e
  | _ => none
def byS (l : List UInt8) : List S1 := l.map fun b => .int .u8 (b.toNat : Int)
/-- The function that hands back its argument. -/
def isEsc (P : Program) (g : FuncId) : Bool := match P.funcs[g]? with
  | some fn => fn.body.isNone && (decide (fn.name = "internal/abi.NoEscape") && (Extern.findNext fn).isNone)
  | none => false
/-- Cells that are bytes. -/
def isB1 : S1 → Bool
  | .int k _ => keq k .u8
  | _ => false
def isBy : List S1 → Bool
  | [] => true
  | x :: l => isB1 x && isBy l
def unB1 : S1 → UInt8
  | .int _ n => UInt8.ofNat n.toNat
  | _ => 0
def unB (l : List S1) : List UInt8 := l.map unB1
theorem isBy_byS : ∀ (l : List UInt8), isBy (byS l) = true
  | [] => rfl
  | _ :: l => by simp only [byS, List.map_cons, isBy, isB1, keq, Bool.true_and]; exact isBy_byS l
theorem unB_byS : ∀ (l : List UInt8), unB (byS l) = l
  | [] => rfl
  | b :: l => by
    have := unB_byS l
    simp only [unB, byS, List.map_cons, unB1, Int.toNat_natCast, UInt8.ofNat_toNat] at this ⊢
    rw [this]
theorem byS_len (l : List UInt8) : (byS l).length = l.length := by simp [byS]
theorem byS_app (l m : List UInt8) : byS l ++ byS m = byS (l ++ m) := by simp [byS]
theorem byS_inj {l m : List UInt8} : byS l = byS m ↔ l = m := ⟨fun h => by rw [← unB_byS l, h, unB_byS], fun h => by rw [h]⟩

def yTo (P : Program) (s d : TypeId) : Bool := match ptrT P s with
  | some e => isUns P d && Nat.ble 1 (P.cellsOf e)
  | none => false
def yFrom (P : Program) (s d T : TypeId) (n : Nat) : Bool := match ptrT P d with
  | some e => isUns P s && (Nat.beq T e && (Nat.ble 1 (P.cellsOf e) && Nat.ble (P.cellsOf e) n))
  | none => false
def yEq (P : Program) (t : TypeId) : Bool := match ptrT P t with
  | some e => Nat.ble 1 (P.cellsOf e)
  | none => false
def yEl (P : Program) (t : TypeId) : Option TypeId := match elemI P t with
  | some (.int .u8, 1) => elT P t
  | _ => none
def yRow (P : Program) (pt T : TypeId) : Bool := match ptrT P pt with
  | some e => Nat.beq T e && Nat.beq (P.cellsOf e) 1
  | none => false

def yConv (P : Program) (ob : Nat → Ob) (nx : Nat) (ow : Prop) (src dst : TypeId) : SV → Option Up
  | .s (.pb o off) => match ob o with
    | .box T cs => bif yTo P src dst || (Nat.beq off 0 && yFrom P src dst T cs.length) then some ⟨ow ∧ off + 1 ≤ cs.length, .s (.pb o off), [], nx, True⟩ else none
    | _ => none
  | _ => none
def yPtr (P : Program) (ob : Nat → Ob) (nx : Nat) (ow : Prop) (op : BinOp) (t : TypeId) (y : SV) : SV → Option Up
  | .s (.pb o off) => match y with
    | .s (.pb o' off') => match ob o with
      | .box _ _ => bif yEq P t && (Nat.beq o o' && Nat.beq off off') then (match op with
        | .eql => some ⟨ow, .s (.bool true), [], nx, True⟩
        | .neq => some ⟨ow, .s (.bool false), [], nx, True⟩
        | _ => none) else none
      | _ => none
    | _ => none
  | _ => none
def yEs (ob : Nat → Ob) (nx : Nat) (ow : Prop) : SV → Option Up
  | .s (.pb o off) => match ob o with
    | .box _ _ => some ⟨ow, .s (.pb o off), [], nx, True⟩
    | _ => none
  | _ => none
/-- What is appended, as bytes. -/
def ySrc (P : Program) (ob : Nat → Ob) (t t' : TypeId) : SV → Option (List UInt8)
  | .s (.str bs) => bif isStr P t' then some bs else none
  | .s (.sub o lo hi) => bif Nat.beq t t' then (match sList ob 1 (.int .u8) (.s (.sub o lo hi)) with
    | some (l : List Int) => some (bsL l)
    | none => none) else none
  | _ => none
def yAppV (nx : Nat) (ob : Nat → Ob) (ow : Prop) (el : TypeId) (bs : List UInt8) : SV → Option Up
  | .s .nils => some ⟨ow ∧ bs ≠ [] ∧ bs.length ≤ 140737488355328, .s (.sb nx 1 0 bs.length none), [(nx, .box el (byS bs))], nx + 1, True⟩
  | .s (.sb o 1 0 n none) => match ob o with
    | .box T cs => bif Nat.beq T el then some ⟨ow ∧ bs ≠ [] ∧ n = cs.length ∧ n + bs.length ≤ 140737488355328, .s (.sb nx 1 0 (n + bs.length) none), [(o, .dead), (nx, .box el (cs ++ byS bs))], nx + 1, True⟩ else none
    | _ => none
  | _ => none
def yApp (P : Program) (ob : Nat → Ob) (nx : Nat) (ow : Prop) (t t' : TypeId) (s x : SV) : Option Up := match yEl P t with
  | some el => match ySrc P ob t t' x with
    | some bs => yAppV nx ob ow el bs s
    | none => none
  | none => none
def yData (ob : Nat → Ob) (nx : Nat) (ow : Prop) : SV → Option Up
  | .s .nils => some ⟨ow, .s (.val (.pointer none)), [], nx, True⟩
  | .s (.sb o _ off n _) => match ob o with
    | .box _ _ => some ⟨ow ∧ 1 ≤ n, .s (.pb o off), [], nx, True⟩
    | _ => none
  | _ => none
def yStr (P : Program) (ob : Nat → Ob) (nx : Nat) (ow : Prop) (pt : TypeId) (n : SV) : SV → Option Up
  | .s (.val (.pointer none)) => match n with
    | .s (.int .i64 m) => some ⟨ow ∧ m = 0, .s (.str []), [], nx, True⟩
    | _ => none
  | .s (.pb o 0) => match n with
    | .s (.int .i64 m) => match ob o with
      | .box T cs => bif yRow P pt T then some ⟨ow ∧ isBy cs = true ∧ m = (cs.length : Int) ∧ 1 ≤ cs.length ∧ cs.length ≤ 140737488355328, .s (.str (unB cs)), [(o, .dead)], nx, True⟩ else none
      | _ => none
    | _ => none
  | _ => none
def yLen (P : Program) (ob : Nat → Ob) (nx : Nat) (ow : Prop) (t : TypeId) : SV → Option Up
  | .s (.sb o _ _ n _) => match ob o with
    | .box _ _ => match elT P t with
      | some _ => some ⟨ow ∧ n ≤ 140737488355328, .s (.int .i64 (n : Int)), [], nx, True⟩
      | none => none
    | _ => none
  | _ => none
def yCall (P : Program) (ob : Nat → Ob) (nx : Nat) (fr : List SV) (c : Call) : Option Up :=
  match c.callee, c.args.toList, c.argTypes.toList with
  | .builtin .append, [s, x], [t, t'] => yApp P ob nx (pkP (ev fr s) ∧ pkP (ev fr x)) t t' (pkV (ev fr s)) (pkV (ev fr x))
  | .builtin .len, [x], [t] => yLen P ob nx (pkP (ev fr x)) t (pkV (ev fr x))
  | .builtin .unsafeSliceData, [x], _ => yData ob nx (pkP (ev fr x)) (pkV (ev fr x))
  | .builtin .unsafeString, [p, n], [pt, _] => yStr P ob nx (pkP (ev fr p) ∧ pkP (ev fr n)) pt (pkV (ev fr n)) (pkV (ev fr p))
  | .value (.func g), [x], _ => bif isEsc P g then yEs ob nx (pkP (ev fr x)) (pkV (ev fr x)) else none
  | _, _, _ => none

/-- Operations beside those of stepU. -/
def stepY (P : Program) (ob : Nat → Ob) (nx : Nat) (fr : List SV) : Op → Option Up
  | .convert src dst x => yConv P ob nx (pkP (ev fr x)) src dst (pkV (ev fr x))
  | .binOp op t x y _ => yPtr P ob nx (pkP (ev fr x) ∧ pkP (ev fr y)) op t (pkV (ev fr y)) (pkV (ev fr x))
  | .call c => yCall P ob nx fr c
  | _ => none

def stepV (P : Program) (Cs : List Con) (ob : Nat → Ob) (nx : Nat) (fr : List SV) (op : Op) : Option Up := match stepU P Cs ob nx fr op with
  | some u => some u
  | none => stepY P ob nx fr op

/-! ### Maps of numbers -/
def mapI (P : Program) (t : TypeId) : Option (TypeId × TypeId) := match P.underlying t with
  | some (.map k e) => some (k, e)
  | _ => none
def zeroV (P : Program) (t : TypeId) : Option Value := match P.info? t with
  | some i => i.zero
  | none => none
def isIM1 : S1 × SV → Bool
  | (.int k _, .s (.int k' _)) => keq k .i64 && keq k' .i64
  | _ => false
def isIM : List (S1 × SV) → Bool
  | [] => true
  | x :: l => isIM1 x && isIM l
def unM1 : S1 × SV → Int × Int
  | (.int _ n, .s (.int _ m)) => (n, m)
  | _ => (0, 0)
def unM (l : List (S1 × SV)) : List (Int × Int) := l.map unM1
def mp1 (p : Int × Int) : S1 × SV := (.int .i64 p.1, .s (.int .i64 p.2))
def mpL (l : List (Int × Int)) : List (S1 × SV) := l.map mp1
def lookI : List (Int × Int) → Int → Int
  | [], _ => 0
  | p :: l, k => if k = p.1 then p.2 else lookI l k
def updI : List (Int × Int) → Int → Int → List (Int × Int)
  | [], k, v => [(k, v)]
  | p :: l, k, v => if k = p.1 then (k, v) :: l else p :: updI l k v
theorem isIM_mpL : ∀ (l : List (Int × Int)), isIM (mpL l) = true
  | [] => rfl
  | p :: l => by simp only [mpL, List.map_cons, isIM, mp1, isIM1, keq, Bool.true_and]; exact isIM_mpL l
theorem unM_mpL : ∀ (l : List (Int × Int)), unM (mpL l) = l
  | [] => rfl
  | p :: l => by
    have := unM_mpL l
    simp only [unM, mpL, List.map_cons, mp1, unM1] at this ⊢
    rw [this]
theorem mpL_inj {l m : List (Int × Int)} : mpL l = mpL m ↔ l = m := ⟨fun h => by rw [← unM_mpL l, h, unM_mpL], fun h => by rw [h]⟩
/-- Of a map's type: from numbers to numbers. -/
def yMI (P : Program) (t : TypeId) : Bool := match mapI P t with
  | some (kt, et) => (match P.underlying kt with
    | some (.int .i64) => true
    | _ => false) && (match zeroV P et with
    | some (.int .i64 0) => true
    | _ => false)
  | none => false
def yLook (P : Program) (ob : Nat → Ob) (nx : Nat) (ow : Prop) (t : TypeId) (x : SV) : SV → Option Up
  | .s (.mr o) => match x with
    | .s (.int .i64 n) => match ob o with
      | .mp es => bif yMI P t then some ⟨ow ∧ isIM es = true, .s (.int .i64 (lookI (unM es) n)), [], nx, True⟩ else none
      | _ => none
    | _ => none
  | _ => none
def yUpd (P : Program) (ob : Nat → Ob) (nx : Nat) (ow : Prop) (t : TypeId) (k x : SV) : SV → Option Up
  | .s (.mr o) => match k with
    | .s (.int .i64 n) => match x with
      | .s (.int .i64 v) => match ob o with
        | .mp es => bif yMI P t then some ⟨ow ∧ isIM es = true, .unk, [(o, .mp (mpL (updI (unM es) n v)))], nx, True⟩ else none
        | _ => none
      | _ => none
    | _ => none
  | _ => none
/-- Operations on maps. -/
def mpU (P : Program) (ob : Nat → Ob) (nx : Nat) (fr : List SV) : Op → Option Up
  | .makeMap _ none => some ⟨True, .s (.mr nx), [(nx, .mp [])], nx + 1, True⟩
  | .lookup t m x false => yLook P ob nx (pkP (ev fr m) ∧ pkP (ev fr x)) t (pkV (ev fr x)) (pkV (ev fr m))
  | .mapUpdate t m k x => yUpd P ob nx (pkP (ev fr m) ∧ pkP (ev fr k) ∧ pkP (ev fr x)) t (pkV (ev fr k)) (pkV (ev fr x)) (pkV (ev fr m))
  | .insert t m k x => yUpd P ob nx (pkP (ev fr m) ∧ pkP (ev fr k) ∧ pkP (ev fr x)) t (pkV (ev fr k)) (pkV (ev fr x)) (pkV (ev fr m))
  | _ => none

/-! ### Straight code -/
inductive It where
  | c (c : Code)
  | ops (all l : List Oper)
  | blk (id : Nat)
  | fin (J : St → Prop)
  | scp (c : Code)
  | lp (c : Code)
  /-- A round of the loop o begins. -/
  | beg (o : Nat)
  /-- A round's end, by the way in which it is left. -/
  | rnd (X : Exit → St → Prop)

def jump (id : Nat) : List It → Option (List It)
  | [] => none
  | .blk id' :: k => bif id' == id then some k else jump id k
  | .rnd _ :: _ => none
  | .beg _ :: _ => none
  | _ :: k => jump id k

def noX : Exit → St → Prop := fun _ _ => False
/-- What is owed at the end of the round. -/
def rndK : List It → Option (Exit → St → Prop)
  | [] => none
  | .rnd X :: _ => some X
  | .beg _ :: _ => some noX
  | _ :: k => rndK k

/-- Where a goto leads. -/
def gotoK (l : Nat) : List It → Option (List It)
  | [] => none
  | .scp c :: k => match findLabel c l with
    | some rest => some (.c rest :: .scp c :: k)
    | none => gotoK l k
  | .rnd _ :: _ => none
  | .beg _ :: _ => none
  | _ :: k => gotoK l k

def setD (fr : List SV) (d : Option Nat) (v : SV) : List SV :=
  match d with
  | some d => sl fr d v
  | none => fr

/-- What a guard makes of a value. -/
def gvB (want : Bool) : SV → Option Bool
  | .s (.bool b) => some (bif want then b else !b)
  | .gd g x => match gvB want x with
    | some b => some (g && b)
    | none => none
  | _ => none

/-- The guard's value. -/
def gval (all : List Oper) (fr : List SV) (j : Nat) (want : Bool) : Option Bool :=
  match all[j]? with
  | some o => match o.dst with
    | some d => gvB want (gl fr d)
    | none => none
  | none => none

def memN (n : Nat) : List Nat → Bool
  | [] => false
  | x :: l => bif x == n then true else memN n l

/-- All objects that are named. -/
def ids1 : List S1 → List Nat
  | [] => []
  | .sub o _ _ :: l => o :: ids1 l
  | .pb o _ :: l => o :: ids1 l
  | .pe o _ _ :: l => o :: ids1 l
  | .fn _ caps :: l => caps.map (·.1) ++ ids1 l
  | .yl o :: l => o :: ids1 l
  | .ifp _ o _ :: l => o :: ids1 l
  | .sb o _ _ _ _ :: l => o :: ids1 l
  | .mr o :: l => o :: ids1 l
  | .fb _ caps :: l => caps.map (·.1) ++ ids1 l
  | _ :: l => ids1 l

def idsV : SV → List Nat
  | .s x => ids1 [x]
  | .agg l => ids1 l
  | .gd _ x => idsV x
  | _ => []

def obFree : Op → Bool
  | .move _ => true
  | .assign _ => true
  | .pick _ _ _ => true
  | .unOp .. => true
  | .extract .. => true
  | .field .. => true
  | .index .. => true
  | .build .. => true
  | _ => false

def idsO (fr : List SV) : List Operand → List Nat
  | [] => []
  | x :: l => idsV (ev fr x) ++ idsO fr l

/-- The objects that an operation may look at. -/
def rdO (fr : List SV) (op : Op) : List Nat := bif obFree op then [] else idsO fr op.operands.toList

def keys' : List (Nat × Ob) → List Nat
  | [] => []
  | (o, _) :: l => o :: keys' l

/-- The lexical run of a region that draws its order; which objects each operation looks at and which it turns. -/
def runD (P : Program) (Cs : List Con) (all : List Oper) (Q : List (List Nat × List Nat) → St → Prop) : List (List Nat × List Nat) → List Oper → St → Prop
  | recs, [], st => Q recs st
  | recs, o :: l, st => match stepU P Cs (fo st.hp) st.nx st.fr o.op with
    | none => match o.guard with
      | none => match stepY P (fo st.hp) st.nx st.fr o.op with
        | none => False
        | some u => u.owe ∧ (u.gives → runD P Cs all Q (recs ++ [(rdO st.fr o.op, keys' u.ws)]) l ⟨setD st.fr o.dst u.val, uos st.hp u.ws, u.hi⟩)
      | some (j, want) => match gval all st.fr j want with
        | none => False
        | some g => g = false ∧ runD P Cs all Q (recs ++ [([], [])]) l ⟨setD st.fr o.dst .unk, st.hp, st.nx⟩
    | some u => match o.guard with
      | none => u.owe ∧ (u.gives → runD P Cs all Q (recs ++ [(rdO st.fr o.op, keys' u.ws)]) l ⟨setD st.fr o.dst u.val, uos st.hp u.ws, u.hi⟩)
      | some (j, want) => match gval all st.fr j want with
        | none => False
        | some g => match u.ws with
          | [] => (g = true → u.owe) ∧ ((g = true → u.gives) → runD P Cs all Q (recs ++ [(rdO st.fr o.op, [])]) l ⟨setD st.fr o.dst (.gd g u.val), st.hp, u.hi⟩)
          | _ => (g = true → u.owe ∧ (u.gives → runD P Cs all Q (recs ++ [(rdO st.fr o.op, keys' u.ws)]) l ⟨setD st.fr o.dst u.val, uos st.hp u.ws, u.hi⟩)) ∧
              (g = false → runD P Cs all Q (recs ++ [([], [])]) l ⟨setD st.fr o.dst .unk, st.hp, st.nx⟩)

/-- Of each operation, those that come up ahead of it in every order, as the bits of a number. -/
def ancM (tab : List Nat) : List Edge → Nat → Nat
  | [], m => m
  | e :: l, m => ancM tab l (bif Region.binds .any e then m ||| (tab.getD e.on 0 ||| 1 <<< e.on) else m)
def ancT : List Oper → List Nat → List Nat
  | [], tab => tab
  | o :: l, tab => ancT l (tab ++ [ancM tab o.after.toList 0])

def lexT : List Oper → Nat → Bool
  | [], _ => true
  | o :: l, i => o.after.toList.all (fun e => !Region.binds .any e || Nat.blt e.on i) && lexT l (i + 1)

/-- What is asked of a region that draws its order, of its text alone. -/
def staB (P : Program) (ops : Array Oper) : Bool :=
  P.follows .mixedOrders && lexT ops.toList 0 &&
    (let tab := ancT ops.toList []
     (List.range ops.size).all fun j => (List.range j).all fun i => (tab.getD j 0).testBit i || (match ops[i]?, ops[j]? with
      | some x, some y => Oper.apart ops x y
      | _, _ => true))

def disj (l m : List Nat) : Bool := l.all fun x => !m.contains x

def dynB (ops : Array Oper) (recs : List (List Nat × List Nat)) : Bool :=
  let tab := ancT ops.toList []
  (List.range ops.size).all fun j => (List.range j).all fun i => (tab.getD j 0).testBit i || (match recs[i]?, recs[j]? with
      | some (r, w), some (r', w') => disj w r' && disj w w' && disj w' r
      | _, _ => true)

/-! ### What is handed back -/
/-- The cells against the datum: what is owed, which objects are used, what is left of the cells. -/
def mt (ob : Nat → Ob) : (t : Ty) → List S1 → t.den → Option (Prop × List Nat × List S1)
  | .int k, .int k' n :: r, y => bif keq k' k then some (n = y, [], r) else none
  | .bool, .bool b :: r, y => some (b = y, [], r)
  | .str, .str s :: r, y => some (s = y, [], r)
  | .unit, r, _ => some (True, [], r)
  | .opq, .val v :: r, y => bif v.oneCell' then some (v = y, [], r) else none
  | .opq, .ro t x :: r, y => match Ty.cast t .opq x with
    | some v => some (v = y, [], r)
    | none => none
  | .pair a b, l, y => match mt ob a l y.1 with
    | some (p, u, l') => match mt ob b l' y.2 with
      | some (q, u', l'') => some (p ∧ q, u ++ u', l'')
      | none => none
    | none => none
  | .slice _ _, .nils :: r, y => some (y = [], [], r)
  | .slice z e, .sub o lo hi :: r, y => match ob o with
    | .arr false z' e' xs => match Ty.cast (.slice z' e') (.slice z e) xs with
      | some (ys : List e.den) => some ((ys.drop lo).take (hi - lo) = y, [o], r)
      | none => none
    | _ => none
  | _, _, _ => none

def mtL (ob : Nat → Ob) : (rs : List (Bool × Ty)) → List (Bool × List S1) → (tyL rs).den → Option (Prop × List Nat)
  | [], [], _ => some (True, [])
  | (b, t) :: rs, (b', l) :: ls, y => bif b == b' then (match mt ob t l y.1, mtL ob rs ls y.2 with
    | some (p, u, []), some (q, u') => some (p ∧ q, u ++ u')
    | _, _ => none) else none
  | _, _, _ => none

def nodupN : List Nat → Bool
  | [] => true
  | x :: l => (bif memN x l then false else true) && nodupN l

def compOf : SV → Option (Bool × List S1)
  | .s x => some (false, [x])
  | .agg l => some (true, l)
  | _ => none

/-- The results, out of their slots. -/
def retV (P : Program) (ob : Nat → Ob) (fr : List SV) : List ResultVar → Option (Prop × List (Bool × List S1))
  | [] => some (True, [])
  | .tmp t :: r => match compOf (gl fr t), retV P ob fr r with
    | some c, some (p, l) => some (p, c :: l)
    | _, _ => none
  | .cell t T :: r => match aggI P T with
    | some (b, n) => match sLoad ob b n (gl fr t) with
      | some (p, v) => match compOf v, retV P ob fr r with
        | some c, some (q, l) => some (p ∧ q, c :: l)
        | _, _ => none
      | none => none
    | none => none

/-- The results as data. -/
def rdL (ob : Nat → Ob) : (rs : List (Bool × Ty)) → List (Bool × List S1) → Option (tyL rs).den
  | [], [] => some ()
  | (b, t) :: rs, (b', l) :: ls => bif b == b' then (match rdS ob t l, rdL ob rs ls with
    | some (x, []), some xs => some (x, xs)
    | _, _ => none) else none
  | _, _ => none

/-- What is owed at the end, if the results may be shared. -/
def RetS (P : Program) (results : List ResultVar) (rs : List (Bool × Ty)) (y : (tyL rs).den) (st : St) : Prop :=
  match retV P (fo st.hp) st.fr results with
  | some (p, l) => match rdL (fo st.hp) rs l with
    | some y' => p ∧ (tyL rs).wf y' ∧ y' = y
    | none => False
  | none => False

def RetQ (P : Program) (results : List ResultVar) (rs : List (Bool × Ty)) (y : (tyL rs).den) (st : St) : Prop :=
  match retV P (fo st.hp) st.fr results with
  | some (p, l) => match mtL (fo st.hp) rs l y with
    | some (q, u) => p ∧ q ∧ nodupN u = true
    | none => False
  | none => False

/-- The arguments' slots, at a contract's beginning. -/
def argSV : (as : List (Bool × Ty)) → (tyL as).den → List SV
  | [], _ => []
  | (true, t) :: as, x => .agg (cellsS t x.1) :: argSV as x.2
  | (false, t) :: as, x => .s (g1 (cellsS t x.1) 0) :: argSV as x.2

def unks (n : Nat) : List SV := Nat.rec (motive := fun _ => List SV) [] (fun _ l => .unk :: l) n
theorem unks_zero : unks 0 = [] := rfl
theorem unks_succ (n : Nat) : unks (n + 1) = .unk :: unks n := rfl

def appSV (r l : List SV) : List SV := List.rec (motive := fun _ => List SV) l (fun x _ ih => x :: ih) r
theorem appSV_nil (l : List SV) : appSV [] l = l := rfl
theorem appSV_cons (x : SV) (r l : List SV) : appSV (x :: r) l = x :: appSV r l := rfl

/-- A branch. -/
def brB (t : Bool) (A B : Prop) : Prop := (t = true → A) ∧ (t = false → B)
theorem brB_true {A B : Prop} : brB true A B = A := by simp [brB]
theorem brB_false {A B : Prop} : brB false A B = B := by simp [brB]
theorem brB_split {t : Bool} {A B : Prop} : brB t A B = ((t = true → A) ∧ (t = false → B)) := rfl
/-- The test is told before the branches are looked at. -/
theorem brB_congr {t t' : Bool} {A B : Prop} (h : t = t') : brB t A B = brB t' A B := by rw [h]

/-! ### Callees that are run by their bodies -/
/-- All objects that a value names. -/
def idsT : List (Bool × List S1) → List Nat
  | [] => []
  | (_, l) :: r => ids1 l ++ idsT r

def idsA : SV → List Nat
  | .s x => ids1 [x]
  | .agg l => ids1 l
  | .tup l => idsT l
  | .gd _ x => idsA x
  | .unk => []

def idsF : List SV → List Nat
  | [] => []
  | x :: l => idsA x ++ idsF l

def ddN : List Nat → List Nat
  | [] => []
  | x :: l => bif memN x l then ddN l else x :: ddN l

def pbs : List (Nat × Nat) → List SV
  | [] => []
  | (o, f) :: l => .s (.pb o f) :: pbs l

def bodyF (fn : Func) : Option (Code × List ResultVar × Nat) := match fn.body with
  | some c => some (c, fn.results.toList, fn.ntmps)
  | none => none

def bodyI (P : Program) (g : Nat) : Option (Code × List ResultVar × Nat) := match P.funcs[g]? with
  | some fn => if fn.name = "runtime.NumGoroutine" then none else bodyF fn
  | none => none

/-- A function out of a list of functions. -/
def fnV : Value → S1
  | .func (.func g) xs ys => bif Nat.beq xs.size 0 && Nat.beq ys.size 0 then .fn g [] else .ro .opq (.func (.func g) xs ys)
  | u => .ro .opq u
def fnS : SV → SV
  | .s (.ro .opq v) => .s (fnV v)
  | x => x

/-- The callee's beginning: what is owed, its code, its results, its frame. -/
def inlU (P : Program) (inl : List Nat) (st : St) : Op → Option (Prop × Code × List ResultVar × List SV)
  | .call c => match c.callee with
    | .value f => match fnS (pkV (ev st.fr f)) with
      | .s (.fn g caps) => bif memN g inl && boxes (fo st.hp) caps then (match bodyI P g with
        | some (code, rs, nt) => bif Nat.ble (c.args.size + caps.length) nt then
            some (pkP (ev st.fr f) ∧ pkPs st.fr c.args.toList, code, rs, appSV (pkVs st.fr c.args.toList) (appSV (pbs caps) (unks (nt - (c.args.size + caps.length))))) else none
        | none => none) else none
      | _ => none
    | _ => none
  | _ => none

/-- What is owed when the callee comes back: the caller's run from there on. -/
def RetI (P : Program) (results : List ResultVar) (R : SV → List (Nat × Ob) → Nat → Prop) (st2 : St) : Prop :=
  match retV P (fo st2.hp) st2.fr results with
  | some (p, cs) => p ∧ R (resV cs) st2.hp st2.nx
  | none => False

/-- The same, of what a run rn makes of the caller. -/
def inlJ (P : Program) (rn : List Nat → (St → Prop) → List It → St → Prop) (rs : List ResultVar) (kp : List Nat) (Q : St → Prop) (k : List It) (fr : List SV) (dst : Option Nat) : St → Prop :=
  RetI P rs fun v hp nx => rn kp Q k ⟨setD fr dst v, hp, nx⟩

theorem inlJ_at {P : Program} {rn : List Nat → (St → Prop) → List It → St → Prop} {rs : List ResultVar} {kp : List Nat} {Q : St → Prop} {k : List It} {fr : List SV} {dst : Option Nat} {st2 : St} : inlJ P rn rs kp Q k fr dst st2 =
    match retV P (fo st2.hp) st2.fr rs with
    | some (p, cs) => p ∧ rn kp Q k ⟨setD fr dst (resV cs), st2.hp, st2.nx⟩
    | none => False := rfl

/-- A range over a function: what is owed, the function's code, its frame, the memory with the loop's record. -/
def rngU (P : Program) (inl : List Nat) (st : St) (g : Operand) (ps : Array Nat) (asg body : Code) : Option (Prop × Code × List SV × List (Nat × Ob)) :=
  match fnS (pkV (ev st.fr g)) with
  | .s (.fn f caps) => bif memN f inl && boxes (fo st.hp) caps then (match bodyI P f with
    | some (code, [], nt) => bif Nat.ble (1 + caps.length) nt then
        some (pkP (ev st.fr g), code, .s (.yl st.nx) :: appSV (pbs caps) (unks (nt - (1 + caps.length))), uo st.hp st.nx (.lp 0 st.fr ps.toList asg body none)) else none
    | _ => none) else none
  | _ => none

/-- What is owed when the function that was ranged over comes back. -/
def rngJ (rn : List Nat → (St → Prop) → List It → St → Prop) (kp : List Nat) (Q : St → Prop) (k : List It) (fr : List SV) (o : Nat) : St → Prop := fun st2 =>
  match fo st2.hp o with
  | .lp s _ _ _ _ none => Nat.beq s 1 = false ∧ rn kp Q k ⟨fr, uo st2.hp o .dead, st2.nx⟩
  | .lp s _ _ _ _ (some c) => Nat.beq s 1 = false ∧ rn kp Q (.c c :: k) ⟨fr, uo st2.hp o .dead, st2.nx⟩
  | _ => False

theorem rngJ_at {rn : List Nat → (St → Prop) → List It → St → Prop} {kp : List Nat} {Q : St → Prop} {k : List It} {fr : List SV} {o : Nat} {st2 : St} : rngJ rn kp Q k fr o st2 =
    match fo st2.hp o with
    | .lp s _ _ _ _ none => Nat.beq s 1 = false ∧ rn kp Q k ⟨fr, uo st2.hp o .dead, st2.nx⟩
    | .lp s _ _ _ _ (some c) => Nat.beq s 1 = false ∧ rn kp Q (.c c :: k) ⟨fr, uo st2.hp o .dead, st2.nx⟩
    | _ => False := rfl

/-- The loop's left sides take what is yielded. -/
def setPs : List SV → List Nat → List SV → List SV
  | fr, p :: ps, v :: vs => setPs (sl fr p v) ps vs
  | fr, _, _ => fr

/-- A call of yield: what is owed, the loop, the round's frame, its code. -/
def yldU (st : St) : Op → Option (Prop × Nat × List SV × Code × Code)
  | .call c => match c.callee with
    | .value f => match pkV (ev st.fr f) with
      | .s (.yl o) => match fo st.hp o with
        | .lp 0 fr ps asg body none => bif Nat.beq c.args.size ps.length then some (pkP (ev st.fr f) ∧ pkPs st.fr c.args.toList, o, setPs fr ps (pkVs st.fr c.args.toList), asg, body) else none
        | _ => none
      | _ => none
    | _ => none
  | _ => none

def noQ : St → Prop := fun _ => False

/-- The character at a place of a string, and its bytes. -/
def decV (s : List UInt8) (pos : Nat) : Nat × Nat := Utf8.decode ⟨s.toArray⟩ pos

/-- A step of a walk through a string: what is owed, the walk, the string, the place. -/
def itU (st : St) : Op → Option (Prop × Nat × List UInt8 × Nat)
  | .next x true => match pkV (ev st.fr x) with
    | .s (.yl o) => match fo st.hp o with
      | .it s pos => some (pkP (ev st.fr x), o, s, pos)
      | _ => none
    | _ => none
  | _ => none

/-- What is owed at a round's end: the loop's function goes on. -/
def rndX (rn : List Nat → (St → Prop) → List It → St → Prop) (kp : List Nat) (Q : St → Prop) (k : List It) (fr : List SV) (dst : Option Nat) (o : Nat) : Exit → St → Prop := fun e st2 =>
  match fo st2.hp o with
  | .lp 1 fr' ps asg body none => match e with
    | .normal => rn kp Q k ⟨setD fr dst (.s (.bool true)), uo st2.hp o (.lp 0 fr' ps asg body none), st2.nx⟩
    | .ret => rn kp Q k ⟨setD fr dst (.s (.bool false)), uo st2.hp o (.lp 2 fr' ps asg body (some .ret)), st2.nx⟩
    | .exit id => rn kp Q k ⟨setD fr dst (.s (.bool false)), uo st2.hp o (.lp 2 fr' ps asg body (some (.exit id))), st2.nx⟩
    | .goto t => rn kp Q k ⟨setD fr dst (.s (.bool false)), uo st2.hp o (.lp 2 fr' ps asg body (some (.goto t))), st2.nx⟩
    | _ => False
  | _ => False

theorem rndX_at {rn : List Nat → (St → Prop) → List It → St → Prop} {kp : List Nat} {Q : St → Prop} {k : List It} {fr : List SV} {dst : Option Nat} {o : Nat} {e : Exit} {st2 : St} : rndX rn kp Q k fr dst o e st2 =
    match fo st2.hp o with
    | .lp 1 fr' ps asg body none => match e with
      | .normal => rn kp Q k ⟨setD fr dst (.s (.bool true)), uo st2.hp o (.lp 0 fr' ps asg body none), st2.nx⟩
      | .ret => rn kp Q k ⟨setD fr dst (.s (.bool false)), uo st2.hp o (.lp 2 fr' ps asg body (some .ret)), st2.nx⟩
      | .exit id => rn kp Q k ⟨setD fr dst (.s (.bool false)), uo st2.hp o (.lp 2 fr' ps asg body (some (.exit id))), st2.nx⟩
      | .goto t => rn kp Q k ⟨setD fr dst (.s (.bool false)), uo st2.hp o (.lp 2 fr' ps asg body (some (.goto t))), st2.nx⟩
      | _ => False
    | _ => False := rfl

/-- The symbolic run. stp: regions to stop at; inl: functions that are run by their bodies; unr: are loops unrolled; K: what is owed where the run stops. -/
def run (P : Program) (Cs : List Con) (stp inl : List Nat) (unr : Bool) (K : List Nat → (St → Prop) → List It → St → Prop) : Nat → List Nat → (St → Prop) → List It → St → Prop
  | 0, kp, Q, k, st => K kp Q k st
  | _ + 1, _, Q, [], st => Q st
  | n + 1, kp, Q, .blk _ :: k, st => run P Cs stp inl unr K n kp Q k st
  | n + 1, kp, Q, .scp _ :: k, st => run P Cs stp inl unr K n kp Q k st
  | n + 1, kp, Q, .lp c :: k, st => run P Cs stp inl unr K n kp Q (.c c :: .lp c :: k) st
  | _ + 1, _, _, .fin J :: _, st => J st
  | _ + 1, _, _, .rnd X :: _, st => X .normal st
  | n + 1, kp, Q, .beg o :: k, st => match fo st.hp o with
    | .lp 0 fr ps asg body none => run P Cs stp inl unr K n kp Q k ⟨st.fr, uo st.hp o (.lp 1 fr ps asg body none), st.nx⟩
    | _ => False
  | n + 1, kp, Q, .ops _ [] :: k, st => run P Cs stp inl unr K n kp Q k st
  | n + 1, kp, Q, .ops all (o :: l) :: k, st => match stepV P Cs (fo st.hp) st.nx st.fr o.op with
    | none => match inlU P inl st o.op with
      | none => match yldU st o.op with
        | none => match o.guard with
          | none => match itU st o.op with
            | none => match mpU P (fo st.hp) st.nx st.fr o.op with
              | none => K kp Q (.ops all (o :: l) :: k) st
              | some u => u.owe ∧ run P Cs stp inl unr K n kp Q (.ops all l :: k) ⟨setD st.fr o.dst u.val, uos st.hp u.ws, u.hi⟩
            | some (pre, lo, s, pos) => pre ∧ brB (decide (pos < s.length))
              (run P Cs stp inl unr K n kp Q (.ops all l :: k) ⟨setD st.fr o.dst (.tup [(false, [.bool true]), (false, [.int .i64 (pos : Int)]), (false, [.int .i32 ((decV s pos).1 : Int)])]), uo st.hp lo (.it s (pos + (decV s pos).2)), st.nx⟩)
              (run P Cs stp inl unr K n kp Q (.ops all l :: k) ⟨setD st.fr o.dst (.tup [(false, [.bool false])]), st.hp, st.nx⟩)
          | some (j, want) => match gval all st.fr j want with
            | none => K kp Q (.ops all (o :: l) :: k) st
            | some g => match mpU P (fo st.hp) st.nx st.fr o.op with
              | none => brB g (K kp Q (.ops all (o :: l) :: k) st) (run P Cs stp inl unr K n kp Q (.ops all l :: k) ⟨setD st.fr o.dst .unk, st.hp, st.nx⟩)
              | some u => match u.ws with
                | [] => (g = true → u.owe) ∧ run P Cs stp inl unr K n kp Q (.ops all l :: k) ⟨setD st.fr o.dst (.gd g u.val), st.hp, u.hi⟩
                | _ => brB g (u.owe ∧ run P Cs stp inl unr K n kp Q (.ops all l :: k) ⟨setD st.fr o.dst u.val, uos st.hp u.ws, u.hi⟩) (run P Cs stp inl unr K n kp Q (.ops all l :: k) ⟨setD st.fr o.dst .unk, st.hp, st.nx⟩)
        | some (pre, lo, fr', asg, body) => match o.guard with
          | none => pre ∧ run P Cs stp inl unr K n (ddN (lo :: (idsF st.fr ++ kp))) noQ [.c asg, .beg lo, .c body, .rnd (rndX (run P Cs stp inl unr K n) kp Q (.ops all l :: k) st.fr o.dst lo)] ⟨fr', st.hp, st.nx⟩
          | some (j, want) => match gval all st.fr j want with
            | none => False
            | some g => brB g (pre ∧ run P Cs stp inl unr K n (ddN (lo :: (idsF st.fr ++ kp))) noQ [.c asg, .beg lo, .c body, .rnd (rndX (run P Cs stp inl unr K n) kp Q (.ops all l :: k) st.fr o.dst lo)] ⟨fr', st.hp, st.nx⟩)
                (run P Cs stp inl unr K n kp Q (.ops all l :: k) ⟨setD st.fr o.dst .unk, st.hp, st.nx⟩)
      | some (pre, code, rs, fr') => match o.guard with
        | none => pre ∧ run P Cs stp inl unr K n (ddN (idsF st.fr ++ kp)) (inlJ P (run P Cs stp inl unr K n) rs kp Q (.ops all l :: k) st.fr o.dst) [.c code] ⟨fr', st.hp, st.nx⟩
        | some (j, want) => match gval all st.fr j want with
          | none => False
          | some g => brB g (pre ∧ run P Cs stp inl unr K n (ddN (idsF st.fr ++ kp)) (inlJ P (run P Cs stp inl unr K n) rs kp Q (.ops all l :: k) st.fr o.dst) [.c code] ⟨fr', st.hp, st.nx⟩)
              (run P Cs stp inl unr K n kp Q (.ops all l :: k) ⟨setD st.fr o.dst .unk, st.hp, st.nx⟩)
    | some u => match o.guard with
      | none => u.owe ∧ (u.gives → run P Cs stp inl unr K n kp Q (.ops all l :: k) ⟨setD st.fr o.dst u.val, uos st.hp u.ws, u.hi⟩)
      | some (j, want) => match gval all st.fr j want with
        | none => False
        | some g => match u.ws, Nat.beq u.hi st.nx with
          | [], true => (g = true → u.owe) ∧ ((g = true → u.gives) → run P Cs stp inl unr K n kp Q (.ops all l :: k) ⟨setD st.fr o.dst (.gd g u.val), st.hp, u.hi⟩)
          | _, _ => brB g (u.owe ∧ (u.gives → run P Cs stp inl unr K n kp Q (.ops all l :: k) ⟨setD st.fr o.dst u.val, uos st.hp u.ws, u.hi⟩))
              (run P Cs stp inl unr K n kp Q (.ops all l :: k) ⟨setD st.fr o.dst .unk, st.hp, st.nx⟩)
  | n + 1, kp, Q, .c c :: k, st => match c with
    | .seq x y => run P Cs stp inl unr K n kp Q (.c x :: .c y :: k) st
    | .skip => run P Cs stp inl unr K n kp Q k st
    | .label _ => run P Cs stp inl unr K n kp Q k st
    | .block id x => run P Cs stp inl unr K n kp Q (.c x :: .blk id :: k) st
    | .scope x => run P Cs stp inl unr K n kp Q (.c x :: .scp x :: k) st
    | .loop x => match unr with
      | true => run P Cs stp inl unr K n kp Q (.c x :: .lp x :: k) st
      | false => K kp Q (.c (.loop x) :: k) st
    | .exit id => match jump id k with
      | some k' => run P Cs stp inl unr K n kp Q k' st
      | none => match rndK k with
        | some X => X (.exit id) st
        | none => False
    | .goto l => match gotoK l k with
      | some k' => run P Cs stp inl unr K n kp Q k' st
      | none => match rndK k with
        | some X => X (.goto l) st
        | none => False
    | .ret => match rndK k with
      | some X => X .ret st
      | none => Q st
    | .rangeFunc g ps asg body => match rngU P inl st g ps asg body with
      | none => K kp Q (.c (.rangeFunc g ps asg body) :: k) st
      | some (pre, code, fr', hp') => pre ∧ run P Cs stp inl unr K n (ddN (st.nx :: (idsF st.fr ++ kp))) (rngJ (run P Cs stp inl unr K n) kp Q k st.fr st.nx) [.c code] ⟨fr', hp', st.nx + 1⟩
    | .cond x a b => match pkV (ev st.fr x) with
      | .s (.bool t) => pkP (ev st.fr x) ∧ brB t (run P Cs stp inl unr K n kp Q (.c a :: k) st) (run P Cs stp inl unr K n kp Q (.c b :: k) st)
      | .s (.mb t f) => pkP (ev st.fr x) ∧ (t = true → run P Cs stp inl unr K n kp Q (.c a :: k) st) ∧ (f = true → run P Cs stp inl unr K n kp Q (.c b :: k) st)
      | _ => False
    | .region id ops false => match memN id stp with
      | true => K kp Q (.c (.region id ops false) :: k) st
      | false => run P Cs stp inl unr K n kp Q (.ops ops.toList ops.toList :: k) st
    | .region id ops true => match memN id stp with
      | true => K kp Q (.c (.region id ops true) :: k) st
      | false => staB P ops = true ∧ runD P Cs ops.toList (fun recs st' => dynB ops recs = true ∧ run P Cs stp inl unr K n kp Q k st') [] ops.toList st
    | x => K kp Q (.c x :: k) st

end
end Go.Proofs.YtaoplfeohffbiaaGreatDoor.Sx

/-! What a symbolic step says of the machine's operation: operations that only compute. -/
namespace Go.Proofs.YtaoplfeohffbiaaGreatDoor.Sx
set_option linter.unusedSimpArgs false
set_option linter.unusedVariables false
set_option linter.unusedSectionVars false
noncomputable section

theorem has_iff (k : IntKind) (n : Int) : k.has n ↔ inB k n = true := by
  cases k <;> simp [IntKind.has, IntKind.min, IntKind.max, IntKind.signed, IntKind.bits, inB]

theorem has_wrap (k : IntKind) (n : Int) : k.has (wr k n) := by
  cases k <;> simp only [IntKind.has, IntKind.min, IntKind.max, IntKind.signed, IntKind.bits, wr, IntKind.wrap] <;> simp <;> (try split) <;> omega

theorem wr_id {k : IntKind} {n : Int} (h : k.has n) : wr k n = n := by
  revert h
  cases k <;> simp only [IntKind.has, IntKind.min, IntKind.max, IntKind.signed, IntKind.bits, wr, IntKind.wrap] <;> simp <;> (try split) <;> omega

theorem keq_eq {k k' : IntKind} (h : keq k k' = true) : k = k' := by
  cases k <;> cases k' <;> simp [keq] at h <;> rfl

theorem cond_t {α : Type} {b : Bool} {x : α} {y : α} (hb : b = true) : (bif b then x else y) = x := by rw [hb]; rfl

theorem of1_ok (E : Env) (w : World) (v : Value) : S1ok E w (of1 v) v := by
  cases v with
  | int k n =>
    simp only [of1]
    cases h : inB k n
    · exact rfl
    · exact ⟨rfl, (has_iff k n).2 h⟩
  | slice a n c =>
    simp only [of1]
    unfold ofSl
    split <;> exact rfl
  | string s =>
    simp only [of1]
    cases h : decide (s.data.toList.length ≤ 140737488355328)
    · exact rfl
    · exact ⟨rfl, of_decide_eq_true h⟩
  | _ => exact rfl

theorem ofVal_ok (E : Env) (w : World) (v : Value) : SVok E w (ofVal v) v := by
  unfold ofVal
  split
  · rename_i cs
    refine ⟨cs.toList, rfl, by simp, ?_⟩
    intro i x u h1 h2
    rw [List.getElem?_map, h2] at h1
    cases h1
    exact of1_ok E w u
  · trivial
  · exact of1_ok E w _

theorem ev_ok {E : Env} {w : World} {fr : List SV} {a : Act} (h : ∀ i, SVok E w (gl fr i) (a.tmps.getD i undef)) (x : Operand) : SVok E w (ev fr x) (a.eval x) := by
  cases x with
  | tmp t => exact h t
  | const v => exact ofVal_ok E w v
  | global g => exact rfl
  | func f =>
    refine ⟨[], rfl, rfl, ?_⟩
    intro i o off h
    simp at h

theorem pk_ok {E : Env} {w : World} {x : SV} {v : Value} (r : SVok E w x v) (h : pkP x) : SVok E w (pkV x) v := by
  induction x with
  | gd g x ih => exact ih (r.1 h.1) h.2
  | unk => exact r
  | s x => exact r
  | agg l => exact r
  | tup l => exact r

/-- What is owed to whoever goes on behind a step. -/
def Land (P : Program) (G : Ctx) (E : Env) (w : World) (hp : List (Nat × Ob)) (nx : Nat) (o : Oper) (a : Act) (u : Up) : Prop :=
  ∀ (K : Act → World → Prop) (B : Exit → Act → World → Prop),
    (∀ v w' E', Mem G E' w' → Evo E E' w w' → (∀ i, E'.ob i = fo (uos hp u.ws) i) → (∀ i, E'.born i → E.born i ∨ (nx ≤ i ∧ i < u.hi)) →
      SVok E' w' u.val v → u.gives → K (a.put o.dst v) w') → o.wp P a w K B

structure Pre (P : Program) (G : Ctx) (E : Env) (w : World) (hp : List (Nat × Ob)) (fr : List SV) (a : Act) : Prop where
  mem : Mem G E w
  ob : ∀ i, E.ob i = fo hp i
  fr : ∀ i, SVok E w (gl fr i) (a.tmps.getD i undef)

theorem Pre.ev {P : Program} {G : Ctx} {E : Env} {w : World} {hp : List (Nat × Ob)} {fr : List SV} {a : Act} (h : Pre P G E w hp fr a) (x : Operand) : SVok E w (ev fr x) (a.eval x) := ev_ok h.fr x

theorem Pre.pk {P : Program} {G : Ctx} {E : Env} {w : World} {hp : List (Nat × Ob)} {fr : List SV} {a : Act} (h : Pre P G E w hp fr a) {x : Operand} (hp : pkP (Sx.ev fr x)) : SVok E w (pkV (Sx.ev fr x)) (a.eval x) := pk_ok (h.ev x) hp

/-- A step that leaves a value and the world as it was. -/
theorem land_val {P : Program} {G : Ctx} {E : Env} {w : World} {hp : List (Nat × Ob)} {nx : Nat} {o : Oper} {fr : List SV} {a : Act} {u : Up} {v : Value} (h : Pre P G E w hp fr a)
    (hr : (execOp a.eval o).run P w = .ok (.value v) w) (hv : SVok E w u.val v) (hw : u.ws = []) (hg : u.gives) : Land P G E w hp nx o a u := by
  intro K B hK
  unfold Oper.wp
  rw [hr, Oper.upon_value]
  exact hK v w E h.mem Evo.rfl' (fun i => by rw [hw]; exact h.ob i) (fun i hi => .inl hi) hv hg

section
variable {P : Program} {G : Ctx} {E : Env} {w : World} {hp : List (Nat × Ob)} {nx : Nat} {fr : List SV} {a : Act}
variable {d : Option Tmp} {ty : TypeId} {pos : String} {af : Array Edge} {gd : Option (Nat × Bool)}

theorem land_move (h : Pre P G E w hp fr a) (x : Operand) : Land P G E w hp nx ⟨d, .move x, ty, pos, af, gd⟩ a ⟨True, ev fr x, [], nx, True⟩ :=
  land_val h (v := a.eval x) rfl (h.ev x) rfl trivial

theorem land_assign (h : Pre P G E w hp fr a) (x : Operand) : Land P G E w hp nx ⟨d, .assign x, ty, pos, af, gd⟩ a ⟨True, ev fr x, [], nx, True⟩ :=
  land_val h (v := a.eval x) rfl (h.ev x) rfl trivial

theorem sPick_ok {E : Env} {w : World} {c : Bool} {x y r : SV} {vx vy : Value} (hs : sPick c x y = some r) (hx : c = true → SVok E w x vx) (hy : c = false → SVok E w y vy) :
    SVok E w r (if c then vx else vy) := by
  unfold sPick at hs
  split at hs
  · rename_i r' h0
    cases hs
    unfold sPick0 at h0
    split at h0
    · cases h0
      cases c
      · exact hy rfl
      · exact hx rfl
    · rename_i k p k' q
      cases hk : keq k k' <;> rw [hk] at h0 <;> simp at h0
      have := keq_eq hk
      subst this
      subst h0
      cases c
      · exact hy rfl
      · exact hx rfl
    · cases h0
  · cases c
    · cases hs; exact hy rfl
    · cases hs; exact hx rfl

theorem land_pick (h : Pre P G E w hp fr a) (c x y : Operand) {cb : Bool} {r : SV} (hc : pkV (ev fr c) = .s (.bool cb)) (hs : sPick cb (pkV (ev fr x)) (pkV (ev fr y)) = some r)
    (howe : pkP (ev fr c) ∧ oPick cb (ev fr x) (ev fr y)) : Land P G E w hp nx ⟨d, .pick c x y, ty, pos, af, gd⟩ a ⟨pkP (ev fr c) ∧ oPick cb (ev fr x) (ev fr y), r, [], nx, True⟩ := by
  have h1 := h.pk howe.1
  rw [hc] at h1
  have h2 : a.eval c = .bool cb := h1
  refine land_val h (v := if cb then a.eval x else a.eval y) ?_ ?_ rfl trivial
  · show (execOp a.eval ⟨d, .pick c x y, ty, pos, af, gd⟩).run P w = _
    simp only [execOp, h2]
    rfl
  · exact sPick_ok hs (fun hcb => pk_ok (h.ev x) (howe.2.1 hcb)) (fun hcb => pk_ok (h.ev y) (howe.2.2 hcb))

theorem tmod_le {x y : Int} (h0 : 0 ≤ x) : x.tmod y ≤ x := by
  have h1 := Int.tmod_add_mul_tdiv x y
  have h3 : 0 ≤ y * x.tdiv y := by
    rcases Int.le_total 0 y with hy1 | hy1
    · exact Int.mul_nonneg hy1 (Int.tdiv_nonneg h0 hy1)
    · exact Int.mul_nonneg_of_nonpos_of_nonpos hy1 (Int.tdiv_nonpos_of_nonneg_of_nonpos h0 hy1)
  omega

theorem has_tmod {k : IntKind} {x y : Int} (hx : k.has x) : k.has (x.tmod y) := by
  rcases Int.le_total 0 x with h0 | h0
  · have e1 := Int.tmod_nonneg y h0
    have e2 := tmod_le (y := y) h0
    unfold IntKind.has at *
    cases k <;> simp [IntKind.min, IntKind.max, IntKind.signed, IntKind.bits] at * <;> omega
  · have e1 := Int.tmod_nonneg y (show 0 ≤ -x by omega)
    have e2 := tmod_le (y := y) (show 0 ≤ -x by omega)
    rw [Int.neg_tmod] at e1 e2
    unfold IntKind.has at *
    cases k <;> simp [IntKind.min, IntKind.max, IntKind.signed, IntKind.bits] at * <;> omega

theorem bv_and (n : Nat) (x y : Int) : (BitVec.ofInt n x &&& BitVec.ofInt n y).toNat = (x % ((2 ^ n : Nat) : Int)).toNat &&& (y % ((2 ^ n : Nat) : Int)).toNat := by simp [BitVec.toNat_ofInt]
theorem bv_or (n : Nat) (x y : Int) : (BitVec.ofInt n x ||| BitVec.ofInt n y).toNat = (x % ((2 ^ n : Nat) : Int)).toNat ||| (y % ((2 ^ n : Nat) : Int)).toNat := by simp [BitVec.toNat_ofInt]
theorem bv_xor (n : Nat) (x y : Int) : (BitVec.ofInt n x ^^^ BitVec.ofInt n y).toNat = (x % ((2 ^ n : Nat) : Int)).toNat ^^^ (y % ((2 ^ n : Nat) : Int)).toNat := by simp [BitVec.toNat_ofInt]
theorem bv_andNot (n : Nat) (x y : Int) : (BitVec.ofInt n x &&& ~~~BitVec.ofInt n y).toNat = (x % ((2 ^ n : Nat) : Int)).toNat &&& (2 ^ n - 1 - (y % ((2 ^ n : Nat) : Int)).toNat) := by simp [BitVec.toNat_ofInt]

theorem has_fdiv {k : IntKind} {x : Int} (hx : k.has x) (m : Nat) : k.has (x.fdiv ((2 ^ m : Nat) : Int)) := by
  have h1 : (1 : Int) ≤ ((2 ^ m : Nat) : Int) := by have := Nat.one_le_two_pow (n := m); omega
  generalize ((2 ^ m : Nat) : Int) = d at h1 ⊢
  rw [Int.fdiv_eq_ediv_of_nonneg _ (by omega)]
  have hub : ∀ M : Int, 0 ≤ M → x ≤ M → x / d ≤ M := fun M h0 h => by
    rcases Int.le_total 0 x with hx0 | hx0
    · exact Int.le_trans (Int.ediv_le_self d hx0) h
    · exact Int.le_trans (Int.ediv_le_ediv (by omega) hx0) (by simpa using h0)
  have hlb : ∀ M : Int, M ≤ 0 → M ≤ x → M ≤ x / d := fun M h0 h => by
    refine (Int.le_ediv_iff_mul_le (by omega)).2 (Int.le_trans ?_ h)
    have := Int.mul_le_mul_of_nonpos_left h0 h1
    simpa using this
  unfold IntKind.has at *
  cases k <;> simp only [IntKind.min, IntKind.max, IntKind.signed, IntKind.bits] at * <;> exact ⟨hlb _ (by decide) hx.1, hub _ (by decide) hx.2⟩

theorem land_sh (h : Pre P G E w hp fr a) (op : BinOp) (t t' : TypeId) (x y : Operand) {k k' : IntKind} {p q : Int} {r : S1} {ow pr : Prop} (hx : SVok E w (.s (.int k p)) (a.eval x))
    (hy : SVok E w (.s (.int k' q)) (a.eval y)) (hs : sShI k p q op = some (pr, r)) (howe : pr) : Land P G E w hp nx ⟨d, .binOp op t x y t', ty, pos, af, gd⟩ a ⟨ow, .s r, [], nx, True⟩ := by
  obtain ⟨e1, b1⟩ := hx
  obtain ⟨e2, b2⟩ := hy
  cases op <;> simp only [sShI, reduceCtorEq, Option.some.injEq, Prod.mk.injEq] at hs
  all_goals (try (obtain ⟨rfl, rfl⟩ := hs))
  all_goals (try exact hs.elim)
  all_goals have h0 : ¬ q < 0 := by omega
  case shl => exact land_val h (v := .int k (wr k (p * ((2 ^ (min q.toNat k.bits) : Nat) : Int)))) (by simp [execOp, e1, e2, eqGuard, binOp, Op.shift, h0]; rfl) ⟨rfl, has_wrap _ _⟩ rfl trivial
  case shr => exact land_val h (v := .int k (p.fdiv ((2 ^ (min q.toNat k.bits) : Nat) : Int))) (by simp [execOp, e1, e2, eqGuard, binOp, Op.shift, h0]) ⟨rfl, has_fdiv b1 _⟩ rfl trivial

theorem land_binI (h : Pre P G E w hp fr a) (op : BinOp) (t t' : TypeId) (x y : Operand) {k : IntKind} {p q : Int} {r : S1} {ow pr : Prop} (hx : SVok E w (.s (.int k p)) (a.eval x))
    (hy : SVok E w (.s (.int k q)) (a.eval y)) (hs : sBinI k p q op = some (pr, r)) (howe : pr) : Land P G E w hp nx ⟨d, .binOp op t x y t', ty, pos, af, gd⟩ a ⟨ow, .s r, [], nx, True⟩ := by
  obtain ⟨e1, b1⟩ := hx
  obtain ⟨e2, b2⟩ := hy
  cases op <;> simp only [sBinI, reduceCtorEq, Option.some.injEq, Prod.mk.injEq] at hs
  all_goals (try (obtain ⟨rfl, rfl⟩ := hs))
  all_goals (try exact hs.elim)
  case add => exact land_val h (v := .int k (wr k (p + q))) (by simp [execOp, e1, e2, eqGuard, binOp, Op.intArith]; rfl) ⟨rfl, has_wrap _ _⟩ rfl trivial
  case sub => exact land_val h (v := .int k (wr k (p - q))) (by simp [execOp, e1, e2, eqGuard, binOp, Op.intArith]; rfl) ⟨rfl, has_wrap _ _⟩ rfl trivial
  case mul => exact land_val h (v := .int k (wr k (p * q))) (by simp [execOp, e1, e2, eqGuard, binOp, Op.intArith]; rfl) ⟨rfl, has_wrap _ _⟩ rfl trivial
  case quo => exact land_val h (v := .int k (wr k (p.tdiv q))) (by simp [execOp, e1, e2, eqGuard, binOp, Op.intDiv, howe]; rfl) ⟨rfl, has_wrap _ _⟩ rfl trivial
  case rem => exact land_val h (v := .int k (p.tmod q)) (by simp [execOp, e1, e2, eqGuard, binOp, Op.intDiv, howe]) ⟨rfl, has_tmod b1⟩ rfl trivial
  case eql => exact land_val h (v := .bool (decide (p = q))) (by simp [execOp, e1, e2, eqGuard, binOp, Op.intCmp]; rfl) rfl rfl trivial
  case neq => exact land_val h (v := .bool (!decide (p = q))) (by simp [execOp, e1, e2, eqGuard, binOp, Op.intCmp]; rfl) rfl rfl trivial
  case lss => exact land_val h (v := .bool (decide (p < q))) (by simp [execOp, e1, e2, eqGuard, binOp, Op.intCmp]) rfl rfl trivial
  case leq => exact land_val h (v := .bool (decide (p ≤ q))) (by simp [execOp, e1, e2, eqGuard, binOp, Op.intCmp]) rfl rfl trivial
  case gtr => exact land_val h (v := .bool (decide (q < p))) (by simp [execOp, e1, e2, eqGuard, binOp, Op.intCmp]) rfl rfl trivial
  case geq => exact land_val h (v := .bool (decide (q ≤ p))) (by simp [execOp, e1, e2, eqGuard, binOp, Op.intCmp]) rfl rfl trivial
  case and => exact land_val h (v := .int k (wr k ((ub k p &&& ub k q : Nat) : Int))) (by simp only [ub, ← bv_and]; simp [execOp, e1, e2, eqGuard, binOp, Op.intBits]; rfl) ⟨rfl, has_wrap _ _⟩ rfl trivial
  case or => exact land_val h (v := .int k (wr k ((ub k p ||| ub k q : Nat) : Int))) (by simp only [ub, ← bv_or]; simp [execOp, e1, e2, eqGuard, binOp, Op.intBits]; rfl) ⟨rfl, has_wrap _ _⟩ rfl trivial
  case xor => exact land_val h (v := .int k (wr k ((ub k p ^^^ ub k q : Nat) : Int))) (by simp only [ub, ← bv_xor]; simp [execOp, e1, e2, eqGuard, binOp, Op.intBits]; rfl) ⟨rfl, has_wrap _ _⟩ rfl trivial
  case andNot => exact land_val h (v := .int k (wr k ((ub k p &&& (2 ^ k.bits - 1 - ub k q) : Nat) : Int))) (by simp only [ub, ← bv_andNot]; simp [execOp, e1, e2, eqGuard, binOp, Op.intBits]; rfl) ⟨rfl, has_wrap _ _⟩ rfl trivial

theorem data_toList (l : List UInt8) : (ByteArray.mk l.toArray).toList = l := by
  rw [ByteArray.toList_eq]

theorem land_binS (h : Pre P G E w hp fr a) (op : BinOp) (t t' : TypeId) (x y : Operand) {p q : List UInt8} {r : S1} {ow pr : Prop} (hx : SVok E w (.s (.str p)) (a.eval x))
    (hy : SVok E w (.s (.str q)) (a.eval y)) (hs : sBinS p q op = some (pr, r)) (howe : pr) : Land P G E w hp nx ⟨d, .binOp op t x y t', ty, pos, af, gd⟩ a ⟨ow, .s r, [], nx, True⟩ := by
  obtain ⟨e1, b1⟩ := hx
  obtain ⟨e2, b2⟩ := hy
  have beq : (p == q) = decide (p = q) := by rw [Bool.eq_iff_iff]; simp
  cases op <;> simp only [sBinS, reduceCtorEq, Option.some.injEq, Prod.mk.injEq] at hs
  all_goals (try (obtain ⟨rfl, rfl⟩ := hs))
  all_goals (try exact hs.elim)
  case add =>
    refine land_val h (v := .string ⟨(p ++ q).toArray⟩) ?_ ⟨rfl, by simpa using howe⟩ rfl trivial
    have h1 := run_string_add_sum (P := P) w (ByteArray.mk p.toArray) (ByteArray.mk q.toArray) (by show p.toArray.size + q.toArray.size ≤ _; simp; omega)
    have h2 : (ByteArray.mk p.toArray) ++ (ByteArray.mk q.toArray) = ByteArray.mk (p ++ q).toArray := by
      apply ByteArray.ext
      simp [ByteArray.data_append]
    rw [h2] at h1
    simp [execOp, e1, e2, eqGuard, binOp_string_add, h1]
  case eql => exact land_val h (v := .bool (decide (p = q))) (by simp [execOp, e1, e2, eqGuard, binOp, Op.stringOp, beq]) rfl rfl trivial
  case neq => exact land_val h (v := .bool (!decide (p = q))) (by simp [execOp, e1, e2, eqGuard, binOp, Op.stringOp, beq]) rfl rfl trivial
  case lss => exact land_val h (v := .bool (Op.bytesLess p q)) (by simp [execOp, e1, e2, eqGuard, binOp, Op.stringOp]) rfl rfl trivial
  case leq => exact land_val h (v := .bool (Op.bytesLess p q || decide (p = q))) (by simp [execOp, e1, e2, eqGuard, binOp, Op.stringOp, beq]) rfl rfl trivial
  case gtr => exact land_val h (v := .bool (!(Op.bytesLess p q || decide (p = q)))) (by simp [execOp, e1, e2, eqGuard, binOp, Op.stringOp, beq]) rfl rfl trivial
  case geq => exact land_val h (v := .bool (!Op.bytesLess p q)) (by simp [execOp, e1, e2, eqGuard, binOp, Op.stringOp]) rfl rfl trivial

theorem land_binB (h : Pre P G E w hp fr a) (op : BinOp) (t t' : TypeId) (x y : Operand) {p q : Bool} {ow : Prop} (hx : SVok E w (.s (.bool p)) (a.eval x))
    (hy : SVok E w (.s (.bool q)) (a.eval y)) (hb : isBool P t = true) {r : Bool} (hop : (op = .eql ∧ r = (p == q)) ∨ (op = .neq ∧ r = !(p == q))) :
    Land P G E w hp nx ⟨d, .binOp op t x y t', ty, pos, af, gd⟩ a ⟨ow, .s (.bool r), [], nx, True⟩ := by
  have e1 : a.eval x = .bool p := hx
  have e2 : a.eval y = .bool q := hy
  have ht : P.underlying t = some .bool := by
    unfold isBool at hb
    split at hb
    · assumption
    · cases hb
  rcases hop with ⟨rfl, rfl⟩ | ⟨rfl, rfl⟩
  · exact land_val h (v := .bool (p == q)) (by simp [execOp, e1, e2, eqGuard, run_eql_bool, ht]) rfl rfl trivial
  · exact land_val h (v := .bool (!(p == q))) (by simp [execOp, e1, e2, eqGuard, run_neq_bool, ht]) rfl rfl trivial

/-! ### Structs held against one another -/
theorem run_part1 {t : TypeId} {kd : TypeDesc} (hu : P.underlying t = some kd) (hk : (∃ k, kd = .int k) ∨ kd = .bool ∨ kd = .string) {cs : Array Value} {i : Nat} {v : Value} (hv : cs[i]? = some v) (w' : World) : (part t cs i).run P w' = .ok v w' := by
  rcases hk with ⟨k, rfl⟩ | rfl | rfl <;> simp [part, isAgg, run_underlying hu, hv]

theorem drop_s1 {l : List S1} {i : Nat} {x : S1} {r : List S1} (h : l.drop i = x :: r) : l[i]? = some x ∧ l.drop (i + 1) = r := by
  constructor
  · have : (l.drop i)[0]? = some x := by rw [h]; rfl
    rwa [List.getElem?_drop, Nat.add_zero] at this
  · rw [← List.drop_drop, h]; rfl

theorem s1_cell {l : List S1} {xs : Array Value} (hx : S1sok E w l xs.toList) {i : Nat} {x : S1} (h : l[i]? = some x) : ∃ v, xs[i]? = some v ∧ S1ok E w x v := by
  have hi : i < xs.toList.length := by rw [hx.1]; exact (List.getElem?_eq_some_iff.1 h).1
  have hv : xs.toList[i]? = some xs.toList[i] := List.getElem?_eq_getElem hi
  exact ⟨_, by rw [← Array.getElem?_toList]; exact hv, hx.2 i x _ h hv⟩

theorem eqC1_some {a : Bool} {o : Option Bool} {b : Bool} (h : eqC1 a o = some b) : ∃ c, o = some c ∧ b = (a && c) := by
  cases o with
  | none => cases h
  | some c => cases h; exact ⟨c, rfl, rfl⟩

theorem eqF_ok (d : Nat) {l m : List S1} {xs ys : Array Value} (hx : S1sok E w l xs.toList) (hy : S1sok E w m ys.toList) :
    ∀ (fs : List Field) (i : Nat) (ks : List Nat) (b : Bool), flatF P fs i = some ks → eqC ks (l.drop i) (m.drop i) = some b → ∀ w', (Op.eqFields (d + 1) xs ys fs).run P w' = .ok b w'
  | [], i, ks, b, hf, hb, w' => by
    cases hf
    generalize l.drop i = l' at hb
    generalize m.drop i = m' at hb
    match l', m', hb with
    | [], [], hb => cases hb; simp [Op.eqFields]
  | f :: fs, i, ks, b, hf, hb, w' => by
    have fin : ∀ (va vb : Value) (e c : Bool), f.name ≠ "_" → (part f.type xs f.offset).run P w' = .ok va w' → (part f.type ys f.offset).run P w' = .ok vb w' → (Op.equalIn (d + 1) f.type va vb).run P w' = .ok e w' → (Op.eqFields (d + 1) xs ys fs).run P w' = .ok c w' →
        (Op.eqFields (d + 1) xs ys (f :: fs)).run P w' = .ok (e && c) w' := by
      intro va vb e c h0 h1 h2 h3 h4
      simp only [Op.eqFields, if_pos h0, Sem.run_bind, h1, h2, h3, Result.andThen_ok]
      cases e
      · simp
      · simp [h4]
    unfold flatF at hf
    split at hf
    · rename_i k inf ks' hu hi hks
      split at hf
      · rename_i hc
        cases hf
        obtain ⟨h0, h1, h2⟩ := hc
        generalize hl : l.drop i = l' at hb
        generalize hm : m.drop i = m' at hb
        match l', m', hb with
        | .int k1 x :: l', .int k2 y :: m', hb =>
          simp only [eqC] at hb
          cases hk : keq k1 k2 <;> rw [hk] at hb <;> simp only [cond_true, cond_false] at hb
          · cases hb
          have := keq_eq hk
          subst this
          obtain ⟨c, hc, rfl⟩ := eqC1_some hb
          obtain ⟨a1, a2⟩ := drop_s1 hl
          obtain ⟨b1, b2⟩ := drop_s1 hm
          obtain ⟨va, va1, va2, _⟩ := s1_cell hx a1
          obtain ⟨vb, vb1, vb2, _⟩ := s1_cell hy b1
          subst va2 vb2
          rw [← h1] at va1 vb1
          refine fin _ _ _ _ h0 (run_part1 hu (.inl ⟨_, rfl⟩) va1 w') (run_part1 hu (.inl ⟨_, rfl⟩) vb1 w') ?_ (eqF_ok d hx hy fs (i + 1) ks' c hks (by rw [a2, b2]; exact hc) w')
          rw [run_equalIn_int (h := hu)]
          congr 1
      · cases hf
    · rename_i inf ks' hu hi hks
      split at hf
      · rename_i hc
        cases hf
        obtain ⟨h0, h1, h2⟩ := hc
        generalize hl : l.drop i = l' at hb
        generalize hm : m.drop i = m' at hb
        match l', m', hb with
        | .bool x :: l', .bool y :: m', hb =>
          simp only [eqC] at hb
          obtain ⟨c, hc, rfl⟩ := eqC1_some hb
          obtain ⟨a1, a2⟩ := drop_s1 hl
          obtain ⟨b1, b2⟩ := drop_s1 hm
          obtain ⟨va, va1, va2⟩ := s1_cell hx a1
          obtain ⟨vb, vb1, vb2⟩ := s1_cell hy b1
          have va2 : va = .bool x := va2
          have vb2 : vb = .bool y := vb2
          subst va2 vb2
          rw [← h1] at va1 vb1
          exact fin _ _ _ _ h0 (run_part1 hu (.inr (.inl rfl)) va1 w') (run_part1 hu (.inr (.inl rfl)) vb1 w') (run_equalIn_bool' (h := hu) ..) (eqF_ok d hx hy fs (i + 1) ks' c hks (by rw [a2, b2]; exact hc) w')
      · cases hf
    · rename_i inf ks' hu hi hks
      split at hf
      · rename_i hc
        cases hf
        obtain ⟨h0, h1, h2⟩ := hc
        generalize hl : l.drop i = l' at hb
        generalize hm : m.drop i = m' at hb
        match l', m', hb with
        | .str x :: l', .str y :: m', hb =>
          simp only [eqC] at hb
          obtain ⟨c, hc, rfl⟩ := eqC1_some hb
          obtain ⟨a1, a2⟩ := drop_s1 hl
          obtain ⟨b1, b2⟩ := drop_s1 hm
          obtain ⟨va, va1, va2, _⟩ := s1_cell hx a1
          obtain ⟨vb, vb1, vb2, _⟩ := s1_cell hy b1
          subst va2 vb2
          rw [← h1] at va1 vb1
          refine fin _ _ _ _ h0 (run_part1 hu (.inr (.inr rfl)) va1 w') (run_part1 hu (.inr (.inr rfl)) vb1 w') ?_ (eqF_ok d hx hy fs (i + 1) ks' c hks (by rw [a2, b2]; exact hc) w')
          rw [run_equalIn_string (h := hu)]
          congr 1
          rw [ByteArray.toList_eq, ByteArray.toList_eq]
          rw [Bool.eq_iff_iff]
          simp
      · cases hf
    · cases hf

theorem land_binA (h : Pre P G E w hp fr a) (op : BinOp) (t t' : TypeId) (x y : Operand) {l m : List S1} {ow : Prop} (hx : SVok E w (.agg l) (a.eval x))
    (hy : SVok E w (.agg m) (a.eval y)) {ks : List Nat} (hI : flatI P t = some ks) {b r : Bool} (hb : eqC ks l m = some b) (hop : (op = .eql ∧ r = b) ∨ (op = .neq ∧ r = !b)) :
    Land P G E w hp nx ⟨d, .binOp op t x y t', ty, pos, af, gd⟩ a ⟨ow, .s (.bool r), [], nx, True⟩ := by
  obtain ⟨xs, e1, hxs⟩ := hx
  obtain ⟨ys, e2, hys⟩ := hy
  unfold flatI at hI
  split at hI
  · rename_i fs hu
    split at hI
    · rename_i hc
      have hfs : P.fieldsOf t = fs := by simp [Program.fieldsOf, hu]
      have heq : (Op.equalIn 10000 t (.agg xs.toArray) (.agg ys.toArray)).run P w = .ok b w := by
        rw [run_equalIn_struct w 9999 t _ _ (by rw [hfs]; exact hu) hc.1, hfs]
        exact eqF_ok 9998 (xs := xs.toArray) (ys := ys.toArray) (by simpa using hxs) (by simpa using hys) fs.toList 0 ks b hI (by simpa using hb) w
      rcases hop with ⟨rfl, rfl⟩ | ⟨rfl, rfl⟩
      · exact land_val h (v := .bool r) (by simp [execOp, e1, e2, run_eqGuard_agg (hm := hc.2), run_eql_struct, heq]) rfl rfl trivial
      · exact land_val h (v := .bool (!b)) (by simp [execOp, e1, e2, run_eqGuard_agg (hm := hc.2), run_neq_struct, heq]) rfl rfl trivial
    · cases hI
  · cases hI

theorem land_un (h : Pre P G E w hp fr a) (op : UnOp) (t : TypeId) (x : Operand) {X : SV} {r : S1} {ow : Prop} (hx : SVok E w X (a.eval x)) (hs : sUn op X = some r) :
    Land P G E w hp nx ⟨d, .unOp op t x, ty, pos, af, gd⟩ a ⟨ow, .s r, [], nx, True⟩ := by
  unfold sUn at hs
  split at hs
  · rename_i b
    have e1 : a.eval x = .bool b := hx
    cases op <;> simp at hs
    subst hs
    exact land_val h (v := .bool (!b)) (by simp [execOp, e1, Op.unary]) rfl rfl trivial
  · rename_i tt ff
    obtain ⟨b, e1, h1, h2⟩ := hx
    cases op <;> simp at hs
    subst hs
    exact land_val h (v := .bool (!b)) (by simp [execOp, e1, Op.unary]) ⟨!b, rfl, fun e => h2 (by simpa using e), fun e => h1 (by simpa using e)⟩ rfl trivial
  · rename_i k n
    obtain ⟨e1, b1⟩ := hx
    cases op <;> simp at hs
    · subst hs
      exact land_val h (v := .int k (wr k (-n))) (by simp [execOp, e1, Op.unary, Op.intArith]; rfl) ⟨rfl, has_wrap _ _⟩ rfl trivial
    · subst hs
      exact land_val h (v := .int k (wr k ((ub k (allI k) ^^^ ub k n : Nat) : Int))) (by simp only [ub, allI, ← bv_xor]; simp [execOp, e1, Op.unary, Op.intBits]; rfl) ⟨rfl, has_wrap _ _⟩ rfl trivial
  · cases hs

end
end
end Go.Proofs.YtaoplfeohffbiaaGreatDoor.Sx

/-! Cells as data and back. -/
namespace Go.Proofs.YtaoplfeohffbiaaGreatDoor.Sx
set_option linter.unusedSimpArgs false
set_option linter.unusedVariables false
set_option linter.unusedSectionVars false
noncomputable section

theorem S1sok.nil {E : Env} {w : World} : S1sok E w [] [] := ⟨rfl, fun i x v h => by simp at h⟩

theorem S1sok.cons {E : Env} {w : World} {x : S1} {v : Value} {l : List S1} {vs : List Value} (h : S1ok E w x v) (r : S1sok E w l vs) : S1sok E w (x :: l) (v :: vs) := by
  refine ⟨by simp [r.1], fun i y u h1 h2 => ?_⟩
  cases i with
  | zero => simp at h1 h2; subst h1; subst h2; exact h
  | succ i => exact r.2 i y u (by simpa using h1) (by simpa using h2)

theorem S1sok.one {E : Env} {w : World} {x : S1} {v : Value} (h : S1ok E w x v) : S1sok E w [x] [v] := .cons h .nil

theorem S1sok.uncons {E : Env} {w : World} {x : S1} {l : List S1} {vs : List Value} (r : S1sok E w (x :: l) vs) : ∃ v us, vs = v :: us ∧ S1ok E w x v ∧ S1sok E w l us := by
  obtain ⟨h1, h2⟩ := r
  cases vs with
  | nil => simp at h1
  | cons v us =>
    refine ⟨v, us, rfl, h2 0 x v rfl rfl, by simpa using h1, fun i y u a b => h2 (i + 1) y u (by simpa using a) (by simpa using b)⟩

theorem S1sok.nil_inv {E : Env} {w : World} {vs : List Value} (r : S1sok E w [] vs) : vs = [] := List.eq_nil_of_length_eq_zero r.1

theorem S1sok.append {E : Env} {w : World} {l l' : List S1} {vs vs' : List Value} (h : S1sok E w l vs) (h' : S1sok E w l' vs') : S1sok E w (l ++ l') (vs ++ vs') := by
  induction l generalizing vs with
  | nil => rw [h.nil_inv]; exact h'
  | cons x l ih =>
    obtain ⟨v, us, rfl, h1, h2⟩ := h.uncons
    exact .cons h1 (ih h2)

theorem S1sok.split {E : Env} {w : World} {l l' : List S1} {vs : List Value} (h : S1sok E w (l ++ l') vs) : ∃ us us', vs = us ++ us' ∧ S1sok E w l us ∧ S1sok E w l' us' := by
  induction l generalizing vs with
  | nil => exact ⟨[], vs, rfl, .nil, h⟩
  | cons x l ih =>
    obtain ⟨v, us, rfl, h1, h2⟩ := S1sok.uncons h
    obtain ⟨u1, u2, rfl, h3, h4⟩ := ih h2
    exact ⟨v :: u1, u2, rfl, .cons h1 h3, h4⟩

theorem drop1_eq (l : List S1) (n : Nat) : drop1 l n = l.drop n := by
  induction l generalizing n with
  | nil => cases n <;> simp [drop1]
  | cons x l ih => cases n with
    | zero => simp [drop1]
    | succ n => simp [drop1, ih]

theorem take1_eq (l : List S1) (n : Nat) : take1 l n = l.take n := by
  induction l generalizing n with
  | nil => cases n <;> simp [take1]
  | cons x l ih => cases n with
    | zero => simp [take1]
    | succ n => simp [take1, ih]

theorem g1_eq (l : List S1) (n : Nat) (h : n < l.length) : l[n]? = some (g1 l n) := by
  induction l generalizing n with
  | nil => simp at h
  | cons x l ih => cases n with
    | zero => rfl
    | succ n => simpa [g1] using ih n (by simpa using h)

theorem S1sok.drop {E : Env} {w : World} {l : List S1} {vs : List Value} (h : S1sok E w l vs) (n : Nat) : S1sok E w (l.drop n) (vs.drop n) := by
  induction l generalizing vs n with
  | nil => rw [h.nil_inv]; simpa using S1sok.nil
  | cons x l ih =>
    obtain ⟨v, us, rfl, h1, h2⟩ := h.uncons
    cases n with
    | zero => exact .cons h1 h2
    | succ n => simpa using ih h2 n

theorem S1sok.take {E : Env} {w : World} {l : List S1} {vs : List Value} (h : S1sok E w l vs) (n : Nat) : S1sok E w (l.take n) (vs.take n) := by
  induction l generalizing vs n with
  | nil => rw [h.nil_inv]; simpa using S1sok.nil
  | cons x l ih =>
    obtain ⟨v, us, rfl, h1, h2⟩ := h.uncons
    cases n with
    | zero => simpa using S1sok.nil
    | succ n => simpa using S1sok.cons h1 (ih h2 n)

theorem cellsS_ok {E : Env} {w : World} : ∀ (t : Ty) (us : List Value) (x : t.den), Rd E.owned w t us x → S1sok E w (cellsS t x) us
  | .int _, us, _, r => by obtain ⟨rfl, r2⟩ := r; exact .one ⟨rfl, r2⟩
  | .bool, us, _, r => by have e : us = _ := r; rw [e]; exact .one rfl
  | .str, us, _, r => by obtain ⟨rfl, r2⟩ := r; exact .one ⟨rfl, r2⟩
  | .unit, us, _, r => by have e : us = _ := r; rw [e]; exact .nil
  | .opq, us, _, r => by obtain ⟨rfl, r2⟩ := r; exact .one ⟨rfl, r2⟩
  | .pair a b, us, x, r => by
    obtain ⟨v1, v2, rfl, r1, r2⟩ := r
    exact (cellsS_ok a v1 _ r1).append (cellsS_ok b v2 _ r2)
  | .slice z e, us, xs, r => by
    have hl := Rd.len (.slice z e) us xs r
    match us, hl with
    | [v], _ => exact .one r

theorem cellsS_len : ∀ (t : Ty) (x : t.den), (cellsS t x).length = t.n
  | .int _, _ => rfl
  | .bool, _ => rfl
  | .str, _ => rfl
  | .unit, _ => rfl
  | .opq, _ => rfl
  | .pair a b, x => by simp [cellsS, cellsS_len a, cellsS_len b, Ty.n]
  | .slice _ _, _ => rfl

theorem cast_some {t t' : Ty} {x : t.den} {y : t'.den} (h : Ty.cast t t' x = some y) : ∃ e : t = t', e ▸ x = y := by
  unfold Ty.cast at h
  split at h
  · rename_i e; exact ⟨e, by simpa using h⟩
  · cases h

theorem cell_of {w : World} {b i : Nat} {vs : Array Value} {T : TypeId} {fz : Nat × Nat} {u : Value} (h : w.heap[b]? = some (.cells vs T fz)) (hu : vs.toList[i]? = some u) : w.cell? ⟨b, i, none⟩ = some u := by
  unfold World.cell?
  simp only [h]
  simpa using hu

/-- An owned slice reads as its list. -/
theorem sub_rd {E : Env} {w : World} {S' : Nat → Prop} (hS : ∀ b, S' b → E.owned b) {o lo hi : Nat} {v : Value} {fz : Bool} {z : Nat} {e : Ty} {xs : List e.den}
    (hob : E.ob o = .arr fz z e xs) (hm : ObOk E w o (.arr fz z e xs)) (h : S1ok E w (.sub o lo hi) v) (hI : ∀ b f, E.loc o = some (b, f) → ¬ S' b) :
    Rd S' w (.slice z e) [v] ((xs.drop lo).take (hi - lo)) := by
  obtain ⟨_, h⟩ := h
  rw [hob] at h
  obtain ⟨h1, h2, h3⟩ := h
  obtain ⟨hz, hm⟩ := hm
  have hlen : ((xs.drop lo).take (hi - lo)).length = hi - lo := by simp; omega
  refine ⟨?_, ?_⟩
  · rw [hlen]
    exact Nat.le_trans (Nat.mul_le_mul_right z (by omega)) hz
  · cases hloc : E.loc o with
    | none =>
      rw [hloc] at h3
      obtain ⟨rfl, rfl⟩ := h3
      refine .inl ⟨none, 0, rfl, ?_⟩
      simp
    | some p =>
      obtain ⟨b, off⟩ := p
      rw [hloc] at h3 hm
      rcases h3 with ⟨c, cs, T, fzz, rfl, hc, hh, hcap⟩ | ⟨hle, q, rfl⟩
      case inr => exact .inl ⟨q, 0, rfl, by have : hi - lo = 0 := by omega
                                            rw [this]; simp⟩
      obtain ⟨vs, T', fzz', hh', _, hsz, hx⟩ := hm
      rw [hh] at hh'
      cases hh'
      by_cases hne : hi = lo
      · subst hne
        refine .inl ⟨some ⟨b, off + hi * e.n, none⟩, c, by simp, by simp⟩
      · refine .inr ⟨b, off + lo * e.n, c, by rw [hlen], by rw [hlen]; omega, ?_, hI b off hloc, ?_, fun i hi' => ?_⟩
        · intro h0
          rw [h0] at hlen
          simp at hlen
          omega
        · rcases Nat.lt_or_ge b w.heap.size with h' | h'
          · exact h'
          · simp [Array.getElem?_eq_none h'] at hh
        · have hi2 : lo + i < xs.length := by rw [hlen] at hi'; omega
          have hr := hx (lo + i) hi2
          have e1 : ((xs.drop lo).take (hi - lo))[i] = xs[lo + i] := by simp
          rw [e1]
          refine ⟨_, Rd.len _ _ _ hr, fun j u hj => ?_, Rd.mono (Nat.le_refl _) (fun b' hb' hS' => ⟨rfl, fun hS'' => hS' (hS b' hS'')⟩) _ _ _ hr⟩
          have hj' : j < e.n := by
            have := List.getElem?_eq_some_iff.1 hj
            obtain ⟨hlt, _⟩ := this
            simp at hlt
            omega
          rw [List.getElem?_take_of_lt hj', List.getElem?_drop] at hj
          have e2 : off + lo * e.n + i * e.n + j = off + (lo + i) * e.n + j := by rw [Nat.add_mul]; omega
          rw [e2]
          exact cell_of hh hj

theorem rdS_ok {E : Env} {w : World} {hp : List (Nat × Ob)} (hob : ∀ i, E.ob i = fo hp i) (hm : ∀ o, E.born o → ObOk E w o (E.ob o)) {S' : Nat → Prop} (hS : ∀ b, S' b → E.owned b) :
    ∀ (t : Ty) (l : List S1) (x : t.den) (r : List S1) (vs : List Value), rdS (fo hp) t l = some (x, r) → (∀ o, o ∈ ids l → isA (E.ob o) = true → ∀ b f, E.loc o = some (b, f) → ¬ S' b) → S1sok E w l vs →
      ∃ us rest l1, vs = us ++ rest ∧ Rd S' w t us x ∧ S1sok E w r rest ∧ l = l1 ++ r := by
  have mono : ∀ (t : Ty) (us : List Value) (x : t.den), Rd E.owned w t us x → Rd S' w t us x := fun t us x => Rd.mono (Nat.le_refl _) (fun b' hb' hS' => ⟨rfl, fun hS'' => hS' (hS b' hS'')⟩) t us x
  have idsr : ∀ l1 r : List S1, ∀ o, o ∈ ids r → o ∈ ids (l1 ++ r) := by
    intro l1 r o ho
    induction l1 with
    | nil => exact ho
    | cons x l1 ih => cases x <;> simp [ids, ih]
  intro t
  induction t with
  | int k =>
    intro l x r vs h hI hl
    match l, h with
    | .int k' n :: r', h =>
      simp only [rdS] at h
      cases hk : keq k' k <;> rw [hk] at h <;> simp at h
      obtain ⟨rfl, rfl⟩ := h
      obtain ⟨v, us, rfl, h1, h2⟩ := hl.uncons
      have := keq_eq hk
      subst this
      exact ⟨[v], us, [_], rfl, ⟨by rw [h1.1], h1.2⟩, h2, rfl⟩
  | bool =>
    intro l x r vs h hI hl
    match l, h with
    | .bool b :: r', h =>
      simp only [rdS, Option.some.injEq, Prod.mk.injEq] at h
      obtain ⟨rfl, rfl⟩ := h
      obtain ⟨v, us, rfl, h1, h2⟩ := hl.uncons
      exact ⟨[v], us, [_], rfl, by rw [show v = _ from h1]; rfl, h2, rfl⟩
  | str =>
    intro l x r vs h hI hl
    match l, h with
    | .str s :: r', h =>
      simp only [rdS, Option.some.injEq, Prod.mk.injEq] at h
      obtain ⟨rfl, rfl⟩ := h
      obtain ⟨v, us, rfl, h1, h2⟩ := hl.uncons
      exact ⟨[v], us, [_], rfl, ⟨by rw [h1.1], h1.2⟩, h2, rfl⟩
  | unit =>
    intro l x r vs h hI hl
    simp only [rdS, Option.some.injEq, Prod.mk.injEq] at h
    obtain ⟨_, rfl⟩ := h
    exact ⟨[], vs, [], rfl, rfl, hl, rfl⟩
  | opq =>
    intro l x r vs h hI hl
    match l, h with
    | .val u :: r', h =>
      simp only [rdS] at h
      cases hk : u.oneCell' <;> rw [hk] at h <;> simp at h
      obtain ⟨rfl, rfl⟩ := h
      obtain ⟨v, us, rfl, h1, h2⟩ := hl.uncons
      exact ⟨[v], us, [_], rfl, ⟨by rw [show v = _ from h1], hk⟩, h2, rfl⟩
    | .ro t' y :: r', h =>
      simp only [rdS] at h
      split at h
      · rename_i z hz
        obtain ⟨e, rfl⟩ := cast_some hz
        subst e
        simp only [Option.some.injEq, Prod.mk.injEq] at h
        obtain ⟨rfl, rfl⟩ := h
        obtain ⟨v, us, rfl, h1, h2⟩ := hl.uncons
        exact ⟨[v], us, [_], rfl, h1, h2, rfl⟩
      · cases h
    | .fn f [] :: r', h =>
      simp only [rdS, Option.some.injEq, Prod.mk.injEq] at h
      obtain ⟨rfl, rfl⟩ := h
      obtain ⟨v, us, rfl, ⟨cs, h1, h0, _⟩, h2⟩ := hl.uncons
      obtain rfl := List.eq_nil_of_length_eq_zero h0
      exact ⟨[v], us, [_], rfl, ⟨by rw [h1], rfl⟩, h2, rfl⟩
  | pair a b iha ihb =>
    intro l x r vs h hI hl
    simp only [rdS] at h
    split at h
    · rename_i y l' hy
      split at h
      · rename_i y2 l'' hy2
        simp only [Option.some.injEq, Prod.mk.injEq] at h
        obtain ⟨rfl, rfl⟩ := h
        obtain ⟨us, rest, l1, rfl, r1, s1, rfl⟩ := iha l y l' vs hy hI hl
        obtain ⟨us2, rest2, l2, rfl, r2, s2, rfl⟩ := ihb l' y2 l'' rest hy2 (fun o ho => hI o (idsr l1 _ o ho)) s1
        exact ⟨us ++ us2, rest2, l1 ++ l2, by simp, ⟨us, us2, rfl, r1, r2⟩, s2, by simp⟩
      · cases h
    · cases h
  | slice z e ih =>
    intro l x r vs h hI hl
    match l, h with
    | .ro t' y :: r', h =>
      simp only [rdS] at h
      split at h
      · rename_i y' hy
        obtain ⟨e', rfl⟩ := cast_some hy
        subst e'
        simp only [Option.some.injEq, Prod.mk.injEq] at h
        obtain ⟨rfl, rfl⟩ := h
        obtain ⟨v, us, rfl, h1, h2⟩ := hl.uncons
        exact ⟨[v], us, [_], rfl, mono _ _ _ h1, h2, rfl⟩
      · cases h
    | .nils :: r', h =>
      simp only [rdS, Option.some.injEq, Prod.mk.injEq] at h
      obtain ⟨rfl, rfl⟩ := h
      obtain ⟨v, us, rfl, h1, h2⟩ := hl.uncons
      exact ⟨[v], us, [_], rfl, ⟨by simp, .inl ⟨none, 0, by rw [show v = _ from h1], rfl⟩⟩, h2, rfl⟩
    | .sub o lo hi :: r', h =>
      simp only [rdS] at h
      split at h
      · rename_i fz z' e' xs ho
        split at h
        · rename_i ys hy
          obtain ⟨e2, rfl⟩ := cast_some hy
          cases e2
          simp only [Option.some.injEq, Prod.mk.injEq] at h
          obtain ⟨rfl, rfl⟩ := h
          obtain ⟨v, us, rfl, h1, h2⟩ := hl.uncons
          have ho' : E.ob o = .arr fz z e xs := (hob o).trans ho
          have hmo := hm o h1.1
          rw [ho'] at hmo
          exact ⟨[v], us, [_], rfl, sub_rd hS ho' hmo h1 (hI o (by simp [ids]) (by rw [ho']; rfl)), h2, rfl⟩
        · cases h
      · cases h

end
end Go.Proofs.YtaoplfeohffbiaaGreatDoor.Sx

/-! Steps that turn the memory: new objects, frozen and used-up ones, stores. -/
namespace Go.Proofs.YtaoplfeohffbiaaGreatDoor.Sx
set_option linter.unusedSimpArgs false
set_option linter.unusedVariables false
set_option linter.unusedSectionVars false
noncomputable section

theorem fo_uo (l : List (Nat × Ob)) (o : Nat) (y : Ob) (i : Nat) : fo (uo l o y) i = if i = o then y else fo l i := by
  induction l with
  | nil =>
    simp only [uo_nil, uo_cons, fo_nil, fo_cons]
    by_cases h : o = i
    · subst h; simp
    · have : (o == i) = false := by simpa using h
      simp [this, Ne.symm h]
  | cons p l ih =>
    obtain ⟨j, x⟩ := p
    simp only [uo_nil, uo_cons]
    by_cases hj : j = o
    · subst hj
      simp only [beq_self_eq_true, cond_true, fo_nil, fo_cons]
      by_cases h : j = i
      · subst h; simp
      · have : (j == i) = false := by simpa using h
        simp [this, Ne.symm h]
    · have h1 : (j == o) = false := by simpa using hj
      simp only [h1, cond_false, fo_nil, fo_cons, ih]
      by_cases h : j = i
      · subst h; simp [hj]
      · have : (j == i) = false := by simpa using h
        simp [this]

theorem uos_append (l ws ws' : List (Nat × Ob)) : uos l (ws ++ ws') = uos (uos l ws) ws' := by
  induction ws generalizing l with
  | nil => rfl
  | cons p ws ih => obtain ⟨o, y⟩ := p; simp [uos, ih]

/-- An object turned or new. -/
def Env.set (E : Env) (i : Nat) (x : Ob) (l : Option (Nat × Nat)) : Env :=
  { ob := fun j => if j = i then x else E.ob j, loc := fun j => if j = i then l else E.loc j, born := fun j => E.born j ∨ j = i, bad := E.bad }

theorem set_ob_ne (E : Env) {i j : Nat} (x : Ob) (l : Option (Nat × Nat)) (h : j ≠ i) : (E.set i x l).ob j = E.ob j := by simp [Env.set, h]
theorem set_loc_ne (E : Env) {i j : Nat} (x : Ob) (l : Option (Nat × Nat)) (h : j ≠ i) : (E.set i x l).loc j = E.loc j := by simp [Env.set, h]
theorem set_ob (E : Env) (i : Nat) (x : Ob) (l : Option (Nat × Nat)) : (E.set i x l).ob i = x := by simp [Env.set]
theorem set_loc (E : Env) (i : Nat) (x : Ob) (l : Option (Nat × Nat)) : (E.set i x l).loc i = l := by simp [Env.set]

theorem lt_of_row {w : World} {b : Nat} {vs : Array Value} {T : TypeId} {fz : Nat × Nat} (h : w.heap[b]? = some (.cells vs T fz)) : b < w.heap.size := by
  rcases Nat.lt_or_ge b w.heap.size with h' | h'
  · exact h'
  · simp [Array.getElem?_eq_none h'] at h

theorem lt_of_obj {w : World} {b : Nat} {x : Obj} (h : w.heap[b]? = some x) : b < w.heap.size := by
  rcases Nat.lt_or_ge b w.heap.size with h' | h'
  · exact h'
  · simp [Array.getElem?_eq_none h'] at h

/-- Where a live object lies there is a block. -/
theorem Mem.lt {G : Ctx} {E : Env} {w : World} (m : Mem G E w) {o b f : Nat} (hd : E.ob o ≠ .dead) (hl : E.loc o = some (b, f)) : b < w.heap.size := by
  have hb : E.born o := by
    rcases Classical.em (E.born o) with h | h
    · exact h
    · exact absurd (m.unb o h) hd
  have h := m.hp o hb
  cases ho : E.ob o with
  | dead => exact absurd ho hd
  | box Tb cs =>
    rw [ho] at h
    obtain ⟨b', vs, T, h1, h2, _⟩ := h
    rw [hl] at h1
    cases h1
    exact lt_of_row h2
  | arr fz z e xs =>
    rw [ho] at h
    obtain ⟨_, h⟩ := h
    rw [hl] at h
    obtain ⟨vs, T, fzz, h1, _⟩ := h
    exact lt_of_row h1
  | lp s fr ps a b' pd =>
    rw [ho] at h
    obtain ⟨b', r, h1, h2, _⟩ := h
    rw [hl] at h1
    cases h1
    exact lt_of_obj h2
  | it s2 p2 =>
    rw [ho] at h
    obtain ⟨b', h1, h2, _⟩ := h
    rw [hl] at h1
    cases h1
    exact lt_of_obj h2
  | mp es2 =>
    rw [ho] at h
    obtain ⟨b', _, _, h1, h2, _⟩ := h
    rw [hl] at h1
    cases h1
    exact lt_of_obj h2

theorem Mem.born_of {G : Ctx} {E : Env} {w : World} (m : Mem G E w) {o : Nat} (hd : E.ob o ≠ .dead) : E.born o := by
  rcases Classical.em (E.born o) with h | h
  · exact h
  · exact absurd (m.unb o h) hd

theorem mut_ne {x : Ob} (h : x.mut = true) : x ≠ .dead := by intro h'; rw [h'] at h; cases h

/-- What the listed variables hold, they hold behind every step. -/
theorem Mem.gw {G : Ctx} {E : Env} {w : World} (m : Mem G E w) : GW w ∧ ∀ b ∈ GB, ¬ E.owned b := by
  refine ⟨GW.stay (fun b hb => m.old b (GW.lt m.gl.1 b hb) (m.gl.2 b hb).1) m.gl.1, fun b hb ho => ?_⟩
  rcases ho with ho | ⟨o, off, h1, h2⟩
  · exact (m.gl.2 b hb).2 (by rw [← m.bd]; exact ho)
  · rcases m.new o b off (mut_ne h1) h2 with h | h
    · have := GW.lt m.gl.1 b hb
      omega
    · exact (m.gl.2 b hb).1 h

theorem heap_alloc_ne (w : World) (o : Obj) (b : Nat) (h : b < w.heap.size) : (w.alloc o).heap[b]? = w.heap[b]? := RowKit.Below.heap_alloc w o b h
theorem heap_alloc_at (w : World) (o : Obj) : (w.alloc o).heap[w.heap.size]? = some o := by
  show (w.heap.push o)[w.heap.size]? = _
  simp

/-- A new object in a new block, whose world is w' (w with the block laid). -/
theorem evo_new {G : Ctx} {E : Env} {w : World} (m : Mem G E w) {i : Nat} (hi : ¬ E.born i) (x : Ob) (o : Obj) :
    Evo E (E.set i x (some (w.heap.size, 0))) w (w.alloc o) where
  born j hj := .inl hj
  keep j hj := by
    have hne : j ≠ i := fun e => hi (e ▸ hj)
    rw [set_ob_ne _ _ _ hne, set_loc_ne _ _ _ hne]
    cases hx : E.ob j with
    | dead => exact .inl rfl
    | box Tb cs => exact .inr ⟨rfl, rfl⟩
    | arr fz z e xs => exact .inr ⟨⟨rfl, rfl, rfl⟩, rfl⟩
    | lp s fr ps a b pd => exact .inr ⟨trivial, rfl⟩
    | it s2 p2 => exact .inr ⟨trivial, rfl⟩
    | mp es2 => exact .inr ⟨trivial, rfl⟩
  own b hb ho := by
    rcases ho with ho | ⟨j, f, h1, h2⟩
    · exact .inl ho
    by_cases hj : j = i
    · subst hj
      rw [set_loc] at h2
      cases h2
      omega
    · rw [set_ob_ne _ _ _ hj] at h1
      rw [set_loc_ne _ _ _ hj] at h2
      exact .inr ⟨j, f, h1, h2⟩
  mem b hb _ := heap_alloc_ne w o b hb
  blk b cs T fz h := ⟨cs, fz, (heap_alloc_ne w o b (lt_of_row h)).trans h, rfl⟩
  size := by
    show w.heap.size ≤ (w.heap.push o).size
    simp
  bad := rfl
  oth b y h := by rw [heap_alloc_ne w o b (lt_of_obj h), h]; exact OthK.same

theorem mem_newO {G : Ctx} {E : Env} {w : World} (m : Mem G E w) {i : Nat} (hi : ¬ E.born i) (x : Ob) (ob : Obj)
    (hok : ObOk (E.set i x (some (w.heap.size, 0))) (w.alloc ob) i x) : Mem G (E.set i x (some (w.heap.size, 0))) (w.alloc ob) := by
  have hev := evo_new m hi x ob
  refine m.step hev (fun j => j = i) (fun j hb hne => ?_) (fun j hj => by subst hj; rw [set_ob]; exact hok) (fun j hb => ?_) (fun o o' b f f' h1 h2 h3 h4 => ?_) (fun o b f h1 h2 => ?_) rfl rfl rfl (fun b hb _ => ?_)
  · have hb' : E.born j := hb.resolve_right hne
    refine ⟨hb', set_ob_ne _ _ _ hne, set_loc_ne _ _ _ hne, fun b f hd hl => heap_alloc_ne w _ b (m.lt hd hl)⟩
  · have hne : j ≠ i := fun e => hb (.inr e)
    rw [set_ob_ne _ _ _ hne]
    exact m.unb j fun h => hb (.inl h)
  · by_cases e1 : o = i <;> by_cases e2 : o' = i
    · omega
    · subst e1
      rw [set_loc] at h3
      rw [set_loc_ne _ _ _ e2] at h4
      rw [set_ob_ne _ _ _ e2] at h2
      cases h3
      have := m.lt h2 h4
      omega
    · subst e2
      rw [set_loc] at h4
      rw [set_loc_ne _ _ _ e1] at h3
      rw [set_ob_ne _ _ _ e1] at h1
      cases h4
      have := m.lt h1 h3
      omega
    · rw [set_loc_ne _ _ _ e1] at h3
      rw [set_loc_ne _ _ _ e2] at h4
      rw [set_ob_ne _ _ _ e1] at h1
      rw [set_ob_ne _ _ _ e2] at h2
      exact m.sep o o' b f f' h1 h2 h3 h4
  · by_cases e1 : o = i
    · subst e1
      rw [set_loc] at h2
      cases h2
      exact .inl m.size
    · rw [set_ob_ne _ _ _ e1] at h1
      rw [set_loc_ne _ _ _ e1] at h2
      exact m.new o b f h1 h2
  · exact heap_alloc_ne w _ b (Nat.lt_of_lt_of_le hb m.size)

theorem mem_new {G : Ctx} {E : Env} {w : World} (m : Mem G E w) {i : Nat} (hi : ¬ E.born i) (x : Ob) (vs : Array Value) (T : TypeId)
    (hok : ObOk (E.set i x (some (w.heap.size, 0))) (w.alloc (.cells vs T)) i x) : Mem G (E.set i x (some (w.heap.size, 0))) (w.alloc (.cells vs T)) := mem_newO m hi x _ hok

/-- Objects that are written no more, or looked at no more. -/
structure Softer (E E' : Env) : Prop where
  loc : E'.loc = E.loc
  born : E'.born = E.born
  bad : E'.bad = E.bad
  ob : ∀ o, E'.ob o = E.ob o ∨ E'.ob o = .dead ∨ ∃ fz z e xs, E.ob o = .arr fz z e xs ∧ E'.ob o = .arr true z e xs

theorem Softer.refl (E : Env) : Softer E E := ⟨rfl, rfl, rfl, fun _ => .inl rfl⟩

theorem Softer.evo {E E' : Env} (h : Softer E E') (w : World) : Evo E E' w w where
  born o ho := by rw [h.born]; exact ho
  keep o ho := by
    rw [h.loc]
    rcases h.ob o with h1 | h1 | ⟨fz, z, e, xs, h1, h2⟩
    · rw [h1]
      cases hx : E.ob o with
      | dead => exact .inl rfl
      | box Tb cs => exact .inr ⟨rfl, rfl⟩
      | arr fz z e xs => exact .inr ⟨⟨rfl, rfl, rfl⟩, rfl⟩
      | lp s fr ps a b pd => exact .inr ⟨trivial, rfl⟩
      | it s2 p2 => exact .inr ⟨trivial, rfl⟩
      | mp es2 => exact .inr ⟨trivial, rfl⟩
    · exact .inl h1
    · rw [h1, h2]; exact .inr ⟨⟨rfl, rfl, rfl⟩, rfl⟩
  own b _ ho := by
    rcases ho with ho | ⟨j, f, h1, h2⟩
    · rw [h.bad] at ho; exact .inl ho
    rw [h.loc] at h2
    rcases h.ob j with h3 | h3 | ⟨fz, z, e, xs, h3, h4⟩
    · exact .inr ⟨j, f, by rw [← h3]; exact h1, h2⟩
    · rw [h3] at h1; cases h1
    · rw [h4] at h1; cases h1
  mem _ _ _ := rfl
  blk b cs T fz hc := ⟨cs, fz, hc, rfl⟩
  size := Nat.le_refl _
  bad := h.bad
  oth b y hb := by rw [hb]; exact OthK.same

theorem Softer.mem {G : Ctx} {E E' : Env} {w : World} (m : Mem G E w) (h : Softer E E') : Mem G E' w where
  hp o ho := by
    rw [h.born] at ho
    have hm := m.hp o ho
    rcases h.ob o with h1 | h1 | ⟨fz, z, e, xs, h1, h2⟩
    · rw [h1]
      exact hm.evo (h.evo w) (by rw [h.loc]) (fun _ _ _ _ => rfl)
    · rw [h1]; trivial
    · rw [h2]
      rw [h1] at hm
      have hm2 := hm.evo (h.evo w) (by rw [h.loc]) (fun _ _ _ _ => rfl)
      obtain ⟨a1, a2⟩ := hm2
      refine ⟨a1, ?_⟩
      cases hl : E'.loc o with
      | none => rw [hl] at a2; exact a2
      | some p =>
        obtain ⟨b, off⟩ := p
        rw [hl] at a2
        obtain ⟨vs, T, fzz, b1, _, b3, b4⟩ := a2
        exact ⟨vs, T, fzz, b1, fun hf => (by cases hf), b3, b4⟩
  unb o ho := by
    rw [h.born] at ho
    have := m.unb o ho
    rcases h.ob o with h1 | h1 | ⟨fz, z, e, xs, h1, h2⟩
    · rw [h1]; exact this
    · exact h1
    · rw [this] at h1; cases h1
  sep o o' b f f' h1 h2 h3 h4 := by
    rw [h.loc] at h3 h4
    have live : ∀ j, E'.ob j ≠ .dead → E.ob j ≠ .dead := by
      intro j hj hd
      rcases h.ob j with k1 | k1 | ⟨fz, z, e, xs, k1, k2⟩
      · exact hj (k1.trans hd)
      · exact hj k1
      · rw [hd] at k1; cases k1
    exact m.sep o o' b f f' (live o h1) (live o' h2) h3 h4
  new o b f h1 h2 := by
    rw [h.loc] at h2
    rcases h.ob o with k1 | k1 | ⟨fz, z, e, xs, k1, k2⟩
    · rw [k1] at h1; exact m.new o b f h1 h2
    · exact absurd k1 h1
    · exact m.new o b f (by rw [k1]; simp) h2
  bad b hb := m.bad b (by rw [← h.bad]; exact hb)
  bd := h.bad.trans m.bd
  os := m.os
  tape := m.tape
  output := m.output
  size := m.size
  old := m.old
  sus p hp := (h.evo w).sv (m.sus p hp)
  rdk p hp := (m.rdk p hp).evo (h.evo w)
  mks := m.mks
  gl := m.gl
  ev := fun E0 w1 h0 => ⟨(m.ev E0 w1 h0).1, (m.ev E0 w1 h0).2.trans (h.evo w)⟩

def frz : Ob → Ob
  | .arr _ z e xs => .arr true z e xs
  | x => x

theorem fo_freeze (hp : List (Nat × Ob)) (l : List Nat) (hp' : List (Nat × Ob)) (o : Nat) :
    fo (uos hp' (freeze (fo hp) l)) o = if o ∈ l ∧ isA (fo hp o) = true then frz (fo hp o) else fo hp' o := by
  induction l generalizing hp' with
  | nil => simp [freeze, uos]
  | cons i l ih =>
    simp only [freeze]
    cases hi : fo hp i with
    | dead =>
      simp only
      rw [ih]
      by_cases e : o = i
      · subst e; simp [hi, isA]
      · simp [e]
    | box Tb cs =>
      simp only
      rw [ih]
      by_cases e : o = i
      · subst e; simp [hi, isA]
      · simp [e]
    | lp s fr ps a b pd =>
      simp only
      rw [ih]
      by_cases e : o = i
      · subst e; simp [hi, isA]
      · simp [e]
    | it s2 p2 =>
      simp only
      rw [ih]
      by_cases e : o = i
      · subst e; simp [hi, isA]
      · simp [e]
    | mp es2 =>
      simp only
      rw [ih]
      by_cases e : o = i
      · subst e; simp [hi, isA]
      · simp [e]
    | arr fz z t xs =>
      simp only [uos]
      rw [ih, fo_uo]
      by_cases e : o = i
      · subst e; simp [hi, isA, frz]
      · simp [e]

theorem fo_kill (l : List Nat) (hp' : List (Nat × Ob)) (o : Nat) : fo (uos hp' (kill l)) o = if o ∈ l then .dead else fo hp' o := by
  induction l generalizing hp' with
  | nil => simp [kill, uos]
  | cons i l ih =>
    simp only [kill, uos]
    rw [ih, fo_uo]
    by_cases e : o = i
    · subst e; simp
    · simp [e]

def Env.frozen (E : Env) (l : List Nat) : Env := { E with ob := fun o => if o ∈ l ∧ isA (E.ob o) = true then frz (E.ob o) else E.ob o }
def Env.killed (E : Env) (l : List Nat) : Env := { E with ob := fun o => if o ∈ l then .dead else E.ob o }

theorem Env.frozen_soft (E : Env) (l : List Nat) : Softer E (E.frozen l) := by
  refine ⟨rfl, rfl, rfl, fun o => ?_⟩
  show (if o ∈ l ∧ isA (E.ob o) = true then frz (E.ob o) else E.ob o) = _ ∨ (if o ∈ l ∧ isA (E.ob o) = true then frz (E.ob o) else E.ob o) = _ ∨ _
  by_cases h : o ∈ l ∧ isA (E.ob o) = true
  · rw [if_pos h]
    cases hx : E.ob o with
    | dead => exact .inl rfl
    | box Tb cs => exact .inl rfl
    | lp s fr ps a b pd => exact .inl rfl
    | it s2 p2 => exact .inl rfl
    | mp es2 => exact .inl rfl
    | arr fz z e xs => exact .inr (.inr ⟨fz, z, e, xs, rfl, by show (if _ then _ else _) = _; rw [if_pos h, hx]; rfl⟩)
  · rw [if_neg h]; exact .inl rfl

theorem Env.killed_soft (E : Env) (l : List Nat) : Softer E (E.killed l) := by
  refine ⟨rfl, rfl, rfl, fun o => ?_⟩
  show (if o ∈ l then .dead else E.ob o) = _ ∨ (if o ∈ l then .dead else E.ob o) = _ ∨ _
  by_cases h : o ∈ l
  · rw [if_pos h]; exact .inr (.inl rfl)
  · rw [if_neg h]; exact .inl rfl

theorem Env.frozen_ob {E : Env} {hp : List (Nat × Ob)} (h : ∀ i, E.ob i = fo hp i) (l : List Nat) (i : Nat) : (E.frozen l).ob i = fo (uos hp (freeze (fo hp) l)) i := by
  rw [fo_freeze]
  show (if i ∈ l ∧ isA (E.ob i) = true then frz (E.ob i) else E.ob i) = _
  rw [h i]

/-- Where a frozen array lies nothing is owned. -/
theorem Env.frozen_not {G : Ctx} {E : Env} {w : World} (m : Mem G E w) {l : List Nat} {o b f : Nat} (ho : o ∈ l) (ha : isA (E.ob o) = true) (hl : E.loc o = some (b, f)) : ¬ (E.frozen l).owned b := by
  rintro (hbad | ⟨j, f', h1, h2⟩)
  · have h1 := m.bad b hbad
    have h2 := m.new o b f (by intro hd; rw [hd] at ha; cases ha) hl
    rcases h2 with h2 | h2
    · omega
    · exact h1.2 h2
  have hj : (E.frozen l).ob j ≠ .dead := mut_ne h1
  have live : E.ob j ≠ .dead := by
    intro hd
    apply hj
    show (if j ∈ l ∧ isA (E.ob j) = true then frz (E.ob j) else E.ob j) = _
    rw [hd]; simp [isA]
  have hod : E.ob o ≠ .dead := by intro hd; rw [hd] at ha; cases ha
  have e := m.sep o j b f f' hod live hl h2
  subst e
  have : (E.frozen l).ob o = frz (E.ob o) := by
    show (if o ∈ l ∧ isA (E.ob o) = true then frz (E.ob o) else E.ob o) = _
    rw [if_pos ⟨ho, ha⟩]
  rw [this] at h1
  cases hx : E.ob o with
  | dead => rw [hx] at ha; cases ha
  | box Tb cs => rw [hx] at ha; cases ha
  | lp s fr ps a b pd => rw [hx] at ha; cases ha
  | it s2 p2 => rw [hx] at ha; cases ha
  | mp es2 => rw [hx] at ha; cases ha
  | arr fz z e xs => rw [hx] at h1; cases h1

end
end Go.Proofs.YtaoplfeohffbiaaGreatDoor.Sx

/-! Steps that look into memory, lay new objects, write. -/
namespace Go.Proofs.YtaoplfeohffbiaaGreatDoor.Sx
set_option linter.unusedSimpArgs false
set_option linter.unusedVariables false
set_option linter.unusedSectionVars false
noncomputable section

section
variable {P : Program} {G : Ctx} {E : Env} {w : World} {hp : List (Nat × Ob)} {nx : Nat} {fr : List SV} {a : Act}
variable {d : Option Tmp} {ty : TypeId} {pos : String} {af : Array Edge} {gd : Option (Nat × Bool)}

theorem aggI_run {t : TypeId} {b : Bool} {n : Nat} (h : aggI P t = some (b, n)) (w : World) : (isAgg t).run P w = .ok b w ∧ (sizeOf t).run P w = .ok n w ∧ (b = false → n = 1) := by
  unfold aggI at h
  split at h
  · rename_i fs i hu hi
    simp only [Option.some.injEq, Prod.mk.injEq] at h
    obtain ⟨rfl, rfl⟩ := h
    exact ⟨by simp [isAgg, run_underlying hu], by simp [sizeOf, typeInfo, hi], by simp⟩
  · rename_i k e i hu hi
    simp only [Option.some.injEq, Prod.mk.injEq] at h
    obtain ⟨rfl, rfl⟩ := h
    exact ⟨by simp [isAgg, run_underlying hu], by simp [sizeOf, typeInfo, hi], by simp⟩
  · rename_i x i hn1 hn2 hu hi
    split at h
    · rename_i hs
      simp only [Option.some.injEq, Prod.mk.injEq] at h
      obtain ⟨rfl, rfl⟩ := h
      refine ⟨?_, by simp [sizeOf, typeInfo, hi, hs], fun _ => rfl⟩
      simp only [isAgg, Sem.run_bind, run_underlying hu, Result.andThen_ok]
      cases x <;> first | rfl | exact absurd rfl (hn1 _) | exact absurd rfl (hn2 _ _)
    · cases h
  · cases h

theorem add_lit' (b off j : Nat) : (⟨b, off, none⟩ : Addr).add j = ⟨b, off + j, none⟩ := by
  unfold Addr.add; split <;> simp_all

/-- A load of n cells that lie there. -/
theorem run_load {t : TypeId} {b : Bool} {n : Nat} (h : aggI P t = some (b, n)) {blk off : Nat} {us : List Value} (hl : us.length = n)
    (hc : ∀ j u, us[j]? = some u → w.cell? ⟨blk, off + j, none⟩ = some u) :
    ∃ v, (loadVar t ⟨blk, off, none⟩).run P w = .ok v w ∧ ((b = true ∧ v = .agg us.toArray) ∨ (b = false ∧ us = [v])) := by
  obtain ⟨h1, h2, h3⟩ := aggI_run h w
  cases b
  · have := h3 rfl
    subst this
    match us, hl with
    | [u], _ =>
      refine ⟨u, ?_, .inr ⟨rfl, rfl⟩⟩
      have := hc 0 u rfl
      simp only [loadVar, Sem.run_bind, h1, Result.andThen_ok]
      simp only [Nat.add_zero] at this
      simp [run_load, this]
  · refine ⟨_, ?_, .inl ⟨rfl, rfl⟩⟩
    have := run_loadCells_list (P := P) w ⟨blk, off, none⟩ us (fun j v hj => by rw [add_lit']; exact hc j v hj)
    rw [hl] at this
    simp [loadVar, h1, h2, this]

theorem cellOr_ok {b : Bool} {l : List S1} {us : List Value} {off n : Nat} (hs : S1sok E w l us) (hle : off + n ≤ l.length) (hb : b = false → n = 1) {v : Value}
    (hv : (b = true ∧ v = .agg ((us.drop off).take n).toArray) ∨ (b = false ∧ (us.drop off).take n = [v])) : SVok E w (cellOr b l off n) v := by
  rcases hv with ⟨rfl, rfl⟩ | ⟨rfl, hv⟩
  · show SVok E w (.agg (take1 (drop1 l off) n)) _
    rw [drop1_eq, take1_eq]
    exact ⟨_, rfl, (hs.drop off).take n⟩
  · show S1ok E w (g1 l off) v
    have hn := hb rfl
    subst hn
    refine hs.2 off _ v (g1_eq l off (by omega)) ?_
    have : ((us.drop off).take 1)[0]? = some v := by rw [hv]; rfl
    rw [List.getElem?_take_of_lt (by omega), List.getElem?_drop] at this
    simpa using this

/-- A load at an address: the cells behind it. -/
theorem land_load_at (h : Pre P G E w hp fr a) {t : TypeId} {x : Operand} {b : Bool} {n off : Nat} (hI : aggI P t = some (b, n)) {blk o : Nat} {l : List S1} {us : List Value} {ow : Prop}
    (ha : a.eval x = .pointer (some ⟨blk, o + off, none⟩)) (hs : S1sok E w l us) (hle : off + n ≤ l.length) (hc : ∀ j u, us[j]? = some u → w.cell? ⟨blk, o + j, none⟩ = some u) :
    Land P G E w hp nx ⟨d, .load t x, ty, pos, af, gd⟩ a ⟨ow, cellOr b l off n, [], nx, True⟩ := by
  have hlen : ((us.drop off).take n).length = n := by have := hs.1; simp; omega
  obtain ⟨v, hr, hv⟩ := run_load (w := w) (blk := blk) (off := o + off) hI hlen (fun j u hj => by
    have hj' : j < n := by
      have := List.getElem?_eq_some_iff.1 hj
      obtain ⟨hlt, _⟩ := this
      simp at hlt
      omega
    rw [List.getElem?_take_of_lt hj', List.getElem?_drop] at hj
    have := hc _ _ hj
    rwa [show o + off + j = o + (off + j) by omega])
  refine land_val h (v := v) ?_ (cellOr_ok hs hle (aggI_run hI w).2.2 hv) rfl trivial
  simp [execOp, Instr.loadAt, ha, Instr.sureAddr, hr]

theorem arr_cells {o i : Nat} {fz : Bool} {z : Nat} {e : Ty} {xs : List e.den} (hm : ObOk E w o (.arr fz z e xs)) {b f : Nat} (hl : E.loc o = some (b, f)) (hi : i < xs.length) :
    ∃ us, us.length = e.n ∧ (∀ j u, us[j]? = some u → w.cell? ⟨b, f + i * e.n + j, none⟩ = some u) ∧ Rd E.owned w e us xs[i] := by
  obtain ⟨_, hm⟩ := hm
  rw [hl] at hm
  obtain ⟨vs, T, fzz, hh, _, hsz, hx⟩ := hm
  have hr := hx i hi
  refine ⟨_, Rd.len _ _ _ hr, fun j u hj => ?_, hr⟩
  have hj' : j < e.n := by
    have := List.getElem?_eq_some_iff.1 hj
    obtain ⟨hlt, _⟩ := this
    simp at hlt
    omega
  rw [List.getElem?_take_of_lt hj', List.getElem?_drop] at hj
  exact cell_of hh hj

theorem getD_of_lt {α : Type} {l : List α} {i : Nat} {x : α} (h : i < l.length) : l.getD i x = l[i] := by simp [h]

theorem land_load (h : Pre P G E w hp fr a) {t : TypeId} {x : Operand} {b : Bool} {n : Nat} (hI : aggI P t = some (b, n)) {X : SV} (hx : SVok E w X (a.eval x)) {p : Prop} {v : SV} {ow : Prop}
    (hs : sLoad (fo hp) b n X = some (p, v)) (howe : p) : Land P G E w hp nx ⟨d, .load t x, ty, pos, af, gd⟩ a ⟨ow, v, [], nx, True⟩ := by
  unfold sLoad at hs
  split at hs
  · rename_i o off
    split at hs
    · rename_i Tb cs ho
      simp only [Option.some.injEq, Prod.mk.injEq] at hs
      obtain ⟨rfl, rfl⟩ := hs
      have hob : E.ob o = .box Tb cs := (h.ob o).trans ho
      obtain ⟨hb, hx⟩ := hx
      rw [hob] at hx
      obtain ⟨blk, hl, hv⟩ := hx
      have hm := h.mem.hp o hb
      rw [hob] at hm
      obtain ⟨blk', vs, T, hl', hh, hsok⟩ := hm
      rw [hl] at hl'
      cases hl'
      exact land_load_at h hI (o := 0) (by rw [Nat.zero_add]; exact hv) hsok howe (fun j u hj => by rw [Nat.zero_add]; exact cell_of hh (by rw [Array.toList_append, List.getElem?_append_left (List.getElem?_eq_some_iff.1 hj).1]; exact hj))
    · cases hs
  · rename_i o i off
    split at hs
    · rename_i fz z e xs ho
      simp only [Option.some.injEq, Prod.mk.injEq] at hs
      obtain ⟨rfl, rfl⟩ := hs
      have hob : E.ob o = .arr fz z e xs := (h.ob o).trans ho
      obtain ⟨hb, hx⟩ := hx
      rw [hob] at hx
      obtain ⟨hi, blk, f, hl, hv⟩ := hx
      have hm := h.mem.hp o hb
      rw [hob] at hm
      obtain ⟨us, hul, hc, hr⟩ := arr_cells hm hl hi
      rw [getD_of_lt hi]
      exact land_load_at h hI (o := f + i * e.n) hv (cellsS_ok e us _ hr) (by rw [cellsS_len]; exact howe) hc
    · cases hs
  · rename_i t' x' off
    simp only [Option.some.injEq, Prod.mk.injEq] at hs
    obtain ⟨rfl, rfl⟩ := hs
    obtain ⟨blk, f, us, hv, _, _, hul, hc, hr⟩ := hx
    exact land_load_at h hI (o := f) hv (cellsS_ok t' us _ hr) (by rw [cellsS_len]; exact howe) hc
  · cases hs

/-- A field's address. -/
theorem land_fieldAddr (h : Pre P G E w hp fr a) {t : TypeId} {x : Operand} {f k : Nat} (hI : fldI P t f = some k) {X Y : SV} {ow : Prop} (hx : SVok E w X (a.eval x))
    (hXY : ∀ v, SVok E w X v → ∃ b o, v = .pointer (some ⟨b, o, none⟩) ∧ SVok E w Y (.pointer (some ⟨b, o + k, none⟩))) :
    Land P G E w hp nx ⟨d, .fieldAddr t x f, ty, pos, af, gd⟩ a ⟨ow, Y, [], nx, True⟩ := by
  unfold fldI at hI
  split at hI
  · rename_i fs hu
    split at hI
    · rename_i fd hf
      split at hI
      · cases hI
      · rename_i hsz
        cases hI
        obtain ⟨b, o, hv, hy⟩ := hXY _ hx
        refine land_val h (v := .pointer (some ⟨b, o + fd.offset, none⟩)) ?_ hy rfl trivial
        have hs : ∃ n, (sizeOf fd.type).run P w = .ok n w ∧ n ≠ 0 := by
          unfold Program.cellsOf at hsz
          cases hi : P.info? fd.type with
          | none => rw [hi] at hsz; exact absurd rfl hsz
          | some i => rw [hi] at hsz; exact ⟨i.size, by simp [sizeOf, typeInfo, hi], by simpa using hsz⟩
        obtain ⟨n, hn, hn0⟩ := hs
        simp [execOp, Instr.fieldAt, run_underlying hu, hf, hv, Instr.sureAddr, fieldPlace, hn, hn0, add_lit']
    · cases hI
  · cases hI

theorem pb_add {o off k : Nat} {v : Value} {Tb : TypeId} {cs : List S1} (hob : E.ob o = .box Tb cs) (hx : SVok E w (.s (.pb o off)) v) :
    ∃ b q, v = .pointer (some ⟨b, q, none⟩) ∧ SVok E w (.s (.pb o (off + k))) (.pointer (some ⟨b, q + k, none⟩)) := by
  obtain ⟨hb, hx⟩ := hx
  rw [hob] at hx
  obtain ⟨b, hl, rfl⟩ := hx
  refine ⟨b, off, rfl, hb, ?_⟩
  rw [hob]
  exact ⟨b, hl, rfl⟩

theorem pe_add {o i off k : Nat} {v : Value} {fz : Bool} {z : Nat} {e : Ty} {xs : List e.den} (hob : E.ob o = .arr fz z e xs) (hx : SVok E w (.s (.pe o i off)) v) :
    ∃ b q, v = .pointer (some ⟨b, q, none⟩) ∧ SVok E w (.s (.pe o i (off + k))) (.pointer (some ⟨b, q + k, none⟩)) := by
  obtain ⟨hb, hx⟩ := hx
  rw [hob] at hx
  obtain ⟨hi, b, f, hl, rfl⟩ := hx
  refine ⟨b, f + i * e.n + off, rfl, hb, ?_⟩
  rw [hob]
  exact ⟨hi, b, f, hl, by rw [Nat.add_assoc _ off k]⟩

theorem pr_add {t : Ty} {x : t.den} {off k : Nat} {v : Value} (hx : SVok E w (.s (.pr t x off)) v) :
    ∃ b q, v = .pointer (some ⟨b, q, none⟩) ∧ SVok E w (.s (.pr t x (off + k))) (.pointer (some ⟨b, q + k, none⟩)) := by
  obtain ⟨b, f, us, rfl, h1, h2, h3, h4, h5⟩ := hx
  exact ⟨b, f + off, rfl, b, f, us, by rw [Nat.add_assoc], h1, h2, h3, h4, h5⟩

theorem elemI_run {t : TypeId} {e : Ty} {z : Nat} (h : elemI P t = some (e, z)) :
    ∃ el i zv, P.underlying t = some (.slice el) ∧ P.info? el = some i ∧ i.size = e.n ∧ i.bytes = z ∧ i.zero = some zv ∧ zv.cells.size = e.n ∧ 0 < z ∧ 0 < e.n := by
  unfold elemI at h
  split at h
  · rename_i el hu
    split at h
    · rename_i i ty hi hty
      split at h
      · rename_i zv hz
        split at h
        · rename_i hc
          simp only [Option.some.injEq, Prod.mk.injEq] at h
          obtain ⟨rfl, rfl⟩ := h
          exact ⟨el, i, zv, hu, hi, hc.1, rfl, hz, hc.2.2.2, hc.2.1, hc.2.2.1⟩
        · cases h
      · cases h
    · cases h
  · cases h

theorem run_indexAt {t : TypeId} {e : Ty} {z : Nat} (h : elemI P t = some (e, z)) {b off n c : Nat} {k : IntKind} {i : Int} (h0 : 0 ≤ i) (h1 : i < n) (w : World) :
    (Instr.indexAt t (.slice (some ⟨b, off, none⟩) n c) (.int k i)).run P w = .ok (.pointer (some ⟨b, off + i.toNat * e.n, none⟩)) w := by
  obtain ⟨el, inf, zv, hu, hi, hs, _⟩ := elemI_run h
  simp [Instr.indexAt, asIntOf, run_underlying hu, h0, h1, sizeOf, typeInfo, hi, hs, add_lit']

theorem run_indexArr {t : TypeId} {len n : Nat} (h : arrI P t = some (len, n)) {b off : Nat} {k : IntKind} {i : Int} (h0 : 0 ≤ i) (h1 : i < len) (w : World) :
    (Instr.indexAt t (.pointer (some ⟨b, off, none⟩)) (.int k i)).run P w = .ok (.pointer (some ⟨b, off + i.toNat * n, none⟩)) w := by
  unfold arrI at h
  split at h
  · rename_i m e hu
    split at h
    · rename_i inf hi
      cases h
      simp [Instr.indexAt, Instr.sureAddr, asIntOf, run_underlying hu, h0, h1, sizeOf, typeInfo, hi, add_lit']
    · cases h
  · cases h

theorem land_indexAddr (h : Pre P G E w hp fr a) {t : TypeId} {x y : Operand} {k : IntKind} {i : Int} {X : SV} {p : Prop} {r : S1} {ow : Prop} (hx : SVok E w X (a.eval x)) (hy : SVok E w (.s (.int k i)) (a.eval y))
    (hs : sIndex P (fo hp) t i X = some (p, r)) (howe : p) : Land P G E w hp nx ⟨d, .indexAddr t x y, ty, pos, af, gd⟩ a ⟨ow, .s r, [], nx, True⟩ := by
  obtain ⟨ey, _⟩ := hy
  unfold sIndex at hs
  split at hs
  · rename_i o off
    split at hs
    · rename_i Tb cs ho
      split at hs
      · rename_i len n hI
        cases hs
        obtain ⟨hb, hx⟩ := hx
        have hob : E.ob o = .box Tb cs := (h.ob o).trans ho
        rw [hob] at hx
        obtain ⟨b, hl, e1⟩ := hx
        refine land_val h (v := .pointer (some ⟨b, off + i.toNat * n, none⟩)) ?_ ⟨hb, ?_⟩ rfl trivial
        · have := run_indexArr hI (b := b) (off := off) (k := k) howe.1 howe.2 w
          simp [execOp, e1, ey, this]
        · rw [hob]
          exact ⟨b, hl, rfl⟩
      · cases hs
    · cases hs
  · rename_i o lo hi
    split at hs
    · rename_i fz z e xs ho
      split at hs
      · rename_i e' z' hI
        split at hs
        · rename_i he
          subst he
          simp only [Option.some.injEq, Prod.mk.injEq] at hs
          obtain ⟨rfl, rfl⟩ := hs
          have hob : E.ob o = .arr fz z e' xs := (h.ob o).trans ho
          obtain ⟨hb, hx⟩ := hx
          rw [hob] at hx
          obtain ⟨h1, h2, h3⟩ := hx
          cases hl : E.loc o with
          | none => rw [hl] at h3; obtain ⟨_, rfl⟩ := h3; have := howe.2; simp at this; omega
          | some q =>
            obtain ⟨b, off⟩ := q
            rw [hl] at h3
            rcases h3 with ⟨c, cs, T, fzz, e1, _, _, _⟩ | ⟨hle, _⟩
            case inr => have := howe.2; omega
            refine land_val h (v := .pointer (some ⟨b, off + lo * e'.n + i.toNat * e'.n, none⟩)) ?_ ?_ rfl trivial
            · have := run_indexAt hI (b := b) (off := off + lo * e'.n) (n := hi - lo) (c := c) (k := k) howe.1 howe.2 w
              simp [execOp, e1, ey, this]
            · refine ⟨hb, ?_⟩
              rw [hob]
              refine ⟨by omega, b, off, hl, ?_⟩
              rw [Nat.add_mul, Nat.add_zero, Nat.add_assoc]
        · cases hs
      · cases hs
    · cases hs
  · rename_i z e xs
    split at hs
    · rename_i e' z' hI
      split at hs
      · rename_i he
        subst he
        simp only [Option.some.injEq, Prod.mk.injEq] at hs
        obtain ⟨rfl, rfl⟩ := hs
        obtain ⟨_, hx⟩ := hx
        rcases hx with ⟨a', c, _, e0⟩ | ⟨b, off, c, e1, hc, hne, hS, hlt, hx⟩
        · subst e0; have := howe.2; simp at this; omega
        · simp only [List.cons.injEq, and_true] at e1
          have hi' : i.toNat < xs.length := by omega
          refine land_val h (v := .pointer (some ⟨b, off + i.toNat * e'.n, none⟩)) ?_ ?_ rfl trivial
          · have := run_indexAt hI (b := b) (off := off) (n := xs.length) (c := c) (k := k) howe.1 howe.2 w
            simp [execOp, e1, ey, this]
          · obtain ⟨us, hul, hcell, hr⟩ := hx i.toNat hi'
            refine ⟨b, off + i.toNat * e'.n, us, rfl, hS, hlt, hul, hcell, ?_⟩
            rw [getD_of_lt hi']
            exact hr
      · cases hs
    · cases hs
  · cases hs

end
end
end Go.Proofs.YtaoplfeohffbiaaGreatDoor.Sx

/-! Steps: slices cut, new objects, small ones. -/
namespace Go.Proofs.YtaoplfeohffbiaaGreatDoor.Sx
set_option linter.unusedSimpArgs false
set_option linter.unusedVariables false
set_option linter.unusedSectionVars false
noncomputable section

section
variable {P : Program} {G : Ctx} {E : Env} {w : World} {hp : List (Nat × Ob)} {nx : Nat} {fr : List SV} {a : Act}
variable {d : Option Tmp} {ty : TypeId} {pos : String} {af : Array Edge} {gd : Option (Nat × Bool)}

/-- A bound of a slice's cut: there as an int, or not there. -/
def Bnd (o : Option Value) (dflt n : Int) : Prop :=
  match o with
  | none => n = dflt
  | some v => ∃ k, v = .int k n

theorem bnd_of {o : Option Operand} {dflt n : Int} (h : ∀ x, o = some x → SVok E w (pkV (ev fr x)) (a.eval x)) (hs : optI (o.map fun y => pkV (ev fr y)) dflt = some n) : Bnd (o.map a.eval) dflt n := by
  cases o with
  | none => simp [optI] at hs; exact hs.symm
  | some x =>
    have hx := h x rfl
    simp only [Option.map_some] at hs
    cases hv : pkV (ev fr x) with
    | s y =>
      rw [hv] at hs hx
      cases y <;> simp [optI] at hs
      subst hs
      exact ⟨_, hx.1⟩
    | _ => rw [hv] at hs; simp [optI] at hs

theorem run_bounds (isS : Bool) (len cap : Nat) {lo hi : Option Value} {A B : Int} (ha : Bnd lo 0 A) (hb : Bnd hi len B) (h0 : 0 ≤ A) (h1 : A ≤ B) (h2 : B ≤ cap) :
    (Instr.sliceBounds isS len cap lo hi none).run P w = .ok (A.toNat, B.toNat, cap) w := by
  have eB : (B.toNat : Int) = B := Int.toNat_of_nonneg (by omega)
  have hB : ∀ (k : IntKind) c, (Instr.sliceBound (.int k B) cap c).run P w = .ok B.toNat w := fun k c => run_sliceBound w k B cap c (by omega) h2
  have hA : ∀ (k : IntKind) c, (Instr.sliceBound (.int k A) B.toNat c).run P w = .ok A.toNat w := fun k c => run_sliceBound w k A B.toNat c h0 (by omega)
  cases lo with
  | none =>
    have eA : A = 0 := ha
    subst eA
    cases hi with
    | none => have e : B = len := hb; subst e; simp [Instr.sliceBounds]
    | some v => obtain ⟨k, rfl⟩ := hb; simp [Instr.sliceBounds, hB]
  | some u =>
    obtain ⟨k', rfl⟩ := ha
    cases hi with
    | none => have e : B = len := hb; subst e; simp only [Int.toNat_natCast] at hA; simp [Instr.sliceBounds, hA]
    | some v => obtain ⟨k, rfl⟩ := hb; simp [Instr.sliceBounds, hB, hA]

theorem run_cut {t : TypeId} {e : Ty} {z : Nat} (hI : elemI P t = some (e, z)) (q : Option Addr) (len cap : Nat) {lo hi : Option Value} {A B : Int} (ha : Bnd lo 0 A) (hb : Bnd hi len B)
    (h0 : 0 ≤ A) (h1 : A ≤ B) (h2 : B ≤ cap) :
    (Instr.sliceAt t (.slice q len cap) lo hi none).run P w = .ok (.slice (if cap = A.toNat then q else q.map (·.add (A.toNat * e.n))) (B.toNat - A.toNat) (cap - A.toNat)) w := by
  obtain ⟨el, inf, zv, hu, hi', hs, _⟩ := elemI_run hI
  simp [Instr.sliceAt, Instr.slice, run_underlying hu, run_bounds (P := P) (w := w) true len cap ha hb h0 h1 h2, sizeOf, typeInfo, hi', hs]

theorem land_slice (h : Pre P G E w hp fr a) {t : TypeId} {x : Operand} {lo hi : Option Operand} {X : SV} {p : Prop} {r : S1} {ow : Prop} (hx : SVok E w X (a.eval x))
    (hlo : ∀ y, lo = some y → SVok E w (pkV (ev fr y)) (a.eval y)) (hhi : ∀ y, hi = some y → SVok E w (pkV (ev fr y)) (a.eval y))
    (hs : sSlice P (fo hp) t (lo.map fun y => pkV (ev fr y)) (hi.map fun y => pkV (ev fr y)) X = some (p, r)) (howe : p) :
    Land P G E w hp nx ⟨d, .slice t x lo hi none, ty, pos, af, gd⟩ a ⟨ow, .s r, [], nx, True⟩ := by
  unfold sSlice at hs
  split at hs
  · rename_i o l hh
    split at hs
    · rename_i fz z e xs ho
      split at hs
      · rename_i e' z' hI
        split at hs
        · rename_i he
          subst he
          split at hs
          · rename_i A B hA hB
            simp only [Option.some.injEq, Prod.mk.injEq] at hs
            obtain ⟨rfl, rfl⟩ := hs
            obtain ⟨g0, g1, g2⟩ := howe
            have hob : E.ob o = .arr fz z e' xs := (h.ob o).trans ho
            obtain ⟨hb, hx⟩ := hx
            rw [hob] at hx
            obtain ⟨h1, h2, h3⟩ := hx
            have bA := bnd_of (a := a) hlo hA
            have bB := bnd_of (a := a) hhi hB
            cases hl : E.loc o with
            | none =>
              rw [hl] at h3
              obtain ⟨e1, rfl⟩ := h3
              have hm := h.mem.hp o hb
              rw [hob] at hm
              obtain ⟨_, hm⟩ := hm
              rw [hl] at hm
              subst hm
              have eA : A = 0 := by simp at g2; omega
              have eB : B = 0 := by simp at g2; omega
              subst eA; subst eB
              have hl0 : l = 0 := by omega
              subst hl0
              have hr := run_cut (w := w) hI none 0 0 bA (by simpa using bB) (by omega) (by omega) (by omega)
              refine land_val h (v := .slice none 0 0) (by simp [execOp, e1, hr]) ⟨hb, ?_⟩ rfl trivial
              rw [hob]
              simp only [hl]
              simp
            | some q =>
              obtain ⟨b, off⟩ := q
              rw [hl] at h3
              rcases h3 with ⟨c, cs, T, fzz, e1, e2, e3, e4⟩ | ⟨hle, q, e1⟩
              · have hr := run_cut (w := w) hI (some ⟨b, off + l * e'.n, none⟩) (hh - l) c bA bB g0 g1 (by omega)
                refine land_val h (v := _) (by simp only [execOp, e1, Sem.run_bind, hr, Result.andThen_ok, Option.map_none]; rfl) ⟨hb, ?_⟩ rfl trivial
                rw [hob]
                refine ⟨by omega, by omega, ?_⟩
                simp only [hl]
                by_cases hc : c = A.toNat
                · refine .inr ⟨by omega, some ⟨b, off + l * e'.n, none⟩, ?_⟩
                  rw [if_pos hc]
                  congr 1 <;> omega
                · refine .inl ⟨c - A.toNat, cs, T, fzz, ?_, by omega, e3, ?_⟩
                  · rw [if_neg hc]
                    simp only [Option.map_some, add_lit', Nat.add_mul]
                    congr 1
                    · simp only [Option.some.injEq, Addr.mk.injEq, and_true, true_and]; omega
                    · omega
                  · have : l + A.toNat + (c - A.toNat) = l + c := by omega
                    rw [this]; exact e4
              · have eA : A = 0 := by omega
                have eB : B = 0 := by omega
                subst eA; subst eB
                have hl0 : hh - l = 0 := by omega
                rw [hl0] at bB
                have hr := run_cut (w := w) hI q 0 0 bA bB (by omega) (by omega) (by omega)
                refine land_val h (v := .slice q 0 0) (by simp [execOp, e1, hr]) ⟨hb, ?_⟩ rfl trivial
                rw [hob]
                refine ⟨by simp, by simp; omega, ?_⟩
                simp only [hl]
                exact .inr ⟨by simp; omega, q, rfl⟩
          · cases hs
        · cases hs
      · cases hs
    · cases hs
  · rename_i z e xs
    split at hs
    · rename_i e' z' hI
      split at hs
      · rename_i he
        subst he
        split at hs
        · rename_i A B hA hB
          simp only [Option.some.injEq, Prod.mk.injEq] at hs
          obtain ⟨rfl, rfl⟩ := hs
          obtain ⟨g0, g1, g2⟩ := howe
          have bA := bnd_of (a := a) hlo hA
          have bB := bnd_of (a := a) hhi hB
          obtain ⟨hz, hx⟩ := hx
          have hlen : ((xs.drop A.toNat).take (B.toNat - A.toNat)).length = B.toNat - A.toNat := by simp; omega
          have hz' : ((xs.drop A.toNat).take (B.toNat - A.toNat)).length * z ≤ 140737488355328 := by
            rw [hlen]; exact Nat.le_trans (Nat.mul_le_mul_right z (by omega)) hz
          rcases hx with ⟨q, c, e1, e0⟩ | ⟨b, off, c, e1, hc, hne, hS, hlt, hx⟩
          · subst e0
            simp only [List.cons.injEq, and_true] at e1
            have eA : A = 0 := by simp at g2; omega
            have eB : B = 0 := by simp at g2; omega
            subst eA; subst eB
            have hr := run_cut (w := w) hI q 0 c bA (by simpa using bB) (by omega) (by omega) (by omega)
            refine land_val h (v := _) (by simp only [execOp, e1, Sem.run_bind, hr, Result.andThen_ok, Option.map_none]; rfl) ⟨hz', .inl ⟨_, _, rfl, by simp⟩⟩ rfl trivial
          · simp only [List.cons.injEq, and_true] at e1
            have hr := run_cut (w := w) hI (some ⟨b, off, none⟩) xs.length c bA bB g0 g1 (by omega)
            refine land_val h (v := _) (by simp only [execOp, e1, Sem.run_bind, hr, Result.andThen_ok, Option.map_none]; rfl) ⟨hz', ?_⟩ rfl trivial
            by_cases hAB : A = B
            · subst hAB
              exact .inl ⟨_, _, by rw [Nat.sub_self], by simp⟩
            · refine .inr ⟨b, off + A.toNat * e'.n, c - A.toNat, ?_, by rw [hlen]; omega, ?_, hS, hlt, fun i hi => ?_⟩
              · rw [if_neg (by omega), hlen]
                simp only [Option.map_some, add_lit']
              · intro h0; rw [h0] at hlen; simp at hlen; omega
              · rw [hlen] at hi
                obtain ⟨us, hul, hcell, hr⟩ := hx (A.toNat + i) (by omega)
                have e3 : ((xs.drop A.toNat).take (B.toNat - A.toNat))[i]'(by rw [hlen]; exact hi) = xs[A.toNat + i] := by simp
                rw [e3]
                refine ⟨us, hul, fun j u hj => ?_, hr⟩
                have e4 : off + A.toNat * e'.n + i * e'.n + j = off + (A.toNat + i) * e'.n + j := by rw [Nat.add_mul]; omega
                rw [e4]; exact hcell j u hj
        · cases hs
      · cases hs
    · cases hs
  · rename_i s
    cases hst : isStr P t <;> rw [hst] at hs <;> simp only [cond_true, cond_false] at hs
    · cases hs
    · split at hs
      · rename_i A B hA hB
        simp only [Option.some.injEq, Prod.mk.injEq] at hs
        obtain ⟨rfl, rfl⟩ := hs
        obtain ⟨g0, g1, g2⟩ := howe
        obtain ⟨e1, hlen⟩ := hx
        have ht : P.underlying t = some .string := by
          unfold isStr at hst
          split at hst
          · assumption
          · cases hst
        have bA := bnd_of (a := a) hlo hA
        have bB := bnd_of (a := a) hhi hB
        have hsz : (ByteArray.mk s.toArray).size = s.length := by show s.toArray.size = _; simp
        have hr := run_bounds (P := P) (w := w) false s.length s.length bA bB g0 g1 g2
        refine land_val h (v := .string ((ByteArray.mk s.toArray).extract A.toNat B.toNat)) ?_ ⟨?_, by simp; omega⟩ rfl trivial
        · simp [execOp, e1, Instr.sliceAt, Instr.slice, run_underlying ht, hsz, hr]
        · congr 1
          apply ByteArray.ext
          simp [ByteArray.data_extract]
      · cases hs
  · cases hs

end
end
end Go.Proofs.YtaoplfeohffbiaaGreatDoor.Sx

/-! Steps: new objects, stores. -/
namespace Go.Proofs.YtaoplfeohffbiaaGreatDoor.Sx
set_option linter.unusedSimpArgs false
set_option linter.unusedVariables false
set_option linter.unusedSectionVars false
noncomputable section

section
variable {P : Program} {G : Ctx} {E : Env} {w : World} {hp : List (Nat × Ob)} {nx : Nat} {fr : List SV} {a : Act}
variable {d : Option Tmp} {ty : TypeId} {pos : String} {af : Array Edge} {gd : Option (Nat × Bool)}

/-- A step that lays one new object in a new block and hands a value on. -/
theorem land_new (h : Pre P G E w hp fr a) {o : Oper} (hnx : ¬ E.born nx) {x : Ob} {vs : Array Value} {T : TypeId} {v : Value} {X : SV} {ow gv : Prop}
    (hr : (execOp a.eval o).run P w = .ok (.value v) (w.alloc (.cells vs T)))
    (hok : ∀ E', Evo E E' w (w.alloc (.cells vs T)) → E'.loc nx = some (w.heap.size, 0) → (w.alloc (.cells vs T)).heap[w.heap.size]? = some (.cells vs T (0, 0)) → ObOk E' (w.alloc (.cells vs T)) nx x)
    (hX : ∀ E', E'.ob nx = x → E'.loc nx = some (w.heap.size, 0) → E'.born nx → (w.alloc (.cells vs T)).heap[w.heap.size]? = some (.cells vs T (0, 0)) → SVok E' (w.alloc (.cells vs T)) X v) (hg : gv) :
    Land P G E w hp nx o a ⟨ow, X, [(nx, x)], nx + 1, gv⟩ := by
  intro K B hK
  unfold Oper.wp
  rw [hr, Oper.upon_value]
  have hev := evo_new h.mem hnx x (.cells vs T)
  refine hK v _ (E.set nx x (some (w.heap.size, 0))) (mem_new h.mem hnx x vs T (hok _ hev (set_loc _ _ _ _) (heap_alloc_at _ _))) hev (fun i => ?_) (fun i hi => ?_)
    (hX _ (set_ob _ _ _ _) (set_loc _ _ _ _) (.inr rfl) (heap_alloc_at _ _)) hg
  · simp only [uos, fo_uo]
    by_cases hi : i = nx
    · subst hi; rw [set_ob, if_pos rfl]
    · rw [set_ob_ne _ _ _ hi, if_neg hi]; exact h.ob i
  · rcases hi with hi | rfl
    · exact .inl hi
    · exact .inr ⟨Nat.le_refl _, by simp⟩

theorem rd_one : ∀ (t : Ty) (v : Value) (y : t.den), Rd E.owned w t [v] y → v.oneCell' = true
  | .int _, v, _, r => by obtain ⟨e, _⟩ := r; cases e; rfl
  | .bool, v, _, r => by have e : [v] = _ := r; cases e; rfl
  | .str, v, _, r => by obtain ⟨e, _⟩ := r; cases e; rfl
  | .unit, v, _, r => by have e : [v] = [] := r; cases e
  | .opq, v, _, r => by obtain ⟨e, h⟩ := r; cases e; exact h
  | .pair p q, v, y, r => by
    obtain ⟨v1, v2, e, r1, r2⟩ := r
    match v1, e, r1 with
    | [], e, r1 => rw [List.nil_append] at e; rw [← e] at r2; exact rd_one q v _ r2
    | [c], e, r1 =>
      simp only [List.cons_append, List.nil_append, List.cons.injEq] at e
      rw [e.1]; exact rd_one p c _ r1
    | c :: c' :: l, e, r1 => simp at e
  | .slice z e, v, _, r => by obtain ⟨_, ⟨_, _, e, _⟩ | ⟨_, _, _, e, _⟩⟩ := r <;> cases e <;> rfl

theorem s1_one {x : S1} {v : Value} (h1 : S1ok E w x v) (hx : stl [x] = true) : v.oneCell' = true := by
  cases x with
  | unk => simp [stl] at hx
  | val u => simp only [stl, Bool.and_true] at hx; rw [show v = u from h1]; exact hx
  | int k n => rw [h1.1]; rfl
  | bool b => rw [show v = _ from h1]; rfl
  | mb t f => obtain ⟨_, e, _⟩ := h1; rw [e]; rfl
  | str s => rw [h1.1]; rfl
  | nils => rw [show v = _ from h1]; rfl
  | ro t y => exact rd_one t v y h1
  | sub o lo hi => exact ref_one (.inl ⟨_, _, _, rfl⟩) h1
  | pb o off => exact ref_one (.inr (.inl ⟨_, _, rfl⟩)) h1
  | pe o i off => exact ref_one (.inr (.inr (.inl ⟨_, _, _, rfl⟩))) h1
  | yl o => exact ref_one (.inr (.inr (.inr (.inl ⟨_, rfl⟩)))) h1
  | ifp t o off => exact ref_one (.inr (.inr (.inr (.inr (.inl ⟨_, _, _, rfl⟩))))) h1
  | sb o z off n k => exact ref_one (.inr (.inr (.inr (.inr (.inr (.inl ⟨_, _, _, _, _, rfl⟩)))))) h1
  | mr o => exact ref_one (.inr (.inr (.inr (.inr (.inr (.inr ⟨_, rfl⟩)))))) h1
  | fb f caps => obtain ⟨_, e, _⟩ := h1; rw [e]; rfl
  | ifi t k n => rw [h1.1]; rfl
  | pr t y off => obtain ⟨_, _, _, e, _⟩ := h1; rw [e]; rfl
  | fn f caps => obtain ⟨_, e, _⟩ := h1; rw [e]; rfl

theorem stl_cons {x : S1} {l : List S1} (h : stl (x :: l) = true) : stl [x] = true ∧ stl l = true := by
  cases x <;> first | exact ⟨rfl, h⟩ | (simp only [stl, Bool.and_eq_true] at h; exact ⟨by simp [stl, h.1], h.2⟩) | (simp [stl] at h)

theorem stl_one {cs : List S1} {vs : List Value} (h : stl cs = true) (hs : S1sok E w cs vs) : ∀ v ∈ vs, v.oneCell' = true := by
  induction cs generalizing vs with
  | nil => rw [hs.nil_inv]; simp
  | cons x cs ih =>
    obtain ⟨v, us, rfl, h1, h2⟩ := hs.uncons
    obtain ⟨hx, hr⟩ := stl_cons h
    intro u hu
    rcases List.mem_cons.1 hu with rfl | hu
    · exact s1_one h1 hx
    · exact ih hr h2 u hu

theorem cells_of_one {v : Value} (h : v.oneCell' = true) : v.cells = #[v] := by
  cases v <;> first | rfl | (simp [Value.oneCell'] at h)

/-- A value's cells. -/
theorem cells_ok {X : SV} {v : Value} {b : Bool} (hX : SVok E w X v) (hs : shape b X = true) (ht : b = false → stl X.cells = true) : ∃ us, v.cells = us.toArray ∧ S1sok E w X.cells us := by
  cases X with
  | unk => cases b <;> simp [shape] at hs
  | s x => cases b
           · have := ht rfl
             have h1 : v.oneCell' = true := s1_one hX this
             exact ⟨[v], cells_of_one h1, .one hX⟩
           · simp [shape] at hs
  | agg l => obtain ⟨us, e, h⟩ := hX; subst e; exact ⟨us, rfl, h⟩
  | tup l => cases b <;> simp [shape] at hs
  | gd g x => cases b <;> simp [shape] at hs

theorem land_alloc (h : Pre P G E w hp fr a) (hnx : ¬ E.born nx) {t : TypeId} {cs : List S1} (hz : zeroI P t = some cs) {ow : Prop} :
    Land P G E w hp nx ⟨d, .alloc t, ty, pos, af, gd⟩ a ⟨ow, .s (.pb nx 0), [(nx, .box t cs)], nx + 1, True⟩ := by
  unfold zeroI at hz
  split at hz
  · rename_i i hi
    split at hz
    · rename_i v hv
      split at hz
      · rename_i hc
        cases hz
        refine land_new h hnx (vs := v.cells) (T := t) (v := .pointer (some ⟨w.heap.size, 0, none⟩)) ?_ (fun E' hev hl hh => ?_) (fun E' ho hl hb hh => ?_) trivial
        · simp [execOp, Instr.alloc, zeroValue, typeInfo, hi, hv, newVar, newRow]
        · refine ⟨w.heap.size, v.cells, #[], hl, by simpa using hh, by simp, ?_⟩
          intro j x u h1 h2
          rw [List.getElem?_map, h2] at h1
          cases h1
          exact of1_ok _ _ u
        · refine ⟨hb, ?_⟩
          rw [ho]
          exact ⟨w.heap.size, hl, rfl⟩
      · cases hz
    · cases hz
  · cases hz

theorem land_box (h : Pre P G E w hp fr a) (hnx : ¬ E.born nx) {t : TypeId} {x : Operand} {X : SV} {ow : Prop} {b : Bool} (hX : SVok E w X (a.eval x)) (hs : shape b X = true) (ht : stl X.cells = true) :
    Land P G E w hp nx ⟨d, .box t x, ty, pos, af, gd⟩ a ⟨ow, .s (.pb nx 0), [(nx, .box t X.cells)], nx + 1, True⟩ := by
  obtain ⟨us, hu, hok⟩ := cells_ok hX hs (fun _ => ht)
  refine land_new h hnx (vs := us.toArray) (T := t) (v := .pointer (some ⟨w.heap.size, 0, none⟩)) ?_ (fun E' hev hl hh => ?_) (fun E' ho hl hb hh => ?_) trivial
  · simp [execOp, Instr.box, newVar, newRow, hu]
  · exact ⟨w.heap.size, us.toArray, #[], hl, by simpa using hh, hev.s1s hok⟩
  · refine ⟨hb, ?_⟩
    rw [ho]
    exact ⟨w.heap.size, hl, rfl⟩

end
end
end Go.Proofs.YtaoplfeohffbiaaGreatDoor.Sx

/-! Steps: stores into objects. -/
namespace Go.Proofs.YtaoplfeohffbiaaGreatDoor.Sx
set_option linter.unusedSimpArgs false
set_option linter.unusedVariables false
set_option linter.unusedSectionVars false
noncomputable section

/-- vs laid over l from p on. -/
def splice (l : List Value) (p : Nat) (vs : List Value) : List Value := l.take p ++ vs ++ l.drop (p + vs.length)

theorem splice_len {l : List Value} {p : Nat} {vs : List Value} (h : p + vs.length ≤ l.length) : (splice l p vs).length = l.length := by
  simp [splice]; omega

theorem splice_get {l : List Value} {p : Nat} {vs : List Value} (h : p + vs.length ≤ l.length) (j : Nat) :
    (splice l p vs)[j]? = if j < p then l[j]? else if j < p + vs.length then vs[j - p]? else l[j]? := by
  unfold splice
  have h1 : (l.take p).length = p := by simp; omega
  by_cases h2 : j < p
  · rw [if_pos h2, List.append_assoc, List.getElem?_append_left (by omega), List.getElem?_take_of_lt h2]
  · rw [if_neg h2]
    by_cases h3 : j < p + vs.length
    · rw [if_pos h3, List.getElem?_append_left (by simp; omega), List.getElem?_append_right (by omega), h1]
    · rw [if_neg h3, List.getElem?_append_right (by simp; omega), List.getElem?_drop]
      congr 1
      simp
      omega

/-- A part of a laid list that the laying does not meet. -/
theorem splice_part {l : List Value} {p : Nat} {vs : List Value} (h : p + vs.length ≤ l.length) {q n : Nat} (hd : q + n ≤ p ∨ p + vs.length ≤ q) :
    ((splice l p vs).drop q).take n = (l.drop q).take n := by
  apply List.ext_getElem?
  intro j
  by_cases hj : j < n
  · rw [List.getElem?_take_of_lt hj, List.getElem?_take_of_lt hj, List.getElem?_drop, List.getElem?_drop, splice_get h]
    by_cases h1 : q + j < p
    · rw [if_pos h1]
    · rw [if_neg h1, if_neg (by omega)]
  · rw [List.getElem?_eq_none (by simp; omega), List.getElem?_eq_none (by simp; omega)]

/-- A part of a laid list within which the laying lies. -/
theorem splice_in {l : List Value} {p : Nat} {vs : List Value} (h : p + vs.length ≤ l.length) {q n : Nat} (h1 : q ≤ p) (h2 : p + vs.length ≤ q + n) (hq : q + n ≤ l.length) :
    ((splice l p vs).drop q).take n = splice ((l.drop q).take n) (p - q) vs := by
  apply List.ext_getElem?
  intro j
  have hlen : ((l.drop q).take n).length = n := by simp; omega
  rw [splice_get (l := (l.drop q).take n) (by rw [hlen]; omega)]
  by_cases hj : j < n
  · rw [List.getElem?_take_of_lt hj, List.getElem?_drop, splice_get h]
    by_cases h3 : j < p - q
    · rw [if_pos (show q + j < p by omega), if_pos h3, List.getElem?_take_of_lt hj, List.getElem?_drop]
    · rw [if_neg (show ¬ q + j < p by omega), if_neg h3]
      by_cases h4 : j < p - q + vs.length
      · rw [if_pos (show q + j < p + vs.length by omega), if_pos h4]; congr 1; omega
      · rw [if_neg (show ¬ q + j < p + vs.length by omega), if_neg h4, List.getElem?_take_of_lt hj, List.getElem?_drop]
  · rw [List.getElem?_eq_none (by simp; omega), if_neg (by omega), if_neg (by omega), List.getElem?_eq_none (by simp; omega)]

theorem lay_len (l : List S1) (p : Nat) (ws : List S1) : (lay l p ws).length = l.length := by
  induction l generalizing p ws with
  | nil => rfl
  | cons x l ih => cases ws with
    | nil => simp [lay]
    | cons y ws => cases p with
      | zero => simp [lay, ih]
      | succ p => simp [lay, ih]

section
variable {P : Program} {G : Ctx} {E : Env} {w : World} {hp : List (Nat × Ob)} {nx : Nat} {fr : List SV} {a : Act}
variable {d : Option Tmp} {ty : TypeId} {pos : String} {af : Array Edge} {gd : Option (Nat × Bool)}

theorem lay_nil (l : List S1) (p : Nat) : lay l p [] = l := by
  cases l with
  | nil => rfl
  | cons x l => simp [lay]

theorem lay_ok {l : List S1} {us : List Value} (hl : S1sok E w l us) : ∀ {p : Nat} {ws : List S1} {vs : List Value}, S1sok E w ws vs → p + ws.length ≤ l.length → S1sok E w (lay l p ws) (splice us p vs) := by
  induction l generalizing us with
  | nil =>
    intro p ws vs hw hle
    have : ws = [] := List.eq_nil_of_length_eq_zero (by have h0 : p + ws.length ≤ 0 := hle; omega)
    subst this
    rw [hw.nil_inv, hl.nil_inv]
    simpa [lay, splice] using S1sok.nil
  | cons x l ih =>
    intro p ws vs hw hle
    obtain ⟨u, us, rfl, h1, h2⟩ := hl.uncons
    cases ws with
    | nil =>
      rw [hw.nil_inv, lay_nil]
      have : splice (u :: us) p [] = u :: us := by simp [splice]
      rw [this]
      exact .cons h1 h2
    | cons y ws =>
      obtain ⟨v, vs', rfl, h3, h4⟩ := hw.uncons
      cases p with
      | zero =>
        have e : splice (u :: us) 0 (v :: vs') = v :: splice us 0 vs' := by simp [splice, Nat.add_comm]
        rw [e]
        exact .cons h3 (ih h2 h4 (by simp at hle ⊢; omega))
      | succ p =>
        have e : splice (u :: us) (p + 1) (v :: vs') = u :: splice us p (v :: vs') := by
          have e1 : p + 1 + (v :: vs').length = (p + (v :: vs').length) + 1 := by omega
          simp only [splice, List.take_succ_cons, e1, List.drop_succ_cons, List.cons_append]
        rw [e]
        exact .cons h1 (ih h2 (.cons h3 h4) (by simp at hle ⊢; omega))

/-- An object's own block written: what has become of the memory. -/
theorem evo_row (m : Mem G E w) {o b f : Nat} {x' : Ob} (hmut : (E.ob o).mut = true) (hl : E.loc o = some (b, f)) {old new : Array Value} {T : TypeId} {fz : Nat × Nat} (hh : w.heap[b]? = some (.cells old T fz))
    (hsz : new.size = old.size) (hsame : same (E.ob o) x') : Evo E (E.set o x' (some (b, f))) w (w.setRow b new) where
  born j hj := .inl hj
  keep j hj := by
    by_cases e : j = o
    · subst e; rw [set_ob, set_loc]; exact .inr ⟨hsame, hl.symm⟩
    · rw [set_ob_ne _ _ _ e, set_loc_ne _ _ _ e]
      cases hx : E.ob j with
      | dead => exact .inl rfl
      | box Tb cs => exact .inr ⟨rfl, rfl⟩
      | arr fz z e xs => exact .inr ⟨⟨rfl, rfl, rfl⟩, rfl⟩
      | lp s fr ps a b pd => exact .inr ⟨trivial, rfl⟩
      | it s2 p2 => exact .inr ⟨trivial, rfl⟩
      | mp es2 => exact .inr ⟨trivial, rfl⟩
  own b' hb ho := by
    rcases ho with ho | ⟨j, f', h1, h2⟩
    · exact .inl ho
    by_cases e : j = o
    · subst e
      rw [set_loc] at h2
      cases h2
      exact .inr ⟨j, f, hmut, hl⟩
    · rw [set_ob_ne _ _ _ e] at h1
      rw [set_loc_ne _ _ _ e] at h2
      exact .inr ⟨j, f', h1, h2⟩
  mem b' _ ho := setRow_other w b b' new (fun e => ho (e ▸ .inr ⟨o, f, hmut, hl⟩))
  blk b' cs T' fz' hc := by
    by_cases e : b' = b
    · subst e
      rw [hh] at hc
      cases hc
      exact ⟨new, fz, setRow_heap w b' old new T fz hh, hsz⟩
    · exact ⟨cs, fz', (setRow_other w b b' new e).trans hc, rfl⟩
  size := by simp [World.setRow]
  bad := rfl
  oth b' x hx := by
    by_cases e : b' = b
    · subst e
      rw [hh] at hx
      cases hx
      trivial
    · rw [setRow_other w b b' new e, hx]; exact OthK.same

theorem mem_row (m : Mem G E w) {o b f : Nat} {x' : Ob} (hmut : (E.ob o).mut = true) (hl : E.loc o = some (b, f)) {old new : Array Value} {T : TypeId} {fz : Nat × Nat} (hh : w.heap[b]? = some (.cells old T fz))
    (hsz : new.size = old.size) (hsame : same (E.ob o) x') (hok : Evo E (E.set o x' (some (b, f))) w (w.setRow b new) → ObOk (E.set o x' (some (b, f))) (w.setRow b new) o x') :
    Mem G (E.set o x' (some (b, f))) (w.setRow b new) := by
  have hev := evo_row m hmut hl hh hsz hsame
  have hlive : E.ob o ≠ .dead := mut_ne hmut
  have hx' : x' ≠ .dead := by intro e; rw [e] at hsame; cases hx : E.ob o <;> rw [hx] at hsame <;> exact hsame
  refine m.step hev (fun j => j = o) (fun j hb hne => ?_) (fun j hj => by subst hj; rw [set_ob]; exact hok hev) (fun j hb => ?_) (fun p p' b' g g' h1 h2 h3 h4 => ?_) (fun p b' g h1 h2 => ?_) rfl rfl rfl (fun b' hb hm => ?_)
  · have hb' : E.born j := hb.resolve_right hne
    refine ⟨hb', set_ob_ne _ _ _ hne, set_loc_ne _ _ _ hne, fun b' g hd hl' => setRow_other w b b' new fun e => hne ?_⟩
    subst e
    exact m.sep j o b' g f hd hlive hl' hl
  · have hne : j ≠ o := fun e => hb (.inr e)
    rw [set_ob_ne _ _ _ hne]
    exact m.unb j fun h => hb (.inl h)
  · have hl1 : ∀ q, (E.set o x' (some (b, f))).loc q = E.loc q := by
      intro q
      by_cases e : q = o
      · subst e; rw [set_loc, hl]
      · rw [set_loc_ne _ _ _ e]
    have hd1 : ∀ q, (E.set o x' (some (b, f))).ob q ≠ .dead → E.ob q ≠ .dead := by
      intro q hq
      by_cases e : q = o
      · subst e; exact hlive
      · rw [set_ob_ne _ _ _ e] at hq; exact hq
    rw [hl1] at h3 h4
    exact m.sep p p' b' g g' (hd1 p h1) (hd1 p' h2) h3 h4
  · by_cases e : p = o
    · subst e
      rw [set_loc] at h2
      cases h2
      exact m.new p b f hlive hl
    · rw [set_ob_ne _ _ _ e] at h1
      rw [set_loc_ne _ _ _ e] at h2
      exact m.new p b' g h1 h2
  · refine setRow_other w b b' new fun e => ?_
    subst e
    rcases m.new o b' f hlive hl with h | h
    · omega
    · exact hm h

theorem run_storeVar {t : TypeId} {bb : Bool} {n : Nat} (hI : aggI P t = some (bb, n)) {v : Value} {vs : List Value} (hv : v.cells = vs.toArray) (hn : vs.length = n) (h1 : ∀ u ∈ vs, u.oneCell' = true)
    {b o : Nat} {cur : Array Value} {T : TypeId} (hh : w.heap[b]? = some (.cells cur T (0, 0))) (hle : o + n ≤ cur.size) :
    (storeVar t ⟨b, o, none⟩ v).run P w = .ok () (w.setRow b (splice cur.toList o vs).toArray) := by
  obtain ⟨_, h2, _⟩ := aggI_run hI w
  have hst := run_storeCells_at P b o T vs 0 cur w hh (by omega) h1
  simp only [Nat.add_zero] at hst
  simp [storeVar, h2, hv, hn, hst, splice]

theorem land_store_box (h : Pre P G E w hp fr a) {t : TypeId} {x y : Operand} {bb : Bool} {n : Nat} (hI : aggI P t = some (bb, n)) {Y : SV} {ow : Prop} {o off : Nat} {Tb : TypeId} {cs : List S1}
    (hx : SVok E w (.s (.pb o off)) (a.eval x)) (hy : SVok E w Y (a.eval y)) (ho : fo hp o = .box Tb cs) (hs : shape bb Y = true) (ht : stl Y.cells = true) (hle : off + n ≤ cs.length) (hn : Y.cells.length = n) :
    Land P G E w hp nx ⟨d, .store t x y, ty, pos, af, gd⟩ a ⟨ow, .unk, [(o, .box Tb (lay cs off Y.cells))], nx, True⟩ := by
  intro K B hK
  obtain ⟨vs, hv, hok⟩ := cells_ok hy hs (fun _ => ht)
  have hob : E.ob o = .box Tb cs := (h.ob o).trans ho
  obtain ⟨hb, hx⟩ := hx
  rw [hob] at hx
  obtain ⟨b, hl, hxv⟩ := hx
  have hm := h.mem.hp o hb
  rw [hob] at hm
  obtain ⟨b', cur, ex, hl', hh, hsok⟩ := hm
  rw [hl] at hl'
  cases hl'
  have hcl : cur.toList.length = cs.length := hsok.1
  have hvl : vs.length = n := hok.1.trans hn
  have hcs : cur.size = cs.length := by simpa using hcl
  have hle' : off + vs.length ≤ cur.toList.length := by omega
  have hsx : (splice (cur ++ ex).toList off vs).toArray = (splice cur.toList off vs).toArray ++ ex := by
    apply Array.toList_inj.1
    simp only [Array.toList_append, List.toList_toArray]
    unfold splice
    rw [List.take_append_of_le_length (by omega), List.drop_append_of_le_length (by omega)]
    simp
  have hst := run_storeVar (w := w) hI hv hvl (stl_one ht hok) hh (o := off) (by simp; omega)
  rw [hsx] at hst
  have hsz : ((splice cur.toList off vs).toArray ++ ex).size = (cur ++ ex).size := by simp [splice_len hle']
  have hmut : (E.ob o).mut = true := by rw [hob]; rfl
  have hsame : same (E.ob o) (.box Tb (lay cs off Y.cells)) := by rw [hob]; show (Tb, _) = (Tb, _); rw [lay_len]
  unfold Oper.wp
  have hr : (execOp a.eval ⟨d, .store t x y, ty, pos, af, gd⟩).run P w = .ok .skip (w.setRow b ((splice cur.toList off vs).toArray ++ ex)) := by
    simp [execOp, Instr.storeAt, hxv, Instr.sureAddr, hst]
  rw [hr, Oper.upon_skip]
  have hev := evo_row h.mem hmut hl hh hsz hsame
  refine hK undef _ _ (mem_row h.mem hmut hl hh hsz hsame fun hev => ?_) hev (fun i => ?_) (fun i hi => ?_) trivial trivial
  · refine ⟨b, _, ex, set_loc _ _ _ _, setRow_heap w b _ _ Tb _ hh, ?_⟩
    exact lay_ok (hev.s1s hsok) (hev.s1s hok) (by omega)
  · simp only [uos, fo_uo]
    by_cases hi : i = o
    · subst hi; rw [set_ob, if_pos rfl]
    · rw [set_ob_ne _ _ _ hi, if_neg hi]; exact h.ob i
  · rcases hi with hi | rfl
    · exact .inl hi
    · exact .inl hb

end
end
end Go.Proofs.YtaoplfeohffbiaaGreatDoor.Sx

/-! Steps: stores into elements, literals of slices, append. -/
namespace Go.Proofs.YtaoplfeohffbiaaGreatDoor.Sx
set_option linter.unusedSimpArgs false
set_option linter.unusedVariables false
set_option linter.unusedSectionVars false
noncomputable section

section
variable {P : Program} {G : Ctx} {E : Env} {w : World} {hp : List (Nat × Ob)} {nx : Nat} {fr : List SV} {a : Act}
variable {d : Option Tmp} {ty : TypeId} {pos : String} {af : Array Edge} {gd : Option (Nat × Bool)}

/-- The state with some objects written no more. -/
theorem Pre.frozen (h : Pre P G E w hp fr a) (l : List Nat) : Pre P G (E.frozen l) w (uos hp (freeze (fo hp) l)) fr a :=
  ⟨(E.frozen_soft l).mem h.mem, Env.frozen_ob h.ob l, fun i => ((E.frozen_soft l).evo w).sv (h.fr i)⟩

/-- A step from the frozen state on is a step. -/
theorem Land.frozen (l : List Nat) {o : Oper} {ow gv : Prop} {X : SV} {m : Nat} {ws : List (Nat × Ob)}
    (hL : Land P G (E.frozen l) w (uos hp (freeze (fo hp) l)) nx o a ⟨ow, X, ws, m, gv⟩) : Land P G E w hp nx o a ⟨ow, X, freeze (fo hp) l ++ ws, m, gv⟩ := by
  intro K B hK
  refine hL K B fun v w' E' m ev hob hbn hv hg => hK v w' E' m (((E.frozen_soft l).evo w).trans ev) (fun i => ?_) (fun i hi => ?_) hv hg
  · rw [hob, uos_append]
  · exact hbn i hi

/-- Data out of cells, in the state in which what they name is written no more. -/
theorem rd_frozen (h : Pre P G E w hp fr a) {t : Ty} {cs : List S1} {x : t.den} {us : List Value} {l : List Nat} (hl : ∀ o, o ∈ ids cs → o ∈ l) (hr : rdS (fo hp) t cs = some (x, [])) (hs : S1sok E w cs us) :
    Rd (E.frozen l).owned w t us x := by
  have hsub : ∀ b, (E.frozen l).owned b → E.owned b := by
    intro b hb
    by_cases hb' : b < w.heap.size
    · exact ((E.frozen_soft l).evo w).own b hb' hb
    · rcases hb with hb | ⟨o, f, h1, h2⟩
      · exact .inl hb
      · have hm := (E.frozen_soft l).mem h.mem
        exact absurd (hm.lt (mut_ne h1) h2) hb'
  have hI : ∀ o, o ∈ ids cs → isA (E.ob o) = true → ∀ b f, E.loc o = some (b, f) → ¬ (E.frozen l).owned b := fun o ho hx b f hloc => Env.frozen_not h.mem (hl o ho) hx hloc
  obtain ⟨us', rest, l1, rfl, h1, h2, h3⟩ := rdS_ok h.ob h.mem.hp hsub t cs x [] us hr hI hs
  rw [h2.nil_inv, List.append_nil]
  exact h1

/-- The same, no owned block asked of. -/
theorem rd_plain (h : Pre P G E w hp fr a) {t : Ty} {cs : List S1} {x : t.den} {us : List Value} (hr : rdS (fo hp) t cs = some (x, [])) (hs : S1sok E w cs us) : Rd (fun _ => False) w t us x := by
  obtain ⟨us', rest, l1, rfl, h1, h2, h3⟩ := rdS_ok h.ob h.mem.hp (S' := fun _ => False) (fun _ hb => hb.elim) t cs x [] us hr (fun _ _ _ _ _ _ h => h) hs
  rw [h2.nil_inv, List.append_nil]
  exact h1

/-- Of data the cells are storable. -/
theorem rd_stl {S : Nat → Prop} : ∀ (t : Ty) (us : List Value) (x : t.den), Rd S w t us x → ∀ v ∈ us, v.oneCell' = true
  | .int _, us, _, r => by obtain ⟨rfl, _⟩ := r; simp [Value.oneCell']
  | .bool, us, _, r => by have e : us = _ := r; rw [e]; simp [Value.oneCell']
  | .str, us, _, r => by obtain ⟨rfl, _⟩ := r; simp [Value.oneCell']
  | .unit, us, _, r => by have e : us = _ := r; rw [e]; simp
  | .opq, us, _, r => by obtain ⟨rfl, h⟩ := r; simpa using h
  | .pair p q, us, y, r => by
    obtain ⟨v1, v2, rfl, r1, r2⟩ := r
    intro v hv
    rcases List.mem_append.1 hv with hv | hv
    · exact rd_stl p v1 _ r1 v hv
    · exact rd_stl q v2 _ r2 v hv
  | .slice z e, us, _, r => by obtain ⟨_, ⟨_, _, rfl, _⟩ | ⟨_, _, _, rfl, _⟩⟩ := r <;> simp [Value.oneCell']

/-- A datum's place in an array's block. -/
theorem part_eq {vs : List Value} {off n i k : Nat} (hi : i < k) (hle : off + k * n ≤ vs.length) : off + i * n + n ≤ vs.length := by
  have : (i + 1) * n ≤ k * n := Nat.mul_le_mul_right n hi
  rw [Nat.add_mul] at this
  omega

theorem ids_append (l l' : List S1) (q : Nat) : q ∈ ids (l ++ l') ↔ q ∈ ids l ∨ q ∈ ids l' := by
  induction l with
  | nil => simp [ids]
  | cons c l ih => cases c <;> simp [ids, ih, or_assoc]

theorem cellsS_ids : ∀ (t : Ty) (x : t.den) (q : Nat), q ∉ ids (cellsS t x)
  | .int _, _, _ => by simp [cellsS, ids]
  | .bool, _, _ => by simp [cellsS, ids]
  | .str, _, _ => by simp [cellsS, ids]
  | .unit, _, _ => by simp [cellsS, ids]
  | .opq, _, _ => by simp [cellsS, ids]
  | .pair p1 p2, x, q => by
    simp only [cellsS, ids_append, not_or]
    exact ⟨cellsS_ids p1 _ q, cellsS_ids p2 _ q⟩
  | .slice _ _, _, _ => by simp [cellsS, ids]

theorem land_store_el (h : Pre P G E w hp fr a) {t : TypeId} {x y : Operand} {bb : Bool} {n : Nat} (hI : aggI P t = some (bb, n)) {Y : SV} {ow : Prop} {o i off z : Nat} {e : Ty} {xs : List e.den} {r : e.den}
    (hx : SVok E w (.s (.pe o i off)) (a.eval x)) (hy : SVok E w Y (a.eval y)) (ho : fo hp o = .arr false z e xs) (hs : shape bb Y = true) (hst : bb = false → stl Y.cells = true)
    (hr : rdS (fo hp) e (lay (cellsS e (xs.getD i e.zero)) off Y.cells) = some (r, []))
    (hle : off + n ≤ e.n) (hn : Y.cells.length = n) (hself : ¬ o ∈ ids Y.cells) :
    Land P G E w hp nx ⟨d, .store t x y, ty, pos, af, gd⟩ a ⟨ow, .unk, freeze (fo hp) (ids Y.cells) ++ [(o, .arr false z e (xs.set i r))], nx, True⟩ := by
  refine Land.frozen (ids Y.cells) ?_
  have hF := h.frozen (ids Y.cells)
  generalize hE : E.frozen (ids Y.cells) = F at hF ⊢
  intro K B hK
  have hev0 : Evo E F w w := hE ▸ (E.frozen_soft _).evo w
  obtain ⟨vs, hv, hok⟩ := cells_ok hy hs hst
  have hob : E.ob o = .arr false z e xs := (h.ob o).trans ho
  have hobF : F.ob o = .arr false z e xs := by
    rw [← hE]
    show (if o ∈ ids Y.cells ∧ isA (E.ob o) = true then frz (E.ob o) else E.ob o) = _
    rw [if_neg (fun hh => hself hh.1), hob]
  obtain ⟨hb, hx⟩ := hev0.s1 hx
  rw [hobF] at hx
  obtain ⟨hi, b, f, hl, hxv⟩ := hx
  have hm := hF.mem.hp o hb
  rw [hobF] at hm
  have hm0 := hm
  obtain ⟨hz, hm⟩ := hm
  rw [hl] at hm
  obtain ⟨cur, T, fz, hh, hfz, hsz, hel⟩ := hm
  have hfz := hfz rfl
  subst hfz
  have hlE : E.loc o = some (b, f) := by rw [← hE] at hl; exact hl
  -- the element's cells, as they are and as they become
  have hm1 := h.mem.hp o (h.mem.born_of (by rw [hob]; simp))
  rw [hob] at hm1
  obtain ⟨_, hm1⟩ := hm1
  rw [hlE] at hm1
  obtain ⟨cur', T', fz', hh', _, _, hel'⟩ := hm1
  rw [hh] at hh'
  cases hh'
  have hr0 := hel' i hi
  have hus := cellsS_ok e _ _ hr0
  rw [getD_of_lt hi] at hr
  have hvl : vs.length = n := hok.1.trans hn
  have hcl : (cellsS e xs[i]).length = e.n := cellsS_len e _
  have hnew := lay_ok hus hok (p := off) (by omega)
  have hrd : Rd F.owned w e (splice ((cur.toList.drop (f + i * e.n)).take e.n) off vs) r := by
    rw [← hE]
    refine rd_frozen h (l := ids Y.cells) (fun q hq => ?_) hr hnew
    -- a slice named in the laid cells is named in what is stored
    have key : ∀ (l : List S1) (p : Nat) (ws : List S1), (∀ q, q ∉ ids l) → ∀ q, q ∈ ids (lay l p ws) → q ∈ ids ws := by
      intro l
      induction l with
      | nil => intro p ws _ q hq; cases ws <;> simp [lay, ids] at hq
      | cons c l ih =>
        intro p ws hno q hq
        have hno' : ∀ q, q ∉ ids l := fun q hq' => hno q (by cases c <;> simp [ids, hq'])
        cases ws with
        | nil => rw [lay_nil] at hq; exact absurd hq (hno q)
        | cons y ws => cases p with
          | zero =>
            simp only [lay] at hq
            cases y <;> simp only [ids, List.mem_cons] at hq ⊢ <;> first | exact ih 0 ws hno' q hq | exact hq.imp id (ih 0 ws hno' q)
          | succ p =>
            simp only [lay] at hq
            have : q ∈ ids (lay l p (y :: ws)) := by
              cases c with
              | sub o' lo hi => exact absurd (by simp [ids]) (hno o')
              | _ => simpa [ids] using hq
            exact ih p (y :: ws) hno' q this
    exact key _ _ _ (cellsS_ids e _) q hq
  have hcur : f + i * e.n + e.n ≤ cur.toList.length := part_eq hi (by simpa using hsz)
  have hple : f + i * e.n + off + vs.length ≤ cur.toList.length := by omega
  have h1c : ∀ u ∈ vs, u.oneCell' = true := fun u hu => rd_stl _ _ _ hrd u (by simp [splice, hu])
  have hst' := run_storeVar (w := w) hI hv hvl h1c hh (o := f + i * e.n + off) (by rw [← Array.length_toList]; omega)
  have hsz' : (splice cur.toList (f + i * e.n + off) vs).toArray.size = cur.size := by simp [splice_len hple]
  have hmut : (F.ob o).mut = true := by rw [hobF]; rfl
  have hsame : same (F.ob o) (.arr false z e (xs.set i r)) := by rw [hobF]; exact ⟨rfl, rfl, by simp⟩
  unfold Oper.wp
  have hrun : (execOp a.eval ⟨d, .store t x y, ty, pos, af, gd⟩).run P w = .ok .skip (w.setRow b (splice cur.toList (f + i * e.n + off) vs).toArray) := by
    simp [execOp, Instr.storeAt, hxv, Instr.sureAddr, hst']
  rw [hrun, Oper.upon_skip]
  have hev := evo_row hF.mem hmut hl hh hsz' hsame
  refine hK undef _ _ (mem_row hF.mem hmut hl hh hsz' hsame fun hev => ?_) hev (fun q => ?_) (fun q hq => ?_) trivial trivial
  · refine ⟨by simpa using hz, ?_⟩
    rw [set_loc]
    refine ⟨_, T, (0, 0), setRow_heap w b cur _ T _ hh, fun _ => rfl, by rw [hsz']; simpa using hsz, fun k hk => ?_⟩
    have hk' : k < xs.length := by simpa using hk
    have hkl : f + k * e.n + e.n ≤ cur.toList.length := part_eq hk' (by simpa using hsz)
    by_cases hki : k = i
    · subst hki
      have e1 : (xs.set k r)[k]'hk = r := by simp
      rw [e1]
      show Rd _ _ e ((List.drop (f + k * e.n) (splice cur.toList (f + k * e.n + off) vs)).take e.n) r
      rw [splice_in hple (by omega) (by omega) hkl]
      rw [show f + k * e.n + off - (f + k * e.n) = off by omega]
      exact hev.rd hrd
    · have e1 : (xs.set i r)[k]'hk = xs[k] := by simp [Ne.symm hki]
      rw [e1]
      show Rd _ _ e ((List.drop (f + k * e.n) (splice cur.toList (f + i * e.n + off) vs)).take e.n) xs[k]
      rw [splice_part hple ?_]
      · exact hev.rd (hel k hk')
      · rcases Nat.lt_or_gt_of_ne hki with hlt | hlt
        · have := Nat.mul_le_mul_right e.n (show k + 1 ≤ i from hlt)
          rw [Nat.add_mul] at this
          omega
        · have := Nat.mul_le_mul_right e.n (show i + 1 ≤ k from hlt)
          rw [Nat.add_mul] at this
          omega
  · simp only [uos, fo_uo]
    by_cases hq : q = o
    · subst hq; rw [set_ob, if_pos rfl]
    · rw [set_ob_ne _ _ _ hq, if_neg hq]; exact hF.ob q
  · rcases hq with hq | rfl
    · exact .inl hq
    · exact .inl hb

end
end
end Go.Proofs.YtaoplfeohffbiaaGreatDoor.Sx

/-! Steps: append. -/
namespace Go.Proofs.YtaoplfeohffbiaaGreatDoor.Sx
set_option linter.unusedSimpArgs false
set_option linter.unusedVariables false
set_option linter.unusedSectionVars false
noncomputable section

theorem ObOk.soft {E : Env} {w : World} {o : Nat} {x : Ob} (h : ObOk E w o x) : ObOk E w o (frz x) := by
  cases x with
  | dead => exact h
  | box Tb cs => exact h
  | lp s fr ps a b pd => exact h
  | it s2 p2 => exact h
  | mp es2 => exact h
  | arr fz z e xs =>
    obtain ⟨h1, h2⟩ := h
    refine ⟨h1, ?_⟩
    cases hl : E.loc o with
    | none => rw [hl] at h2; exact h2
    | some p =>
      obtain ⟨b, off⟩ := p
      rw [hl] at h2
      obtain ⟨vs, T, fzz, b1, _, b3, b4⟩ := h2
      exact ⟨vs, T, fzz, b1, fun hf => (by cases hf), b3, b4⟩

/-- Objects softened and one new one, at a block of its own. -/
theorem mem_soft_new {G : Ctx} {E E' : Env} {w w' : World} (m : Mem G E w) (hev : Evo E E' w w') {nx : Nat} {x : Ob}
    (hborn : ∀ i, E'.born i ↔ E.born i ∨ i = nx) (hloc : ∀ i, i ≠ nx → E'.loc i = E.loc i) (hob : ∀ i, i ≠ nx → E'.ob i = E.ob i ∨ E'.ob i = .dead ∨ E'.ob i = frz (E.ob i))
    (hx : E'.ob nx = x) (hsep : ∀ i b' f', i ≠ nx → E'.ob i ≠ .dead → E.loc i = some (b', f') → (∀ b f, E'.loc nx = some (b, f) → b' ≠ b) ∧ w'.heap[b']? = w.heap[b']?)
    (hok : ObOk E' w' nx x) (hlo : ∀ b f, E'.loc nx = some (b, f) → G.w0.heap.size ≤ b ∨ G.mod b) (os : w'.os = w.os) (tape : w'.tape = w.tape) (output : w'.output = w.output)
    (old : ∀ b, b < G.w0.heap.size → ¬ G.mod b → w'.heap[b]? = w.heap[b]?) : Mem G E' w' where
  hp o ho := by
    by_cases e : o = nx
    · subst e; rw [hx]; exact hok
    · have hb := ((hborn o).1 ho).resolve_right e
      rcases Classical.em (E'.ob o = .dead) with hd | hd
      · rw [hd]; trivial
      · have hlive : ∀ b' f', E.ob o ≠ .dead → E.loc o = some (b', f') → w'.heap[b']? = w.heap[b']? := fun b' f' _ h2 => (hsep o b' f' e hd h2).2
        have h1 := (m.hp o hb).evo hev (hloc o e) hlive
        rcases hob o e with h2 | h2 | h2
        · rw [h2]; exact h1
        · exact absurd h2 hd
        · rw [h2]; exact h1.soft
  unb o ho := by
    have hn : ¬ E.born o ∧ o ≠ nx := ⟨fun h => ho ((hborn o).2 (.inl h)), fun h => ho ((hborn o).2 (.inr h))⟩
    have hd := m.unb o hn.1
    rcases hob o hn.2 with h2 | h2 | h2
    · rw [h2]; exact hd
    · exact h2
    · rw [h2, hd]; rfl
  sep o o' b1 f1 f2 h1 h2 h3 h4 := by
    have live : ∀ i, i ≠ nx → E'.ob i ≠ .dead → E.ob i ≠ .dead := by
      intro i hi hd h0
      rcases hob i hi with k | k | k
      · exact hd (k.trans h0)
      · exact hd k
      · rw [h0] at k; exact hd k
    by_cases e1 : o = nx <;> by_cases e2 : o' = nx
    · omega
    · subst e1
      rw [hloc o' e2] at h4
      exact absurd rfl ((hsep o' b1 f2 e2 h2 h4).1 b1 f1 h3)
    · subst e2
      rw [hloc o e1] at h3
      exact absurd rfl ((hsep o b1 f1 e1 h1 h3).1 b1 f2 h4)
    · rw [hloc o e1] at h3
      rw [hloc o' e2] at h4
      exact m.sep o o' b1 f1 f2 (live o e1 h1) (live o' e2 h2) h3 h4
  new o b1 f1 h1 h2 := by
    by_cases e : o = nx
    · subst e; exact hlo b1 f1 h2
    · rw [hloc o e] at h2
      rcases hob o e with k | k | k
      · rw [k] at h1; exact m.new o b1 f1 h1 h2
      · exact absurd k h1
      · refine m.new o b1 f1 (fun h0 => h1 ?_) h2
        rw [k, h0]; rfl
  bad b hb := m.bad b (by rw [← hev.bad]; exact hb)
  bd := hev.bad.trans m.bd
  os := os.trans m.os
  tape := tape.trans m.tape
  output := output.trans m.output
  size := Nat.le_trans m.size hev.size
  old b hb hm := (old b hb hm).trans (m.old b hb hm)
  sus p hp := hev.sv (m.sus p hp)
  rdk p hp := (m.rdk p hp).evo hev
  mks b hb := hev.oth b _ (m.mks b hb)
  gl := m.gl
  ev := fun E0 w1 h0 => ⟨(m.ev E0 w1 h0).1, (m.ev E0 w1 h0).2.trans hev⟩

section
variable {P : Program} {G : Ctx} {E : Env} {w : World} {hp : List (Nat × Ob)} {nx : Nat} {fr : List SV} {a : Act}
variable {d : Option Tmp} {ty : TypeId} {pos : String} {af : Array Edge} {gd : Option (Nat × Bool)}

/-- A slice that is read: its value, its elements' cells. -/
structure Row (S : Nat → Prop) (w : World) (e : Ty) (v : Value) (ys : List e.den) : Prop where
  form : (ys = [] ∧ ∃ q c, v = .slice q 0 c) ∨ (ys ≠ [] ∧ ∃ b off c, v = .slice (some ⟨b, off, none⟩) ys.length c ∧ ys.length ≤ c ∧ b < w.heap.size ∧
    ∀ i (h : i < ys.length), ∃ us : List Value, us.length = e.n ∧ (∀ j u, us[j]? = some u → w.cell? ⟨b, off + i * e.n + j, none⟩ = some u) ∧ Rd S w e us ys[i])

theorem row_of_rd {S : Nat → Prop} {z : Nat} {e : Ty} {v : Value} {ys : List e.den} (h : Rd S w (.slice z e) [v] ys) : Row S w e v ys := by
  obtain ⟨_, ⟨q, c, e1, e0⟩ | ⟨b, off, c, e1, hc, hne, _, hlt, hx⟩⟩ := h
  · exact ⟨.inl ⟨e0, q, c, by simpa using e1⟩⟩
  · exact ⟨.inr ⟨hne, b, off, c, by simpa using e1, hc, hlt, hx⟩⟩

theorem row_of (h : Pre P G E w hp fr a) {z : Nat} {e : Ty} {X : SV} {v : Value} {ys : List e.den} (hX : SVok E w X v) (hs : sList (fo hp) z e X = some ys) : Row E.owned w e v ys ∧ ys.length * z ≤ 140737488355328 := by
  cases X with
  | s x =>
    simp only [sList] at hs
    split at hs
    · rename_i ys' hr
      cases hs
      cases x with
      | ro t y =>
        simp only [rdS] at hr
        split at hr
        · rename_i y' hy
          obtain ⟨e', rfl⟩ := cast_some hy
          subst e'
          simp only [Option.some.injEq, Prod.mk.injEq, and_true] at hr
          subst hr
          exact ⟨row_of_rd hX, hX.1⟩
        · cases hr
      | nils =>
        simp only [rdS, Option.some.injEq, Prod.mk.injEq, and_true] at hr
        subst hr
        exact ⟨⟨.inl ⟨rfl, none, 0, hX⟩⟩, by simp⟩
      | sub o lo hi =>
        simp only [rdS] at hr
        split at hr
        · rename_i fz z' e' xs ho
          split at hr
          · rename_i ys2 hy
            obtain ⟨e2, rfl⟩ := cast_some hy
            cases e2
            simp only [Option.some.injEq, Prod.mk.injEq, and_true] at hr
            subst hr
            have hob : E.ob o = .arr fz z e xs := (h.ob o).trans ho
            have hm := h.mem.hp o hX.1
            rw [hob] at hm
            have h0 : Rd (fun _ => False) w (.slice z e) [v] _ := sub_rd (S' := fun _ => False) (fun _ hb => hb.elim) hob hm hX (fun _ _ _ hf => hf)
            refine ⟨?_, h0.1⟩
            have hX' := hX
            obtain ⟨_, hX'⟩ := hX'
            rw [hob] at hX'
            obtain ⟨h1, h2, h3⟩ := hX'
            have hlen : ((xs.drop lo).take (hi - lo)).length = hi - lo := by simp; omega
            by_cases hne : (xs.drop lo).take (hi - lo) = []
            · rw [hne] at h0 ⊢
              exact row_of_rd (z := z) (S := E.owned) ⟨by simp, by
                obtain ⟨_, ⟨q, c, e1, e0⟩ | ⟨b, off, c, e1, hc, hne', _⟩⟩ := h0
                · exact .inl ⟨q, c, e1, rfl⟩
                · exact absurd rfl hne'⟩
            · cases hl : E.loc o with
              | none => rw [hl] at h3; obtain ⟨_, rfl⟩ := h3; simp at hne
              | some q =>
                obtain ⟨b, off⟩ := q
                rw [hl] at h3
                rcases h3 with ⟨c, cs, T, fzz, rfl, hc, hh, _⟩ | ⟨hle, _⟩
                · refine ⟨.inr ⟨hne, b, off + lo * e.n, c, by rw [hlen], by rw [hlen]; omega, lt_of_row hh, fun i hi' => ?_⟩⟩
                  rw [hlen] at hi'
                  obtain ⟨us, hul, hcell, hr⟩ := arr_cells hm hl (show lo + i < xs.length by omega)
                  have e3 : ((xs.drop lo).take (hi - lo))[i]'(by rw [hlen]; exact hi') = xs[lo + i] := by simp
                  rw [e3]
                  refine ⟨us, hul, fun j u hj => ?_, hr⟩
                  have e4 : off + lo * e.n + i * e.n + j = off + (lo + i) * e.n + j := by rw [Nat.add_mul]; omega
                  rw [e4]; exact hcell j u hj
                · have h0' : hi - lo = 0 := by omega
                  rw [h0'] at hne; simp at hne
          · cases hr
        · cases hr
      | _ => simp [rdS] at hr
    · cases hs
  | _ => simp [sList] at hs

/-- The cells of a row, one behind the other. -/
theorem flat {S : Nat → Prop} {e : Ty} {b off : Nat} {ys : List e.den}
    (hx : ∀ i (h : i < ys.length), ∃ us : List Value, us.length = e.n ∧ (∀ j u, us[j]? = some u → w.cell? ⟨b, off + i * e.n + j, none⟩ = some u) ∧ Rd S w e us ys[i]) :
    ∃ news : List Value, news.length = ys.length * e.n ∧ (∀ j u, news[j]? = some u → w.cell? ⟨b, off + j, none⟩ = some u) ∧ ∀ i (h : i < ys.length), Rd S w e ((news.drop (i * e.n)).take e.n) ys[i] := by
  have key : ∀ j, j < ys.length * e.n → ∃ u, w.cell? ⟨b, off + j, none⟩ = some u := by
    intro j hj
    have hn : 0 < e.n := by
      rcases Nat.eq_zero_or_pos e.n with h | h
      · rw [h] at hj; simp at hj
      · exact h
    have hi : j / e.n < ys.length := (Nat.div_lt_iff_lt_mul hn).2 hj
    obtain ⟨us, hul, hc, _⟩ := hx (j / e.n) hi
    have hm : j % e.n < us.length := by rw [hul]; exact Nat.mod_lt _ hn
    refine ⟨us[j % e.n], ?_⟩
    have := hc (j % e.n) us[j % e.n] (List.getElem?_eq_getElem hm)
    rwa [show off + j / e.n * e.n + j % e.n = off + j by rw [Nat.add_assoc, Nat.mul_comm, Nat.div_add_mod]] at this
  refine ⟨(List.range (ys.length * e.n)).map fun j => (w.cell? ⟨b, off + j, none⟩).getD undef, by simp, fun j u hj => ?_, fun i hi => ?_⟩
  · have hjl := (List.getElem?_eq_some_iff.1 hj).1
    simp only [List.length_map, List.length_range] at hjl
    obtain ⟨u', hu'⟩ := key j hjl
    simp only [List.getElem?_map, List.getElem?_range hjl, Option.map_some, hu', Option.getD_some, Option.some.injEq] at hj
    rw [hu', hj]
  · obtain ⟨us, hul, hc, hr⟩ := hx i hi
    have hle : i * e.n + e.n ≤ ys.length * e.n := by have := Nat.mul_le_mul_right e.n (show i + 1 ≤ ys.length from hi); rw [Nat.add_mul] at this; omega
    have : ((((List.range (ys.length * e.n)).map fun j => (w.cell? ⟨b, off + j, none⟩).getD undef).drop (i * e.n)).take e.n) = us := by
      apply List.ext_getElem?
      intro j
      by_cases hj : j < e.n
      · rw [List.getElem?_take_of_lt hj, List.getElem?_drop]
        have hjl : i * e.n + j < ys.length * e.n := by omega
        have hju : j < us.length := by omega
        have := hc j us[j] (List.getElem?_eq_getElem hju)
        rw [List.getElem?_eq_getElem hju]
        rw [Nat.add_assoc] at this
        simp only [List.getElem?_map, List.getElem?_range hjl, Option.map_some, this, Option.getD_some]
      · rw [List.getElem?_eq_none (by simp; omega), List.getElem?_eq_none (by omega)]
    rw [this]; exact hr

/-- append of nothing. -/
theorem run_app_none {t : TypeId} {e : Ty} {z : Nat} (hI : elemI P t = some (e, z)) (tt : TypeId) (q : Option Addr) (n c : Nat) (hn : n ≤ c) (q' : Option Addr) (c' : Nat) :
    (Builtin.append_ #[t, t] tt #[.slice q n c, .slice q' 0 c']).run P w = .ok (.slice q n c) w := by
  obtain ⟨el, inf, zv, hu, hi, hs, _⟩ := elemI_run hI
  cases q with
  | none => cases q' <;> simp [Builtin.append_, run_underlying hu, sizeOf, typeInfo, hi, Builtin.lenOf, hn, Builtin.firstCells, loadCells, loadCellsFrom]
  | some b => cases q' <;> simp [Builtin.append_, run_underlying hu, sizeOf, typeInfo, hi, Builtin.lenOf, hn, Builtin.firstCells, loadCells, loadCellsFrom, storeCells]

/-- append where there is room. -/
theorem run_app_room {t : TypeId} {e : Ty} {z : Nat} (hI : elemI P t = some (e, z)) (tt : TypeId) {b p n c m c' : Nat} {q' : Addr} {cur : Array Value} {T : TypeId} (hh : w.heap[b]? = some (.cells cur T (0, 0)))
    {news : List Value} (hl : news.length = m * e.n) (hc : ∀ j u, news[j]? = some u → w.cell? (q'.add j) = some u) (h1 : ∀ u ∈ news, u.oneCell' = true) (hroom : n + m ≤ c) (hcap : p + c * e.n ≤ cur.size) :
    (Builtin.append_ #[t, t] tt #[.slice (some ⟨b, p, none⟩) n c, .slice (some q') m c']).run P w =
      .ok (.slice (some ⟨b, p, none⟩) (n + m) c) (w.setRow b (splice cur.toList (p + n * e.n) news).toArray) := by
  obtain ⟨el, inf, zv, hu, hi, hs, _⟩ := elemI_run hI
  have hf := run_firstCells_some (P := P) w e.n m q' m c' news hl hc
  have hle := Nat.mul_le_mul_right e.n hroom
  rw [Nat.add_mul] at hle
  have hst := run_storeCells_at P b (p + n * e.n) T news 0 cur w hh (by omega) h1
  simp only [Nat.add_zero] at hst
  simp [Builtin.append_, run_underlying hu, sizeOf, typeInfo, hi, hs, Builtin.lenOf, hroom, hf, add_lit', hst, splice]

def softE (E : Env) (l os : List Nat) (nx : Nat) (x : Ob) (L : Option (Nat × Nat)) : Env := ((E.frozen l).killed os).set nx x L

theorem softE_ne {l os : List Nat} {x : Ob} {L : Option (Nat × Nat)} {i : Nat} (hi : i ≠ nx) :
    (softE E l os nx x L).ob i = (if i ∈ os then .dead else if i ∈ l ∧ isA (E.ob i) = true then frz (E.ob i) else E.ob i) ∧ (softE E l os nx x L).loc i = E.loc i := by
  refine ⟨?_, ?_⟩
  · show ((_ : Env).set nx x L).ob i = _
    rw [set_ob_ne _ _ _ hi]
    rfl
  · show ((_ : Env).set nx x L).loc i = _
    rw [set_loc_ne _ _ _ hi]
    rfl

theorem softE_or {l os : List Nat} {x : Ob} {L : Option (Nat × Nat)} {i : Nat} (hi : i ≠ nx) :
    (softE E l os nx x L).ob i = E.ob i ∨ (softE E l os nx x L).ob i = .dead ∨ (softE E l os nx x L).ob i = frz (E.ob i) := by
  rw [(softE_ne hi).1]
  by_cases h1 : i ∈ os
  · rw [if_pos h1]; exact .inr (.inl rfl)
  · rw [if_neg h1]
    by_cases h2 : i ∈ l ∧ isA (E.ob i) = true
    · rw [if_pos h2]; exact .inr (.inr rfl)
    · rw [if_neg h2]; exact .inl rfl

theorem softE_hp (hob : ∀ i, E.ob i = fo hp i) (l os : List Nat) (x : Ob) (L : Option (Nat × Nat)) (i : Nat) :
    (softE E l os nx x L).ob i = fo (uos hp (freeze (fo hp) l ++ (kill os ++ [(nx, x)]))) i := by
  rw [uos_append, uos_append]
  simp only [uos, fo_uo]
  by_cases hi : i = nx
  · subst hi; rw [if_pos rfl]; exact set_ob _ _ _ _
  · rw [if_neg hi, fo_kill, fo_freeze, (softE_ne hi).1, hob]

theorem evo_soft {w' : World} {l os : List Nat} {x : Ob} {L : Option (Nat × Nat)} (hnx : ¬ E.born nx) (hb : ∀ b f, L = some (b, f) → b < w.heap.size → E.owned b)
    (hmem : ∀ b, b < w.heap.size → ¬ E.owned b → w'.heap[b]? = w.heap[b]?)
    (hblk : ∀ (b : Nat) (cs : Array Value) (T : TypeId) (fz : Nat × Nat), w.heap[b]? = some (Obj.cells cs T fz) → ∃ (cs' : Array Value) (fz' : Nat × Nat), w'.heap[b]? = some (Obj.cells cs' T fz') ∧ cs'.size = cs.size)
    (hsize : w.heap.size ≤ w'.heap.size) (hoth : ∀ (b : Nat) (y : Obj), w.heap[b]? = some y → OthK y w'.heap[b]?) : Evo E (softE E l os nx x L) w w' where
  born i hi := .inl hi
  keep i hi := by
    have hne : i ≠ nx := fun e => hnx (e ▸ hi)
    rw [(softE_ne hne).2]
    rcases softE_or (E := E) (l := l) (os := os) (x := x) (L := L) hne with h | h | h
    · rw [h]
      cases hx : E.ob i with
      | dead => exact .inl rfl
      | box Tb cs => exact .inr ⟨rfl, rfl⟩
      | arr fz z e xs => exact .inr ⟨⟨rfl, rfl, rfl⟩, rfl⟩
      | lp s fr ps a b pd => exact .inr ⟨trivial, rfl⟩
      | it s2 p2 => exact .inr ⟨trivial, rfl⟩
      | mp es2 => exact .inr ⟨trivial, rfl⟩
    · exact .inl h
    · rw [h]
      cases hx : E.ob i with
      | dead => exact .inl rfl
      | box Tb cs => exact .inr ⟨rfl, rfl⟩
      | arr fz z e xs => exact .inr ⟨⟨rfl, rfl, rfl⟩, rfl⟩
      | lp s fr ps a b pd => exact .inr ⟨trivial, rfl⟩
      | it s2 p2 => exact .inr ⟨trivial, rfl⟩
      | mp es2 => exact .inr ⟨trivial, rfl⟩
  own b hbl ho := by
    rcases ho with ho | ⟨j, f, h1, h2⟩
    · exact .inl ho
    by_cases hj : j = nx
    · subst hj
      exact hb b f (by rw [← h2]; exact (set_loc _ _ _ _).symm) hbl
    · rw [(softE_ne hj).2] at h2
      rcases softE_or (E := E) (l := l) (os := os) (x := x) (L := L) hj with h | h | h
      · rw [h] at h1; exact .inr ⟨j, f, h1, h2⟩
      · rw [h] at h1; cases h1
      · rw [h] at h1
        cases hx : E.ob j with
        | dead => rw [hx] at h1; cases h1
        | box Tb cs => exact .inr ⟨j, f, by rw [hx]; rfl, h2⟩
        | lp s fr ps a b' pd => exact .inr ⟨j, f, by rw [hx]; rfl, h2⟩
        | it s2 p2 => exact .inr ⟨j, f, by rw [hx]; rfl, h2⟩
        | mp es2 => exact .inr ⟨j, f, by rw [hx]; rfl, h2⟩
        | arr fz z e xs => rw [hx] at h1; cases h1
  mem := hmem
  blk := hblk
  size := hsize
  bad := rfl
  oth := hoth

theorem land_soft_new (h : Pre P G E w hp fr a) {o : Oper} {l os : List Nat} {x : Ob} {L : Option (Nat × Nat)} {v : Value} {w' : World} {X : SV} {ow gv : Prop}
    (hr : (execOp a.eval o).run P w = .ok (.value v) w') (hev : Evo E (softE E l os nx x L) w w')
    (hsep : ∀ i b' f', i ≠ nx → i ∉ os → E.ob i ≠ .dead → E.loc i = some (b', f') → (∀ b f, L = some (b, f) → b' ≠ b) ∧ w'.heap[b']? = w.heap[b']?)
    (hok : ObOk (softE E l os nx x L) w' nx x) (hlo : ∀ b f, L = some (b, f) → G.w0.heap.size ≤ b ∨ G.mod b) (os' : w'.os = w.os) (tape : w'.tape = w.tape) (output : w'.output = w.output)
    (old : ∀ b, b < G.w0.heap.size → ¬ G.mod b → w'.heap[b]? = w.heap[b]?) (hX : SVok (softE E l os nx x L) w' X v) (hg : gv) :
    Land P G E w hp nx o a ⟨ow, X, freeze (fo hp) l ++ (kill os ++ [(nx, x)]), nx + 1, gv⟩ := by
  intro K B hK
  unfold Oper.wp
  rw [hr, Oper.upon_value]
  refine hK v w' _ (mem_soft_new h.mem hev (nx := nx) (x := x) (fun i => Iff.rfl) (fun i hi => (softE_ne hi).2) (fun i hi => softE_or hi) (set_ob _ _ _ _) (fun i b' f' hi hd hl => ?_) hok ?_ os' tape output old)
    hev (softE_hp h.ob l os x L) (fun i hi => hi.imp id fun e => by subst e; exact ⟨Nat.le_refl _, by simp⟩) hX hg
  · have hni : i ∉ os := by
      intro hio
      rw [(softE_ne hi).1, if_pos hio] at hd
      exact hd rfl
    have hdE : E.ob i ≠ .dead := by
      intro h0
      apply hd
      rw [(softE_ne hi).1, if_neg hni, h0]
      simp [isA]
    have := hsep i b' f' hi hni hdE hl
    refine ⟨fun b f hbf => this.1 b f ?_, this.2⟩
    rw [← hbf]; exact (set_loc _ _ _ _).symm
  · intro b f hbf
    refine hlo b f ?_
    rw [← hbf]; exact (set_loc _ _ _ _).symm

end
end
end Go.Proofs.YtaoplfeohffbiaaGreatDoor.Sx

/-! Steps: append, whole. -/
namespace Go.Proofs.YtaoplfeohffbiaaGreatDoor.Sx
set_option linter.unusedSimpArgs false
set_option linter.unusedVariables false
set_option linter.unusedSectionVars false
noncomputable section

section
variable {P : Program} {G : Ctx} {E : Env} {w : World} {hp : List (Nat × Ob)} {nx : Nat} {fr : List SV} {a : Act}
variable {d : Option Tmp} {ty : TypeId} {pos : String} {af : Array Edge} {gd : Option (Nat × Bool)}

/-- Rows one behind the other in a list of cells. -/
def Parts (S : Nat → Prop) (w : World) (e : Ty) (vs : List Value) (xs : List e.den) : Prop :=
  vs.length = xs.length * e.n ∧ ∀ i (h : i < xs.length), Rd S w e ((vs.drop (i * e.n)).take e.n) xs[i]

theorem Parts.append {S : Nat → Prop} {e : Ty} {vs us : List Value} {xs ys : List e.den} (h : Parts S w e vs xs) (k : Parts S w e us ys) : Parts S w e (vs ++ us) (xs ++ ys) := by
  refine ⟨by rw [List.length_append, List.length_append, h.1, k.1, Nat.add_mul], fun i hi => ?_⟩
  by_cases hx : i < xs.length
  · have e1 : (xs ++ ys)[i] = xs[i] := List.getElem_append_left hx
    rw [e1]
    have hle : i * e.n + e.n ≤ vs.length := by rw [h.1]; have := Nat.mul_le_mul_right e.n (show i + 1 ≤ xs.length from hx); rw [Nat.add_mul] at this; omega
    have e2 : ((vs ++ us).drop (i * e.n)).take e.n = (vs.drop (i * e.n)).take e.n := by
      rw [List.drop_append_of_le_length (by omega), List.take_append_of_le_length (by simp; omega)]
    rw [e2]; exact h.2 i hx
  · have hy : i - xs.length < ys.length := by simp at hi; omega
    have e1 : (xs ++ ys)[i] = ys[i - xs.length] := List.getElem_append_right (by omega)
    rw [e1]
    have e2 : (vs ++ us).drop (i * e.n) = us.drop ((i - xs.length) * e.n) := by
      have e3 : i * e.n = vs.length + (i - xs.length) * e.n := by rw [h.1, ← Nat.add_mul]; congr 1; omega
      rw [e3, List.drop_append, List.drop_of_length_le (by omega)]
      simp
    rw [e2]; exact k.2 _ hy

theorem Parts.one {S : Nat → Prop} {e : Ty} {vs : List Value} {xs : List e.den} (h : Parts S w e vs xs) : ∀ u ∈ vs, u.oneCell' = true := by
  intro u hu
  obtain ⟨j, hj, rfl⟩ := List.mem_iff_getElem.1 hu
  have hj' := hj
  rw [h.1] at hj'
  have hn : 0 < e.n := by
    rcases Nat.eq_zero_or_pos e.n with h0 | h0
    · rw [h0] at hj'; simp at hj'
    · exact h0
  have hi : j / e.n < xs.length := (Nat.div_lt_iff_lt_mul hn).2 hj'
  refine rd_stl _ _ _ (h.2 _ hi) _ ?_
  refine List.mem_iff_getElem?.2 ⟨j % e.n, ?_⟩
  rw [List.getElem?_take_of_lt (Nat.mod_lt _ hn), List.getElem?_drop, Nat.mul_comm, Nat.div_add_mod]
  exact List.getElem?_eq_getElem hj

theorem Parts.mono {E E' : Env} {w w' : World} (h : Evo E E' w w') {e : Ty} {vs : List Value} {xs : List e.den} (k : Parts E.owned w e vs xs) : Parts E'.owned w' e vs xs :=
  ⟨k.1, fun i hi => h.rd (k.2 i hi)⟩

/-- The new array's block. -/
theorem ob_of_parts {E' : Env} {w' : World} {nx z b f : Nat} {e : Ty} {zs : List e.den} (hz : zs.length * z ≤ 140737488355328) (hl : E'.loc nx = some (b, f)) {cur : Array Value} {T : TypeId}
    (hh : w'.heap[b]? = some (.cells cur T (0, 0))) {vs rest : List Value} (hc : (cur.toList.drop f) = vs ++ rest) (hf : f ≤ cur.size) (hp : Parts E'.owned w' e vs zs) : ObOk E' w' nx (.arr false z e zs) := by
  refine ⟨hz, ?_⟩
  rw [hl]
  have hlen : (cur.toList.drop f).length = cur.size - f := by simp
  rw [hc, List.length_append, hp.1] at hlen
  refine ⟨cur, T, (0, 0), hh, fun _ => rfl, by omega, fun i hi => ?_⟩
  have e1 : (cur.toList.drop (f + i * e.n)).take e.n = (vs.drop (i * e.n)).take e.n := by
    rw [← List.drop_drop, hc]
    have hle : i * e.n + e.n ≤ vs.length := by rw [hp.1]; have := Nat.mul_le_mul_right e.n (show i + 1 ≤ zs.length from hi); rw [Nat.add_mul] at this; omega
    rw [List.drop_append_of_le_length (by omega), List.take_append_of_le_length (by simp; omega)]
  rw [e1]
  exact hp.2 i hi

/-- The outcome of an append in a new block. -/
theorem land_grown (h : Pre P G E w hp fr a) (hnx : ¬ E.born nx) {o : Oper} {l os : List Nat} {z : Nat} {e : Ty} {zs : List e.den} (hz : zs.length * z ≤ 140737488355328) {cs : Array Value} {T : TypeId} {C : Nat}
    (hr : (execOp a.eval o).run P w = .ok (.value (.slice (some ⟨w.heap.size, 0, none⟩) zs.length C)) (w.drew.alloc (.cells cs T))) {vs rest : List Value} (hcs : cs.toList = vs ++ rest)
    (hC : zs.length ≤ C) (hCs : cs.size = C * e.n) (hp' : Parts E.owned w e vs zs) {ow : Prop} :
    Land P G E w hp nx o a ⟨ow, .s (.sub nx 0 zs.length), freeze (fo hp) l ++ (kill os ++ [(nx, .arr false z e zs)]), nx + 1, True⟩ := by
  have hnew : (w.drew.alloc (.cells cs T)).heap[w.heap.size]? = some (.cells cs T (0, 0)) := heap_alloc_at w.drew _
  have hold : ∀ b, b < w.heap.size → (w.drew.alloc (.cells cs T)).heap[b]? = w.heap[b]? := fun b hb => heap_alloc_ne w.drew _ b hb
  have hev : Evo E (softE E l os nx (.arr false z e zs) (some (w.heap.size, 0))) w (w.drew.alloc (.cells cs T)) := by
    refine evo_soft hnx (fun b f hbf hb => ?_) (fun b hb _ => hold b hb) (fun b cs' T' fz' hc => ⟨cs', fz', (hold b (lt_of_row hc)).trans hc, rfl⟩) ?_ fun b y hy => (by rw [hold b (lt_of_obj hy), hy]; exact OthK.same)
    · cases hbf; omega
    · show w.heap.size ≤ (w.heap.push _).size
      simp
  refine land_soft_new h hr hev (fun i b' f' hi hio hd hl => ⟨fun b f hbf => ?_, hold b' (h.mem.lt hd hl)⟩) ?_ (fun b f hbf => ?_) rfl rfl rfl (fun b hb _ => hold b (Nat.lt_of_lt_of_le hb h.mem.size)) ?_ trivial
  · cases hbf
    have := h.mem.lt hd hl
    omega
  · exact ob_of_parts hz (set_loc _ _ _ _) hnew (f := 0) (by rw [List.drop_zero]; exact hcs) (Nat.zero_le _) (hp'.mono hev)
  · cases hbf; exact .inl h.mem.size
  · refine ⟨.inr rfl, ?_⟩
    show match (Env.set _ nx _ _).ob nx with | .arr _ _ e xs => _ | _ => _
    rw [set_ob]
    refine ⟨Nat.zero_le _, Nat.le_refl _, ?_⟩
    show match (Env.set _ nx _ _).loc nx with | none => _ | some (b, off) => _
    rw [set_loc]
    exact .inl ⟨C, cs, T, (0, 0), by simp, by simpa using hC, hnew, by simp [hCs]⟩

/-- The outcome of an append in the block that is there. -/
theorem land_stay (h : Pre P G E w hp fr a) (hnx : ¬ E.born nx) {o : Oper} {l : List Nat} {z : Nat} {e : Ty} {zs : List e.den} (hz : zs.length * z ≤ 140737488355328) {q b f0 f : Nat} (hq : (E.ob q).mut = true)
    (hql : E.loc q = some (b, f0)) {old new : Array Value} {T : TypeId} (hh : w.heap[b]? = some (.cells old T (0, 0))) (hsz : new.size = old.size) {c : Nat} {w' : World} (hw' : w' = w.setRow b new)
    (hr : (execOp a.eval o).run P w = .ok (.value (.slice (some ⟨b, f, none⟩) zs.length c)) w') {vs rest : List Value} (hcs : new.toList.drop f = vs ++ rest) (hf : f ≤ new.size)
    (hC : zs.length ≤ c) (hcap : f + c * e.n ≤ new.size) (hp' : Parts E.owned w e vs zs) {ow : Prop} :
    Land P G E w hp nx o a ⟨ow, .s (.sub nx 0 zs.length), freeze (fo hp) l ++ (kill [q] ++ [(nx, .arr false z e zs)]), nx + 1, True⟩ := by
  have hown : E.owned b := .inr ⟨q, f0, hq, hql⟩
  have hnew : w'.heap[b]? = some (.cells new T (0, 0)) := by rw [hw']; exact setRow_heap w b old new T (0, 0) hh
  have hoth : ∀ b', b' ≠ b → w'.heap[b']? = w.heap[b']? := fun b' hb => by rw [hw']; exact setRow_other w b b' new hb
  have hev : Evo E (softE E l [q] nx (.arr false z e zs) (some (b, f))) w w' := by
    refine evo_soft hnx (fun b1 f1 hbf _ => ?_) (fun b' _ ho => hoth b' fun e => ho (e ▸ hown)) (fun b' cs' T' fz' hc => ?_) ?_ fun b' y hy => ?_
    · cases hbf; exact hown
    · by_cases e : b' = b
      · subst e
        rw [hh] at hc
        cases hc
        exact ⟨new, _, hnew, hsz⟩
      · exact ⟨cs', fz', (hoth b' e).trans hc, rfl⟩
    · rw [hw']; simp [World.setRow]
    · by_cases e : b' = b
      · subst e
        rw [hh] at hy
        cases hy
        trivial
      · rw [hoth b' e, hy]; exact OthK.same
  refine land_soft_new h hr hev (fun i b' f' hi hio hd hl => ?_) ?_ (fun b1 f1 hbf => ?_) (by rw [hw']; rfl) (by rw [hw']; rfl) (by rw [hw']; rfl) (fun b' hb hm => ?_) ?_ trivial
  · have hne : b' ≠ b := fun e => by
      subst e
      exact hio (by rw [h.mem.sep i q b' f' f0 hd (mut_ne hq) hl hql]; simp)
    exact ⟨fun b1 f1 hbf => (by cases hbf; exact hne), hoth b' hne⟩
  · exact ob_of_parts hz (set_loc _ _ _ _) hnew hcs hf (hp'.mono hev)
  · cases hbf; exact h.mem.new q b f0 (mut_ne hq) hql
  · refine hoth b' fun e => ?_
    subst e
    rcases h.mem.new q b' f0 (mut_ne hq) hql with h1 | h1
    · omega
    · exact hm h1
  · refine ⟨.inr rfl, ?_⟩
    show match (Env.set _ nx _ _).ob nx with | .arr _ _ e xs => _ | _ => _
    rw [set_ob]
    refine ⟨Nat.zero_le _, Nat.le_refl _, ?_⟩
    show match (Env.set _ nx _ _).loc nx with | none => _ | some (b, off) => _
    rw [set_loc]
    exact .inl ⟨c, new, T, (0, 0), by simp, by simpa using hC, hnew, by simpa using hcap⟩

/-- The outcome of an append of nothing to nothing. -/
theorem land_nothing (h : Pre P G E w hp fr a) (hnx : ¬ E.born nx) {o : Oper} {l os : List Nat} {z : Nat} {e : Ty} {v : Value} (hr : (execOp a.eval o).run P w = .ok (.value v) w)
    (hv : (v = .slice none 0 0) ∨ ∃ q q' b f0, os = [q] ∧ (E.ob q).mut = true ∧ isA (E.ob q) = true ∧ E.loc q = some (b, f0) ∧ v = .slice q' 0 0) {ow : Prop} :
    Land P G E w hp nx o a ⟨ow, .s (.sub nx 0 0), freeze (fo hp) l ++ (kill os ++ [(nx, .arr false z e [])]), nx + 1, True⟩ := by
  rcases hv with rfl | ⟨q, q', b, f0, rfl, hq, ha, hql, rfl⟩
  · have hev : Evo E (softE E l os nx (.arr false z e []) none) w w :=
      evo_soft hnx (fun b f hbf => by cases hbf) (fun _ _ _ => rfl) (fun b' cs' T' fz' hc => ⟨cs', fz', hc, rfl⟩) (Nat.le_refl _) fun b' y hy => (by rw [hy]; exact OthK.same)
    refine land_soft_new h hr hev (fun i b' f' hi hio hd hl => ⟨fun b f hbf => (by cases hbf), rfl⟩) ⟨by simp, ?_⟩ (fun b f hbf => by cases hbf) rfl rfl rfl (fun _ _ _ => rfl) ⟨.inr rfl, ?_⟩ trivial
    · show match (Env.set _ nx _ _).loc nx with | none => _ | some (b, off) => _
      rw [set_loc]
    · show match (Env.set _ nx _ _).ob nx with | .arr _ _ e xs => _ | _ => _
      rw [set_ob]
      refine ⟨Nat.le_refl _, Nat.le_refl _, ?_⟩
      show match (Env.set _ nx _ _).loc nx with | none => _ | some (b, off) => _
      rw [set_loc]
      exact ⟨rfl, rfl⟩
  · have hev : Evo E (softE E l [q] nx (.arr false z e []) (some (b, f0))) w w :=
      evo_soft hnx (fun b1 f1 hbf _ => by cases hbf; exact .inr ⟨q, f0, hq, hql⟩) (fun _ _ _ => rfl) (fun b' cs' T' fz' hc => ⟨cs', fz', hc, rfl⟩) (Nat.le_refl _) fun b' y hy => (by rw [hy]; exact OthK.same)
    have hm := h.mem.hp q (h.mem.born_of (mut_ne hq))
    cases hx : E.ob q with
    | dead => rw [hx] at ha; cases ha
    | box Tb cs => rw [hx] at ha; cases ha
    | lp s fr ps a b pd => rw [hx] at ha; cases ha
    | it s2 p2 => rw [hx] at ha; cases ha
    | mp es2 => rw [hx] at ha; cases ha
    | arr fz z' e' xs =>
      rw [hx] at hm hq
      obtain ⟨_, hm⟩ := hm
      rw [hql] at hm
      obtain ⟨vs, T, fzz, h1, h2, h3, _⟩ := hm
      have hfz : fz = false := by cases fz; rfl; cases hq
      refine land_soft_new h hr hev (fun i b' f' hi hio hd hl => ⟨fun b1 f1 hbf => ?_, rfl⟩) ⟨by simp, ?_⟩ (fun b1 f1 hbf => ?_) rfl rfl rfl (fun _ _ _ => rfl) ⟨.inr rfl, ?_⟩ trivial
      · cases hbf
        intro e
        subst e
        exact hio (by rw [h.mem.sep i q b' f' f0 hd (by rw [hx]; simp) hl hql]; simp)
      · show match (Env.set _ nx _ _).loc nx with | none => _ | some (b, off) => _
        rw [set_loc]
        exact ⟨vs, T, fzz, h1, fun _ => h2 hfz, by simp; omega, fun i hi => by simp at hi⟩
      · cases hbf; exact h.mem.new q b f0 (by rw [hx]; simp) hql
      · show match (Env.set _ nx _ _).ob nx with | .arr _ _ e xs => _ | _ => _
        rw [set_ob]
        refine ⟨Nat.le_refl _, Nat.le_refl _, ?_⟩
        show match (Env.set _ nx _ _).loc nx with | none => _ | some (b, off) => _
        rw [set_loc]
        exact .inr ⟨by simp, q', rfl⟩

end
end
end Go.Proofs.YtaoplfeohffbiaaGreatDoor.Sx

/-! Steps: append at whatever owned slice; the literals of slices. -/
namespace Go.Proofs.YtaoplfeohffbiaaGreatDoor.Sx
set_option linter.unusedSimpArgs false
set_option linter.unusedVariables false
set_option linter.unusedSectionVars false
noncomputable section

section
variable {P : Program} {G : Ctx} {E : Env} {w : World} {hp : List (Nat × Ob)} {nx : Nat} {fr : List SV} {a : Act}
variable {d : Option Tmp} {ty : TypeId} {pos : String} {af : Array Edge} {gd : Option (Nat × Bool)}

theorem arr_parts {o lo hi : Nat} {z : Nat} {e : Ty} {xs : List e.den} {fz : Bool} (hm : ObOk E w o (.arr fz z e xs)) {b off : Nat} (hl : E.loc o = some (b, off)) (h2 : hi ≤ xs.length) {cs : Array Value} {T : TypeId} {fzz : Nat × Nat}
    (hh : w.heap[b]? = some (.cells cs T fzz)) :
    Parts E.owned w e ((cs.toList.drop (off + lo * e.n)).take ((hi - lo) * e.n)) ((xs.drop lo).take (hi - lo)) ∧ off + xs.length * e.n ≤ cs.size := by
  obtain ⟨_, hm⟩ := hm
  rw [hl] at hm
  obtain ⟨vs, T', fz', hh', _, hsz, hx⟩ := hm
  rw [hh] at hh'
  cases hh'
  have hlen : ((xs.drop lo).take (hi - lo)).length = hi - lo := by simp; omega
  refine ⟨⟨?_, fun i hi' => ?_⟩, hsz⟩
  · rw [hlen, List.length_take, List.length_drop, Array.length_toList]
    rcases Nat.le_total hi lo with hle | hle
    · have : hi - lo = 0 := by omega
      rw [this]; simp
    · have h3 := Nat.mul_le_mul_right e.n h2
      have h4 : hi * e.n = lo * e.n + (hi - lo) * e.n := by rw [← Nat.add_mul]; congr 1; omega
      omega
  · rw [hlen] at hi'
    have e1 : ((xs.drop lo).take (hi - lo))[i]'(by rw [hlen]; exact hi') = xs[lo + i]'(by omega) := by simp
    rw [e1]
    have e2 : ((((cs.toList.drop (off + lo * e.n)).take ((hi - lo) * e.n)).drop (i * e.n)).take e.n) = (cs.toList.drop (off + (lo + i) * e.n)).take e.n := by
      have h5 := Nat.mul_le_mul_right e.n (show i + 1 ≤ hi - lo from hi')
      rw [Nat.add_mul] at h5
      rw [List.drop_take, List.take_take, Nat.min_eq_left (by omega), List.drop_drop, Nat.add_mul, Nat.add_assoc]
    rw [e2]
    exact hx _ _

theorem cells_parts {o : Nat} (_ : o = o) {b p : Nat} {cs : Array Value} {T : TypeId} {fzz : Nat × Nat} (hh : w.heap[b]? = some (.cells cs T fzz)) (m : Nat) :
    ∀ j u, ((cs.toList.drop p).take m)[j]? = some u → w.cell? ((⟨b, p, none⟩ : Addr).add j) = some u := by
  intro j u hj
  rw [add_lit']
  by_cases h : j < m
  · rw [List.getElem?_take_of_lt h, List.getElem?_drop] at hj
    exact cell_of hh hj
  · rw [List.getElem?_eq_none (by simp; omega)] at hj
    cases hj

theorem run_appcall {t : TypeId} {s x : Operand} {v : Value} {w' : World} {vs vx : Value} (hs : a.eval s = vs) (hx : a.eval x = vx) (hr : (Builtin.append_ #[t, t] ty #[vs, vx]).run P w = .ok v w') :
    (execOp a.eval ⟨d, .call { callee := .builtin .append, args := #[s, x], argTypes := #[t, t] }, ty, pos, af, gd⟩).run P w = .ok (.value v) w' := by
  simp [execOp, resolve, invoke, builtin, hs, hx, hr]

/-- append where a new block is laid, whatever the slice was. -/
theorem run_app_grow {t : TypeId} {e : Ty} {z : Nat} (hI : elemI P t = some (e, z)) (tt : TypeId) {q : Option Addr} {n c m c' : Nat} {q' : Addr} {olds news : List Value}
    (ho : (q = none ∧ n = 0 ∧ c = 0) ∨ ∃ b, q = some b ∧ ∀ j u, olds[j]? = some u → w.cell? (b.add j) = some u) (hol : olds.length = n * e.n)
    (hl : news.length = m * e.n) (hc : ∀ j u, news[j]? = some u → w.cell? (q'.add j) = some u) (hm : 0 < m) (hg : c < n + m) (hz : (n + m) * z ≤ 140737488355328) :
    ∃ C cs T, (Builtin.append_ #[t, t] tt #[.slice q n c, .slice (some q') m c']).run P w = .ok (.slice (some ⟨w.heap.size, 0, none⟩) (n + m) C) (w.drew.alloc (.cells cs T)) ∧ n + m ≤ C ∧ cs.size = C * e.n ∧
      ∃ rest, cs.toList = (olds ++ news) ++ rest := by
  obtain ⟨el, inf, zv, hu, hi, hs, hb, hzv, hzs, hz0, hn0⟩ := elemI_run hI
  have h63 : n + m ≤ 140737488355328 := Nat.le_trans (Nat.le_mul_of_pos_right _ hz0) hz
  have hsize : ∀ (k old : Nat), k = n + m → (olds.toArray ++ news.toArray ++ Builtin.zeroCells zv.cells (grownCap w k old el - k)).size = grownCap w k old el * e.n := by
    intro k old hk
    have := grownCap_ge w k old el
    simp only [Array.size_append, List.size_toArray, size_zeroCells, hzs, hol, hl, ← Nat.add_mul]
    congr 1
    omega
  rcases ho with ⟨rfl, rfl, rfl⟩ | ⟨b, rfl, hob⟩
  · have h0 : olds = [] := List.eq_nil_of_length_eq_zero (by simpa using hol)
    subst h0
    have hr := run_append_nil (P := P) w t tt el inf zv hu hi hzv q' m c' news (by rw [hs]; exact hl) hc hm (by omega) (by rw [hb]; simp at hz; omega)
    refine ⟨_, _, _, by simpa using hr, by simpa using grownCap_ge w m 0 el, by simpa using hsize m 0 (by omega), ?_⟩
    exact ⟨(Builtin.zeroCells zv.cells (grownCap w m 0 el - m)).toList, by simp⟩
  · have hr := run_append_grow (P := P) w t tt el inf zv hu hi hzv b n c olds (by rw [hs]; exact hol) hob q' m c' news (by rw [hs]; exact hl) hc hg (by omega) (growslice_fits hg (by rw [hb]; exact hz))
    refine ⟨_, _, _, hr, grownCap_ge w (n + m) c el, hsize (n + m) c rfl, ?_⟩
    exact ⟨(Builtin.zeroCells zv.cells (grownCap w (n + m) c el - (n + m))).toList, by simp⟩

theorem land_append (h : Pre P G E w hp fr a) (hnx : ¬ E.born nx) {t : TypeId} {e : Ty} {z : Nat} (hI : elemI P t = some (e, z)) {s x : Operand} {S X : SV} (hs : SVok E w S (a.eval s)) (hx : SVok E w X (a.eval x))
    {xs ys : List e.den} {os : List Nat} (hS : sOwn (fo hp) z e S = some (xs, os)) (hX : sList (fo hp) z e X = some ys) (hz : (xs.length + ys.length) * z ≤ 140737488355328) {ow : Prop} :
    Land P G E w hp nx ⟨d, .call { callee := .builtin .append, args := #[s, x], argTypes := #[t, t] }, ty, pos, af, gd⟩ a
      ⟨ow, .s (.sub nx 0 (xs.length + ys.length)), kill os ++ [(nx, .arr false z e (xs ++ ys))], nx + 1, True⟩ := by
  have hlz : (xs ++ ys).length = xs.length + ys.length := List.length_append
  have hzz : (xs ++ ys).length * z ≤ 140737488355328 := by rw [hlz]; exact hz
  obtain ⟨⟨hrow⟩, _⟩ := row_of h hx hX
  -- the slice that is appended to
  have hform : (a.eval s = .slice none 0 0 ∧ xs = []) ∨
      (∃ o b off lo hi c cs T xs0, os = [o] ∧ E.ob o = .arr false z e xs0 ∧ E.loc o = some (b, off) ∧ ObOk E w o (.arr false z e xs0) ∧ xs = (xs0.drop lo).take (hi - lo) ∧ lo ≤ hi ∧ hi ≤ xs0.length ∧
        a.eval s = .slice (some ⟨b, off + lo * e.n, none⟩) (hi - lo) c ∧ xs0.length - lo ≤ c ∧ w.heap[b]? = some (.cells cs T (0, 0)) ∧ off + (lo + c) * e.n ≤ cs.size) ∨
      (∃ o b off q xs0, os = [o] ∧ E.ob o = .arr false z e xs0 ∧ E.loc o = some (b, off) ∧ a.eval s = .slice q 0 0 ∧ xs = []) := by
    unfold sOwn at hS
    split at hS
    · simp only [Option.some.injEq, Prod.mk.injEq] at hS
      obtain ⟨rfl, rfl⟩ := hS
      exact .inl ⟨hs, rfl⟩
    · rename_i o lo hi
      split at hS
      · rename_i z' e' xs0 ho
        split at hS
        · rename_i ys0 hy
          obtain ⟨e2, rfl⟩ := cast_some hy
          cases e2
          simp only [Option.some.injEq, Prod.mk.injEq] at hS
          obtain ⟨rfl, rfl⟩ := hS
          have hob : E.ob o = .arr false z e xs0 := (h.ob o).trans ho
          obtain ⟨hb, hs⟩ := hs
          rw [hob] at hs
          obtain ⟨h1, h2, h3⟩ := hs
          have hm := h.mem.hp o hb
          rw [hob] at hm
          cases hl : E.loc o with
          | none =>
            rw [hl] at h3
            obtain ⟨e1, rfl⟩ := h3
            exact .inl ⟨e1, by simp⟩
          | some q =>
            obtain ⟨b, off⟩ := q
            rw [hl] at h3
            rcases h3 with ⟨c, cs, T, fz, e1, h4, h5, h6⟩ | ⟨h4, q, e1⟩
            · obtain ⟨hm1, hm2⟩ := hm
              have hm2' := hm2
              rw [hl] at hm2'
              obtain ⟨vs, T', fz', g1, g2, _⟩ := hm2'
              rw [h5] at g1
              cases g1
              have := g2 rfl
              subst this
              exact .inr (.inl ⟨o, b, off, lo, hi, c, cs, T, xs0, rfl, hob, hl, ⟨hm1, hm2⟩, rfl, h1, h2, e1, h4, h5, h6⟩)
            · refine .inr (.inr ⟨o, b, off, q, xs0, rfl, hob, hl, e1, ?_⟩)
              have : hi - lo = 0 := by omega
              rw [this]; simp
        · cases hS
      · cases hS
    · cases hS
  rcases hrow with ⟨rfl, q', c', ex⟩ | ⟨hne, b', off', c', ex, hc', hlt', hx'⟩
  · -- nothing is appended
    rcases hform with ⟨es, rfl⟩ | ⟨o, b, off, lo, hi, c, cs, T, xs0, rfl, hob, hl, hm, rfl, h1, h2, es, h4, h5, h6⟩ | ⟨o, b, off, q, xs0, rfl, hob, hl, es, rfl⟩
    · have hr := run_appcall (d := d) (ty := ty) (pos := pos) (af := af) (gd := gd) es ex (run_app_none (w := w) hI ty none 0 0 (Nat.le_refl _) q' c')
      exact land_nothing (l := []) h hnx hr (.inl rfl)
    · have hlen : ((xs0.drop lo).take (hi - lo)).length = hi - lo := by simp; omega
      have hr := run_appcall (d := d) (ty := ty) (pos := pos) (af := af) (gd := gd) es ex (run_app_none (w := w) hI ty (some ⟨b, off + lo * e.n, none⟩) (hi - lo) c (by omega) q' c')
      obtain ⟨hpts, hsz⟩ := arr_parts (lo := lo) (hi := hi) hm hl h2 h5
      have hle : off + lo * e.n ≤ cs.size := by have := h6; rw [Nat.add_mul] at this; omega
      have := land_stay (o := ⟨d, .call { callee := .builtin .append, args := #[s, x], argTypes := #[t, t] }, ty, pos, af, gd⟩) (l := []) (ow := ow) h hnx (z := z) (zs := (xs0.drop lo).take (hi - lo) ++ []) (by simpa using hzz)
        (q := o) (b := b) (f0 := off) (f := off + lo * e.n) (by rw [hob]; rfl) hl h5 rfl (c := c) (w' := w) (setRow_self w b cs T (0, 0) h5).symm (by rw [List.append_nil, hlen]; exact hr)
        (vs := (cs.toList.drop (off + lo * e.n)).take ((hi - lo) * e.n)) (rest := (cs.toList.drop (off + lo * e.n)).drop ((hi - lo) * e.n)) (List.take_append_drop _ _).symm hle
        (by rw [List.append_nil, hlen]; omega) (by rw [Nat.add_mul] at h6; omega) (by rw [List.append_nil]; exact hpts)
      rw [hlz] at this
      exact this
    · have hr := run_appcall (d := d) (ty := ty) (pos := pos) (af := af) (gd := gd) es ex (run_app_none (w := w) hI ty q 0 0 (Nat.le_refl _) q' c')
      exact land_nothing (l := []) h hnx hr (.inr ⟨o, q, b, off, rfl, by rw [hob]; rfl, by rw [hob]; rfl, hl, rfl⟩)
  · obtain ⟨news, hnl, hnc, hnr⟩ := flat hx'
    have hnc' : ∀ j u, news[j]? = some u → w.cell? ((⟨b', off', none⟩ : Addr).add j) = some u := fun j u hj => by rw [add_lit']; exact hnc j u hj
    have hnp : Parts E.owned w e news ys := ⟨hnl, hnr⟩
    have hpos : 0 < ys.length := List.length_pos_iff.2 hne
    have grow : ∀ (q : Option Addr) (c : Nat) (olds : List Value), a.eval s = .slice q xs.length c → ((q = none ∧ xs.length = 0 ∧ c = 0) ∨ ∃ b, q = some b ∧ ∀ j u, olds[j]? = some u → w.cell? (b.add j) = some u) →
        Parts E.owned w e olds xs → c < xs.length + ys.length →
        Land P G E w hp nx ⟨d, .call { callee := .builtin .append, args := #[s, x], argTypes := #[t, t] }, ty, pos, af, gd⟩ a
          ⟨ow, .s (.sub nx 0 (xs.length + ys.length)), kill os ++ [(nx, .arr false z e (xs ++ ys))], nx + 1, True⟩ := by
      intro q c olds es hq hpo hlt
      obtain ⟨C, cs, T, hr, hC, hCs, rest, hcs⟩ := run_app_grow (w := w) hI ty (c' := c') hq hpo.1 hnl hnc' hpos hlt hz
      have hr' := run_appcall (d := d) (ty := ty) (pos := pos) (af := af) (gd := gd) es ex hr
      have := land_grown (l := []) (os := os) (ow := ow) h hnx hzz (by rw [hlz]; exact hr') hcs (by rw [hlz]; exact hC) hCs (hpo.append hnp)
      rw [hlz] at this
      exact this
    rcases hform with ⟨es, rfl⟩ | ⟨o, b, off, lo, hi, c, cs, T, xs0, rfl, hob, hl, hm, rfl, h1, h2, es, h4, h5, h6⟩ | ⟨o, b, off, q, xs0, rfl, hob, hl, es, rfl⟩
    · exact grow none 0 [] es (.inl ⟨rfl, rfl, rfl⟩) ⟨by simp, fun i hi => by simp at hi⟩ (by simpa using hpos)
    · have hlen : ((xs0.drop lo).take (hi - lo)).length = hi - lo := by simp; omega
      obtain ⟨hpts, hsz⟩ := arr_parts (lo := lo) (hi := hi) hm hl h2 h5
      by_cases hroom : (hi - lo) + ys.length ≤ c
      · have hcap : off + lo * e.n + c * e.n ≤ cs.size := by rw [Nat.add_mul] at h6; omega
        have hr := run_app_room (w := w) hI ty (c' := c') (q' := ⟨b', off', none⟩) h5 (p := off + lo * e.n) (n := hi - lo) (c := c) hnl hnc' hnp.one hroom hcap
        have hr' := run_appcall (d := d) (ty := ty) (pos := pos) (af := af) (gd := gd) es ex hr
        have hle2 := Nat.mul_le_mul_right e.n hroom
        rw [Nat.add_mul, ← hnl] at hle2
        have hfit : off + lo * e.n + (hi - lo) * e.n + news.length ≤ cs.toList.length := by
          have hcl : cs.toList.length = cs.size := by simp
          omega
        have hsz' : (splice cs.toList (off + lo * e.n + (hi - lo) * e.n) news).toArray.size = cs.size := by simp [splice_len hfit]
        have hsp : (splice cs.toList (off + lo * e.n + (hi - lo) * e.n) news).drop (off + lo * e.n) =
            ((cs.toList.drop (off + lo * e.n)).take ((hi - lo) * e.n) ++ news) ++ cs.toList.drop (off + lo * e.n + (hi - lo) * e.n + news.length) := by
          unfold splice
          rw [List.append_assoc, List.append_assoc, List.drop_append_of_le_length (by simp; omega), List.drop_take]
          congr 2
          omega
        have := land_stay (o := ⟨d, .call { callee := .builtin .append, args := #[s, x], argTypes := #[t, t] }, ty, pos, af, gd⟩) (l := []) (ow := ow) h hnx (z := z) (zs := (xs0.drop lo).take (hi - lo) ++ ys) hzz
          (q := o) (b := b) (f0 := off) (f := off + lo * e.n) (by rw [hob]; rfl) hl h5 hsz' (c := c) rfl (by rw [hlz, hlen]; exact hr') hsp (by rw [hsz']; omega) (by rw [hlz, hlen]; exact hroom) (by rw [hsz']; exact hcap) (hpts.append hnp)
        rw [hlz] at this
        exact this
      · have hcell := cells_parts (o := o) rfl h5 (p := off + lo * e.n) ((hi - lo) * e.n)
        exact grow (some ⟨b, off + lo * e.n, none⟩) c _ (by rw [hlen]; exact es) (.inr ⟨_, rfl, hcell⟩) hpts (by rw [hlen]; omega)
    · refine grow q 0 [] es ?_ ⟨by simp, fun i hi => by simp at hi⟩ (by simpa using hpos)
      cases q with
      | none => exact .inl ⟨rfl, rfl, rfl⟩
      | some b0 => exact .inr ⟨b0, rfl, fun j u hj => by simp at hj⟩

end
end
end Go.Proofs.YtaoplfeohffbiaaGreatDoor.Sx
