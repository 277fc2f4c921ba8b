/- The data of the symbolic interpreter: types, what cells read as, symbolic values, objects, and that all of it survives a step. -/
import Derived.WalkKit
import Derived.WalkSpells
import Derived.WalkLawsBesides
import Derived.Deep.QuietTactic
namespace Go.Proofs.YtdepbfgnmliggaaGreatDoor.Sx
set_option linter.unusedSimpArgs false
set_option linter.unusedVariables false

/-! ### Types and data -/
inductive Ty where
  | int (k : IntKind) | bool | str | unit | opq
  | pair (a b : Ty) | slice (z : Nat) (e : Ty)
  deriving DecidableEq

@[reducible] def Ty.den : Ty → Type
  | .int _ => Int
  | .bool => Bool
  | .str => List UInt8
  | .unit => Unit
  | .opq => Value
  | .pair a b => a.den × b.den
  | .slice _ e => List e.den

def Ty.n : Ty → Nat
  | .unit => 0
  | .pair a b => a.n + b.n
  | _ => 1

def Ty.zero : (t : Ty) → t.den
  | .int _ => (0 : Int)
  | .bool => false
  | .str => []
  | .unit => ()
  | .opq => .nilFunc
  | .pair a b => (a.zero, b.zero)
  | .slice _ _ => []

/-- What a value of the type always fulfils. -/
def Ty.wf : (t : Ty) → t.den → Prop
  | .int k, n => k.has n
  | .bool, _ => True
  | .str, s => s.length ≤ 140737488355328
  | .unit, _ => True
  | .opq, v => v.oneCell' = true
  | .pair a b, x => a.wf x.1 ∧ b.wf x.2
  | .slice z e, xs => xs.length * z ≤ 140737488355328 ∧ ∀ x ∈ xs, e.wf x

/-- These cells read as x; no block of S is met. -/
def Rd (S : Nat → Prop) (w : World) : (t : Ty) → List Value → t.den → Prop
  | .int k, vs, n => vs = [.int k n] ∧ k.has n
  | .bool, vs, b => vs = [.bool b]
  | .str, vs, s => vs = [.string ⟨s.toArray⟩] ∧ s.length ≤ 140737488355328
  | .unit, vs, _ => vs = []
  | .opq, vs, v => vs = [v] ∧ v.oneCell' = true
  | .pair a b, vs, x => ∃ v1 v2, vs = v1 ++ v2 ∧ Rd S w a v1 x.1 ∧ Rd S w b v2 x.2
  | .slice z e, vs, xs => xs.length * z ≤ 140737488355328 ∧
      ((∃ a c, vs = [.slice a 0 c] ∧ xs = []) ∨
       ∃ b off c, vs = [.slice (some ⟨b, off, none⟩) xs.length c] ∧ xs.length ≤ c ∧ xs ≠ [] ∧ ¬ S b ∧ b < w.heap.size ∧
         ∀ i (h : i < xs.length), ∃ us : List Value, us.length = e.n ∧ (∀ j u, us[j]? = some u → w.cell? ⟨b, off + i * e.n + j, none⟩ = some u) ∧ Rd S w e us xs[i])

theorem cell_lt {w : World} {b off : Nat} {u : Value} (h : w.cell? ⟨b, off, none⟩ = some u) : b < w.heap.size := by
  unfold World.cell? at h
  rcases Nat.lt_or_ge b w.heap.size with h' | h'
  · exact h'
  · simp [Array.getElem?_eq_none h'] at h

theorem cell_same {w w' : World} {b off : Nat} (h : w'.heap[b]? = w.heap[b]?) : w'.cell? ⟨b, off, none⟩ = w.cell? ⟨b, off, none⟩ :=
  World.cell?_of_block (w := w) h

theorem Rd.mono {S S' : Nat → Prop} {w w' : World} (hsz : w.heap.size ≤ w'.heap.size)
    (h : ∀ b, b < w.heap.size → ¬ S b → w'.heap[b]? = w.heap[b]? ∧ ¬ S' b) : ∀ (t : Ty) (vs : List Value) (x : t.den), Rd S w t vs x → Rd S' w' t vs x
  | .int _, _, _, r => r
  | .bool, _, _, r => r
  | .str, _, _, r => r
  | .unit, _, _, r => r
  | .opq, _, _, r => r
  | .pair a b, _, _, ⟨v1, v2, e, r1, r2⟩ => ⟨v1, v2, e, Rd.mono hsz h a v1 _ r1, Rd.mono hsz h b v2 _ r2⟩
  | .slice _ e, _, _, ⟨hl, r⟩ => by
    refine ⟨hl, r.imp id ?_⟩
    rintro ⟨b, off, c, ev, hc, hne, hS, hb, hx⟩
    obtain ⟨h1, h2⟩ := h b hb hS
    refine ⟨b, off, c, ev, hc, hne, h2, Nat.lt_of_lt_of_le hb hsz, fun i hi => ?_⟩
    obtain ⟨us, hu, hcell, hr⟩ := hx i hi
    exact ⟨us, hu, fun j u hj => by rw [cell_same h1]; exact hcell j u hj, Rd.mono hsz h e us _ hr⟩

theorem Rd.len {S : Nat → Prop} {w : World} : ∀ (t : Ty) (vs : List Value) (x : t.den), Rd S w t vs x → vs.length = t.n
  | .int _, _, _, r => by rw [r.1]; rfl
  | .bool, _, _, r => by rw [show _ = _ from r]; rfl
  | .str, _, _, r => by rw [r.1]; rfl
  | .unit, _, _, r => by rw [show _ = _ from r]; rfl
  | .opq, _, _, r => by rw [r.1]; rfl
  | .pair a b, _, _, ⟨v1, v2, e, r1, r2⟩ => by rw [e, List.length_append, Rd.len a v1 _ r1, Rd.len b v2 _ r2]; rfl
  | .slice _ _, _, _, ⟨_, r⟩ => by
    rcases r with ⟨a, c, e, _⟩ | ⟨b, off, c, e, _⟩ <;> rw [e] <;> rfl

theorem Rd.wf {S : Nat → Prop} {w : World} : ∀ (t : Ty) (vs : List Value) (x : t.den), Rd S w t vs x → t.wf x
  | .int _, _, _, r => r.2
  | .bool, _, _, _ => trivial
  | .str, _, _, r => r.2
  | .unit, _, _, _ => trivial
  | .opq, _, _, r => r.2
  | .pair a b, _, _, ⟨v1, v2, _, r1, r2⟩ => ⟨Rd.wf a v1 _ r1, Rd.wf b v2 _ r2⟩
  | .slice _ e, _, xs, ⟨hl, r⟩ => by
    refine ⟨hl, fun x hx => ?_⟩
    rcases r with ⟨a, c, _, e0⟩ | ⟨b, off, c, _, _, _, _, _, hr⟩
    · subst e0; cases hx
    · obtain ⟨i, hi, rfl⟩ := List.mem_iff_getElem.1 hx
      obtain ⟨us, _, _, hr'⟩ := hr i hi
      exact Rd.wf e us _ hr'

/-! ### Symbolic values -/
inductive S1 where
  | unk
  | int (k : IntKind) (n : Int)
  | bool (b : Bool)
  | mb (t f : Bool)
  | str (s : List UInt8)
  | sub (o lo hi : Nat)
  | nils
  | ro (t : Ty) (x : t.den)
  | pb (o off : Nat)
  | pe (o i off : Nat)
  | pr (t : Ty) (x : t.den) (off : Nat)
  | fn (f : Nat) (caps : List (Nat × Nat))
  | yl (o : Nat)
  | val (v : Value)

inductive SV where
  | unk
  | s (x : S1)
  | agg (l : List S1)
  | tup (l : List (Bool × List S1))
  | gd (g : Bool) (x : SV)

/-- lp: the record of a range over a function: its state (0 ready, 1 busy, 2 done), the frame where it began, its left sides, its code, the jump that waits. -/
inductive Ob where
  | dead
  | box (cs : List S1)
  | arr (fz : Bool) (z : Nat) (e : Ty) (xs : List e.den)
  | lp (s : Nat) (fr : List SV) (ps : List Nat) (asg body : Code) (pd : Option Code)

def gl : List SV → Nat → SV
  | [], _ => .unk
  | x :: _, 0 => x
  | _ :: l, n + 1 => gl l n

def lpS : Nat → LoopState
  | 0 => .ready
  | 1 => .busy
  | _ => .done

def Ob.mut : Ob → Bool
  | .dead => false
  | .box _ => true
  | .arr fz _ _ _ => !fz
  | .lp .. => true

abbrev Loc := Nat → Option (Nat × Nat)

structure Env where
  ob : Nat → Ob
  loc : Loc
  born : Nat → Prop
  bad : Nat → Prop

/-- What nobody else may look at: the own objects' blocks, and what is barred from the first. -/
def Env.owned (E : Env) (b : Nat) : Prop := E.bad b ∨ ∃ o off, (E.ob o).mut = true ∧ E.loc o = some (b, off)

/-- What a symbolic value says of a value. -/
def S1ok (E : Env) (w : World) : S1 → Value → Prop
  | .unk, _ => True
  | .int k n, v => v = .int k n ∧ k.has n
  | .bool b, v => v = .bool b
  | .mb t f, v => ∃ b, v = .bool b ∧ (b = true → t = true) ∧ (b = false → f = true)
  | .str s, v => v = .string ⟨s.toArray⟩ ∧ s.length ≤ 140737488355328
  | .sub o lo hi, v => E.born o ∧ match E.ob o with
    | .arr _ _ e xs => lo ≤ hi ∧ hi ≤ xs.length ∧ match E.loc o with
      | none => v = .slice none 0 0 ∧ hi = 0
      | some (b, off) => (∃ c cs T fz, v = .slice (some ⟨b, off + lo * e.n, none⟩) (hi - lo) c ∧ xs.length - lo ≤ c ∧ w.heap[b]? = some (.cells cs T fz) ∧ off + (lo + c) * e.n ≤ cs.size) ∨ (xs.length ≤ lo ∧ ∃ q, v = .slice q 0 0)
    | _ => v.oneCell' = true
  | .nils, v => v = .slice none 0 0
  | .ro t x, v => Rd E.owned w t [v] x
  | .pb o off, v => E.born o ∧ match E.ob o with
    | .box _ => ∃ b, E.loc o = some (b, 0) ∧ v = .pointer (some ⟨b, off, none⟩)
    | _ => v.oneCell' = true
  | .pe o i off, v => E.born o ∧ match E.ob o with
    | .arr _ _ e xs => i < xs.length ∧ ∃ b f, E.loc o = some (b, f) ∧ v = .pointer (some ⟨b, f + i * e.n + off, none⟩)
    | _ => v.oneCell' = true
  | .pr t x off, v => ∃ b f us, v = .pointer (some ⟨b, f + off, none⟩) ∧ ¬ E.owned b ∧ b < w.heap.size ∧ us.length = t.n ∧ (∀ j u, us[j]? = some u → w.cell? ⟨b, f + j, none⟩ = some u) ∧ Rd E.owned w t us x
  | .fn f caps, v => ∃ vs : List Value, v = .func (.func f) #[] vs.toArray ∧ vs.length = caps.length ∧
      ∀ (i o off : Nat), caps[i]? = some (o, off) → E.born o ∧ match E.ob o with
        | .box _ => ∃ b, E.loc o = some (b, 0) ∧ vs[i]? = some (.pointer (some ⟨b, off, none⟩))
        | _ => True
  | .yl o, v => E.born o ∧ match E.ob o with
    | .lp .. => ∃ b, E.loc o = some (b, 0) ∧ v = .func (.yield b) #[] #[]
    | _ => v.oneCell' = true
  | .val u, v => v = u

def S1sok (E : Env) (w : World) (l : List S1) (vs : List Value) : Prop :=
  vs.length = l.length ∧ ∀ (i : Nat) x v, l[i]? = some x → vs[i]? = some v → S1ok E w x v

def SVok (E : Env) (w : World) : SV → Value → Prop
  | .unk, _ => True
  | .s x, v => S1ok E w x v
  | .agg l, v => ∃ vs : List Value, v = .agg vs.toArray ∧ S1sok E w l vs
  | .tup l, v => ∃ vs : List Value, v = .tuple vs.toArray ∧ vs.length = l.length ∧
      ∀ (i : Nat) (bl : Bool × List S1) u, l[i]? = some bl → vs[i]? = some u →
        (bl.1 = true → ∃ us : List Value, u = .agg us.toArray ∧ S1sok E w bl.2 us) ∧ (bl.1 = false → S1sok E w bl.2 [u])
  | .gd g x, v => (g = true → SVok E w x v) ∧ (g = false → v = undef)

/-- Of one kind, none shorter. -/
def same : Ob → Ob → Prop
  | .box cs, .box cs' => cs'.length = cs.length
  | .arr _ z e xs, .arr _ z' e' xs' => z' = z ∧ e' = e ∧ xs'.length = xs.length
  | .lp .., .lp .. => True
  | _, _ => False

theorem same.refl {x : Ob} (h : x ≠ .dead) : same x x := by
  cases x with
  | dead => exact absurd rfl h
  | box cs => rfl
  | arr fz z e xs => exact ⟨rfl, rfl, rfl⟩
  | lp s fr ps a b pd => trivial

/-- What is no cells stays; a loop's record stays one. -/
def OthK : Obj → Option Obj → Prop
  | .cells .., _ => True
  | .loop _, y => ∃ r, y = some (.loop r)
  | x, y => y = some x
theorem OthK.same {x : Obj} : OthK x (some x) := by
  cases x <;> first | trivial | exact ⟨_, rfl⟩ | rfl
theorem OthK.trans {x : Obj} {y z : Option Obj} (h : OthK x y) (k : ∀ x', y = some x' → OthK x' z) : OthK x z := by
  cases x <;> first | trivial | exact k _ h | (obtain ⟨r, e⟩ := h; exact (k (.loop r) e :))

structure Evo (E E' : Env) (w w' : World) : Prop where
  born : ∀ o, E.born o → E'.born o
  keep : ∀ o, E.born o → E'.ob o = .dead ∨ (same (E.ob o) (E'.ob o) ∧ E'.loc o = E.loc o)
  own : ∀ b, b < w.heap.size → E'.owned b → E.owned b
  mem : ∀ b, b < w.heap.size → ¬ E.owned b → w'.heap[b]? = w.heap[b]?
  blk : ∀ (b : Nat) (cs : Array Value) (T : TypeId) (fz : Nat × Nat), w.heap[b]? = some (Obj.cells cs T fz) → ∃ (cs' : Array Value) (fz' : Nat × Nat), w'.heap[b]? = some (Obj.cells cs' T fz') ∧ cs'.size = cs.size
  size : w.heap.size ≤ w'.heap.size
  bad : E'.bad = E.bad
  oth : ∀ (b : Nat) (x : Obj), w.heap[b]? = some x → OthK x w'.heap[b]?

theorem Evo.rd {E E' : Env} {w w' : World} (h : Evo E E' w w') {t : Ty} {vs : List Value} {x : t.den} (r : Rd E.owned w t vs x) : Rd E'.owned w' t vs x :=
  Rd.mono h.size (fun b hb hS => ⟨h.mem b hb hS, fun hS' => hS (h.own b hb hS')⟩) t vs x r

theorem ref_one {E : Env} {w : World} {x : S1} {v : Value} (h : (∃ o lo hi, x = .sub o lo hi) ∨ (∃ o off, x = .pb o off) ∨ (∃ o i off, x = .pe o i off) ∨ (∃ o, x = .yl o)) (r : S1ok E w x v) : v.oneCell' = true := by
  rcases h with ⟨o, lo, hi, rfl⟩ | ⟨o, off, rfl⟩ | ⟨o, i, off, rfl⟩ | ⟨o, rfl⟩
  · obtain ⟨_, r⟩ := r
    cases ho : E.ob o with
    | dead => rw [ho] at r; exact r
    | box cs => rw [ho] at r; exact r
    | lp s fr ps a b pd => rw [ho] at r; exact r
    | arr fz z e xs =>
      rw [ho] at r
      obtain ⟨_, _, r⟩ := r
      cases hl : E.loc o with
      | none => rw [hl] at r; rw [r.1]; rfl
      | some p =>
        obtain ⟨b, off⟩ := p
        rw [hl] at r
        rcases r with ⟨_, _, _, _, e, _⟩ | ⟨_, _, e⟩ <;> rw [e] <;> rfl
  · obtain ⟨_, r⟩ := r
    cases ho : E.ob o with
    | dead => rw [ho] at r; exact r
    | box cs => rw [ho] at r; obtain ⟨_, _, e⟩ := r; rw [e]; rfl
    | arr fz z e xs => rw [ho] at r; exact r
    | lp s fr ps a b pd => rw [ho] at r; exact r
  · obtain ⟨_, r⟩ := r
    cases ho : E.ob o with
    | dead => rw [ho] at r; exact r
    | box cs => rw [ho] at r; exact r
    | lp s fr ps a b pd => rw [ho] at r; exact r
    | arr fz z e xs => rw [ho] at r; obtain ⟨_, _, _, _, e⟩ := r; rw [e]; rfl
  · obtain ⟨_, r⟩ := r
    cases ho : E.ob o with
    | dead => rw [ho] at r; exact r
    | box cs => rw [ho] at r; exact r
    | arr fz z e xs => rw [ho] at r; exact r
    | lp s fr ps a b pd => rw [ho] at r; obtain ⟨_, _, e⟩ := r; rw [e]; rfl

theorem Evo.s1 {E E' : Env} {w w' : World} (h : Evo E E' w w') {x : S1} {v : Value} (r : S1ok E w x v) : S1ok E' w' x v := by
  cases x with
  | unk => trivial
  | int k n => exact r
  | bool b => exact r
  | mb t f => exact r
  | str s => exact r
  | nils => exact r
  | val u => exact r
  | ro t x => exact h.rd r
  | sub o lo hi =>
    have h1 := ref_one (.inl ⟨_, _, _, rfl⟩) r
    obtain ⟨hb, r⟩ := r
    refine ⟨h.born o hb, ?_⟩
    rcases h.keep o hb with hd | ⟨hs, hl⟩
    · rw [hd]; exact h1
    · cases ho : E.ob o with
      | dead => rw [ho] at hs; exact hs.elim
      | box cs => rw [ho] at hs; cases ho' : E'.ob o with
        | dead => rw [ho'] at hs; exact hs.elim
        | box cs' => exact h1
        | arr fz z e xs => rw [ho'] at hs; exact hs.elim
        | lp s fr ps a b pd => exact h1
      | lp s fr ps a b pd => rw [ho] at hs; cases ho' : E'.ob o with
        | dead => rw [ho'] at hs; exact hs.elim
        | box cs' => exact h1
        | arr fz z e xs => rw [ho'] at hs; exact hs.elim
        | lp s' fr' ps' a' b' pd' => exact h1
      | arr fz z e xs =>
        rw [ho] at hs r
        cases ho' : E'.ob o with
        | dead => rw [ho'] at hs; exact hs.elim
        | box cs' => exact h1
        | lp s' fr' ps' a' b' pd' => exact h1
        | arr fz' z' e' xs' =>
          rw [ho'] at hs
          obtain ⟨rfl, rfl, hle⟩ := hs
          obtain ⟨h1, h2, h3⟩ := r
          refine ⟨h1, by omega, ?_⟩
          rw [hl]
          cases hloc : E.loc o with
          | none => rw [hloc] at h3; exact h3
          | some p =>
            obtain ⟨b, off⟩ := p
            rw [hloc] at h3
            rcases h3 with ⟨c, cs, T, fzz, e1, e2, e3, e4⟩ | ⟨e1, e2⟩
            · obtain ⟨cs', fz', e5, e6⟩ := h.blk b cs T fzz e3
              exact .inl ⟨c, cs', T, fz', e1, by omega, e5, by rw [e6]; exact e4⟩
            · exact .inr ⟨by omega, e2⟩
  | pb o off =>
    have h1 := ref_one (.inr (.inl ⟨_, _, rfl⟩)) r
    obtain ⟨hb, r⟩ := r
    refine ⟨h.born o hb, ?_⟩
    rcases h.keep o hb with hd | ⟨hs, hl⟩
    · rw [hd]; exact h1
    · cases ho' : E'.ob o with
      | dead => exact h1
      | arr fz z e xs => exact h1
      | lp s' fr' ps' a' b' pd' => exact h1
      | box cs' =>
        rw [ho'] at hs
        cases ho : E.ob o with
        | dead => rw [ho] at hs; exact hs.elim
        | arr fz z e xs => rw [ho] at hs; exact hs.elim
        | lp s fr ps a b pd => rw [ho] at hs; exact hs.elim
        | box cs =>
          rw [ho] at r
          show ∃ b, E'.loc o = some (b, 0) ∧ _
          rw [hl]; exact r
  | pe o i off =>
    have h1 := ref_one (.inr (.inr (.inl ⟨_, _, _, rfl⟩))) r
    obtain ⟨hb, r⟩ := r
    refine ⟨h.born o hb, ?_⟩
    rcases h.keep o hb with hd | ⟨hs, hl⟩
    · rw [hd]; exact h1
    · cases ho' : E'.ob o with
      | dead => exact h1
      | box cs => exact h1
      | lp s' fr' ps' a' b' pd' => exact h1
      | arr fz' z' e' xs' =>
        rw [ho'] at hs
        cases ho : E.ob o with
        | dead => rw [ho] at hs; exact hs.elim
        | box cs => rw [ho] at hs; exact hs.elim
        | lp s fr ps a b pd => rw [ho] at hs; exact hs.elim
        | arr fz z e xs =>
          rw [ho] at r hs
          obtain ⟨rfl, rfl, hle⟩ := hs
          refine ⟨by have := r.1; omega, ?_⟩
          rw [hl]; exact r.2
  | pr t x off =>
    obtain ⟨b, f, us, e1, hS, hlt, hlen, hc, hr⟩ := r
    exact ⟨b, f, us, e1, fun hS' => hS (h.own b hlt hS'), Nat.lt_of_lt_of_le hlt h.size, hlen, fun j u hj => by rw [cell_same (h.mem b hlt hS)]; exact hc j u hj, h.rd hr⟩
  | fn f caps =>
    obtain ⟨vs, e1, e2, r⟩ := r
    refine ⟨vs, e1, e2, fun i o off hi => ?_⟩
    obtain ⟨hb, r⟩ := r i o off hi
    refine ⟨h.born o hb, ?_⟩
    rcases h.keep o hb with hd | ⟨hs, hl⟩
    · simp [hd]
    · cases ho' : E'.ob o with
      | dead => trivial
      | arr fz z e xs => trivial
      | lp s' fr' ps' a' b' pd' => trivial
      | box cs' =>
        rw [ho'] at hs
        cases ho : E.ob o with
        | dead => rw [ho] at hs; exact hs.elim
        | arr fz z e xs => rw [ho] at hs; exact hs.elim
        | lp s fr ps a b pd => rw [ho] at hs; exact hs.elim
        | box cs =>
          rw [ho] at r
          show ∃ b, E'.loc o = some (b, 0) ∧ _
          rw [hl]; exact r
  | yl o =>
    have h1 := ref_one (.inr (.inr (.inr ⟨_, rfl⟩))) r
    obtain ⟨hb, r⟩ := r
    refine ⟨h.born o hb, ?_⟩
    rcases h.keep o hb with hd | ⟨hs, hl⟩
    · rw [hd]; exact h1
    · cases ho' : E'.ob o with
      | dead => exact h1
      | box cs => exact h1
      | arr fz z e xs => exact h1
      | lp s' fr' ps' a' b' pd' =>
        rw [ho'] at hs
        cases ho : E.ob o with
        | dead => rw [ho] at hs; exact hs.elim
        | box cs => rw [ho] at hs; exact hs.elim
        | arr fz z e xs => rw [ho] at hs; exact hs.elim
        | lp s fr ps a b pd =>
          rw [ho] at r
          show ∃ b, E'.loc o = some (b, 0) ∧ _
          rw [hl]; exact r

theorem Evo.s1s {E E' : Env} {w w' : World} (h : Evo E E' w w') {l : List S1} {vs : List Value} (r : S1sok E w l vs) : S1sok E' w' l vs :=
  ⟨r.1, fun i x v h1 h2 => h.s1 (r.2 i x v h1 h2)⟩

theorem Evo.sv {E E' : Env} {w w' : World} (h : Evo E E' w w') : ∀ {x : SV} {v : Value}, SVok E w x v → SVok E' w' x v
  | .unk, _, _ => trivial
  | .s _, _, r => h.s1 r
  | .agg _, _, ⟨vs, e, r⟩ => ⟨vs, e, h.s1s r⟩
  | .tup _, _, ⟨vs, e, hl, r⟩ => ⟨vs, e, hl, fun i bl u h1 h2 =>
      ⟨fun hb => let ⟨us, e', r'⟩ := (r i bl u h1 h2).1 hb; ⟨us, e', h.s1s r'⟩, fun hb => h.s1s ((r i bl u h1 h2).2 hb)⟩⟩
  | .gd _ _, _, r => ⟨fun hg => h.sv (r.1 hg), r.2⟩

theorem Evo.refl (E : Env) (w : World) (hd : ∀ o, E.born o → E.ob o = .dead ∨ E.ob o ≠ .dead) : Evo E E w w :=
  ⟨fun _ h => h, fun o h => (hd o h).imp id (fun h => ⟨same.refl h, rfl⟩), fun _ _ h => h, fun _ _ _ => rfl, fun b cs T fz h => ⟨cs, fz, h, rfl⟩, Nat.le_refl _, rfl, fun b x h => by rw [h]; exact OthK.same⟩

theorem Evo.rfl' {E : Env} {w : World} : Evo E E w w := Evo.refl E w fun o _ => by
  cases E.ob o <;> simp

theorem same.trans {x y z : Ob} (h : same x y) (k : same y z) : same x z := by
  cases x <;> cases y <;> cases z <;> simp only [same] at * <;> first | omega | exact ⟨k.1.trans h.1, k.2.1.trans h.2.1, k.2.2.trans h.2.2⟩

/-! ### The memory of a state -/
structure Ctx where
  w0 : World
  mod : Nat → Prop
  sus : List (SV × Value)
  bad : Nat → Prop
  /-- The round that the frame belongs to: the loop's object and block. -/
  rd : Option (Nat × Nat)
  /-- This round and those that wait. -/
  rds : List (Nat × Nat)
  /-- The marks' blocks of the frames that wait. -/
  mrk : List Nat

def ObOk (E : Env) (w : World) (o : Nat) : Ob → Prop
  | .dead => True
  | .box cs => ∃ b vs T, E.loc o = some (b, 0) ∧ w.heap[b]? = some (.cells vs T (0, 0)) ∧ S1sok E w cs vs.toList
  | .arr fz z e xs => xs.length * z ≤ 140737488355328 ∧ match E.loc o with
    | none => xs = []
    | some (b, off) => ∃ vs T fzz, w.heap[b]? = some (.cells vs T fzz) ∧ (fz = false → fzz = (0, 0)) ∧ off + xs.length * e.n ≤ vs.size ∧
        ∀ i (h : i < xs.length), Rd E.owned w e ((vs.toList.drop (off + i * e.n)).take e.n) xs[i]
  | .lp s fr ps asg body pd => ∃ b r, E.loc o = some (b, 0) ∧ w.heap[b]? = some (.loop r) ∧ r.state = lpS s ∧ r.params = ps.toArray ∧ r.assign = asg ∧ r.body = body ∧ r.pending = pd ∧ r.tmps.size = fr.length ∧
      ∀ i, SVok E w (gl fr i) (r.tmps.getD i undef)

/-- A round's record. -/
def RdAt (E : Env) (w : World) (p : Nat × Nat) : Prop := E.born p.1 ∧ (E.ob p.1 = .dead ∨ E.loc p.1 = some (p.2, 0)) ∧ ∃ r, w.heap[p.2]? = some (.loop r)
theorem RdAt.evo {E E' : Env} {w w' : World} {p : Nat × Nat} (m : RdAt E w p) (h : Evo E E' w w') : RdAt E' w' p := by
  obtain ⟨h1, h2, r, h3⟩ := m
  refine ⟨h.born _ h1, ?_, h.oth _ _ h3⟩
  rcases h.keep _ h1 with hd | ⟨hs, hl⟩
  · exact .inl hd
  · rcases h2 with hd | h2
    · rw [hd] at hs; exact hs.elim
    · exact .inr (hl.trans h2)

structure Mem (G : Ctx) (E : Env) (w : World) : Prop where
  hp : ∀ o, E.born o → ObOk E w o (E.ob o)
  unb : ∀ o, ¬ E.born o → E.ob o = .dead
  sep : ∀ o o' b f f', E.ob o ≠ .dead → E.ob o' ≠ .dead → E.loc o = some (b, f) → E.loc o' = some (b, f') → o = o'
  new : ∀ o b f, E.ob o ≠ .dead → E.loc o = some (b, f) → G.w0.heap.size ≤ b ∨ G.mod b
  bad : ∀ b, E.bad b → b < G.w0.heap.size ∧ ¬ G.mod b
  bd : E.bad = G.bad
  os : w.os = G.w0.os
  tape : w.tape = G.w0.tape
  output : w.output = G.w0.output
  size : G.w0.heap.size ≤ w.heap.size
  old : ∀ b, b < G.w0.heap.size → ¬ G.mod b → w.heap[b]? = G.w0.heap[b]?
  sus : ∀ p ∈ G.sus, SVok E w p.1 p.2
  rdk : ∀ p ∈ G.rds, RdAt E w p
  mks : ∀ b ∈ G.mrk, w.heap[b]? = some (.deferred (some []))

theorem ObOk.evo {E E' : Env} {w w' : World} (h : Evo E E' w w') {o : Nat} {x : Ob} (hl : E'.loc o = E.loc o)
    (hblk : ∀ b f, x ≠ .dead → E.loc o = some (b, f) → w'.heap[b]? = w.heap[b]?) (r : ObOk E w o x) : ObOk E' w' o x := by
  cases x with
  | dead => trivial
  | box cs =>
    obtain ⟨b, vs, T, h1, h2, h3⟩ := r
    exact ⟨b, vs, T, hl.trans h1, (hblk b 0 (by simp) h1).trans h2, h.s1s h3⟩
  | arr fz z e xs =>
    obtain ⟨h0, r⟩ := r
    refine ⟨h0, ?_⟩
    rw [hl]
    cases hloc : E.loc o with
    | none => rw [hloc] at r; exact r
    | some p =>
      obtain ⟨b, off⟩ := p
      rw [hloc] at r
      obtain ⟨vs, T, fzz, h1, h2, h3, h4⟩ := r
      exact ⟨vs, T, fzz, (hblk b off (by simp) hloc).trans h1, h2, h3, fun i hi => h.rd (h4 i hi)⟩
  | lp s fr ps asg body pd =>
    obtain ⟨b, r, h1, h2, h3, h4, h5, h6, h7, h8, h9⟩ := r
    exact ⟨b, r, hl.trans h1, (hblk b 0 (by simp) h1).trans h2, h3, h4, h5, h6, h7, h8, fun i => h.sv (h9 i)⟩

/-- The memory behind a step: what has turned (ch) is told anew. -/
theorem Mem.step {G : Ctx} {E E' : Env} {w w' : World} (m : Mem G E w) (h : Evo E E' w w') (ch : Nat → Prop)
    (hst : ∀ o, E'.born o → ¬ ch o → E.born o ∧ E'.ob o = E.ob o ∧ E'.loc o = E.loc o ∧ ∀ b f, E.ob o ≠ .dead → E.loc o = some (b, f) → w'.heap[b]? = w.heap[b]?)
    (hch : ∀ o, ch o → ObOk E' w' o (E'.ob o))
    (unb : ∀ o, ¬ E'.born o → E'.ob o = .dead)
    (sep : ∀ o o' b f f', E'.ob o ≠ .dead → E'.ob o' ≠ .dead → E'.loc o = some (b, f) → E'.loc o' = some (b, f') → o = o')
    (new : ∀ o b f, E'.ob o ≠ .dead → E'.loc o = some (b, f) → G.w0.heap.size ≤ b ∨ G.mod b)
    (os : w'.os = w.os) (tape : w'.tape = w.tape) (output : w'.output = w.output)
    (old : ∀ b, b < G.w0.heap.size → ¬ G.mod b → w'.heap[b]? = w.heap[b]?) : Mem G E' w' where
  hp := fun o hb => by
    by_cases hc : ch o
    · exact hch o hc
    · obtain ⟨h1, h2, h3, h4⟩ := hst o hb hc
      rw [h2]
      exact (m.hp o h1).evo h h3 h4
  unb := unb
  sep := sep
  new := new
  bad := fun b hb => m.bad b (by rw [← h.bad]; exact hb)
  bd := h.bad.trans m.bd
  os := os.trans m.os
  tape := tape.trans m.tape
  output := output.trans m.output
  size := Nat.le_trans m.size h.size
  old := fun b hb hm => (old b hb hm).trans (m.old b hb hm)
  sus := fun p hp => h.sv (m.sus p hp)
  rdk := fun p hp => (m.rdk p hp).evo h
  mks := fun b hb => h.oth b _ (m.mks b hb)

end Go.Proofs.YtdepbfgnmliggaaGreatDoor.Sx
