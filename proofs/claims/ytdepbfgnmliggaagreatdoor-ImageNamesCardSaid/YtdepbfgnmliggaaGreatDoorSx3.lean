/- What a symbolic step says of the machine's operation: operations that only compute. -/
import Derived.Test.YtdepbfgnmliggaaGreatDoorSx2
namespace Go.Proofs.YtdepbfgnmliggaaGreatDoor.Sx
set_option linter.unusedSimpArgs false
set_option linter.unusedVariables false

theorem has_iff (k : IntKind) (n : Int) : k.has n ↔ inB k n = true := by
  cases k <;> simp [IntKind.has, IntKind.min, IntKind.max, IntKind.signed, IntKind.bits, inB]

theorem has_wrap (k : IntKind) (n : Int) : k.has (wr k n) := by
  cases k <;> simp only [IntKind.has, IntKind.min, IntKind.max, IntKind.signed, IntKind.bits, wr, IntKind.wrap] <;> simp <;> (try split) <;> omega

theorem wr_id {k : IntKind} {n : Int} (h : k.has n) : wr k n = n := by
  revert h
  cases k <;> simp only [IntKind.has, IntKind.min, IntKind.max, IntKind.signed, IntKind.bits, wr, IntKind.wrap] <;> simp <;> (try split) <;> omega

theorem keq_eq {k k' : IntKind} (h : keq k k' = true) : k = k' := by
  cases k <;> cases k' <;> simp [keq] at h <;> rfl

theorem cond_t {α : Type} {b : Bool} {x : α} {y : α} (hb : b = true) : (bif b then x else y) = x := by rw [hb]; rfl

theorem of1_ok (E : Env) (w : World) (v : Value) : S1ok E w (of1 v) v := by
  cases v with
  | int k n =>
    simp only [of1]
    cases h : inB k n
    · exact rfl
    · exact ⟨rfl, (has_iff k n).2 h⟩
  | slice a n c =>
    simp only [of1]
    unfold ofSl
    split <;> exact rfl
  | string s =>
    simp only [of1]
    cases h : decide (s.data.toList.length ≤ 140737488355328)
    · exact rfl
    · exact ⟨rfl, of_decide_eq_true h⟩
  | _ => exact rfl

theorem ofVal_ok (E : Env) (w : World) (v : Value) : SVok E w (ofVal v) v := by
  unfold ofVal
  split
  · rename_i cs
    refine ⟨cs.toList, rfl, by simp, ?_⟩
    intro i x u h1 h2
    rw [List.getElem?_map, h2] at h1
    cases h1
    exact of1_ok E w u
  · trivial
  · exact of1_ok E w _

theorem ev_ok {E : Env} {w : World} {fr : List SV} {a : Act} (h : ∀ i, SVok E w (gl fr i) (a.tmps.getD i undef)) (x : Operand) : SVok E w (ev fr x) (a.eval x) := by
  cases x with
  | tmp t => exact h t
  | const v => exact ofVal_ok E w v
  | global g => exact rfl
  | func f =>
    refine ⟨[], rfl, rfl, ?_⟩
    intro i o off h
    simp at h

theorem pk_ok {E : Env} {w : World} {x : SV} {v : Value} (r : SVok E w x v) (h : pkP x) : SVok E w (pkV x) v := by
  induction x with
  | gd g x ih => exact ih (r.1 h.1) h.2
  | unk => exact r
  | s x => exact r
  | agg l => exact r
  | tup l => exact r

/-- What is owed to whoever goes on behind a step. -/
def Land (P : Program) (G : Ctx) (E : Env) (w : World) (hp : List (Nat × Ob)) (nx : Nat) (o : Oper) (a : Act) (u : Up) : Prop :=
  ∀ (K : Act → World → Prop) (B : Exit → Act → World → Prop),
    (∀ v w' E', Mem G E' w' → Evo E E' w w' → (∀ i, E'.ob i = fo (uos hp u.ws) i) → (∀ i, E'.born i → E.born i ∨ (nx ≤ i ∧ i < u.hi)) →
      SVok E' w' u.val v → u.gives → K (a.put o.dst v) w') → o.wp P a w K B

structure Pre (P : Program) (G : Ctx) (E : Env) (w : World) (hp : List (Nat × Ob)) (fr : List SV) (a : Act) : Prop where
  mem : Mem G E w
  ob : ∀ i, E.ob i = fo hp i
  fr : ∀ i, SVok E w (gl fr i) (a.tmps.getD i undef)

theorem Pre.ev {P : Program} {G : Ctx} {E : Env} {w : World} {hp : List (Nat × Ob)} {fr : List SV} {a : Act} (h : Pre P G E w hp fr a) (x : Operand) : SVok E w (ev fr x) (a.eval x) := ev_ok h.fr x

theorem Pre.pk {P : Program} {G : Ctx} {E : Env} {w : World} {hp : List (Nat × Ob)} {fr : List SV} {a : Act} (h : Pre P G E w hp fr a) {x : Operand} (hp : pkP (Sx.ev fr x)) : SVok E w (pkV (Sx.ev fr x)) (a.eval x) := pk_ok (h.ev x) hp

/-- A step that leaves a value and the world as it was. -/
theorem land_val {P : Program} {G : Ctx} {E : Env} {w : World} {hp : List (Nat × Ob)} {nx : Nat} {o : Oper} {fr : List SV} {a : Act} {u : Up} {v : Value} (h : Pre P G E w hp fr a)
    (hr : (execOp a.eval o).run P w = .ok (.value v) w) (hv : SVok E w u.val v) (hw : u.ws = []) (hg : u.gives) : Land P G E w hp nx o a u := by
  intro K B hK
  unfold Oper.wp
  rw [hr, Oper.upon_value]
  exact hK v w E h.mem Evo.rfl' (fun i => by rw [hw]; exact h.ob i) (fun i hi => .inl hi) hv hg

section
variable {P : Program} {G : Ctx} {E : Env} {w : World} {hp : List (Nat × Ob)} {nx : Nat} {fr : List SV} {a : Act}
variable {d : Option Tmp} {ty : TypeId} {pos : String} {af : Array Edge} {gd : Option (Nat × Bool)}

theorem land_move (h : Pre P G E w hp fr a) (x : Operand) : Land P G E w hp nx ⟨d, .move x, ty, pos, af, gd⟩ a ⟨True, ev fr x, [], nx, True⟩ :=
  land_val h (v := a.eval x) rfl (h.ev x) rfl trivial

theorem land_assign (h : Pre P G E w hp fr a) (x : Operand) : Land P G E w hp nx ⟨d, .assign x, ty, pos, af, gd⟩ a ⟨True, ev fr x, [], nx, True⟩ :=
  land_val h (v := a.eval x) rfl (h.ev x) rfl trivial

theorem sPick_ok {E : Env} {w : World} {c : Bool} {x y r : SV} {vx vy : Value} (hs : sPick c x y = some r) (hx : c = true → SVok E w x vx) (hy : c = false → SVok E w y vy) :
    SVok E w r (if c then vx else vy) := by
  unfold sPick at hs
  split at hs
  · rename_i r' h0
    cases hs
    unfold sPick0 at h0
    split at h0
    · cases h0
      cases c
      · exact hy rfl
      · exact hx rfl
    · rename_i k p k' q
      cases hk : keq k k' <;> rw [hk] at h0 <;> simp at h0
      have := keq_eq hk
      subst this
      subst h0
      cases c
      · exact hy rfl
      · exact hx rfl
    · cases h0
  · cases c
    · cases hs; exact hy rfl
    · cases hs; exact hx rfl

theorem land_pick (h : Pre P G E w hp fr a) (c x y : Operand) {cb : Bool} {r : SV} (hc : pkV (ev fr c) = .s (.bool cb)) (hs : sPick cb (pkV (ev fr x)) (pkV (ev fr y)) = some r)
    (howe : pkP (ev fr c) ∧ oPick cb (ev fr x) (ev fr y)) : Land P G E w hp nx ⟨d, .pick c x y, ty, pos, af, gd⟩ a ⟨pkP (ev fr c) ∧ oPick cb (ev fr x) (ev fr y), r, [], nx, True⟩ := by
  have h1 := h.pk howe.1
  rw [hc] at h1
  have h2 : a.eval c = .bool cb := h1
  refine land_val h (v := if cb then a.eval x else a.eval y) ?_ ?_ rfl trivial
  · show (execOp a.eval ⟨d, .pick c x y, ty, pos, af, gd⟩).run P w = _
    simp only [execOp, h2]
    rfl
  · exact sPick_ok hs (fun hcb => pk_ok (h.ev x) (howe.2.1 hcb)) (fun hcb => pk_ok (h.ev y) (howe.2.2 hcb))

theorem tmod_le {x y : Int} (h0 : 0 ≤ x) : x.tmod y ≤ x := by
  have h1 := Int.tmod_add_mul_tdiv x y
  have h3 : 0 ≤ y * x.tdiv y := by
    rcases Int.le_total 0 y with hy1 | hy1
    · exact Int.mul_nonneg hy1 (Int.tdiv_nonneg h0 hy1)
    · exact Int.mul_nonneg_of_nonpos_of_nonpos hy1 (Int.tdiv_nonpos_of_nonneg_of_nonpos h0 hy1)
  omega

theorem has_tmod {k : IntKind} {x y : Int} (hx : k.has x) : k.has (x.tmod y) := by
  rcases Int.le_total 0 x with h0 | h0
  · have e1 := Int.tmod_nonneg y h0
    have e2 := tmod_le (y := y) h0
    unfold IntKind.has at *
    cases k <;> simp [IntKind.min, IntKind.max, IntKind.signed, IntKind.bits] at * <;> omega
  · have e1 := Int.tmod_nonneg y (show 0 ≤ -x by omega)
    have e2 := tmod_le (y := y) (show 0 ≤ -x by omega)
    rw [Int.neg_tmod] at e1 e2
    unfold IntKind.has at *
    cases k <;> simp [IntKind.min, IntKind.max, IntKind.signed, IntKind.bits] at * <;> omega

theorem bv_and (n : Nat) (x y : Int) : (BitVec.ofInt n x &&& BitVec.ofInt n y).toNat = (x % ((2 ^ n : Nat) : Int)).toNat &&& (y % ((2 ^ n : Nat) : Int)).toNat := by simp [BitVec.toNat_ofInt]
theorem bv_or (n : Nat) (x y : Int) : (BitVec.ofInt n x ||| BitVec.ofInt n y).toNat = (x % ((2 ^ n : Nat) : Int)).toNat ||| (y % ((2 ^ n : Nat) : Int)).toNat := by simp [BitVec.toNat_ofInt]
theorem bv_xor (n : Nat) (x y : Int) : (BitVec.ofInt n x ^^^ BitVec.ofInt n y).toNat = (x % ((2 ^ n : Nat) : Int)).toNat ^^^ (y % ((2 ^ n : Nat) : Int)).toNat := by simp [BitVec.toNat_ofInt]
theorem bv_andNot (n : Nat) (x y : Int) : (BitVec.ofInt n x &&& ~~~BitVec.ofInt n y).toNat = (x % ((2 ^ n : Nat) : Int)).toNat &&& (2 ^ n - 1 - (y % ((2 ^ n : Nat) : Int)).toNat) := by simp [BitVec.toNat_ofInt]

theorem has_fdiv {k : IntKind} {x : Int} (hx : k.has x) (m : Nat) : k.has (x.fdiv ((2 ^ m : Nat) : Int)) := by
  have h1 : (1 : Int) ≤ ((2 ^ m : Nat) : Int) := by have := Nat.one_le_two_pow (n := m); omega
  generalize ((2 ^ m : Nat) : Int) = d at h1 ⊢
  rw [Int.fdiv_eq_ediv_of_nonneg _ (by omega)]
  have hub : ∀ M : Int, 0 ≤ M → x ≤ M → x / d ≤ M := fun M h0 h => by
    rcases Int.le_total 0 x with hx0 | hx0
    · exact Int.le_trans (Int.ediv_le_self d hx0) h
    · exact Int.le_trans (Int.ediv_le_ediv (by omega) hx0) (by simpa using h0)
  have hlb : ∀ M : Int, M ≤ 0 → M ≤ x → M ≤ x / d := fun M h0 h => by
    refine (Int.le_ediv_iff_mul_le (by omega)).2 (Int.le_trans ?_ h)
    have := Int.mul_le_mul_of_nonpos_left h0 h1
    simpa using this
  unfold IntKind.has at *
  cases k <;> simp only [IntKind.min, IntKind.max, IntKind.signed, IntKind.bits] at * <;> exact ⟨hlb _ (by decide) hx.1, hub _ (by decide) hx.2⟩

theorem land_sh (h : Pre P G E w hp fr a) (op : BinOp) (t t' : TypeId) (x y : Operand) {k k' : IntKind} {p q : Int} {r : S1} {ow pr : Prop} (hx : SVok E w (.s (.int k p)) (a.eval x))
    (hy : SVok E w (.s (.int k' q)) (a.eval y)) (hs : sShI k p q op = some (pr, r)) (howe : pr) : Land P G E w hp nx ⟨d, .binOp op t x y t', ty, pos, af, gd⟩ a ⟨ow, .s r, [], nx, True⟩ := by
  obtain ⟨e1, b1⟩ := hx
  obtain ⟨e2, b2⟩ := hy
  cases op <;> simp only [sShI, reduceCtorEq, Option.some.injEq, Prod.mk.injEq] at hs
  all_goals (try (obtain ⟨rfl, rfl⟩ := hs))
  all_goals (try exact hs.elim)
  all_goals have h0 : ¬ q < 0 := by omega
  case shl => exact land_val h (v := .int k (wr k (p * ((2 ^ (min q.toNat k.bits) : Nat) : Int)))) (by simp [execOp, e1, e2, eqGuard, binOp, Op.shift, h0]; rfl) ⟨rfl, has_wrap _ _⟩ rfl trivial
  case shr => exact land_val h (v := .int k (p.fdiv ((2 ^ (min q.toNat k.bits) : Nat) : Int))) (by simp [execOp, e1, e2, eqGuard, binOp, Op.shift, h0]) ⟨rfl, has_fdiv b1 _⟩ rfl trivial

theorem land_binI (h : Pre P G E w hp fr a) (op : BinOp) (t t' : TypeId) (x y : Operand) {k : IntKind} {p q : Int} {r : S1} {ow pr : Prop} (hx : SVok E w (.s (.int k p)) (a.eval x))
    (hy : SVok E w (.s (.int k q)) (a.eval y)) (hs : sBinI k p q op = some (pr, r)) (howe : pr) : Land P G E w hp nx ⟨d, .binOp op t x y t', ty, pos, af, gd⟩ a ⟨ow, .s r, [], nx, True⟩ := by
  obtain ⟨e1, b1⟩ := hx
  obtain ⟨e2, b2⟩ := hy
  cases op <;> simp only [sBinI, reduceCtorEq, Option.some.injEq, Prod.mk.injEq] at hs
  all_goals (try (obtain ⟨rfl, rfl⟩ := hs))
  all_goals (try exact hs.elim)
  case add => exact land_val h (v := .int k (wr k (p + q))) (by simp [execOp, e1, e2, eqGuard, binOp, Op.intArith]; rfl) ⟨rfl, has_wrap _ _⟩ rfl trivial
  case sub => exact land_val h (v := .int k (wr k (p - q))) (by simp [execOp, e1, e2, eqGuard, binOp, Op.intArith]; rfl) ⟨rfl, has_wrap _ _⟩ rfl trivial
  case mul => exact land_val h (v := .int k (wr k (p * q))) (by simp [execOp, e1, e2, eqGuard, binOp, Op.intArith]; rfl) ⟨rfl, has_wrap _ _⟩ rfl trivial
  case quo => exact land_val h (v := .int k (wr k (p.tdiv q))) (by simp [execOp, e1, e2, eqGuard, binOp, Op.intDiv, howe]; rfl) ⟨rfl, has_wrap _ _⟩ rfl trivial
  case rem => exact land_val h (v := .int k (p.tmod q)) (by simp [execOp, e1, e2, eqGuard, binOp, Op.intDiv, howe]) ⟨rfl, has_tmod b1⟩ rfl trivial
  case eql => exact land_val h (v := .bool (decide (p = q))) (by simp [execOp, e1, e2, eqGuard, binOp, Op.intCmp]; rfl) rfl rfl trivial
  case neq => exact land_val h (v := .bool (!decide (p = q))) (by simp [execOp, e1, e2, eqGuard, binOp, Op.intCmp]; rfl) rfl rfl trivial
  case lss => exact land_val h (v := .bool (decide (p < q))) (by simp [execOp, e1, e2, eqGuard, binOp, Op.intCmp]) rfl rfl trivial
  case leq => exact land_val h (v := .bool (decide (p ≤ q))) (by simp [execOp, e1, e2, eqGuard, binOp, Op.intCmp]) rfl rfl trivial
  case gtr => exact land_val h (v := .bool (decide (q < p))) (by simp [execOp, e1, e2, eqGuard, binOp, Op.intCmp]) rfl rfl trivial
  case geq => exact land_val h (v := .bool (decide (q ≤ p))) (by simp [execOp, e1, e2, eqGuard, binOp, Op.intCmp]) rfl rfl trivial
  case and => exact land_val h (v := .int k (wr k ((ub k p &&& ub k q : Nat) : Int))) (by simp only [ub, ← bv_and]; simp [execOp, e1, e2, eqGuard, binOp, Op.intBits]; rfl) ⟨rfl, has_wrap _ _⟩ rfl trivial
  case or => exact land_val h (v := .int k (wr k ((ub k p ||| ub k q : Nat) : Int))) (by simp only [ub, ← bv_or]; simp [execOp, e1, e2, eqGuard, binOp, Op.intBits]; rfl) ⟨rfl, has_wrap _ _⟩ rfl trivial
  case xor => exact land_val h (v := .int k (wr k ((ub k p ^^^ ub k q : Nat) : Int))) (by simp only [ub, ← bv_xor]; simp [execOp, e1, e2, eqGuard, binOp, Op.intBits]; rfl) ⟨rfl, has_wrap _ _⟩ rfl trivial
  case andNot => exact land_val h (v := .int k (wr k ((ub k p &&& (2 ^ k.bits - 1 - ub k q) : Nat) : Int))) (by simp only [ub, ← bv_andNot]; simp [execOp, e1, e2, eqGuard, binOp, Op.intBits]; rfl) ⟨rfl, has_wrap _ _⟩ rfl trivial

theorem data_toList (l : List UInt8) : (ByteArray.mk l.toArray).toList = l := by
  rw [ByteArray.toList_eq]

theorem land_binS (h : Pre P G E w hp fr a) (op : BinOp) (t t' : TypeId) (x y : Operand) {p q : List UInt8} {r : S1} {ow pr : Prop} (hx : SVok E w (.s (.str p)) (a.eval x))
    (hy : SVok E w (.s (.str q)) (a.eval y)) (hs : sBinS p q op = some (pr, r)) (howe : pr) : Land P G E w hp nx ⟨d, .binOp op t x y t', ty, pos, af, gd⟩ a ⟨ow, .s r, [], nx, True⟩ := by
  obtain ⟨e1, b1⟩ := hx
  obtain ⟨e2, b2⟩ := hy
  have beq : (p == q) = decide (p = q) := by rw [Bool.eq_iff_iff]; simp
  cases op <;> simp only [sBinS, reduceCtorEq, Option.some.injEq, Prod.mk.injEq] at hs
  all_goals (try (obtain ⟨rfl, rfl⟩ := hs))
  all_goals (try exact hs.elim)
  case add =>
    refine land_val h (v := .string ⟨(p ++ q).toArray⟩) ?_ ⟨rfl, by simpa using howe⟩ rfl trivial
    have h1 := run_string_add_sum (P := P) w (ByteArray.mk p.toArray) (ByteArray.mk q.toArray) (by show p.toArray.size + q.toArray.size ≤ _; simp; omega)
    have h2 : (ByteArray.mk p.toArray) ++ (ByteArray.mk q.toArray) = ByteArray.mk (p ++ q).toArray := by
      apply ByteArray.ext
      simp [ByteArray.data_append]
    rw [h2] at h1
    simp [execOp, e1, e2, eqGuard, binOp_string_add, h1]
  case eql => exact land_val h (v := .bool (decide (p = q))) (by simp [execOp, e1, e2, eqGuard, binOp, Op.stringOp, beq]) rfl rfl trivial
  case neq => exact land_val h (v := .bool (!decide (p = q))) (by simp [execOp, e1, e2, eqGuard, binOp, Op.stringOp, beq]) rfl rfl trivial
  case lss => exact land_val h (v := .bool (Op.bytesLess p q)) (by simp [execOp, e1, e2, eqGuard, binOp, Op.stringOp]) rfl rfl trivial
  case leq => exact land_val h (v := .bool (Op.bytesLess p q || decide (p = q))) (by simp [execOp, e1, e2, eqGuard, binOp, Op.stringOp, beq]) rfl rfl trivial
  case gtr => exact land_val h (v := .bool (!(Op.bytesLess p q || decide (p = q)))) (by simp [execOp, e1, e2, eqGuard, binOp, Op.stringOp, beq]) rfl rfl trivial
  case geq => exact land_val h (v := .bool (!Op.bytesLess p q)) (by simp [execOp, e1, e2, eqGuard, binOp, Op.stringOp]) rfl rfl trivial

theorem land_binB (h : Pre P G E w hp fr a) (op : BinOp) (t t' : TypeId) (x y : Operand) {p q : Bool} {ow : Prop} (hx : SVok E w (.s (.bool p)) (a.eval x))
    (hy : SVok E w (.s (.bool q)) (a.eval y)) (hb : isBool P t = true) {r : Bool} (hop : (op = .eql ∧ r = (p == q)) ∨ (op = .neq ∧ r = !(p == q))) :
    Land P G E w hp nx ⟨d, .binOp op t x y t', ty, pos, af, gd⟩ a ⟨ow, .s (.bool r), [], nx, True⟩ := by
  have e1 : a.eval x = .bool p := hx
  have e2 : a.eval y = .bool q := hy
  have ht : P.underlying t = some .bool := by
    unfold isBool at hb
    split at hb
    · assumption
    · cases hb
  rcases hop with ⟨rfl, rfl⟩ | ⟨rfl, rfl⟩
  · exact land_val h (v := .bool (p == q)) (by simp [execOp, e1, e2, eqGuard, run_eql_bool, ht]) rfl rfl trivial
  · exact land_val h (v := .bool (!(p == q))) (by simp [execOp, e1, e2, eqGuard, run_neq_bool, ht]) rfl rfl trivial

theorem land_un (h : Pre P G E w hp fr a) (op : UnOp) (t : TypeId) (x : Operand) {X : SV} {r : S1} {ow : Prop} (hx : SVok E w X (a.eval x)) (hs : sUn op X = some r) :
    Land P G E w hp nx ⟨d, .unOp op t x, ty, pos, af, gd⟩ a ⟨ow, .s r, [], nx, True⟩ := by
  unfold sUn at hs
  split at hs
  · rename_i b
    have e1 : a.eval x = .bool b := hx
    cases op <;> simp at hs
    subst hs
    exact land_val h (v := .bool (!b)) (by simp [execOp, e1, Op.unary]) rfl rfl trivial
  · rename_i tt ff
    obtain ⟨b, e1, h1, h2⟩ := hx
    cases op <;> simp at hs
    subst hs
    exact land_val h (v := .bool (!b)) (by simp [execOp, e1, Op.unary]) ⟨!b, rfl, fun e => h2 (by simpa using e), fun e => h1 (by simpa using e)⟩ rfl trivial
  · rename_i k n
    obtain ⟨e1, b1⟩ := hx
    cases op <;> simp at hs
    · subst hs
      exact land_val h (v := .int k (wr k (-n))) (by simp [execOp, e1, Op.unary, Op.intArith]; rfl) ⟨rfl, has_wrap _ _⟩ rfl trivial
    · subst hs
      exact land_val h (v := .int k (wr k ((ub k (allI k) ^^^ ub k n : Nat) : Int))) (by simp only [ub, allI, ← bv_xor]; simp [execOp, e1, Op.unary, Op.intBits]; rfl) ⟨rfl, has_wrap _ _⟩ rfl trivial
  · cases hs

end
end Go.Proofs.YtdepbfgnmliggaaGreatDoor.Sx
