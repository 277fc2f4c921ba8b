/- A part of the proof. -/
import Derived.Shelf.Small.Utf8
import Derived.Shelf.Small.Strs
import Derived.Shelf.Strconv.Itoa0
import Derived.Shelf.Strconv.Itoa1
import Derived.Shelf.LaysM
import Derived.Shelf.Strconv.Itoa2
import Derived.Shelf.Strconv.Itoa3
import Derived.Shelf.Strings.Search1
import Derived.Shelf.Strings.Search2
import Derived.Shelf.Strings.Search3
import Derived.Shelf.Strings.Cut
import Derived.Shelf.Strings.Count
import Derived.Shelf.Strings.Shaped
import Derived.Shelf.Strings.Runes
import Derived.Shelf.Strings.AsciiSet
import Derived.Shelf.Bits.Mul64
import Derived.Shelf.Unicode.DecodeSlow
import Derived.Test.YtaoplfeohffbiaaGreatDoorProg
import Derived.Test.YtaoplfeohffbiaaGreatDoorK4
import Derived.Lib.AppendIntMem

/-! DERIVED: THE SHELF's CONTRACTS AT THIS DUMP, IN PLAIN WORDS (tools/lay-plain.mjs out of 'TryzShelf.lean', which tools/lay-shelf.mjs wrote): THE SAME DECLARATIONS UNDER THE SAME NAMES: 'import', 'namespace', 'open', 'def', 'theorem' AND NOTHING ELSE: no command of the shelf's: FOR A HAND-IN. Each laying: the table of numbers ('.._ren') and one theorem, a field a fact of the dump's own or the kernel's comparison; each contract: ONE APPLICATION. -/
namespace Go.Proofs
set_option linter.unusedSimpArgs false
set_option linter.unusedVariables false
set_option linter.unusedSectionVars false
open Go.Shelf
def Tryz.laysM246_ren : Go.Shelf.Ren := ⟨fun | 246 => 240 | 283 => 372 | 284 => 373 | 285 => 374 | 286 => 375 | 129 => 493 | 317 => 492 | 318 => 494 | 319 => 495 | 320 => 496 | 337 => 595 | 338 => 596 | n => n, fun | 2 => 2 | 3 => 3 | 9 => 9 | 4 => 4 | 171 => 527 | 0 => 0 | 53 => 332 | 37 => 59 | 5 => 5 | 173 => 530 | 212 => 697 | 51 => 329 | 20 => 20 | 213 => 698 | 46 => 90 | 232 => 863 | 233 => 864 | n => n, fun | 17 => 4 | 18 => 7 | 19 => 8 | n => n⟩
theorem Tryz.laysM246 : Go.Proofs.LaysM.n246 Tryz.prog Tryz.laysM246_ren := {
  mixed := by kernel_rfl
  f129 := Tryz.func493.trans (congrArg some (by kernel_rfl))
  f246 := Tryz.func240.trans (congrArg some (by kernel_rfl))
  f283 := Tryz.func372.trans (congrArg some (by kernel_rfl))
  f284 := Tryz.func373.trans (congrArg some (by kernel_rfl))
  f285 := Tryz.func374.trans (congrArg some (by kernel_rfl))
  f286 := Tryz.func375.trans (congrArg some (by kernel_rfl))
  f317 := Tryz.func492.trans (congrArg some (by kernel_rfl))
  f318 := Tryz.func494.trans (congrArg some (by kernel_rfl))
  f319 := Tryz.func495.trans (congrArg some (by kernel_rfl))
  f320 := Tryz.func496.trans (congrArg some (by kernel_rfl))
  f337 := Tryz.func595.trans (congrArg some (by kernel_rfl))
  f338 := Tryz.func596.trans (congrArg some (by kernel_rfl))
  t0 := Tryz.underlying0
  a0 := Tryz.isAgg0
  z0 := Tryz.sizeOf0
  v0 := Tryz.zeroValue0
  t2 := Tryz.underlying2
  a2 := Tryz.isAgg2
  z2 := Tryz.sizeOf2
  v2 := Tryz.zeroValue2
  t3 := Tryz.underlying3
  a3 := Tryz.isAgg3
  z3 := Tryz.sizeOf3
  v3 := Tryz.zeroValue3
  t4 := Tryz.underlying4
  a4 := Tryz.isAgg4
  z4 := Tryz.sizeOf4
  v4 := Tryz.zeroValue4
  t5 := Tryz.underlying5
  a5 := Tryz.isAgg5
  z5 := Tryz.sizeOf5
  v5 := Tryz.zeroValue5
  t9 := Tryz.underlying9
  a9 := Tryz.isAgg9
  z9 := Tryz.sizeOf9
  v9 := Tryz.zeroValue9
  t20 := Tryz.underlying20
  a20 := Tryz.isAgg20
  z20 := Tryz.sizeOf20
  v20 := Tryz.zeroValue20
  t37 := Tryz.underlying59
  a37 := Tryz.isAgg59
  z37 := Tryz.sizeOf59
  v37 := Tryz.zeroValue59
  t46 := Tryz.underlying90
  a46 := Tryz.isAgg90
  z46 := Tryz.sizeOf90
  v46 := Tryz.zeroValue90
  t51 := Tryz.underlying329
  a51 := Tryz.isAgg329
  z51 := Tryz.sizeOf329
  v51 := Tryz.zeroValue329
  t53 := Tryz.underlying332
  a53 := Tryz.isAgg332
  z53 := Tryz.sizeOf332
  v53 := Tryz.zeroValue332
  t171 := Tryz.underlying527
  a171 := Tryz.isAgg527
  z171 := Tryz.sizeOf527
  v171 := Tryz.zeroValue527
  t173 := Tryz.underlying530
  a173 := Tryz.isAgg530
  z173 := Tryz.sizeOf530
  v173 := Tryz.zeroValue530
  t212 := Tryz.underlying697
  a212 := Tryz.isAgg697
  z212 := Tryz.sizeOf697
  v212 := Tryz.zeroValue697
  t213 := Tryz.underlying698
  a213 := Tryz.isAgg698
  z213 := Tryz.sizeOf698
  t232 := Tryz.underlying863
  a232 := Tryz.isAgg863
  z232 := Tryz.sizeOf863
  v232 := Tryz.zeroValue863
  t233 := Tryz.underlying864
  a233 := Tryz.isAgg864
  z233 := Tryz.sizeOf864
  v233 := Tryz.zeroValue864
  g17 := by kernel_rfl
  g18 := by kernel_rfl
  g19 := by kernel_rfl
  i0 := by kernel_rfl
  i2 := by kernel_rfl
  i3 := by kernel_rfl
  i4 := by kernel_rfl
  i5 := by kernel_rfl
  i9 := by kernel_rfl
  i20 := by kernel_rfl
  i37 := by kernel_rfl
  i46 := by kernel_rfl
  i51 := by kernel_rfl
  i53 := by kernel_rfl
  i171 := by kernel_rfl
  i173 := by kernel_rfl
  i212 := by kernel_rfl
  i232 := by kernel_rfl
  i233 := by kernel_rfl
  m17 := by kernel_rfl
  m18 := by kernel_rfl
  m19 := by kernel_rfl }
open Go.RowKit Go.Sort Go.Lib in
/-- internal/strconv.FormatInt: "FormatInt returns the string representation of i in the given base": AT BASE 10: i's decimal numeral, for every int64. The world behind the call: the world before it, new blocks behind the heap, draws. (LAID: no walk: one application.) -/
theorem Tryz.internal_strconv_FormatInt_10 (n : Int) (h0 : -9223372036854775808 ≤ n) (h1 : n ≤ 9223372036854775807) (w : World) (htab : Lib.TabIs Tryz.prog w "internal/strconv.uint64pow10" .u64 Lib.pow10Tab) :
    Calls Tryz.prog 240 #[.int .i64 n, .int .i64 10] w fun e w' => e = .returned (.string ⟨(Lib.itoa n).toArray⟩) ∧ ∃ k os, w' = grow (w.drewN k) os := Any.internal_strconv_FormatInt_10 Tryz.laysM246 n h0 h1 w htab
def Tryz.lays260_ren : Go.Shelf.Ren := ⟨fun | 260 => 238 | n => n, fun | 9 => 9 | 21 => 21 | 3 => 3 | 4 => 4 | 5 => 5 | 119 => 523 | 0 => 0 | 46 => 90 | 139 => 526 | 138 => 525 | n => n, fun | 3 => 2 | 4 => 3 | n => n⟩
theorem Tryz.lays260 : Go.Proofs.Lays.n260 Tryz.prog Tryz.lays260_ren := {
  mixed := by kernel_rfl
  f260 := Tryz.func238.trans (congrArg some (by kernel_rfl))
  t0 := Tryz.underlying0
  a0 := Tryz.isAgg0
  z0 := Tryz.sizeOf0
  v0 := Tryz.zeroValue0
  t3 := Tryz.underlying3
  a3 := Tryz.isAgg3
  z3 := Tryz.sizeOf3
  v3 := Tryz.zeroValue3
  t4 := Tryz.underlying4
  a4 := Tryz.isAgg4
  z4 := Tryz.sizeOf4
  v4 := Tryz.zeroValue4
  t5 := Tryz.underlying5
  a5 := Tryz.isAgg5
  z5 := Tryz.sizeOf5
  v5 := Tryz.zeroValue5
  t9 := Tryz.underlying9
  a9 := Tryz.isAgg9
  z9 := Tryz.sizeOf9
  v9 := Tryz.zeroValue9
  t21 := Tryz.underlying21
  a21 := Tryz.isAgg21
  z21 := Tryz.sizeOf21
  v21 := Tryz.zeroValue21
  t46 := Tryz.underlying90
  a46 := Tryz.isAgg90
  z46 := Tryz.sizeOf90
  v46 := Tryz.zeroValue90
  t119 := Tryz.underlying523
  a119 := Tryz.isAgg523
  z119 := Tryz.sizeOf523
  t138 := Tryz.underlying525
  a138 := Tryz.isAgg525
  z138 := Tryz.sizeOf525
  v138 := Tryz.zeroValue525
  t139 := Tryz.underlying526
  a139 := Tryz.isAgg526
  z139 := Tryz.sizeOf526
  v139 := Tryz.zeroValue526
  g3 := by kernel_rfl
  g4 := by kernel_rfl }
open Go.RowKit Go.Lib in
theorem Tryz.utf8_decodeRuneInStringSlow (s : ByteArray) (w : World) (hT : Lib.Utf8Tabs 2 3 w) :
    Calls Tryz.prog 238 #[.string s] w fun e w' => e = .returned (.tuple #[.int .i32 (Lib.decodeGo s).1, .int .i64 (Lib.decodeGo s).2]) ∧ Below w.heap.size w w' := Any.utf8_decodeRuneInStringSlow Tryz.lays260 s w hT
end Go.Proofs

/-! Contracts: internal/strconv.FormatInt at base 10, unicode/utf8.decodeRuneInStringSlow (for closed runs). -/
namespace Go.Proofs.YtaoplfeohffbiaaGreatDoor.Sx
set_option linter.unusedSimpArgs false
set_option linter.unusedVariables false
set_option linter.unusedSectionVars false
attribute [local irreducible] OkQ Ok
set_option maxRecDepth 8000

/-- Decimal digits, by fuel. -/
def digK : Nat → Nat → List UInt8 → List UInt8
  | 0, _, acc => acc
  | n + 1, u, acc => bif Nat.blt u 10 then UInt8.ofNat (48 + u) :: acc else digK n (u / 10) (UInt8.ofNat (48 + u % 10) :: acc)
theorem digK_eq : ∀ (n u : Nat) (acc : List UInt8), u < 10 ^ n → 0 < n → digK n u acc = Lib.decDigits u ++ acc
  | 0, _, _, _, h => absurd h (Nat.lt_irrefl 0)
  | n + 1, u, acc, h, _ => by
    unfold digK
    rw [Lib.decDigits]
    by_cases hu : u < 10
    · have : Nat.blt u 10 = true := by simpa [Nat.blt_eq] using hu
      rw [this, dif_pos hu]
      rfl
    · have : Nat.blt u 10 = false := by rw [← Bool.not_eq_true, Nat.blt_eq]; exact hu
      rw [this, dif_neg hu, cond_false]
      have h10 : u / 10 < 10 ^ n := by
        rw [Nat.pow_succ] at h
        omega
      have hn : 0 < n := by
        rcases n with _ | n
        · simp at h; omega
        · omega
      rw [digK_eq n (u / 10) _ h10 hn]
      simp
/-- A number in decimal digits, as the kernel reckons it. -/
def itoaK (n : Int) : List UInt8 := match n with
  | .ofNat u => digK 20 u []
  | .negSucc u => 45 :: digK 20 (u + 1) []
theorem itoaK_eq {n : Int} (h : -9223372036854775808 ≤ n) (h' : n ≤ 9223372036854775807) : itoaK n = Lib.itoa n := by
  unfold itoaK Lib.itoa
  split
  · rename_i u
    have hu : ¬ (Int.ofNat u < 0) := by show ¬ ((u : Int) < 0); omega
    rw [if_neg hu, digK_eq 20 u [] (by have : (u : Int) ≤ 9223372036854775807 := h'; omega) (by decide)]
    simp
  · rename_i u
    have hu : Int.negSucc u < 0 := Int.negSucc_lt_zero u
    rw [if_pos hu, digK_eq 20 (u + 1) [] (by have : -9223372036854775808 ≤ Int.negSucc u := h; rw [Int.negSucc_eq] at this; omega) (by decide)]
    simp [Int.natAbs]

theorem digK_len : ∀ (n u : Nat) (acc : List UInt8), (digK n u acc).length ≤ n + acc.length
  | 0, _, acc => by simp [digK]
  | n + 1, u, acc => by
    unfold digK
    cases Nat.blt u 10
    · rw [cond_false]
      have := digK_len n (u / 10) (UInt8.ofNat (48 + u % 10) :: acc)
      simp only [List.length_cons] at this
      omega
    · simp; omega
theorem itoaK_len (n : Int) : (itoaK n).length ≤ 21 := by
  unfold itoaK
  split
  · rename_i u
    have := digK_len 20 u []
    simp at this
    omega
  · rename_i u
    have := digK_len 20 (u + 1) []
    simp only [List.length_nil, Nat.add_zero] at this
    simp only [List.length_cons]
    omega

theorem i64_in {n : Int} (h : IntKind.i64.has n) : -9223372036854775808 ≤ n ∧ n ≤ 9223372036854775807 := by
  simpa [IntKind.has, IntKind.min, IntKind.max, IntKind.signed, IntKind.bits] using h

def fmtInt : Con := ⟨240, [(false, .int .i64), (false, .int .i64)], [(false, .str)], fun x => x.2.1 = 10, fun x => (itoaK x.1, ()), true⟩
theorem fmtInt_ok : fmtInt.Ok Tryz.prog := by
  refine con_below (enters_fn Tryz.func240 rfl (by decide)) fun S w vs x hg hr hwf hp => ?_
  obtain ⟨(n : Int), (m : Int), ⟨⟩⟩ := x
  obtain ⟨v1, v2, rfl, h1, h2⟩ := args2 hr
  obtain ⟨e1, hn⟩ := h1
  obtain ⟨e2, hm⟩ := h2
  cases e1
  cases e2
  have hp : m = 10 := hp
  subst hp
  have hn' : -9223372036854775808 ≤ n ∧ n ≤ 9223372036854775807 := i64_in hn
  have hl := itoaK_len n
  have htab : Lib.TabIs Tryz.prog w "internal/strconv.uint64pow10" .u64 Lib.pow10Tab := by
    obtain ⟨T, fz, e⟩ := hg.pow
    unfold Lib.TabIs World.var?
    rw [show Tryz.prog.globalNamed "internal/strconv.uint64pow10" = some 4 by kernel_rfl]
    simp [e]
  have hle : (Lib.itoa n).length ≤ 140737488355328 := by rw [← itoaK_eq hn'.1 hn'.2]; omega
  exact ⟨_, (Tryz.internal_strconv_FormatInt_10 n hn'.1 hn'.2 w htab).mono (by rintro e w' ⟨rfl, k, os, rfl⟩; exact ⟨rfl, Lib.below_grow _ w (Nat.le_refl _) k os⟩), ⟨by rw [itoaK_eq hn'.1 hn'.2]; exact hle, trivial⟩, fun E w => ⟨by rw [itoaK_eq hn'.1 hn'.2], by rw [itoaK_eq hn'.1 hn'.2]; exact hle⟩⟩

/-- The first character of a string, and its width. -/
def dec1 (s : List UInt8) : Nat × Nat := match s with
  | [] => (65533, 0)
  | b :: l => decV (b :: l) 0
theorem dec1_eq (s : List UInt8) : dec1 s = Lib.decodeGo ⟨s.toArray⟩ := by
  unfold dec1 Lib.decodeGo
  have hsz : (ByteArray.mk s.toArray).size = s.length := by show s.toArray.size = _; simp
  cases s with
  | nil => rw [if_pos (by rw [hsz]; rfl)]
  | cons b l => rw [if_neg (by rw [hsz]; simp)]; rfl
theorem dec1_has (s : List UInt8) : IntKind.i32.has ((dec1 s).1 : Int) ∧ IntKind.i64.has ((dec1 s).2 : Int) := by
  cases s with
  | nil => exact ⟨by show IntKind.i32.has 65533; constructor <;> decide, by show IntKind.i64.has 0; constructor <;> decide⟩
  | cons b l =>
    refine ⟨dec_has _ _, ?_⟩
    have hw : (decV (b :: l) 0).2 ≤ 4 := by
      unfold decV Utf8.decode
      repeat' (first | split | simp only [])
      all_goals simp
    show IntKind.i64.has ((decV (b :: l) 0).2 : Int)
    constructor <;> simp [IntKind.min, IntKind.max, IntKind.signed, IntKind.bits] <;> omega

def decSlow : Con := ⟨238, [(false, .str)], [(false, .int .i32), (false, .int .i64)], fun _ => True, fun x => (((dec1 x.1).1 : Int), ((dec1 x.1).2 : Int), ()), true⟩
theorem decSlow_ok : decSlow.Ok Tryz.prog := by
  refine con_below (enters_fn Tryz.func238 rfl (by decide)) fun S w vs x hg hr hwf _ => ?_
  obtain ⟨(s : List UInt8), ⟨⟩⟩ := x
  obtain ⟨v1, rfl, e1, h1⟩ := args1 hr
  cases e1
  have hh := dec1_has s
  exact ⟨_, (Tryz.utf8_decodeRuneInStringSlow ⟨s.toArray⟩ w ⟨hg.uf, hg.ua⟩).mono (by rintro e w' ⟨rfl, hb⟩; exact ⟨rfl, hb⟩), ⟨hh.1, hh.2, trivial⟩, fun E w => by
    rw [← dec1_eq]
    exact ⟨_, rfl, rfl, fun i bl u h1 h2 => by
      match i with
      | 0 => simp [roL, resV] at h1 h2; subst h1; subst h2; exact ⟨fun h => (by cases h), fun _ => .one ⟨rfl, hh.1⟩⟩
      | 1 => simp [roL, resV] at h1 h2; subst h1; subst h2; exact ⟨fun h => (by cases h), fun _ => .one ⟨rfl, hh.2⟩⟩
      | n + 2 => simp [roL, resV] at h1⟩⟩

end Go.Proofs.YtaoplfeohffbiaaGreatDoor.Sx

/-! The tool is awake: by reckoning. -/
namespace Go.Proofs.YtaoplfeohffbiaaGreatDoor.Sx
set_option linter.unusedSimpArgs false
set_option linter.unusedVariables false
set_option linter.unusedSectionVars false
attribute [local irreducible] OkQ Ok
set_option maxRecDepth 100000

instance hits : Hits Tryz.prog := ⟨show HitP Tryz.prog from fun f tF tT h => by cases h⟩
def dsT : List DCon := [⟨fmtInt, fun x => decide ((x.2.1 : Int) = 10), fun x h => (of_decide_eq_true h : (x.2.1 : Int) = 10)⟩, ⟨decSlow, fun _ => true, fun _ _ => trivial⟩]
theorem dsT_ok : ∀ c ∈ cons dsT, c.Ok Tryz.prog := fun c hc => by
  simp only [cons, dsT, List.map_cons, List.map_nil, List.mem_cons, List.not_mem_nil, or_false] at hc
  rcases hc with rfl | rfl
  · exact fmtInt_ok
  · exact decSlow_ok

def lives31 : Con := closed 7
theorem lives31_ok : lives31.Ok Tryz.prog :=
  closed_ok (Ds := dsT) (inl := List.range 800) (n := 9000) Tryz.func7 rfl (by decide) dsT_ok (by kernel_rfl)

end Go.Proofs.YtaoplfeohffbiaaGreatDoor.Sx

/-! The laws ToolNames and ToolNone: by reckoning. -/
namespace Go.Proofs.YtaoplfeohffbiaaGreatDoor.Sx
set_option linter.unusedSimpArgs false
set_option linter.unusedVariables false
set_option linter.unusedSectionVars false
attribute [local irreducible] OkQ Ok
set_option maxRecDepth 100000

def lawToolNames : Con := closedP 4 (tyL []).small
theorem lawToolNames_ok : lawToolNames.Ok Tryz.prog :=
  closedP_ok (Ds := dsT) (inl := List.range 800) (n := 9000) Tryz.func4 rfl (by decide) dsT_ok (by kernel_rfl)

/-- A function of a string that answers true, whatever the string is (the run does not look into it). -/
noncomputable def closedS (f : FuncId) (pre : (tyL [(false, .str)]).den → Prop) : Con := ⟨f, [(false, .str)], [(false, .bool)], pre, fun _ => (true, ()), false⟩
noncomputable def closedSB (P : Program) (Ds : List DCon) (inl : List Nat) (n : Nat) (results : List ResultVar) (code : Code) (nt : Nat) (s : List UInt8) : Bool := endR P results (runF P Ds inl n [.c code] ⟨ofL (.s (.str s) :: unks (nt - 1)), [], 0⟩)
theorem closedS_ok {P : Program} [Hits P] {pre : (tyL [(false, .str)]).den → Prop} {Ds : List DCon} {inl : List Nat} {n : Nat} {f : FuncId} {fn : Func} {code : Code} (hf : P.funcs[f]? = some fn) (hb : fn.body = some code) (hn : fn.name ≠ "runtime.NumGoroutine")
    (hCs : ∀ c ∈ cons Ds, c.Ok P) (hnt : 1 ≤ fn.ntmps) (h : ∀ s, closedSB P Ds inl n fn.results.toList code fn.ntmps s = true) : (closedS f pre).Ok P := by
  refine con_q (c := closedS f pre) hf hb hn (fun x _ _ => ?_) hnt
  obtain ⟨(s : List UInt8), ⟨⟩⟩ := x
  have h := h s
  unfold closedSB endR at h
  split at h
  · rename_i e st hr
    rw [Bool.and_eq_true] at h
    refine run_closedF hCs (x := (e, st)) hr h.1 ?_
    generalize absS st = st at h ⊢
    have h2 := h.2
    unfold endB at h2
    show RetQ P fn.results.toList [(false, .bool)] (true, ()) st
    unfold RetQ
    split at h2
    · rename_i p cs hret
      rw [hret]
      rw [Bool.and_eq_true] at h2
      have hcs : cs = [(false, [.bool true])] := by
        have := h2.1
        unfold isT at this
        split at this
        · rfl
        · cases this
      subst hcs
      exact ⟨retB_ok h2.2 hret, ⟨rfl, trivial⟩, rfl⟩
    · cases h2
  · cases h

noncomputable def lawToolNone : Con := closedS 3 (tyL [(false, .str)]).small
theorem lawToolNone_ok : lawToolNone.Ok Tryz.prog :=
  closedS_ok (Ds := dsT) (inl := List.range 800) (n := 9000) Tryz.func3 rfl (by decide) dsT_ok (by decide) (fun s => by kernel_rfl)

end Go.Proofs.YtaoplfeohffbiaaGreatDoor.Sx
