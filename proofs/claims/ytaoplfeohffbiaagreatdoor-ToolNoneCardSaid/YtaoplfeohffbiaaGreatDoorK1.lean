/- A part of the proof. -/
import Derived.Laws.Cover4
import Derived.Test.YtaoplfeohffbiaaGreatDoorK0
import Derived.Laws.RangeString
import Derived.Lib.Builder
import Derived.Lib.UnsafeStr
import Derived.Deep.AppendSrc
import Derived.Laws.Externs
import Derived.Scope
import Derived.TacticsIn
import Derived.OrdersIn
import Derived.RangeFuncIn
import Derived.RangeFuncLeaves
import Derived.RangeFuncRecord

/-! Steps: literals, small ones. -/
namespace Go.Proofs.YtaoplfeohffbiaaGreatDoor.Sx
set_option linter.unusedSimpArgs false
set_option linter.unusedVariables false
set_option linter.unusedSectionVars false
noncomputable section

theorem fold_set (off : Nat) : ∀ (l : List Value) (k : Nat) (cells : Array Value), off + k + l.length ≤ cells.size →
    ((l.zipIdx k).foldl (fun cs p => cs.setIfInBounds (off + p.2) p.1) cells).toList = splice cells.toList (off + k) l
  | [], k, cells, _ => by simp [splice]
  | v :: l, k, cells, h => by
    have hl : off + k + l.length + 1 ≤ cells.size := by simp at h; omega
    simp only [List.zipIdx_cons, List.foldl_cons]
    rw [fold_set off l (k + 1) (cells.setIfInBounds (off + k) v) (by simp; omega)]
    apply List.ext_getElem?
    intro j
    have h1 : off + (k + 1) + l.length ≤ (cells.setIfInBounds (off + k) v).toList.length := by simp; omega
    have h2 : off + k + (v :: l).length ≤ cells.toList.length := by simp; omega
    rw [splice_get h1, splice_get h2]
    by_cases c1 : j < off + k
    · rw [if_pos (by omega), if_pos c1, Array.toList_setIfInBounds, List.getElem?_set_ne (by omega)]
    · rw [if_neg c1]
      by_cases c2 : j = off + k
      · subst c2
        rw [if_pos (by omega), if_pos (by simp), Array.toList_setIfInBounds, List.getElem?_set_self (by simp; omega)]
        simp
      · rw [if_neg (by omega)]
        by_cases c3 : j < off + (k + 1) + l.length
        · rw [if_pos c3, if_pos (by simp; omega)]
          have : j - (off + k) = (j - (off + (k + 1))) + 1 := by omega
          rw [this, List.getElem?_cons_succ]
        · rw [if_neg c3, if_neg (by simp; omega), Array.toList_setIfInBounds, List.getElem?_set_ne (by omega)]

theorem flat_len (size : Nat) : ∀ (l : List Value), (∀ v ∈ l, v.cells.size = size) → (l.flatMap fun v => v.cells.toList).length = l.length * size
  | [], _ => by simp
  | u :: l, hv => by
    have h1 := flat_len size l fun x hx => hv x (List.mem_cons_of_mem _ hx)
    have h2 := hv u (by simp)
    rw [List.flatMap_cons, List.length_append, h1, List.length_cons, Nat.add_mul, Array.length_toList, h2]
    omega

theorem fill_ok (size : Nat) : ∀ (l : List Value) (i : Nat) (cells : Array Value), (∀ v ∈ l, v.cells.size = size) → (i + l.length) * size ≤ cells.size →
    ∃ cs, Instr.fill (fun i => some (i * size, size)) cells (l.zipIdx i |>.map fun p => (p.2, p.1)) = some cs ∧ cs.toList = splice cells.toList (i * size) (l.flatMap fun v => v.cells.toList)
  | [], i, cells, _, _ => ⟨cells, rfl, by simp [splice]⟩
  | v :: l, i, cells, hv, hle => by
    have hsz : v.cells.size = size := hv v (by simp)
    have hle' : i * size + size + l.length * size ≤ cells.size := by simp [Nat.add_mul] at hle; omega
    let c1 := v.cells.zipIdx.foldl (fun cs p => cs.setIfInBounds (i * size + p.2) p.1) cells
    have hc1 : c1.toList = splice cells.toList (i * size) v.cells.toList := by
      have := fold_set (i * size) v.cells.toList 0 cells (by simp; omega)
      rw [Nat.add_zero] at this
      rw [← this]
      show (v.cells.zipIdx.foldl (fun cs p => cs.setIfInBounds (i * size + p.2) p.1) cells).toList = _
      rw [← Array.foldl_toList, Array.toList_zipIdx]
    have hlen : c1.size = cells.size := by rw [← Array.length_toList, hc1, splice_len (by simp; omega)]; simp
    obtain ⟨cs, h1, h2⟩ := fill_ok size l (i + 1) c1 (fun u hu => hv u (by simp [hu])) (by rw [hlen]; simp [Nat.add_mul]; omega)
    refine ⟨cs, ?_, ?_⟩
    · simp only [List.zipIdx_cons, List.map_cons, Instr.fill]
      have hn : ¬ (v.cells.size ≠ size ∨ i * size + v.cells.size > cells.size) := by omega
      rw [if_neg (by simpa using hn)]
      exact h1
    · rw [h2, hc1]
      simp only [List.flatMap_cons]
      apply List.ext_getElem?
      intro j
      have hfl : (l.flatMap fun v => v.cells.toList).length = l.length * size := flat_len size l fun u hu => hv u (List.mem_cons_of_mem _ hu)
      have g1 : (i + 1) * size + (l.flatMap fun v => v.cells.toList).length ≤ (splice cells.toList (i * size) v.cells.toList).length := by
        rw [splice_len (by simp; omega), hfl, Nat.add_mul]; simp; omega
      have g2 : i * size + (v.cells.toList ++ l.flatMap fun v => v.cells.toList).length ≤ cells.toList.length := by simp [hsz]; simp at hfl; omega
      have g3 : i * size + v.cells.toList.length ≤ cells.toList.length := by simp; omega
      rw [splice_get g1, splice_get g2, splice_get g3, hfl]
      have e1 : (i + 1) * size = i * size + size := by rw [Nat.add_mul]; omega
      have e2 : v.cells.toList.length = size := by simpa using hsz
      rw [List.length_append, hfl, e1, e2]
      by_cases c1 : j < i * size
      · rw [if_pos (by omega), if_pos c1, if_pos c1]
      · rw [if_neg c1, if_neg c1]
        by_cases c2 : j < i * size + size
        · rw [if_pos c2, if_pos c2, if_pos (by omega), List.getElem?_append_left (by omega)]
        · rw [if_neg c2, if_neg c2]
          by_cases c3 : j < i * size + size + l.length * size
          · rw [if_pos c3, if_pos (by omega), List.getElem?_append_right (by omega)]
            congr 1
            omega
          · rw [if_neg c3, if_neg (by omega)]

section
variable {P : Program} {G : Ctx} {E : Env} {w : World} {hp : List (Nat × Ob)} {nx : Nat} {fr : List SV} {a : Act}
variable {d : Option Tmp} {ty : TypeId} {pos : String} {af : Array Edge} {gd : Option (Nat × Bool)}

/-- Cells of a value whose symbolic cells read as data. -/
theorem cells_rd (h : Pre P G E w hp fr a) {X : SV} {v : Value} (hX : SVok E w X v) {t : Ty} (ht : 0 < t.n) {y : t.den} (hr : rdS (fo hp) t X.cells = some (y, [])) : ∃ us, v.cells = us.toArray ∧ S1sok E w X.cells us := by
  cases X with
  | s x =>
    have hs : S1sok E w [x] [v] := .one hX
    have hrd := rd_plain h hr hs
    exact ⟨[v], cells_of_one (rd_stl t _ y hrd v (by simp)), hs⟩
  | agg l => obtain ⟨us, rfl, hk⟩ := hX; exact ⟨us, rfl, hk⟩
  | unk => exact absurd (Rd.len t _ y (rd_plain h hr (us := []) .nil)) (by simp; omega)
  | tup l => exact absurd (Rd.len t _ y (rd_plain h hr (us := []) .nil)) (by simp; omega)
  | gd g x => exact absurd (Rd.len t _ y (rd_plain h hr (us := []) .nil)) (by simp; omega)

theorem sParts_ok (h : Pre P G E w hp fr a) {e : Ty} (hn : 0 < e.n) {L : List Nat} : ∀ (ps : List (Nat × Operand)) (i : Nat) (l : List e.den), sParts (fo hp) e fr ps i = some l → (∀ o, o ∈ idsParts fr ps → o ∈ L) →
    ∃ vs : List Value, (ps.map fun p => (p.1, a.eval p.2)) = (vs.zipIdx i).map (fun p => (p.2, p.1)) ∧ (∀ v ∈ vs, v.cells.size = e.n) ∧ Parts (E.frozen L).owned w e (vs.flatMap fun v => v.cells.toList) l ∧ vs.length = l.length
  | [], i, l, hs, _ => by
    simp only [sParts, Option.some.injEq] at hs
    subst hs
    exact ⟨[], rfl, by simp, ⟨by simp, fun i hi => by simp at hi⟩, rfl⟩
  | (j, x) :: ps, i, l, hs, hL => by
    simp only [sParts] at hs
    cases hj : j == i <;> rw [hj] at hs <;> simp only [cond_true, cond_false] at hs
    · cases hs
    · split at hs
      · rename_i y hy
        split at hs
        · rename_i l' hl'
          cases hs
          obtain ⟨vs, h1, h2, h3, h4⟩ := sParts_ok h hn ps (i + 1) l' hl' (fun o ho => hL o (by simp [idsParts, ho]))
          obtain ⟨us, hu, hk⟩ := cells_rd h (h.ev x) hn hy
          have hrd := rd_frozen h (l := L) (fun o ho => hL o (by simp [idsParts, ho])) hy hk
          have hul := Rd.len _ _ _ hrd
          have hji : j = i := by simpa using hj
          subst hji
          refine ⟨a.eval x :: vs, by simp [h1], ?_, ?_, by simp [h4]⟩
          · intro v hv
            rcases List.mem_cons.1 hv with rfl | hv
            · rw [hu]; simpa using hul
            · exact h2 v hv
          · have hone : Parts (E.frozen L).owned w e us [y] := ⟨by simpa using hul, fun i hi => by
              have h0 : i = 0 := by simp at hi; omega
              subst h0
              simpa [List.take_of_length_le (Nat.le_of_eq hul)] using hrd⟩
            have := hone.append h3
            simpa [List.flatMap_cons, hu] using this
        · cases hs
      · cases hs

theorem land_buildSlice (h : Pre P G E w hp fr a) (hnx : ¬ E.born nx) {t : TypeId} {n : Nat} {ps : Array (Nat × Operand)} {e : Ty} {z : Nat} (hI : elemI P t = some (e, z)) {l : List e.den}
    (hs : sParts (fo hp) e fr ps.toList 0 = some l) (hl : l.length = n) (h24 : n * e.n ≤ 16777216) (h47 : n * z ≤ 140737488355328) {ow : Prop} :
    Land P G E w hp nx ⟨d, .buildSlice t n ps, ty, pos, af, gd⟩ a ⟨ow, .s (.sub nx 0 n), freeze (fo hp) (idsParts fr ps.toList) ++ [(nx, .arr false z e l)], nx + 1, True⟩ := by
  obtain ⟨el, inf, zv, hu, hi, hsz, hb, hzv, hzs, hz0, hn0⟩ := elemI_run hI
  obtain ⟨vs, h1, h2, h3, h4⟩ := sParts_ok h hn0 (L := idsParts fr ps.toList) ps.toList 0 l hs (fun _ ho => ho)
  refine Land.frozen (idsParts fr ps.toList) ?_
  have hF := h.frozen (idsParts fr ps.toList)
  have hnxF : ¬ (E.frozen (idsParts fr ps.toList)).born nx := hnx
  have hvn : vs.length = n := h4.trans hl
  let zc := if n * e.n = 0 then #[] else zv.cells
  let c0 : Array Value := (Array.range (n * e.n)).map (fun i => zc[i % zc.size]!)
  have hc0 : c0.size = n * e.n := by simp [c0]
  obtain ⟨cs, hf, hcs⟩ := fill_ok e.n vs 0 c0 h2 (by rw [hc0, Nat.zero_add, hvn]; exact Nat.le_refl _)
  have hfl : (vs.flatMap fun v => v.cells.toList).length = n * e.n := by rw [h3.1, hl]
  have hcs' : cs.toList = vs.flatMap fun v => v.cells.toList := by
    rw [hcs, Nat.zero_mul]
    unfold splice
    rw [List.drop_of_length_le (by simp [hc0]; simp at hfl; omega)]
    simp
  have hmap : (ps.map fun p => (p.1, a.eval p.2)).toList = (vs.zipIdx 0).map (fun p => (p.2, p.1)) := by rw [Array.toList_map]; exact h1
  refine land_new hF hnxF (vs := cs) (T := el) (v := .slice (some ⟨w.heap.size, 0, none⟩) n n) ?_ (fun E' hev hl' hh => ?_) (fun E' ho hl' hb' hh => ?_) trivial
  · have h24' : ¬ (16777216 < n * e.n) := by omega
    have hf' : Instr.fill (fun i => some (i * e.n, e.n)) c0 (ps.map fun p => (p.1, a.eval p.2)).toList = some cs := by rw [hmap]; exact hf
    have hbs : (Instr.buildSlice t n (ps.map fun p => (p.1, a.eval p.2))).run P w = .ok (.slice (some ⟨w.heap.size, 0, none⟩) n n) (w.alloc (.cells cs el)) := by
      simp only [Instr.buildSlice, Sem.run_bind, run_underlying hu, Result.andThen_ok]
      simp only [sizeOf, typeInfo, run_program, hi, Sem.run_bind, Sem.run_pure, Result.andThen_ok, hsz, if_neg h24', Nat.reducePow, gt_iff_lt]
      by_cases h0 : n * e.n = 0
      · have hz1 : zc = #[] := if_pos h0
        simp only [c0, hz1] at hf'
        rw [if_pos h0]
        simp only [Sem.run_bind, Sem.run_pure, Result.andThen_ok, hf', newRow, run_newObj_alloc]
      · have hz1 : zc = zv.cells := if_neg h0
        simp only [c0, hz1] at hf'
        rw [if_neg h0]
        simp only [Sem.run_bind, Sem.run_pure, Result.andThen_ok, zeroValue, typeInfo, run_program, hi, hzv, hf', newRow, run_newObj_alloc]
    simp only [execOp, Sem.run_bind, hbs, Result.andThen_ok]
    rfl
  · exact ob_of_parts (by rw [hl]; exact h47) hl' hh (f := 0) (vs := cs.toList) (rest := []) (by simp) (Nat.zero_le _) (by rw [hcs']; exact h3.mono hev)
  · refine ⟨hb', ?_⟩
    rw [ho]
    refine ⟨Nat.zero_le _, by omega, ?_⟩
    rw [hl']
    have : cs.size = n * e.n := by rw [← Array.length_toList, hcs', hfl]
    exact .inl ⟨n, cs, el, (0, 0), by simp, by omega, hh, by simp [this]⟩

theorem land_extract (h : Pre P G E w hp fr a) {x : Operand} {i : Nat} {l : List (Bool × List S1)} {v : SV} {ow : Prop} (hx : SVok E w (.tup l) (a.eval x)) (hs : sTup l i = some v) :
    Land P G E w hp nx ⟨d, .extract x i, ty, pos, af, gd⟩ a ⟨ow, v, [], nx, True⟩ := by
  obtain ⟨vs, e1, hl, hr⟩ := hx
  have key : ∀ (l : List (Bool × List S1)) (i : Nat), sTup l i = some v → ∃ bl, l[i]? = some bl ∧ ((bl.1 = true ∧ v = .agg bl.2) ∨ (bl.1 = false ∧ ∃ y, bl.2 = [y] ∧ v = .s y)) := by
    intro l
    induction l with
    | nil => intro i hi; simp [sTup] at hi
    | cons c l ih =>
      intro i hi
      obtain ⟨b, cs⟩ := c
      cases i with
      | zero =>
        cases b
        · match cs, hi with
          | [y], hi => simp only [sTup, Option.some.injEq] at hi; exact ⟨_, rfl, .inr ⟨rfl, y, rfl, hi.symm⟩⟩
          | [], hi => simp [sTup] at hi
          | _ :: _ :: _, hi => simp [sTup] at hi
        · simp only [sTup, Option.some.injEq] at hi; exact ⟨_, rfl, .inl ⟨rfl, hi.symm⟩⟩
      | succ i =>
        have : sTup l i = some v := by
          cases b
          · match cs, hi with
            | [y], hi => exact hi
            | [], hi => exact hi
            | _ :: _ :: _, hi => exact hi
          · exact hi
        exact ih i this
  obtain ⟨bl, hbl, hv⟩ := key l i hs
  have hi : i < vs.length := by rw [hl]; exact (List.getElem?_eq_some_iff.1 hbl).1
  have hu := List.getElem?_eq_getElem hi
  obtain ⟨r1, r2⟩ := hr i bl vs[i] hbl hu
  refine land_val h (v := vs[i]) ?_ ?_ rfl trivial
  · simp [execOp, e1, Instr.extract, hu]
  · rcases hv with ⟨hb, rfl⟩ | ⟨hb, y, hy, rfl⟩
    · obtain ⟨us, e2, h2⟩ := r1 hb
      exact ⟨us, e2, h2⟩
    · have h2 := r2 hb
      rw [hy] at h2
      obtain ⟨_, _, e3, h3, _⟩ := h2.uncons
      cases e3
      exact h3

theorem land_index (h : Pre P G E w hp fr a) {t : TypeId} {x y : Operand} {k : IntKind} {i : Int} {s : List UInt8} {ow : Prop} (hx : SVok E w (.s (.str s)) (a.eval x)) (hy : SVok E w (.s (.int k i)) (a.eval y))
    (ht : isStr P t = true) (h0 : 0 ≤ i) (h1 : i < (s.length : Int)) : Land P G E w hp nx ⟨d, .index t x y, ty, pos, af, gd⟩ a ⟨ow, .s (.int .u8 ((s.getD i.toNat 0).toNat : Int)), [], nx, True⟩ := by
  obtain ⟨e1, hl⟩ := hx
  obtain ⟨e2, _⟩ := hy
  have ht' : P.underlying t = some .string := by
    unfold isStr at ht
    split at ht
    · assumption
    · cases ht
  have hi : i.toNat < s.length := by omega
  have hg : (ByteArray.mk s.toArray)[i.toNat]? = some s[i.toNat] := by
    have : i.toNat < (ByteArray.mk s.toArray).size := by show i.toNat < s.toArray.size; simpa using hi
    have h2 := getElem?_pos (ByteArray.mk s.toArray) i.toNat this
    rw [h2]
    rfl
  refine land_val h (v := .int .u8 (s[i.toNat].toNat : Int)) ?_ ?_ rfl trivial
  · simp [execOp, e1, e2, Instr.index, asIntOf, run_underlying ht', h0, hg]
  · rw [getD_of_lt hi]
    refine ⟨rfl, ?_⟩
    have := UInt8.toNat_lt (s[i.toNat]'hi)
    simp [IntKind.has, IntKind.min, IntKind.max, IntKind.signed, IntKind.bits]
    omega

/-- Bytes as a string. -/
theorem foldl_push : ∀ (l : List Int) (s : ByteArray), l.foldl (fun r n => r.push (UInt8.ofNat n.toNat)) s = ⟨s.data ++ (bsL l).toArray⟩
  | [], s => by simp [bsL]
  | n :: l, s => by
    rw [List.foldl_cons, foldl_push l]
    apply ByteArray.ext
    simp [bsL, ByteArray.push]

theorem tyOf_byte {t : TypeId} {d : Nat} (h : tyOf P d t = some (.int .u8)) : P.underlying t = some (.int .u8) := by
  cases d with
  | zero => cases h
  | succ d =>
    simp only [tyOf] at h
    split at h <;> try (cases h; try assumption)
    · split at h <;> cases h
    · rename_i fs hu
      exfalso
      cases hl : fs.toList with
      | nil => rw [hl] at h; cases h
      | cons f l =>
        rw [hl, List.foldr_cons] at h
        split at h <;> cases h

theorem run_bytes {S : Nat → Prop} {v : Value} {xs : List Int} {z : Nat} (h : Rd S w (.slice z (.int .u8)) [v] xs) : (Conv.bytesToString v).run P w = .ok (.string ⟨(bsL xs).toArray⟩) w ∧ ∃ a l c, v = .slice a l c := by
  obtain ⟨_, h⟩ := h
  rcases h with ⟨a, c, e, e0⟩ | ⟨b, off, c, e, _, hne, _, _, hr⟩
  · cases e
    subst e0
    refine ⟨?_, _, _, _, rfl⟩
    cases a with
    | none => simp [Conv.bytesToString, bsL]; rfl
    | some a =>
      have := run_bytesToString (P := P) w a 0 c [] (by have := run_loadCells_list (P := P) w a [] (fun j v hj => by simp at hj); simpa using this)
      rw [this]
      simp [bsL]
      rfl
  · cases e
    refine ⟨?_, _, _, _, rfl⟩
    have hc := run_loadCells_list (P := P) w ⟨b, off, none⟩ (xs.map (Value.int .u8)) (fun j v hj => by
      rw [add_lit']
      rw [List.getElem?_map] at hj
      cases hx : xs[j]? with
      | none => rw [hx] at hj; cases hj
      | some n =>
        rw [hx] at hj
        cases hj
        obtain ⟨hlt, hn⟩ := List.getElem?_eq_some_iff.1 hx
        obtain ⟨us, hu, hcell, hrd⟩ := hr j hlt
        obtain ⟨rfl, _⟩ := hrd
        have := hcell 0 _ rfl
        simpa [Ty.n, hn] using this)
    rw [List.length_map] at hc
    rw [run_bytesToString w ⟨b, off, none⟩ xs.length c xs hc, foldl_push]
    simp

theorem isByteTy_eq {e : Ty} (h : isByteTy e = true) : e = .int .u8 := by
  unfold isByteTy at h
  split at h
  · rfl
  · cases h

theorem sList_rd (h : Pre P G E w hp fr a) {z : Nat} {e : Ty} {x : S1} {v : Value} {xs : List e.den} (hx : SVok E w (.s x) v) (hX : sList (fo hp) z e (.s x) = some xs) : Rd (fun _ => False) w (.slice z e) [v] xs := by
  simp only [sList] at hX
  split at hX
  · rename_i ys hr
    cases hX
    obtain ⟨us, rest, l1, e1, h1, h2, _⟩ := rdS_ok (S' := fun _ => False) h.ob h.mem.hp (fun _ hb => hb.elim) (.slice z e) [x] xs [] [v] hr (fun _ _ _ _ _ _ hb => hb) (.one hx)
    have : us = [v] := by
      have hlen := Rd.len _ _ _ h1
      have hr0 := h2.nil_inv
      subst hr0
      simpa using e1.symm
    rw [← this]
    exact h1
  · cases hX

theorem land_convert (h : Pre P G E w hp fr a) {src dst : TypeId} {x : Operand} {X : SV} {r : S1} {ow : Prop} (hx : SVok E w X (a.eval x)) (hs : sConv P (fo hp) src dst X = some r) :
    Land P G E w hp nx ⟨d, .convert src dst x, ty, pos, af, gd⟩ a ⟨ow, .s r, [], nx, True⟩ := by
  have st : ∀ t, isStr P t = true → P.underlying t = some .string := by
    intro t ht
    unfold isStr at ht
    split at ht
    · assumption
    · cases ht
  unfold sConv at hs
  split at hs
  · rename_i k n
    split at hs
    · rename_i k1 k2 h1 h2
      cases hs
      obtain ⟨e1, _⟩ := hx
      refine land_val h (v := .int k2 (wr k2 n)) ?_ ⟨rfl, has_wrap _ _⟩ rfl trivial
      simp [execOp, e1, convert, run_underlying h1, run_underlying h2, Conv.intToInt]; rfl
    · rename_i k1 h1 h2
      cases hs
      obtain ⟨e1, _⟩ := hx
      have hlen : (encV n).length ≤ 140737488355328 := by
        have : (encV n).length ≤ 4 := by
          unfold encV Utf8.encode
          dsimp only
          generalize (if Utf8.valid n = true then n.toNat else Utf8.runeError) = c
          split
          · simp
          · split
            · simp
            · split <;> simp
        omega
      refine land_val h (v := .string ⟨(encV n).toArray⟩) ?_ ⟨rfl, hlen⟩ rfl trivial
      have e2 : (ByteArray.mk (encV n).toArray) = Utf8.encode n := by
        apply ByteArray.ext
        simp [encV]
      rw [e2]
      simp [execOp, e1, convert, run_underlying h1, run_underlying h2, Conv.intToString]
    · cases hs
  · rename_i s
    cases hb : isStr P src && isStr P dst <;> rw [hb] at hs <;> simp only [cond_true, cond_false] at hs
    · cases hs
    · cases hs
      rw [Bool.and_eq_true] at hb
      obtain ⟨e1, hl⟩ := hx
      refine land_val h (v := .string ⟨s.toArray⟩) ?_ ⟨rfl, hl⟩ rfl trivial
      simp [execOp, e1, convert, run_underlying (st _ hb.1), run_underlying (st _ hb.2)]
  · rename_i y _ _
    split at hs
    · rename_i e z hI
      cases hb : isByteTy e && isStr P dst <;> rw [hb] at hs <;> simp only [cond_true, cond_false] at hs
      · cases hs
      · rw [Bool.and_eq_true] at hb
        split at hs
        · rename_i l hl
          cases hs
          have he := isByteTy_eq hb.1
          subst he
          obtain ⟨el, inf, zv, hu, _, _, _, _, _, hz0, _⟩ := elemI_run hI
          have hu8 : P.underlying el = some (.int .u8) := by
            unfold elemI at hI
            rw [hu] at hI
            simp only at hI
            split at hI
            · rename_i i ty h1 h2
              split at hI
              · split at hI
                · cases hI; exact tyOf_byte h2
                · cases hI
              · cases hI
            · cases hI
          have hrd := sList_rd h hx hl
          obtain ⟨hrun, ad, n, c, ev⟩ := run_bytes (P := P) hrd
          have hlen : (bsL l).length ≤ 140737488355328 := by
            rw [bsL, List.length_map]
            exact Nat.le_trans (Nat.le_mul_of_pos_right _ hz0) hrd.1
          refine land_val h (v := .string ⟨(bsL l).toArray⟩) ?_ ⟨rfl, hlen⟩ rfl trivial
          rw [ev] at hrun
          simp [execOp, ev, run_convert_bytes_string w src dst el ad n c hu hu8 (st _ hb.2), hrun]
        · cases hs
    · cases hs
  · cases hs

theorem foldl_enc : ∀ (l : List Int) (s : ByteArray), l.foldl (fun r n => r ++ Utf8.encode n) s = ⟨s.data ++ (rsL l).toArray⟩
  | [], s => by simp [rsL]
  | n :: l, s => by
    rw [List.foldl_cons, foldl_enc l]
    apply ByteArray.ext
    apply Array.toList_inj.1
    simp [rsL, encV, ByteArray.data_append]

theorem tyOf_rune {t : TypeId} {d : Nat} (h : tyOf P d t = some (.int .i32)) : P.underlying t = some (.int .i32) := by
  cases d with
  | zero => cases h
  | succ d =>
    simp only [tyOf] at h
    split at h <;> try (cases h; try assumption)
    · split at h <;> cases h
    · rename_i fs hu
      exfalso
      cases hl : fs.toList with
      | nil => rw [hl] at h; cases h
      | cons f l =>
        rw [hl, List.foldr_cons] at h
        split at h <;> cases h

theorem run_runes {S : Nat → Prop} {v : Value} {xs : List Int} {z : Nat} (h : Rd S w (.slice z (.int .i32)) [v] xs) : (Conv.runesToString v).run P w = .ok (.string ⟨(rsL xs).toArray⟩) w ∧ ∃ a l c, v = .slice a l c := by
  obtain ⟨_, h⟩ := h
  rcases h with ⟨a, c, e, e0⟩ | ⟨b, off, c, e, _, hne, _, _, hr⟩
  · cases e
    subst e0
    refine ⟨?_, _, _, _, rfl⟩
    cases a with
    | none => simp [Conv.runesToString, rsL]; rfl
    | some a =>
      have := run_runesToString (P := P) w a 0 c [] (by have := run_loadCells_list (P := P) w a [] (fun j v hj => by simp at hj); simpa using this)
      rw [this, runesBytes, foldl_enc]
      simp [rsL]
  · cases e
    refine ⟨?_, _, _, _, rfl⟩
    have hc := run_loadCells_list (P := P) w ⟨b, off, none⟩ (xs.map (Value.int .i32)) (fun j v hj => by
      rw [add_lit']
      rw [List.getElem?_map] at hj
      cases hx : xs[j]? with
      | none => rw [hx] at hj; cases hj
      | some n =>
        rw [hx] at hj
        cases hj
        obtain ⟨hlt, hn⟩ := List.getElem?_eq_some_iff.1 hx
        obtain ⟨us, hu, hcell, hrd⟩ := hr j hlt
        obtain ⟨rfl, _⟩ := hrd
        have := hcell 0 _ rfl
        simpa [Ty.n, hn] using this)
    rw [List.length_map] at hc
    rw [run_runesToString w ⟨b, off, none⟩ xs.length c xs hc, runesBytes, foldl_enc]
    simp

theorem rsL_len (l : List Int) : (rsL l).length ≤ 4 * l.length := by
  have h := foldl_size_le l ByteArray.empty
  rw [foldl_enc] at h
  simpa [ByteArray.size] using h

theorem land_runes (h : Pre P G E w hp fr a) {src dst : TypeId} {x : Operand} {X : SV} {r : S1} {ow : Prop} (hx : SVok E w X (a.eval x)) (hs : sRun P (fo hp) src dst X = some r) :
    Land P G E w hp nx ⟨d, .convert src dst x, ty, pos, af, gd⟩ a ⟨ow, .s r, [], nx, True⟩ := by
  unfold sRun at hs
  split at hs
  · rename_i y
    split at hs
    · rename_i e z hI
      cases hb : isRuneTy e && (isStr P dst && Nat.ble 4 z) <;> rw [hb] at hs <;> simp only [cond_true, cond_false] at hs
      · cases hs
      · simp only [Bool.and_eq_true] at hb
        split at hs
        · rename_i l hl
          cases hs
          have he : e = .int .i32 := by
            have := hb.1
            unfold isRuneTy at this
            split at this
            · rfl
            · cases this
          subst he
          have hz4 := Nat.le_of_ble_eq_true hb.2.2
          have hst : P.underlying dst = some .string := by
            have := hb.2.1
            unfold isStr at this
            split at this
            · assumption
            · cases this
          obtain ⟨el, inf, zv, hu, _, _, _, _, _, hz0, _⟩ := elemI_run hI
          have hu8 : P.underlying el = some (.int .i32) := by
            unfold elemI at hI
            rw [hu] at hI
            simp only at hI
            split at hI
            · rename_i i ty h1 h2
              split at hI
              · split at hI
                · cases hI; exact tyOf_rune h2
                · cases hI
              · cases hI
            · cases hI
          have hrd := sList_rd h hx hl
          obtain ⟨hrun, ad, n, c, ev⟩ := run_runes (P := P) hrd
          have hlen : (rsL l).length ≤ 140737488355328 := by
            have h1 := rsL_len l
            have h2 : l.length * z ≤ 140737488355328 := hrd.1
            have h3 := Nat.mul_le_mul_left l.length hz4
            omega
          refine land_val h (v := .string ⟨(rsL l).toArray⟩) ?_ ⟨rfl, hlen⟩ rfl trivial
          rw [ev] at hrun
          simp [execOp, ev, run_convert_runes_string w src dst el ad n c hu hu8 hst, hrun]
        · cases hs
    · cases hs
  · cases hs

theorem land_nilCheck (h : Pre P G E w hp fr a) {x : Operand} {r : S1} {ow : Prop} (hx : SVok E w (.s r) (a.eval x))
    (hr : (∃ b, a.eval x = .pointer (some b)) ∨ ∃ f vs, a.eval x = .func (.func f) #[] vs) : Land P G E w hp nx ⟨d, .nilCheck x, ty, pos, af, gd⟩ a ⟨ow, .s r, [], nx, True⟩ := by
  refine land_val h (v := a.eval x) ?_ hx rfl trivial
  rcases hr with ⟨b, e⟩ | ⟨f, vs, e⟩ <;> simp [execOp, e]

theorem caps_ok (h : Pre P G E w hp fr a) : ∀ (xs : List Operand) (l : List (Nat × Nat)), capsOf fr xs = some l → (∀ o off, (o, off) ∈ l → ∃ Tb cs, E.ob o = .box Tb cs) →
    (xs.map a.eval).length = l.length ∧ ∀ (i o off : Nat), l[i]? = some (o, off) → E.born o ∧ match E.ob o with
        | .box _ _ => ∃ b, E.loc o = some (b, 0) ∧ (xs.map a.eval)[i]? = some (.pointer (some ⟨b, off, none⟩))
        | _ => True
  | [], l, hs, _ => by simp only [capsOf, Option.some.injEq] at hs; subst hs; exact ⟨rfl, fun i o off hi => by simp at hi⟩
  | x :: xs, l, hs, hb => by
    simp only [capsOf] at hs
    split at hs
    · rename_i o off r h1 h2
      cases hs
      obtain ⟨hl, hr⟩ := caps_ok h xs r h2 (fun o' off' hm => hb o' off' (by simp [hm]))
      refine ⟨by simp [hl], fun i o' off' hi => ?_⟩
      cases i with
      | zero =>
        simp only [List.getElem?_cons_zero, Option.some.injEq, Prod.mk.injEq] at hi
        obtain ⟨rfl, rfl⟩ := hi
        have hx := h.ev x
        rw [h1] at hx
        obtain ⟨g1, g2⟩ := hx
        refine ⟨g1, ?_⟩
        obtain ⟨Tb, cs, hcs⟩ := hb o off (by simp)
        rw [hcs] at g2 ⊢
        obtain ⟨b, g3, g4⟩ := g2
        exact ⟨b, g3, by simp [g4]⟩
      | succ i => exact hr i o' off' (by simpa using hi)
    · cases hs

theorem land_min (h : Pre P G E w hp fr a) (mn : Bool) {x y : Operand} {X Y r : SV} {ats : Array TypeId} {ow : Prop} (hx : SVok E w X (a.eval x)) (hy : SVok E w Y (a.eval y)) (hs : sMin mn X Y = some r) :
    Land P G E w hp nx ⟨d, .call { callee := .builtin (if mn then .min else .max), args := #[x, y], argTypes := ats }, ty, pos, af, gd⟩ a ⟨ow, r, [], nx, True⟩ := by
  unfold sMin at hs
  split at hs
  · rename_i k p k' q
    cases hk : keq k k' <;> rw [hk] at hs <;> simp only [cond_true, cond_false, reduceCtorEq, Option.some.injEq] at hs
    have := keq_eq hk
    subst this
    subst hs
    obtain ⟨e1, b1⟩ := hx
    obtain ⟨e2, b2⟩ := hy
    cases mn
    · refine land_val h (v := .int k (if p < q then q else p)) ?_ ⟨rfl, by show k.has (if p < q then q else p); split <;> assumption⟩ rfl trivial
      simp [execOp, resolve, invoke, builtin, e1, e2, Builtin.max_, Builtin.max2]
    · refine land_val h (v := .int k (if q < p then q else p)) ?_ ⟨rfl, by show k.has (if q < p then q else p); split <;> assumption⟩ rfl trivial
      simp [execOp, resolve, invoke, builtin, e1, e2, Builtin.min_, Builtin.min2]
  · cases hs

theorem has_len {n : Nat} (h : n ≤ 140737488355328) : IntKind.i64.has (n : Int) := by
  simp [IntKind.has, IntKind.min, IntKind.max, IntKind.signed, IntKind.bits]; omega

theorem land_len (h : Pre P G E w hp fr a) {x : Operand} {X : SV} {t : TypeId} {ts : List TypeId} {n : Nat} {ow : Prop} (hx : SVok E w X (a.eval x)) (hs : sLen P (fo hp) t X = some n) :
    Land P G E w hp nx ⟨d, .call { callee := .builtin .len, args := #[x], argTypes := (t :: ts).toArray }, ty, pos, af, gd⟩ a ⟨ow, .s (.int .i64 (n : Int)), [], nx, True⟩ := by
  have run : ∀ (v : Value) (td : TypeDesc), a.eval x = v → P.underlying t = some td → ((∃ el q c, td = .slice el ∧ v = .slice q n c) ∨ (td = .string ∧ ∃ s : ByteArray, v = .string s ∧ s.size = n)) →
      (execOp a.eval ⟨d, .call { callee := .builtin .len, args := #[x], argTypes := (t :: ts).toArray }, ty, pos, af, gd⟩).run P w = .ok (.value (.int .i64 (n : Int))) w := by
    intro v td hv ht hc
    rcases hc with ⟨el, q, c, rfl, rfl⟩ | ⟨rfl, s, rfl, rfl⟩
    · simp [execOp, resolve, invoke, builtin, hv, Builtin.len_, run_underlying ht, goInt]
    · simp [execOp, resolve, invoke, builtin, hv, Builtin.len_, run_underlying ht, goInt]
  unfold sLen at hs
  split at hs
  · rename_i o lo hi
    split at hs
    · rename_i fz z e xs ho
      split at hs
      · rename_i ez hI
        cases hz : Nat.ble 1 z <;> rw [hz] at hs <;> simp only [cond_true, cond_false] at hs
        · cases hs
        · cases hs
          have hz1 := Nat.le_of_ble_eq_true hz
          obtain ⟨e', z'⟩ := ez
          obtain ⟨el, inf, zv, hu, _⟩ := elemI_run hI
          have hob : E.ob o = .arr fz z e xs := (h.ob o).trans ho
          have hx0 := hx
          obtain ⟨hb, hx⟩ := hx
          rw [hob] at hx
          obtain ⟨h1, h2, h3⟩ := hx
          have hv : ∃ q c, a.eval x = .slice q (hi - lo) c := by
            cases hl : E.loc o with
            | none => rw [hl] at h3; obtain ⟨e1, rfl⟩ := h3; exact ⟨none, 0, by simpa using e1⟩
            | some q =>
              obtain ⟨b, off⟩ := q
              rw [hl] at h3
              rcases h3 with ⟨c, _, _, _, e1, _⟩ | ⟨hle, q, e1⟩
              · exact ⟨_, c, e1⟩
              · exact ⟨q, 0, by rw [e1]; congr 1; omega⟩
          obtain ⟨q, c, e1⟩ := hv
          have hm := h.mem.hp o hb
          rw [hob] at hm
          refine land_val h (v := .int .i64 ((hi - lo : Nat) : Int)) (run _ _ e1 hu (.inl ⟨el, q, c, rfl, rfl⟩)) ⟨rfl, has_len ?_⟩ rfl trivial
          have := Nat.le_trans (Nat.le_mul_of_pos_right xs.length hz1) hm.1
          omega
      · cases hs
    · cases hs
  · rename_i z e xs
    split at hs
    · rename_i ez hI
      cases hz : Nat.ble 1 z <;> rw [hz] at hs <;> simp only [cond_true, cond_false] at hs
      · cases hs
      · cases hs
        have hz1 := Nat.le_of_ble_eq_true hz
        obtain ⟨e', z'⟩ := ez
        obtain ⟨el, inf, zv, hu, _⟩ := elemI_run hI
        obtain ⟨hl, hx⟩ := hx
        have hle := Nat.le_trans (Nat.le_mul_of_pos_right xs.length hz1) hl
        rcases hx with ⟨q, c, e1, rfl⟩ | ⟨b, off, c, e1, _⟩
        · simp only [List.cons.injEq, and_true] at e1
          exact land_val h (v := .int .i64 ((0 : Nat) : Int)) (run _ _ e1 hu (.inl ⟨el, q, c, rfl, rfl⟩)) ⟨rfl, has_len hle⟩ rfl trivial
        · simp only [List.cons.injEq, and_true] at e1
          exact land_val h (v := .int .i64 (xs.length : Int)) (run _ _ e1 hu (.inl ⟨el, _, c, rfl, rfl⟩)) ⟨rfl, has_len hle⟩ rfl trivial
    · cases hs
  · rename_i s
    cases ht : isStr P t <;> rw [ht] at hs <;> simp only [cond_true, cond_false] at hs
    · cases hs
    · cases hs
      have ht' : P.underlying t = some .string := by
        unfold isStr at ht
        split at ht
        · assumption
        · cases ht
      obtain ⟨e1, hl⟩ := hx
      exact land_val h (v := .int .i64 (s.length : Int)) (run _ _ e1 ht' (.inr ⟨rfl, _, rfl, by show s.toArray.size = _; simp⟩)) ⟨rfl, has_len hl⟩ rfl trivial
  · split at hs
    · rename_i ez hI
      cases hs
      obtain ⟨e', z'⟩ := ez
      obtain ⟨el, inf, zv, hu, _⟩ := elemI_run hI
      exact land_val h (v := .int .i64 ((0 : Nat) : Int)) (run _ _ hx hu (.inl ⟨el, none, 0, rfl, rfl⟩)) ⟨rfl, has_len (by omega)⟩ rfl trivial
    · cases hs
  · cases hs

end
end
end Go.Proofs.YtaoplfeohffbiaaGreatDoor.Sx

/-! Contracts, and calls by them. -/
namespace Go.Proofs.YtaoplfeohffbiaaGreatDoor.Sx
set_option linter.unusedSimpArgs false
set_option linter.unusedVariables false
set_option linter.unusedSectionVars false
noncomputable section

def ArgsRd (S : Nat → Prop) (w : World) : (as : List (Bool × Ty)) → List Value → (tyL as).den → Prop
  | [], [], _ => True
  | (b, t) :: as, v :: vs, x => (b = true → ∃ us : List Value, v = .agg us.toArray ∧ Rd S w t us x.1) ∧ (b = false → Rd S w t [v] x.1) ∧ ArgsRd S w as vs x.2
  | _, _, _ => False

def resE (S : Nat → Prop) (rs : List (Bool × Ty)) (y : (tyL rs).den) (i : Nat) (loc : Loc) : Env :=
  { ob := fo (resO rs y i), loc, born := fun o => i ≤ o ∧ o < i + nslL rs, bad := S }

/-- What a call leaves: data in new memory, all else as it was. -/
def ResPost (S : Nat → Prop) (rs : List (Bool × Ty)) (y : (tyL rs).den) (i : Nat) (w : World) (e : Ending) (w' : World) : Prop :=
  ∃ v, e = .returned v ∧ RowKit.Below w.heap.size w w' ∧ (tyL rs).wf y ∧ ∃ loc : Loc, SVok (resE S rs y i loc) w' (resV (resL rs y i)) v ∧
    (∀ o, (resE S rs y i loc).born o → ObOk (resE S rs y i loc) w' o ((resE S rs y i loc).ob o)) ∧
    (∀ o o' b f f', (resE S rs y i loc).ob o ≠ .dead → (resE S rs y i loc).ob o' ≠ .dead → loc o = some (b, f) → loc o' = some (b, f') → o = o') ∧
    (∀ o b f, (resE S rs y i loc).ob o ≠ .dead → loc o = some (b, f) → w.heap.size ≤ b)

/-- What a call leaves whose results may be shared: data that no block of S holds, all else as it was. -/
def ShPost (S : Nat → Prop) (rs : List (Bool × Ty)) (y : (tyL rs).den) (w : World) (e : Ending) (w' : World) : Prop :=
  ∃ v, e = .returned v ∧ RowKit.Below w.heap.size w w' ∧ (tyL rs).wf y ∧ ∀ E : Env, (∀ b, E.owned b → S b) → SVok E w' (resV (roL rs y)) v

def Con.Post (c : Con) (S : Nat → Prop) (x : (tyL c.as).den) (i : Nat) (w : World) : Ending → World → Prop :=
  match c.sh with
  | true => ShPost S c.rs (c.F x) w
  | false => ResPost S c.rs (c.F x) i w

structure Con.Ok (P : Program) (c : Con) : Prop where
  enters : ∀ args w, (callFunc c.f args).run P w = .ok (.enter c.f args) w
  calls : ∀ (S : Nat → Prop) (w : World) (vs : List Value) (x : (tyL c.as).den), (∀ b, S b → b < w.heap.size) → (GW w ∧ ∀ b ∈ GB, ¬ S b) → ArgsRd S w c.as vs x → (tyL c.as).wf x → c.pre x →
    ∀ i, Calls P c.f vs.toArray w (c.Post S x i w)

theorem ArgsRd.wf {S : Nat → Prop} {w : World} : ∀ (as : List (Bool × Ty)) (vs : List Value) (x : (tyL as).den), ArgsRd S w as vs x → (tyL as).wf x
  | [], _, _, _ => trivial
  | (b, t) :: as, v :: vs, x, ⟨h1, h2, h3⟩ => by
    refine ⟨?_, ArgsRd.wf as vs x.2 h3⟩
    cases b
    · exact Rd.wf t _ _ (h2 rfl)
    · obtain ⟨us, _, hr⟩ := h1 rfl; exact Rd.wf t _ _ hr
  | _ :: _, [], _, h => h.elim

theorem findC_mem {f : Nat} {Cs : List Con} {c : Con} (h : findC f Cs = some c) : c ∈ Cs ∧ c.f = f := by
  induction Cs with
  | nil => cases h
  | cons d l ih =>
    simp only [findC] at h
    cases hb : d.f == f <;> rw [hb] at h <;> simp only [cond_true, cond_false] at h
    · exact ⟨List.mem_cons_of_mem _ (ih h).1, (ih h).2⟩
    · cases h; exact ⟨by simp, by simpa using hb⟩

theorem rd_flat {S S' : Nat → Prop} {w : World} : ∀ (t : Ty) (us : List Value) (x : t.den), t.hasSl = false → Rd S w t us x → Rd S' w t us x
  | .int _, _, _, _, r => r
  | .bool, _, _, _, r => r
  | .str, _, _, _, r => r
  | .unit, _, _, _, r => r
  | .opq, _, _, _, r => r
  | .pair a b, _, _, h, ⟨v1, v2, e, r1, r2⟩ => by
    simp only [Ty.hasSl, Bool.or_eq_false_iff] at h
    exact ⟨v1, v2, e, rd_flat a v1 _ h.1 r1, rd_flat b v2 _ h.2 r2⟩

def keys (ws : List (Nat × Ob)) : List Nat := ws.map Prod.fst

theorem fo_not {ws : List (Nat × Ob)} {o : Nat} (h : o ∉ keys ws) : fo ws o = .dead := by
  induction ws with
  | nil => rfl
  | cons p ws ih =>
    obtain ⟨i, x⟩ := p
    simp only [keys, List.map_cons, List.mem_cons, not_or] at h
    have : (i == o) = false := by simpa using Ne.symm h.1
    simp only [fo_nil, fo_cons, this, cond_false]
    exact ih h.2

theorem fo_uos {ws : List (Nat × Ob)} (hn : (keys ws).Nodup) (l : List (Nat × Ob)) (o : Nat) : fo (uos l ws) o = if o ∈ keys ws then fo ws o else fo l o := by
  induction ws generalizing l with
  | nil => simp [uos, keys]
  | cons p ws ih =>
    obtain ⟨i, x⟩ := p
    have hn' := List.nodup_cons.1 hn
    simp only [uos]
    rw [ih hn'.2, fo_uo]
    by_cases h1 : o ∈ keys ws
    · have hne : o ≠ i := fun e => hn'.1 (e ▸ h1)
      have hb : (i == o) = false := by simpa using Ne.symm hne
      rw [if_pos h1, if_pos (by simp [keys] at h1 ⊢; exact .inr h1)]
      simp [fo_nil, fo_cons, hb]
    · rw [if_neg h1]
      by_cases h2 : o = i
      · subst h2
        rw [if_pos rfl, if_pos (by simp [keys])]
        simp [fo_nil, fo_cons]
      · have : o ∉ keys ((i, x) :: ws) := by simp only [keys, List.map_cons, List.mem_cons, not_or]; exact ⟨h2, h1⟩
        rw [if_neg h2, if_neg this]

theorem injO_keys : ∀ (t : Ty) (x : t.den) (i : Nat), (∀ o, o ∈ keys (injO t x i) → i ≤ o ∧ o < i + t.nsl) ∧ (keys (injO t x i)).Nodup
  | .int _, _, _ => ⟨by simp [injO, keys], by simp [injO, keys]⟩
  | .bool, _, _ => ⟨by simp [injO, keys], by simp [injO, keys]⟩
  | .str, _, _ => ⟨by simp [injO, keys], by simp [injO, keys]⟩
  | .unit, _, _ => ⟨by simp [injO, keys], by simp [injO, keys]⟩
  | .opq, _, _ => ⟨by simp [injO, keys], by simp [injO, keys]⟩
  | .slice _ _, _, i => ⟨by simp [injO, keys, Ty.nsl], by simp [injO, keys]⟩
  | .pair a b, x, i => by
    obtain ⟨h1, h2⟩ := injO_keys a x.1 i
    obtain ⟨h3, h4⟩ := injO_keys b x.2 (i + a.nsl)
    have e : keys (injO (.pair a b) x i) = keys (injO a x.1 i) ++ keys (injO b x.2 (i + a.nsl)) := by simp [injO, keys]
    rw [e]
    refine ⟨fun o ho => ?_, List.nodup_append.2 ⟨h2, h4, fun p hp q hq e => ?_⟩⟩
    · simp only [Ty.nsl]
      rcases List.mem_append.1 ho with ho | ho
      · have := h1 o ho; omega
      · have := h3 o ho; omega
    · have := h1 p hp; have := h3 q hq; omega

theorem resO_keys : ∀ (rs : List (Bool × Ty)) (y : (tyL rs).den) (i : Nat), (∀ o, o ∈ keys (resO rs y i) → i ≤ o ∧ o < i + nslL rs) ∧ (keys (resO rs y i)).Nodup
  | [], _, _ => ⟨by simp [resO, keys], by simp [resO, keys]⟩
  | (b, t) :: rs, y, i => by
    obtain ⟨h1, h2⟩ := injO_keys t y.1 i
    obtain ⟨h3, h4⟩ := resO_keys rs y.2 (i + t.nsl)
    have e : keys (resO ((b, t) :: rs) y i) = keys (injO t y.1 i) ++ keys (resO rs y.2 (i + t.nsl)) := by simp [resO, keys]
    rw [e]
    refine ⟨fun o ho => ?_, List.nodup_append.2 ⟨h2, h4, fun p hp q hq e => ?_⟩⟩
    · simp only [nslL]
      rcases List.mem_append.1 ho with ho | ho
      · have := h1 o ho; omega
      · have := h3 o ho; omega
    · have := h1 p hp; have := h3 q hq; omega

/-- New objects are mutable arrays. -/
theorem injO_arr : ∀ (t : Ty) (x : t.den) (i o : Nat), fo (injO t x i) o = .dead ∨ ∃ z e xs, fo (injO t x i) o = .arr false z e xs ∧ (t.nest = false → e.hasSl = false)
  | .int _, _, _, _ => .inl rfl
  | .bool, _, _, _ => .inl rfl
  | .str, _, _, _ => .inl rfl
  | .unit, _, _, _ => .inl rfl
  | .opq, _, _, _ => .inl rfl
  | .slice z e, xs, i, o => by
    simp only [injO, fo_nil, fo_cons]
    cases i == o
    · exact .inl rfl
    · exact .inr ⟨z, e, xs, rfl, fun h => h⟩
  | .pair a b, x, i, o => by
    have key : ∀ l l' : List (Nat × Ob), fo (l ++ l') o = fo l o ∨ (fo l o = .dead ∧ fo (l ++ l') o = fo l' o) := by
      intro l l'
      induction l with
      | nil => exact .inr ⟨rfl, rfl⟩
      | cons p l ih =>
        obtain ⟨j, y⟩ := p
        simp only [List.cons_append, fo_nil, fo_cons]
        cases j == o
        · exact ih
        · exact .inl rfl
    simp only [injO, Ty.nest]
    rcases key (injO a x.1 i) (injO b x.2 (i + a.nsl)) with h | ⟨_, h⟩ <;> rw [h]
    · rcases injO_arr a x.1 i o with k | ⟨z, e, xs, k, k2⟩
      · exact .inl k
      · exact .inr ⟨z, e, xs, k, fun hn => k2 (by simp at hn; exact hn.1)⟩
    · rcases injO_arr b x.2 (i + a.nsl) o with k | ⟨z, e, xs, k, k2⟩
      · exact .inl k
      · exact .inr ⟨z, e, xs, k, fun hn => k2 (by simp at hn; exact hn.2)⟩

theorem fo_app (l l' : List (Nat × Ob)) (o : Nat) : fo (l ++ l') o = fo l o ∨ (fo l o = .dead ∧ fo (l ++ l') o = fo l' o) := by
  induction l with
  | nil => exact .inr ⟨rfl, rfl⟩
  | cons p l ih =>
    obtain ⟨j, y⟩ := p
    simp only [List.cons_append, fo_nil, fo_cons]
    cases j == o
    · exact ih
    · exact .inl rfl

theorem resO_arr : ∀ (rs : List (Bool × Ty)) (y : (tyL rs).den) (i o : Nat), fo (resO rs y i) o = .dead ∨ ∃ z e xs, fo (resO rs y i) o = .arr false z e xs ∧ (nestL rs = false → e.hasSl = false)
  | [], _, _, _ => .inl rfl
  | (b, t) :: rs, y, i, o => by
    simp only [resO, nestL]
    rcases fo_app (injO t y.1 i) (resO rs y.2 (i + t.nsl)) o with h | ⟨_, h⟩ <;> rw [h]
    · rcases injO_arr t y.1 i o with k | ⟨z, e, xs, k, k2⟩
      · exact .inl k
      · exact .inr ⟨z, e, xs, k, fun hn => k2 (by simp at hn; exact hn.1)⟩
    · rcases resO_arr rs y.2 (i + t.nsl) o with k | ⟨z, e, xs, k, k2⟩
      · exact .inl k
      · exact .inr ⟨z, e, xs, k, fun hn => k2 (by simp at hn; exact hn.2)⟩

end
end Go.Proofs.YtaoplfeohffbiaaGreatDoor.Sx

/-! A call by its contract, as a step. -/
namespace Go.Proofs.YtaoplfeohffbiaaGreatDoor.Sx
set_option linter.unusedSimpArgs false
set_option linter.unusedVariables false
set_option linter.unusedSectionVars false
noncomputable section

def plain1 : S1 → Prop
  | .ro t _ => t.hasSl = false
  | .pr _ _ _ => False
  | .fn _ _ => False
  | .fb _ _ => False
  | _ => True

theorem injS_plain : ∀ (t : Ty) (x : t.den) (i : Nat), ∀ y ∈ injS t x i, plain1 y
  | .int _, _, _ => by simp [injS, plain1]
  | .bool, _, _ => by simp [injS, plain1]
  | .str, _, _ => by simp [injS, plain1]
  | .unit, _, _ => by simp [injS]
  | .opq, _, _ => by simp [injS, plain1, Ty.hasSl]
  | .slice _ _, _, _ => by simp [injS, plain1]
  | .pair a b, x, i => by
    intro y hy
    rcases List.mem_append.1 hy with hy | hy
    · exact injS_plain a _ _ y hy
    · exact injS_plain b _ _ y hy

theorem S1ok.lift {R E : Env} {w : World} (h : ∀ o, R.born o → E.born o ∧ E.ob o = R.ob o ∧ E.loc o = R.loc o) {x : S1} {v : Value} (hp : plain1 x) (r : S1ok R w x v) : S1ok E w x v := by
  cases x with
  | unk => trivial
  | int k n => exact r
  | bool b => exact r
  | mb t f => exact r
  | str s => exact r
  | nils => exact r
  | val u => exact r
  | ro t x => exact rd_flat t _ x hp r
  | sub o lo hi => obtain ⟨hb, r⟩ := r; obtain ⟨h1, h2, h3⟩ := h o hb; refine ⟨h1, ?_⟩; rw [h2, h3]; exact r
  | pb o off => obtain ⟨hb, r⟩ := r; obtain ⟨h1, h2, h3⟩ := h o hb; refine ⟨h1, ?_⟩; rw [h2, h3]; exact r
  | pe o i off => obtain ⟨hb, r⟩ := r; obtain ⟨h1, h2, h3⟩ := h o hb; refine ⟨h1, ?_⟩; rw [h2, h3]; exact r
  | yl o => obtain ⟨hb, r⟩ := r; obtain ⟨h1, h2, h3⟩ := h o hb; refine ⟨h1, ?_⟩; rw [h2, h3]; exact r
  | ifp t o off => obtain ⟨hb, r⟩ := r; obtain ⟨h1, h2, h3⟩ := h o hb; refine ⟨h1, ?_⟩; rw [h2, h3]; exact r
  | ifi t k n => exact r
  | sb o z off n k => obtain ⟨hb, r⟩ := r; obtain ⟨h1, h2, h3⟩ := h o hb; refine ⟨h1, ?_⟩; rw [h2, h3]; exact r
  | mr o => obtain ⟨hb, r⟩ := r; obtain ⟨h1, h2, h3⟩ := h o hb; refine ⟨h1, ?_⟩; rw [h2, h3]; exact r
  | fb f c => exact hp.elim
  | pr t x off => exact hp.elim
  | fn f c => exact hp.elim

theorem S1sok.lift {R E : Env} {w : World} (h : ∀ o, R.born o → E.born o ∧ E.ob o = R.ob o ∧ E.loc o = R.loc o) {l : List S1} {vs : List Value} (hp : ∀ x ∈ l, plain1 x) (r : S1sok R w l vs) : S1sok E w l vs :=
  ⟨r.1, fun i x v h1 h2 => S1ok.lift h (hp x (List.mem_of_getElem? h1)) (r.2 i x v h1 h2)⟩

theorem resL_plain : ∀ (rs : List (Bool × Ty)) (y : (tyL rs).den) (i : Nat), ∀ bl ∈ resL rs y i, ∀ x ∈ bl.2, plain1 x
  | [], _, _ => by simp [resL]
  | (b, t) :: rs, y, i => by
    intro bl hb
    rcases List.mem_cons.1 hb with rfl | hb
    · exact injS_plain t _ _
    · exact resL_plain rs _ _ bl hb

theorem resV_lift {R E : Env} {w : World} (h : ∀ o, R.born o → E.born o ∧ E.ob o = R.ob o ∧ E.loc o = R.loc o) {l : List (Bool × List S1)} (hp : ∀ bl ∈ l, ∀ x ∈ bl.2, plain1 x) {v : Value} (r : SVok R w (resV l) v) : SVok E w (resV l) v := by
  unfold resV at r ⊢
  split at r
  · obtain ⟨vs, e, hk⟩ := r
    rename_i l
    exact ⟨vs, e, hk.lift h (hp (true, l) (by simp))⟩
  · rename_i x
    exact S1ok.lift h (hp (false, [x]) (by simp) x (by simp)) r
  · obtain ⟨vs, e, hl, hk⟩ := r
    refine ⟨vs, e, hl, fun i bl u h1 h2 => ⟨fun hb => ?_, fun hb => ?_⟩⟩
    · obtain ⟨us, e2, h3⟩ := (hk i bl u h1 h2).1 hb
      exact ⟨us, e2, h3.lift h (hp bl (List.mem_of_getElem? h1))⟩
    · exact ((hk i bl u h1 h2).2 hb).lift h (hp bl (List.mem_of_getElem? h1))

section
variable {P : Program} {G : Ctx} {E : Env} {w : World} {hp : List (Nat × Ob)} {nx : Nat} {fr : List SV} {a : Act}
variable {d : Option Tmp} {ty : TypeId} {pos : String} {af : Array Edge} {gd : Option (Nat × Bool)}

/-- The arguments, as data in a memory of which S is barred. -/
theorem sArgs_ok (h : Pre P G E w hp fr a) {S : Nat → Prop} (hS : ∀ b, S b → E.owned b) : ∀ (as : List (Bool × Ty)) (xs : List SV) (vs : List Value) (x : (tyL as).den), sArgs (fo hp) as xs = some x →
    (∀ o, o ∈ allIds xs → isA (E.ob o) = true → ∀ b f, E.loc o = some (b, f) → ¬ S b) → vs.length = xs.length → (∀ (i : Nat) y v, xs[i]? = some y → vs[i]? = some v → SVok E w y v) → ArgsRd S w as vs x
  | [], [], [], _, _, _, _, _ => trivial
  | [], [], _ :: _, _, _, _, hl, _ => by simp at hl
  | [], _ :: _, _, _, hs, _, _, _ => by simp [sArgs] at hs
  | _ :: _, [], _, _, hs, _, _, _ => by simp [sArgs] at hs
  | _ :: _, _ :: _, [], _, _, _, hl, _ => by simp at hl
  | (b, t) :: as, y :: ys, v :: vs, x, hs, hI, hl, hv => by
    simp only [sArgs] at hs
    cases hb : shape b y <;> rw [hb] at hs <;> simp only [cond_true, cond_false] at hs
    · cases hs
    · split at hs
      · rename_i z zs hz hzs
        cases hs
        have hy := hv 0 y v rfl rfl
        have ih := sArgs_ok h hS as ys vs zs hzs (fun o ho => hI o (by simp [allIds, ho])) (by simpa using hl) (fun i y v h1 h2 => hv (i + 1) y v (by simpa using h1) (by simpa using h2))
        have hr : ∀ us, S1sok E w y.cells us → Rd S w t us z := by
          intro us hus
          obtain ⟨us', rest, l1, rfl, h1, h2, _⟩ := rdS_ok h.ob h.mem.hp hS t y.cells z [] us hz (fun o ho => hI o (by simp [allIds, ho])) hus
          rw [h2.nil_inv, List.append_nil]; exact h1
        refine ⟨fun hb1 => ?_, fun hb1 => ?_, ih⟩
        · subst hb1
          cases y <;> simp [shape] at hb
          obtain ⟨us, e, hk⟩ := hy
          exact ⟨us, e, hr us hk⟩
        · subst hb1
          cases y <;> simp [shape] at hb
          exact hr [v] (.one hy)
      · cases hs

theorem pkVs_ok (h : Pre P G E w hp fr a) : ∀ (xs : List Operand), pkPs fr xs → (xs.map a.eval).length = (pkVs fr xs).length ∧
    ∀ (i : Nat) y v, (pkVs fr xs)[i]? = some y → (xs.map a.eval)[i]? = some v → SVok E w y v
  | [], _ => ⟨rfl, fun i y v h1 _ => by simp [pkVs] at h1⟩
  | x :: xs, hk => by
    obtain ⟨h1, h2⟩ := hk
    obtain ⟨h3, h4⟩ := pkVs_ok h xs h2
    refine ⟨by simp [pkVs, h3], fun i y v g1 g2 => ?_⟩
    cases i with
    | zero => simp [pkVs] at g1 g2; subst g1; subst g2; exact h.pk h1
    | succ i => exact h4 i y v (by simpa [pkVs] using g1) (by simpa using g2)

/-- The state behind a call. -/
def callE (E : Env) (hp : List (Nat × Ob)) (rs : List (Bool × Ty)) (y : (tyL rs).den) (nx : Nat) (loc : Loc) : Env :=
  { ob := fun o => fo (uos hp (resO rs y nx)) o, loc := fun o => if nx ≤ o ∧ o < nx + nslL rs then loc o else E.loc o, born := fun o => E.born o ∨ (nx ≤ o ∧ o < nx + nslL rs), bad := E.bad }

theorem land_call0 (h : Pre P G E w hp fr a) {rs : List (Bool × Ty)} (hnx : ∀ o, nx ≤ o → o < nx + nslL rs → ¬ E.born o) {S : Nat → Prop} {y : (tyL rs).den} {o : Oper} {f : FuncId} {args : Array Value} {ow : Prop}
    (hS : nestL rs = false ∨ S = E.owned) (hrun : (execOp a.eval o).run P w = .ok (.enter f args) w) (hc : Calls P f args w (ResPost S rs y nx w)) :
    Land P G E w hp nx o a ⟨ow, resV (resL rs y nx), resO rs y nx, nx + nslL rs, (tyL rs).wf y⟩ := by
  intro K B hK
  unfold Oper.wp
  rw [hrun, Oper.upon_enter]
  refine hc.mono fun e w' hpost => ?_
  obtain ⟨v, rfl, hbel, hwf, loc, hv, hobs, hsep, hfresh⟩ := hpost
  show K (a.put o.dst v) w'
  obtain ⟨hk1, hk2⟩ := resO_keys rs y nx
  have hob : ∀ q, (callE E hp rs y nx loc).ob q = if q ∈ keys (resO rs y nx) then fo (resO rs y nx) q else E.ob q := by
    intro q
    show fo (uos hp (resO rs y nx)) q = _
    rw [fo_uos hk2, h.ob]
  have hin : ∀ q, nx ≤ q → q < nx + nslL rs → (callE E hp rs y nx loc).ob q = fo (resO rs y nx) q ∧ (callE E hp rs y nx loc).loc q = loc q := by
    intro q h1 h2
    refine ⟨?_, if_pos ⟨h1, h2⟩⟩
    rw [hob]
    by_cases hq : q ∈ keys (resO rs y nx)
    · rw [if_pos hq]
    · rw [if_neg hq, h.mem.unb q (hnx q h1 h2), fo_not hq]
  have hout : ∀ q, ¬ (nx ≤ q ∧ q < nx + nslL rs) → (callE E hp rs y nx loc).ob q = E.ob q ∧ (callE E hp rs y nx loc).loc q = E.loc q := by
    intro q hq
    refine ⟨?_, if_neg hq⟩
    rw [hob, if_neg (fun hk => hq (hk1 q hk))]
  have hdec : ∀ q, (nx ≤ q ∧ q < nx + nslL rs) ∨ ¬ (nx ≤ q ∧ q < nx + nslL rs) := fun q => Decidable.em _
  have hown : ∀ b, (callE E hp rs y nx loc).owned b → E.owned b ∨ ∃ q f, nx ≤ q ∧ q < nx + nslL rs ∧ fo (resO rs y nx) q ≠ .dead ∧ (fo (resO rs y nx) q).mut = true ∧ loc q = some (b, f) := by
    rintro b (hb | ⟨q, f, h1, h2⟩)
    · exact .inl (.inl hb)
    · rcases hdec q with hq | hq
      · obtain ⟨e1, e2⟩ := hin q hq.1 hq.2
        rw [e1] at h1
        rw [e2] at h2
        exact .inr ⟨q, f, hq.1, hq.2, mut_ne h1, h1, h2⟩
      · obtain ⟨e1, e2⟩ := hout q hq
        rw [e1] at h1
        rw [e2] at h2
        exact .inl (.inr ⟨q, f, h1, h2⟩)
  have hev : Evo E (callE E hp rs y nx loc) w w' := by
    refine ⟨fun q hq => .inl hq, fun q hq => ?_, fun b hb ho => ?_, fun b hb _ => hbel.block b hb, fun b cs T fz hc => ⟨cs, fz, (hbel.block b (lt_of_row hc)).trans hc, rfl⟩, hbel.size, rfl, fun b y hy => by rw [hbel.block b (lt_of_obj hy), hy]; exact OthK.same⟩
    · have hn : ¬ (nx ≤ q ∧ q < nx + nslL rs) := fun hr => hnx q hr.1 hr.2 hq
      obtain ⟨e1, e2⟩ := hout q hn
      rw [e1, e2]
      cases hx : E.ob q with
      | dead => exact .inl rfl
      | box Tb cs => exact .inr ⟨rfl, rfl⟩
      | arr fz z e xs => exact .inr ⟨⟨rfl, rfl, rfl⟩, rfl⟩
      | lp s fr ps a b pd => exact .inr ⟨trivial, rfl⟩
      | it s2 p2 => exact .inr ⟨trivial, rfl⟩
      | mp es2 => exact .inr ⟨trivial, rfl⟩
    · rcases hown b ho with hb' | ⟨q, f, h1, h2, h3, _, h4⟩
      · exact hb'
      · have := hfresh q b f h3 h4
        omega
  have hlift : ∀ q, (resE S rs y nx loc).born q → (callE E hp rs y nx loc).born q ∧ (callE E hp rs y nx loc).ob q = (resE S rs y nx loc).ob q ∧ (callE E hp rs y nx loc).loc q = (resE S rs y nx loc).loc q :=
    fun q hq => ⟨.inr hq, (hin q hq.1 hq.2).1, (hin q hq.1 hq.2).2⟩
  refine hK v w' (callE E hp rs y nx loc) ?_ hev (fun q => rfl) (fun q hq => hq) (resV_lift hlift (resL_plain rs y nx) hv) hwf
  refine h.mem.step hev (fun q => nx ≤ q ∧ q < nx + nslL rs) (fun q hb hq => ?_) (fun q hq => ?_) (fun q hq => ?_) (fun p p' b f1 f2 h1 h2 h3 h4 => ?_) (fun q b f h1 h2 => ?_) hbel.os hbel.tape hbel.output
    (fun b hb _ => hbel.block b (Nat.lt_of_lt_of_le hb h.mem.size))
  · obtain ⟨e1, e2⟩ := hout q hq
    exact ⟨hb.resolve_right hq, e1, e2, fun b f hd hl => hbel.block b (h.mem.lt hd hl)⟩
  · have hR := hobs q hq
    obtain ⟨e1, e2⟩ := hin q hq.1 hq.2
    rw [e1]
    show ObOk _ w' q (fo (resO rs y nx) q)
    rcases resO_arr rs y nx q with hd | ⟨z, e, xs, hx, hflat⟩
    · rw [hd]; trivial
    · have hR' : ObOk (resE S rs y nx loc) w' q (fo (resO rs y nx) q) := hR
      rw [hx] at hR' ⊢
      obtain ⟨g1, g2⟩ := hR'
      refine ⟨g1, ?_⟩
      rw [e2]
      have g2' : match loc q with
        | none => xs = []
        | some (b, off) => ∃ vs T fzz, w'.heap[b]? = some (.cells vs T fzz) ∧ (false = false → fzz = (0, 0)) ∧ off + xs.length * e.n ≤ vs.size ∧
            ∀ i (h : i < xs.length), Rd (resE S rs y nx loc).owned w' e ((vs.toList.drop (off + i * e.n)).take e.n) xs[i] := g2
      cases hl : loc q with
      | none => rw [hl] at g2'; exact g2'
      | some p =>
        obtain ⟨b, off⟩ := p
        rw [hl] at g2'
        obtain ⟨vs, T, fzz, k1, k2, k3, k4⟩ := g2'
        refine ⟨vs, T, fzz, k1, k2, k3, fun i hi => ?_⟩
        rcases hS with hS | hS
        · exact rd_flat e _ _ (hflat hS) (k4 i hi)
        · refine Rd.mono (Nat.le_refl _) (fun b' _ hb' => ⟨rfl, fun ho => hb' ?_⟩) e _ _ (k4 i hi)
          rcases hown b' ho with h1 | ⟨q', f', h1, h2, h3, h4, h5⟩
          · exact .inl (by show S b'; rw [hS]; exact h1)
          · exact .inr ⟨q', f', h4, h5⟩
  · rcases hdec q with hr | hr
    · exact absurd (.inr hr) hq
    · rw [(hout q hr).1]
      exact h.mem.unb q fun hb => hq (.inl hb)
  · rcases hdec p with hp1 | hp1 <;> rcases hdec p' with hp2 | hp2
    · rw [(hin p hp1.1 hp1.2).1] at h1
      rw [(hin p' hp2.1 hp2.2).1] at h2
      rw [(hin p hp1.1 hp1.2).2] at h3
      rw [(hin p' hp2.1 hp2.2).2] at h4
      exact hsep p p' b f1 f2 h1 h2 h3 h4
    · rw [(hin p hp1.1 hp1.2).1] at h1
      rw [(hin p hp1.1 hp1.2).2] at h3
      rw [(hout p' hp2).1] at h2
      rw [(hout p' hp2).2] at h4
      have := hfresh p b f1 h1 h3
      have := h.mem.lt h2 h4
      omega
    · rw [(hin p' hp2.1 hp2.2).1] at h2
      rw [(hin p' hp2.1 hp2.2).2] at h4
      rw [(hout p hp1).1] at h1
      rw [(hout p hp1).2] at h3
      have := hfresh p' b f2 h2 h4
      have := h.mem.lt h1 h3
      omega
    · rw [(hout p hp1).1] at h1
      rw [(hout p' hp2).1] at h2
      rw [(hout p hp1).2] at h3
      rw [(hout p' hp2).2] at h4
      exact h.mem.sep p p' b f1 f2 h1 h2 h3 h4
  · rcases hdec q with hr | hr
    · rw [(hin q hr.1 hr.2).1] at h1
      rw [(hin q hr.1 hr.2).2] at h2
      have := hfresh q b f h1 h2
      have := h.mem.size
      exact .inl (by omega)
    · rw [(hout q hr).1] at h1
      rw [(hout q hr).2] at h2
      exact h.mem.new q b f h1 h2

end
end
end Go.Proofs.YtaoplfeohffbiaaGreatDoor.Sx

/-! Every symbolic step holds of the machine. -/
namespace Go.Proofs.YtaoplfeohffbiaaGreatDoor.Sx
set_option linter.unusedSimpArgs false
set_option linter.unusedVariables false
set_option linter.unusedSectionVars false
noncomputable section

section
variable {P : Program} {Cs : List Con} {G : Ctx} {E : Env} {w : World} {hp : List (Nat × Ob)} {nx : Nat} {fr : List SV} {a : Act}
variable {d : Option Tmp} {ty : TypeId} {pos : String} {af : Array Edge} {gd : Option (Nat × Bool)}

theorem Land.frozen' (l : List Nat) {o : Oper} {u : Up} {ws : List (Nat × Ob)} (hu : u.ws = freeze (fo hp) l ++ ws)
    (hL : Land P G (E.frozen l) w (uos hp (freeze (fo hp) l)) nx o a ⟨u.owe, u.val, ws, u.hi, u.gives⟩) : Land P G E w hp nx o a u := by
  have := Land.frozen l hL
  obtain ⟨ow, X, us, m, gv⟩ := u
  simp only at hu
  subst hu
  exact this

theorem enters_run {f : FuncId} (he : ∀ args w, (callFunc f args).run P w = .ok (.enter f args) w) {fo' : Operand} {args : List Operand} {ats : Array TypeId} {vs : Array Value} (hf : a.eval fo' = .func (.func f) #[] vs) (hvs : vs = #[]) :
    (execOp a.eval ⟨d, .call { callee := .value fo', args := args.toArray, argTypes := ats }, ty, pos, af, gd⟩).run P w = .ok (.enter f (args.map a.eval).toArray) w := by
  subst hvs
  simp [execOp, resolve, hf, Deferred.ofValue, invoke, he]

theorem land_call (h : Pre P G E w hp fr a) {con : Con} (hok : con.Ok P) (hsh : con.sh = false) (hnx : ∀ o, nx ≤ o → o < nx + nslL con.rs → ¬ E.born o) {fo' : Operand} {args : List Operand} {ats : Array TypeId} {x : (tyL con.as).den} {ow : Prop}
    (hf : SVok E w (.s (.fn con.f [])) (a.eval fo')) (hk : pkPs fr args) (hx : sArgs (fo hp) con.as (pkVs fr args) = some x) (hpre : con.pre x) :
    Land P G E w hp nx ⟨d, .call { callee := .value fo', args := args.toArray, argTypes := ats }, ty, pos, af, gd⟩ a
      ⟨ow, resV (resL con.rs (con.F x) nx), (bif nestL con.rs then freeze (fo hp) (allIds (pkVs fr args)) else []) ++ resO con.rs (con.F x) nx, nx + nslL con.rs, (tyL con.rs).wf (con.F x)⟩ := by
  obtain ⟨vs, e1, e2, _⟩ := hf
  have hvs : vs = [] := List.eq_nil_of_length_eq_zero e2
  subst hvs
  have hrun := enters_run (d := d) (ty := ty) (pos := pos) (af := af) (gd := gd) (w := w) (args := args) (ats := ats) hok.enters e1 rfl
  cases hn : nestL con.rs
  · simp only [cond_false, List.nil_append]
    obtain ⟨hl, hv⟩ := pkVs_ok h args hk
    have har := sArgs_ok h (S := fun _ => False) (fun _ hb => hb.elim) con.as _ _ x hx (fun _ _ _ _ _ _ hf => hf) hl hv
    have hcl := hok.calls _ w _ x (fun _ hb => hb.elim) ⟨h.mem.gw.1, fun _ _ hb => hb.elim⟩ har (har.wf) hpre nx
    unfold Con.Post at hcl
    rw [hsh] at hcl
    exact land_call0 h hnx (S := fun _ => False) (.inl hn) hrun hcl
  · simp only [cond_true]
    refine Land.frozen' (allIds (pkVs fr args)) rfl ?_
    have hF := h.frozen (allIds (pkVs fr args))
    obtain ⟨hl, hv⟩ := pkVs_ok h args hk
    have hsub : ∀ b, (E.frozen (allIds (pkVs fr args))).owned b → E.owned b := by
      intro b hb
      by_cases hb' : b < w.heap.size
      · exact ((E.frozen_soft _).evo w).own b hb' hb
      · rcases hb with hb | ⟨o, f, h1, h2⟩
        · exact .inl hb
        · have hm := (E.frozen_soft (allIds (pkVs fr args))).mem h.mem
          exact absurd (hm.lt (mut_ne h1) h2) hb'
    have har := sArgs_ok h (S := (E.frozen (allIds (pkVs fr args))).owned) hsub con.as _ _ x hx (fun o ho ha b f hlo => Env.frozen_not h.mem ho ha hlo) hl hv
    have hcl := hok.calls _ w _ x (fun b hb => ?_) hF.mem.gw har har.wf hpre nx
    · unfold Con.Post at hcl
      rw [hsh] at hcl
      exact land_call0 hF hnx (S := (E.frozen (allIds (pkVs fr args))).owned) (.inr rfl) hrun hcl
    rcases hb with hb | ⟨o, f, h1, h2⟩
    · exact Nat.lt_of_lt_of_le (h.mem.bad b hb).1 h.mem.size
    · exact hF.mem.lt (mut_ne h1) h2

theorem land_shr (h : Pre P G E w hp fr a) {con : Con} (hok : con.Ok P) (hsh : con.sh = true) {fo' : Operand} {args : List Operand} {ats : Array TypeId} {x : (tyL con.as).den} {ow : Prop}
    (hf : SVok E w (.s (.fn con.f [])) (a.eval fo')) (hk : pkPs fr args) (hx : sArgs (fo hp) con.as (pkVs fr args) = some x) (hpre : con.pre x) :
    Land P G E w hp nx ⟨d, .call { callee := .value fo', args := args.toArray, argTypes := ats }, ty, pos, af, gd⟩ a
      ⟨ow, resV (roL con.rs (con.F x)), freeze (fo hp) (allIds (pkVs fr args)), nx, (tyL con.rs).wf (con.F x)⟩ := by
  obtain ⟨vs, e1, e2, _⟩ := hf
  have hvs : vs = [] := List.eq_nil_of_length_eq_zero e2
  subst hvs
  have hrun := enters_run (d := d) (ty := ty) (pos := pos) (af := af) (gd := gd) (w := w) (args := args) (ats := ats) hok.enters e1 rfl
  refine Land.frozen' (ws := []) (allIds (pkVs fr args)) (by simp) ?_
  have hF := h.frozen (allIds (pkVs fr args))
  obtain ⟨hl, hv⟩ := pkVs_ok h args hk
  have hsub : ∀ b, (E.frozen (allIds (pkVs fr args))).owned b → E.owned b := by
    intro b hb
    by_cases hb' : b < w.heap.size
    · exact ((E.frozen_soft _).evo w).own b hb' hb
    · rcases hb with hb | ⟨o, f, h1, h2⟩
      · exact .inl hb
      · have hm := (E.frozen_soft (allIds (pkVs fr args))).mem h.mem
        exact absurd (hm.lt (mut_ne h1) h2) hb'
  have har := sArgs_ok h (S := (E.frozen (allIds (pkVs fr args))).owned) hsub con.as _ _ x hx (fun o ho ha b f hlo => Env.frozen_not h.mem ho ha hlo) hl hv
  have hlt : ∀ b, (E.frozen (allIds (pkVs fr args))).owned b → b < w.heap.size := by
    intro b hb
    rcases hb with hb | ⟨o, f, h1, h2⟩
    · exact Nat.lt_of_lt_of_le (h.mem.bad b hb).1 h.mem.size
    · exact hF.mem.lt (mut_ne h1) h2
  have hcl := hok.calls _ w _ x hlt hF.mem.gw har har.wf hpre nx
  unfold Con.Post at hcl
  rw [hsh] at hcl
  generalize E.frozen (allIds (pkVs fr args)) = F at hF hcl ⊢
  intro K B hK
  unfold Oper.wp
  rw [hrun, Oper.upon_enter]
  refine hcl.mono fun e w' hpost => ?_
  obtain ⟨v, rfl, hbel, hwf, hsv⟩ := hpost
  show K (a.put d v) w'
  have hev : Evo F F w w' := by
    refine ⟨fun q hq => hq, fun q hq => ?_, fun b hb ho => ho, fun b hb _ => hbel.block b hb, fun b cs T fz hc => ⟨cs, fz, (hbel.block b (lt_of_row hc)).trans hc, rfl⟩, hbel.size, rfl, fun b y hy => by rw [hbel.block b (lt_of_obj hy), hy]; exact OthK.same⟩
    cases hx : F.ob q with
    | dead => exact .inl rfl
    | box Tb cs => exact .inr ⟨rfl, rfl⟩
    | arr fz z e xs => exact .inr ⟨⟨rfl, rfl, rfl⟩, rfl⟩
    | lp s fr ps a b pd => exact .inr ⟨trivial, rfl⟩
    | it s2 p2 => exact .inr ⟨trivial, rfl⟩
    | mp es2 => exact .inr ⟨trivial, rfl⟩
  refine hK v w' F ?_ hev (fun q => hF.ob q) (fun q hq => .inl hq) (hsv F fun _ h => h) hwf
  exact hF.mem.step hev (fun _ => False) (fun q hb _ => ⟨hb, rfl, rfl, fun b f hd hl => hbel.block b (hF.mem.lt hd hl)⟩) (fun _ hq => hq.elim) (fun q hq => hF.mem.unb q hq)
    (fun p p' b f1 f2 h1 h2 h3 h4 => hF.mem.sep p p' b f1 f2 h1 h2 h3 h4) (fun q b f h1 h2 => hF.mem.new q b f h1 h2) hbel.os hbel.tape hbel.output (fun b hb _ => hbel.block b (Nat.lt_of_lt_of_le hb hF.mem.size))

theorem land_field (h : Pre P G E w hp fr a) {t : TypeId} {x : Operand} {f : Nat} {l : List S1} {b : Bool} {off n : Nat} {ow : Prop} (hx : SVok E w (.agg l) (a.eval x)) (hI : fieldI P t f = some (b, off, n)) (hle : off + n ≤ l.length) :
    Land P G E w hp nx ⟨d, .field t x f, ty, pos, af, gd⟩ a ⟨ow, cellOr b l off n, [], nx, True⟩ := by
  obtain ⟨us, e1, hk⟩ := hx
  unfold fieldI at hI
  split at hI
  · rename_i fs hu
    split at hI
    · rename_i fd hfd
      split at hI
      · rename_i b' n' hag
        simp only [Option.some.injEq, Prod.mk.injEq] at hI
        obtain ⟨rfl, rfl, rfl⟩ := hI
        obtain ⟨h1, h2, h3⟩ := aggI_run hag w
        have hul : us.length = l.length := hk.1
        cases b'
        · have := h3 rfl
          subst this
          have hlt : fd.offset < us.length := by omega
          refine land_val h (v := us[fd.offset]) ?_ (cellOr_ok hk hle h3 (.inr ⟨rfl, ?_⟩)) rfl trivial
          · simp [execOp, e1, Instr.field, run_underlying hu, hfd, part, h1, asAgg, List.getElem?_eq_getElem hlt]
          · apply List.ext_getElem?
            intro j
            cases j with
            | zero => rw [List.getElem?_take_of_lt (by omega), List.getElem?_drop, Nat.add_zero, List.getElem?_eq_getElem hlt]; rfl
            | succ j => rw [List.getElem?_eq_none (by simp; omega)]; simp
        · refine land_val h (v := .agg ((us.drop fd.offset).take n').toArray) ?_ (cellOr_ok hk hle h3 (.inl ⟨rfl, rfl⟩)) rfl trivial
          simp [execOp, e1, Instr.field, run_underlying hu, hfd, part, h1, h2, asAgg, List.extract_eq_take_drop]
      · cases hI
    · cases hI
  · cases hI

theorem land_makeFunc (h : Pre P G E w hp fr a) {f : FuncId} {caps : Array Operand} {l : List (Nat × Nat)} {first : Array Operand} {ow : Prop} (hfirst : first.toList = []) (hs : capsOf fr caps.toList = some l)
    (hb : ∀ o off, (o, off) ∈ l → ∃ Tb cs, E.ob o = .box Tb cs) : Land P G E w hp nx ⟨d, .makeFunc (.func f) first caps, ty, pos, af, gd⟩ a ⟨ow, .s (.fn f l), [], nx, True⟩ := by
  obtain ⟨h1, h2⟩ := caps_ok h caps.toList l hs hb
  have hf0 : first = #[] := by simpa using hfirst
  subst hf0
  refine land_val h (v := .func (.func f) #[] (caps.toList.map a.eval).toArray) ?_ ⟨_, rfl, h1, h2⟩ rfl trivial
  have hm : (caps.toList.map a.eval).toArray = caps.map a.eval := by rw [← Array.toList_map]
  simp [execOp, Instr.makeFunc, hm]

theorem boxes_ok (hob : ∀ i, E.ob i = fo hp i) : ∀ (l : List (Nat × Nat)), boxes (fo hp) l = true → ∀ o off, (o, off) ∈ l → ∃ Tb cs, E.ob o = .box Tb cs
  | [], _, _, _, h => by cases h
  | (p, q) :: l, hb, o, off, h => by
    simp only [boxes] at hb
    split at hb
    · rename_i Tb cs hcs
      rcases List.mem_cons.1 h with h | h
      · cases h; exact ⟨Tb, cs, (hob _).trans hcs⟩
      · exact boxes_ok hob l hb o off h
    · cases hb

theorem fill_s (h : Pre P G E w hp fr a) (pl : List (Nat × Nat)) : ∀ (ps : List (Nat × Operand)) (cs : List S1) (l : List S1) (cells : Array Value), sFill pl fr ps cs = some l → S1sok E w cs cells.toList →
    ∃ out, Instr.fill (pl.toArray[·]?) cells (ps.map fun p => (p.1, a.eval p.2)) = some out ∧ S1sok E w l out.toList
  | [], cs, l, cells, hs, hc => by simp only [sFill, Option.some.injEq] at hs; subst hs; exact ⟨cells, rfl, hc⟩
  | (f, x) :: ps, cs, l, cells, hs, hc => by
    simp only [sFill] at hs
    split at hs
    · rename_i off n hpl
      cases hb : ((ev fr x).cells.length == n && Nat.ble (off + n) cs.length && stl (ev fr x).cells && isSA (ev fr x)) <;> rw [hb] at hs <;> simp only [cond_true, cond_false] at hs
      · cases hs
      · simp only [Bool.and_eq_true, beq_iff_eq] at hb
        obtain ⟨⟨⟨hb1, hb2⟩, hb3⟩, hb4⟩ := hb
        have hb2 := Nat.le_of_ble_eq_true hb2
        have hcl : cells.toList.length = cs.length := hc.1
        have hcells : ∃ us, (a.eval x).cells = us.toArray ∧ S1sok E w (ev fr x).cells us := by
          have hx := h.ev x
          cases hX : ev fr x with
          | s y =>
            rw [hX] at hx hb3
            exact cells_ok (b := false) hx rfl (fun _ => hb3)
          | agg m => rw [hX] at hx; exact cells_ok (b := true) hx rfl (fun h => by cases h)
          | unk => rw [hX] at hb4; cases hb4
          | tup m => rw [hX] at hb4; cases hb4
          | gd g y => rw [hX] at hb4; cases hb4
        obtain ⟨us, hu, hk⟩ := hcells
        have hul : us.length = n := hk.1.trans hb1
        have hcs : (a.eval x).cells.size = n := by rw [hu]; simpa using hul
        let c1 := (a.eval x).cells.zipIdx.foldl (fun cs p => cs.setIfInBounds (off + p.2) p.1) cells
        have hsz : cells.size = cells.toList.length := by simp
        have hc1 : c1.toList = splice cells.toList off us := by
          have := fold_set off us 0 cells (by omega)
          rw [Nat.add_zero] at this
          rw [← this]
          show ((a.eval x).cells.zipIdx.foldl _ cells).toList = _
          rw [← Array.foldl_toList, Array.toList_zipIdx, hu]
        have hok1 : S1sok E w (lay cs off (ev fr x).cells) c1.toList := by rw [hc1]; exact lay_ok hc hk (by omega)
        obtain ⟨out, h1, h2⟩ := fill_s h pl ps _ l c1 hs hok1
        refine ⟨out, ?_, h2⟩
        simp only [List.map_cons, Instr.fill]
        have hpl' : (pl.toArray)[f]? = some (off, n) := by simpa using hpl
        rw [hpl']
        have hn : ¬ ((a.eval x).cells.size ≠ n ∨ off + (a.eval x).cells.size > cells.size) := by omega
        simp only
        rw [if_neg (by simpa using hn)]
        exact h1
    · cases hs

theorem land_build (h : Pre P G E w hp fr a) {t : TypeId} {ps : Array (Nat × Operand)} {pl : List (Nat × Nat)} {cs l : List S1} {ow : Prop} (hp' : placesI P t = some pl) (hz : zeroI P t = some cs) (hs : sFill pl fr ps.toList cs = some l) :
    Land P G E w hp nx ⟨d, .build t ps, ty, pos, af, gd⟩ a ⟨ow, .agg l, [], nx, True⟩ := by
  unfold zeroI at hz
  split at hz
  · rename_i i hi
    split at hz
    · rename_i v hv
      split at hz
      · cases hz
        unfold placesI at hp'
        split at hp'
        · rename_i fs hu
          have hc0 : S1sok E w (v.cells.toList.map of1) v.cells.toList := by
            refine ⟨by simp, fun j x u h1 h2 => ?_⟩
            rw [List.getElem?_map, h2] at h1
            cases h1
            exact of1_ok _ _ u
          obtain ⟨out, h1, h2⟩ := fill_s h pl ps.toList _ l v.cells hs hc0
          refine land_val h (v := .agg out) ?_ ⟨out.toList, by simp, h2⟩ rfl trivial
          have hb : P.built t (ps.map fun p => (p.1, a.eval p.2)).toList = some out := by
            unfold Program.built
            simp only [hi, hu, hv, hp']
            rw [Array.toList_map]
            exact h1
          have := run_build (P := P) w t (ps.map fun p => (p.1, a.eval p.2)) out hb
          simp [execOp, this]
        · cases hp'
      · cases hz
    · cases hz
  · cases hz

end
end
end Go.Proofs.YtaoplfeohffbiaaGreatDoor.Sx

/-! Every symbolic step holds of the machine: all of them in one theorem. -/
namespace Go.Proofs.YtaoplfeohffbiaaGreatDoor.Sx
set_option linter.unusedSimpArgs false
set_option linter.unusedVariables false
set_option linter.unusedSectionVars false
noncomputable section

section
variable {P : Program} {Cs : List Con} {G : Ctx} {E : Env} {w : World} {hp : List (Nat × Ob)} {nx : Nat} {fr : List SV} {a : Act}
variable {d : Option Tmp} {ty : TypeId} {pos : String} {af : Array Edge} {gd : Option (Nat × Bool)}

theorem toList_one {α : Type} {x : Array α} {y : α} (h : x.toList = [y]) : x = #[y] := by
  have := congrArg List.toArray h
  simpa using this

theorem toList_two {α : Type} {x : Array α} {y z : α} (h : x.toList = [y, z]) : x = #[y, z] := by
  have := congrArg List.toArray h
  simpa using this

theorem sCall_ok (h : Pre P G E w hp fr a) (hCs : ∀ c ∈ Cs, c.Ok P) {c : Call} {u : Up} (hs : sCall P Cs (fo hp) nx fr c = some u) (hnx : ∀ o, nx ≤ o → o < u.hi → ¬ E.born o) (howe : u.owe) :
    Land P G E w hp nx ⟨d, .call c, ty, pos, af, gd⟩ a u := by
  obtain ⟨callee, args, ats⟩ := c
  unfold sCall at hs
  simp only at hs
  split at hs
  · -- len
    rename_i x t ts ha ht
    split at hs
    · rename_i n hn
      cases hs
      rw [toList_one ha, show ats = (t :: ts).toArray by rw [← ht]]
      exact land_len h (h.pk howe) hn
    · cases hs
  · -- append
    rename_i s x t t' ha ht
    cases htt : t == t' <;> rw [htt] at hs <;> simp only [cond_true, cond_false] at hs
    · cases hs
    · split at hs
      · rename_i u' hu'
        cases hs
        have htt' : t = t' := by simpa using htt
        subst htt'
        rw [toList_two ha, toList_two ht]
        obtain ⟨h1, h2, h3⟩ := howe
        unfold sAppend at hu'
        split at hu'
        · rename_i e z hI
          split at hu'
          · rename_i xs os ys hS hX
            cases hu'
            exact land_append h (hnx nx (Nat.le_refl _) (by simp)) hI (h.pk h1) (h.pk h2) hS hX h3
          · cases hu'
        · cases hu'
      · cases hs
  · rename_i x y ha
    split at hs
    · rename_i v hv
      cases hs
      rw [toList_two ha]
      exact land_min h true (h.pk howe.1) (h.pk howe.2) hv
    · cases hs
  · rename_i x y ha
    split at hs
    · rename_i v hv
      cases hs
      rw [toList_two ha]
      exact land_min h false (h.pk howe.1) (h.pk howe.2) hv
    · cases hs
  · rename_i f
    split at hs
    · rename_i g hg
      split at hs
      · rename_i con hcon
        split at hs
        · rename_i x hx
          obtain ⟨hm, hf⟩ := findC_mem hcon
          subst hf
          split at hs
          · rename_i hsh
            cases hs
            obtain ⟨h1, h2, h3⟩ := howe
            have hfn := h.pk h1
            rw [hg] at hfn
            have := land_shr (nx := nx) (d := d) (ty := ty) (pos := pos) (af := af) (gd := gd) (ats := ats) (ow := pkP (ev fr f) ∧ pkPs fr args.toList ∧ con.pre x) h (hCs con hm) hsh hfn h2 hx h3
            simpa using this
          rename_i hsh
          cases hs
          obtain ⟨h1, h2, h3⟩ := howe
          have hfn := h.pk h1
          rw [hg] at hfn
          have := land_call (d := d) (ty := ty) (pos := pos) (af := af) (gd := gd) (ats := ats) (ow := pkP (ev fr f) ∧ pkPs fr args.toList ∧ con.pre x) h (hCs con hm) hsh hnx hfn h2 hx h3
          simpa using this
        · cases hs
      · cases hs
    · cases hs
  · cases hs

/-- What a slice may be. -/
theorem ptrB_ok {P : Program} {G : Ctx} {E : Env} {w : World} {hp : List (Nat × Ob)} {fr : List SV} {a : Act} (h : Pre P G E w hp fr a) {x : S1} {v : Value} {b : Bool} (hx : SVok E w (.s x) v) (hn : ptrB (fo hp) x = some b) :
    ∃ q, v = .pointer q ∧ b = q.isNone := by
  unfold ptrB at hn
  split at hn
  · rename_i o off
    split at hn
    · rename_i Tb cs ho
      cases hn
      obtain ⟨_, hx⟩ := hx
      rw [(h.ob o).trans ho] at hx
      obtain ⟨b, _, e⟩ := hx
      exact ⟨_, e, rfl⟩
    · cases hn
  · rename_i o i off
    split at hn
    · rename_i fz z e xs ho
      cases hn
      obtain ⟨_, hx⟩ := hx
      rw [(h.ob o).trans ho] at hx
      obtain ⟨_, b, f, _, e⟩ := hx
      exact ⟨_, e, rfl⟩
    · cases hn
  · cases hn
    obtain ⟨b, f, us, e, _⟩ := hx
    exact ⟨_, e, rfl⟩
  · cases hn
    exact ⟨_, hx, rfl⟩
  · cases hn

theorem ifB_ok {P : Program} {G : Ctx} {E : Env} {w : World} {hp : List (Nat × Ob)} {fr : List SV} {a : Act} (h : Pre P G E w hp fr a) {x : S1} {v : Value} {b : Bool} (hx : SVok E w (.s x) v) (hn : ifB (fo hp) x = some b) :
    (v = .nilIface ∧ b = true) ∨ ∃ t u, v = .iface t u ∧ b = false := by
  unfold ifB at hn
  split at hn
  · rename_i t o off
    split at hn
    · rename_i Tb cs ho
      cases hn
      obtain ⟨_, hx⟩ := hx
      rw [(h.ob o).trans ho] at hx
      obtain ⟨b, _, e⟩ := hx
      exact .inr ⟨_, _, e, rfl⟩
    · cases hn
  · cases hn
    obtain ⟨e, _⟩ := hx
    exact .inr ⟨_, _, e, rfl⟩
  · cases (show v = _ from hx)
    cases v <;> simp only [isNI, reduceCtorEq, Option.some.injEq] at hn
    · exact .inr ⟨_, _, rfl, hn.symm⟩
    · exact .inl ⟨rfl, hn.symm⟩
  · obtain ⟨e, _⟩ := hx
    cases e
    cases v <;> simp only [isNI, reduceCtorEq, Option.some.injEq] at hn
    · exact .inr ⟨_, _, rfl, hn.symm⟩
    · exact .inl ⟨rfl, hn.symm⟩
  · cases hn

theorem run_eql_iface_nil {P : Program} (w : World) {t tx : TypeId} {u : Value} (h : isIf P t = true) : (binOp .eql t (.iface tx u) .nilIface).run P w = .ok (.bool false) w := by
  unfold isIf at h
  split at h
  · rename_i e hu
    have h : ∀ d : Nat, (Op.equalIn (d + 1) t (.iface tx u) .nilIface).run P w = .ok false w := fun d => by
      simp [Op.equalIn, run_underlying hu]
    simp only [binOp]
    simp [Op.equal, Op.maxDepth, h 9999]
  · cases h

theorem run_neq_iface_nil {P : Program} (w : World) {t tx : TypeId} {u : Value} (h : isIf P t = true) : (binOp .neq t (.iface tx u) .nilIface).run P w = .ok (.bool true) w := by
  unfold isIf at h
  split at h
  · rename_i e hu
    have h : ∀ d : Nat, (Op.equalIn (d + 1) t (.iface tx u) .nilIface).run P w = .ok false w := fun d => by
      simp [Op.equalIn, run_underlying hu]
    simp only [binOp]
    simp [Op.equal, Op.maxDepth, h 9999]
  · cases h

theorem run_eql_nil_nil {P : Program} (w : World) {t : TypeId} (h : isIf P t = true) : (binOp .eql t .nilIface .nilIface).run P w = .ok (.bool true) w := by
  unfold isIf at h
  split at h
  · rename_i e hu
    have h : ∀ d : Nat, (Op.equalIn (d + 1) t .nilIface .nilIface).run P w = .ok true w := fun d => by
      simp [Op.equalIn, run_underlying hu]
    simp only [binOp]
    simp [Op.equal, Op.maxDepth, h 9999]
  · cases h

theorem run_neq_nil_nil {P : Program} (w : World) {t : TypeId} (h : isIf P t = true) : (binOp .neq t .nilIface .nilIface).run P w = .ok (.bool false) w := by
  unfold isIf at h
  split at h
  · rename_i e hu
    have h : ∀ d : Nat, (Op.equalIn (d + 1) t .nilIface .nilIface).run P w = .ok true w := fun d => by
      simp [Op.equalIn, run_underlying hu]
    simp only [binOp]
    simp [Op.equal, Op.maxDepth, h 9999]
  · cases h

theorem run_eql_ptr_none {P : Program} (w : World) {t : TypeId} {q : Option Addr} (h : isPtr P t = true) : (binOp .eql t (.pointer q) (.pointer none)).run P w = .ok (.bool q.isNone) w := by
  unfold isPtr at h
  split at h
  · rename_i e hu
    have h : ∀ d : Nat, (Op.equalIn (d + 1) t (.pointer q) (.pointer none)).run P w = .ok q.isNone w := fun d => by
      cases q <;> simp [Op.equalIn, run_underlying hu]
    simp only [binOp]
    simp [Op.equal, Op.maxDepth, h 9999]
  · cases h

theorem run_neq_ptr_none {P : Program} (w : World) {t : TypeId} {q : Option Addr} (h : isPtr P t = true) : (binOp .neq t (.pointer q) (.pointer none)).run P w = .ok (.bool (!q.isNone)) w := by
  unfold isPtr at h
  split at h
  · rename_i e hu
    have h : ∀ d : Nat, (Op.equalIn (d + 1) t (.pointer q) (.pointer none)).run P w = .ok q.isNone w := fun d => by
      cases q <;> simp [Op.equalIn, run_underlying hu]
    simp only [binOp]
    simp [Op.equal, Op.maxDepth, h 9999]
  · cases h

theorem run_eql_fn {P : Program} (w : World) {t : TypeId} {g : Fn} {xs ys : Array Value} (h : isFn P t = true) : (binOp .eql t (.func g xs ys) .nilFunc).run P w = .ok (.bool false) w := by
  unfold isFn at h
  split at h
  · rename_i ps rs v hu
    have h : ∀ d : Nat, (Op.equalIn (d + 1) t (.func g xs ys) .nilFunc).run P w = .ok false w := fun d => by
      simp [Op.equalIn, run_underlying hu]
    simp only [binOp]
    simp [Op.equal, Op.maxDepth, h 9999]
  · cases h

theorem run_neq_fn {P : Program} (w : World) {t : TypeId} {g : Fn} {xs ys : Array Value} (h : isFn P t = true) : (binOp .neq t (.func g xs ys) .nilFunc).run P w = .ok (.bool true) w := by
  unfold isFn at h
  split at h
  · rename_i ps rs v hu
    have h : ∀ d : Nat, (Op.equalIn (d + 1) t (.func g xs ys) .nilFunc).run P w = .ok false w := fun d => by
      simp [Op.equalIn, run_underlying hu]
    simp only [binOp]
    simp [Op.equal, Op.maxDepth, h 9999]
  · cases h

theorem nilB_ok {P : Program} {G : Ctx} {E : Env} {w : World} {hp : List (Nat × Ob)} {fr : List SV} {a : Act} (h : Pre P G E w hp fr a) {x : S1} {v : Value} {p : Bool × Bool} (hx : SVok E w (.s x) v) (hn : nilB (fo hp) x = some p) :
    ∃ ad n c, v = .slice ad n c ∧ (ad.isNone = true → p.1 = true) ∧ (ad.isNone = false → p.2 = true) := by
  unfold nilB at hn
  split at hn
  · cases hn
    exact ⟨none, 0, 0, hx, fun _ => rfl, fun h => (by cases h)⟩
  · cases hn
    obtain ⟨_, hx⟩ := hx
    rcases hx with ⟨ad, c, e1, rfl⟩ | ⟨b, off, c, e1, _⟩
    · simp only [List.cons.injEq, and_true] at e1
      exact ⟨ad, 0, c, e1, fun _ => rfl, fun _ => rfl⟩
    · simp only [List.cons.injEq, and_true] at e1
      exact ⟨_, _, c, e1, fun h => (by cases h), fun _ => rfl⟩
  · rename_i o lo hi
    split at hn
    · rename_i fz z e xs ho
      cases hn
      have hob : E.ob o = .arr fz z e xs := (h.ob o).trans ho
      obtain ⟨_, hx⟩ := hx
      rw [hob] at hx
      obtain ⟨h1, h2, h3⟩ := hx
      cases hl : E.loc o with
      | none =>
        rw [hl] at h3
        exact ⟨none, 0, 0, h3.1, fun _ => by simp [h3.2], fun h => (by cases h)⟩
      | some q =>
        obtain ⟨b, off⟩ := q
        rw [hl] at h3
        rcases h3 with ⟨c, cs, T, fzz, e1, _⟩ | ⟨k1, q, e1⟩
        · exact ⟨_, _, c, e1, fun h => (by cases h), fun _ => rfl⟩
        · exact ⟨q, 0, 0, e1, fun _ => by show Nat.beq (hi - lo) 0 = true; rw [show hi - lo = 0 by omega]; rfl, fun _ => rfl⟩
    · cases hn
  · cases hn

theorem step_ok (h : Pre P G E w hp fr a) (hCs : ∀ c ∈ Cs, c.Ok P) {op : Op} {u : Up} (hs : stepU P Cs (fo hp) nx fr op = some u) (hnx : ∀ o, nx ≤ o → o < u.hi → ¬ E.born o) (howe : u.owe) :
    Land P G E w hp nx ⟨d, op, ty, pos, af, gd⟩ a u := by
  cases op <;> simp only [stepU, uPick, uAlloc, uBox, uLoad, uStore, uBin, uUn, uConv, uExt, uField, uFAddr, uIAddr, uIndex, uSlice, uBSl, uBuild, uNil, uMk, uIfc, uRng] at hs
  case move x => cases hs; exact land_move h x
  case assign x => cases hs; exact land_assign h x
  case pick c x y =>
    split at hs
    · rename_i cb hc
      split at hs
      · rename_i v hv
        cases hs
        exact land_pick h c x y hc hv howe
      · cases hs
    · cases hs
  case alloc t =>
    split at hs
    · rename_i cs hz
      cases hb : stl cs <;> rw [hb] at hs <;> simp only [cond_true, cond_false] at hs
      · cases hs
      · cases hs
        exact land_alloc h (hnx nx (Nat.le_refl _) (by simp)) hz
    · cases hs
  case box t x =>
    cases hb : (stl (pkV (ev fr x)).cells && isSA (pkV (ev fr x))) <;> rw [hb] at hs <;> simp only [cond_true, cond_false] at hs
    · cases hs
    · cases hs
      rw [Bool.and_eq_true] at hb
      obtain ⟨b, hsh⟩ : ∃ b, shape b (pkV (ev fr x)) = true := by
        cases hx : pkV (ev fr x) <;> rw [hx] at hb <;> simp [isSA] at hb
        · exact ⟨false, rfl⟩
        · exact ⟨true, rfl⟩
      exact land_box h (hnx nx (Nat.le_refl _) (by simp)) (h.pk howe) hsh hb.1
  case load t x =>
    split at hs
    · rename_i b n hI
      split at hs
      · rename_i p v hv
        cases hs
        exact land_load h hI (h.pk howe.1) hv howe.2
      · cases hs
    · cases hs
  case store t x y =>
    split at hs
    · rename_i b n hI
      cases hb : shape b (pkV (ev fr y)) <;> rw [hb] at hs <;> simp only [cond_true, cond_false] at hs
      · cases hs
      · split at hs
        · rename_i p ws hv
          cases hs
          obtain ⟨h1, h2, h3⟩ := howe
          unfold sStore at hv
          split at hv
          · rename_i o off hpx
            split at hv
            · rename_i cs hcs
              cases ht : stl (pkV (ev fr y)).cells <;> rw [ht] at hv <;> simp only [cond_true, cond_false] at hv
              · cases hv
              · cases hv
                have hx := h.pk h1
                rw [hpx] at hx
                exact land_store_box h hI hx (h.pk h2) hcs hb ht h3.1 h3.2
            · cases hv
          · rename_i o i off hpx
            split at hv
            · rename_i z e xs hcs
              split at hv
              · rename_i r hr hst
                cases hv
                have hx := h.pk h1
                rw [hpx] at hx
                exact land_store_el h hI hx (h.pk h2) hcs hb (fun _ => hst) hr h3.1 h3.2.1 h3.2.2
              · cases hv
            · cases hv
          · cases hv
        · cases hs
    · cases hs
  case binOp op t x y t' =>
    split at hs
    · rename_i p v hv
      cases hs
      obtain ⟨h1, h2, h3⟩ := howe
      unfold sBin at hv
      split at hv
      · rename_i k m k' n hx hy
        have hx' := h.pk h1
        have hy' := h.pk h2
        rw [hx] at hx'
        rw [hy] at hy'
        split at hv
        · rename_i r hsh
          cases hv
          exact land_sh h op t t' x y hx' hy' hsh h3
        cases hk : keq k k' <;> rw [hk] at hv <;> simp only [cond_true, cond_false] at hv
        · cases hv
        · have := keq_eq hk
          subst this
          exact land_binI h op t t' x y hx' hy' hv h3
      · rename_i m n hx hy
        have hx' := h.pk h1
        have hy' := h.pk h2
        rw [hx] at hx'
        rw [hy] at hy'
        exact land_binS h op t t' x y hx' hy' hv h3
      · rename_i m n hx hy
        cases hb : isBool P t <;> rw [hb] at hv <;> simp only [cond_true, cond_false] at hv
        · cases hv
        · have hx' := h.pk h1
          have hy' := h.pk h2
          rw [hx] at hx'
          rw [hy] at hy'
          cases op <;> simp only [Option.some.injEq, Prod.mk.injEq, reduceCtorEq] at hv
          · obtain ⟨_, rfl⟩ := hv; exact land_binB h _ t t' x y hx' hy' hb (.inl ⟨rfl, rfl⟩)
          · obtain ⟨_, rfl⟩ := hv; exact land_binB h _ t t' x y hx' hy' hb (.inr ⟨rfl, rfl⟩)
      · rename_i l m hx hy
        have hx' := h.pk h1
        have hy' := h.pk h2
        rw [hx] at hx'
        rw [hy] at hy'
        split at hv
        · rename_i ks hI
          split at hv
          · rename_i b hb
            split at hv
            · cases hv; exact land_binA h _ t t' x y hx' hy' hI hb (.inl ⟨rfl, rfl⟩)
            · cases hv; exact land_binA h _ t t' x y hx' hy' hI hb (.inr ⟨rfl, rfl⟩)
            · cases hv
          · cases hv
        · cases hv
      · cases hv
    · split at hs
      · rename_i v hv
        cases hs
        unfold sNil at hv
        split at hv
        · rename_i z hx hy
          split at hv
          · rename_i b hI hn
            have hx' := h.pk howe.1
            have hy' := h.pk howe.2
            rw [hx] at hx'
            rw [hy] at hy'
            have e2 : a.eval y = .pointer none := hy'
            obtain ⟨q, e1, rfl⟩ := ptrB_ok h hx' hn
            cases op <;> simp only [Option.some.injEq, reduceCtorEq] at hv
            · subst hv
              exact land_val h (v := .bool q.isNone) (by simp [execOp, e1, e2, eqGuard, run_eql_ptr_none w hI]) rfl rfl trivial
            · subst hv
              exact land_val h (v := .bool (!q.isNone)) (by simp [execOp, e1, e2, eqGuard, run_neq_ptr_none w hI]) rfl rfl trivial
          · cases hv
        · rename_i f caps hx hy
          split at hv
          · rename_i hI
            have hx' := h.pk howe.1
            have hy' := h.pk howe.2
            rw [hx] at hx'
            rw [hy] at hy'
            have e2 : a.eval y = .nilFunc := hy'
            obtain ⟨vs, e1, _⟩ := hx'
            cases op <;> simp only [Option.some.injEq, reduceCtorEq] at hv
            · subst hv
              exact land_val h (v := .bool false) (by simp [execOp, e1, e2, eqGuard, run_eql_fn w hI]) rfl rfl trivial
            · subst hv
              exact land_val h (v := .bool true) (by simp [execOp, e1, e2, eqGuard, run_neq_fn w hI]) rfl rfl trivial
          · cases hv
        · rename_i z hx hy
          split at hv
          · rename_i el p hI hn
            have hx' := h.pk howe.1
            have hy' := h.pk howe.2
            rw [hx] at hx'
            rw [hy] at hy'
            have e2 : a.eval y = .slice none 0 0 := hy'
            obtain ⟨el, inf, zv, hu, _⟩ := elemI_run hI
            obtain ⟨ad, n, c, e1, k1, k2⟩ := nilB_ok h hx' hn
            cases op <;> simp only [Option.some.injEq, reduceCtorEq] at hv
            · subst hv
              exact land_val h (v := .bool ad.isNone) (by simp [execOp, e1, e2, eqGuard, Lib.run_eql_slice_nil w t el ad n c 0 0 hu]) ⟨_, rfl, k1, fun e => k2 (by cases ad <;> simp_all)⟩ rfl trivial
            · subst hv
              exact land_val h (v := .bool (!ad.isNone)) (by simp [execOp, e1, e2, eqGuard, run_neq_slice_nil_any w t el ad n c 0 0 hu]) ⟨_, rfl, fun e => k2 (by simpa using e), fun e => k1 (by simpa using e)⟩ rfl trivial
          · cases hv
        · cases hv
      · split at hs
        · rename_i v hv
          cases hs
          unfold sIf at hv
          split at hv
          · split at hv
            · rename_i b hI hn
              have hx' := h.pk howe
              rw [‹pkV (ev fr x) = SV.s _›] at hx'
              have e2 : a.eval (.const .nilIface) = .nilIface := rfl
              rcases ifB_ok h hx' hn with ⟨e1, rfl⟩ | ⟨it, iu, e1, rfl⟩
              · cases op <;> simp only [Option.some.injEq, reduceCtorEq] at hv
                · subst hv
                  exact land_val h (v := .bool true) (by simp [execOp, e1, e2, eqGuard, run_eql_nil_nil w hI]) rfl rfl trivial
                · subst hv
                  exact land_val h (v := .bool false) (by simp [execOp, e1, e2, eqGuard, run_neq_nil_nil w hI]) rfl rfl trivial
              · cases op <;> simp only [Option.some.injEq, reduceCtorEq] at hv
                · subst hv
                  exact land_val h (v := .bool false) (by simp [execOp, e1, e2, eqGuard, run_eql_iface_nil w hI]) rfl rfl trivial
                · subst hv
                  exact land_val h (v := .bool true) (by simp [execOp, e1, e2, eqGuard, run_neq_iface_nil w hI]) rfl rfl trivial
            · cases hv
          · cases hv
        · cases hs
  case makeInterface t x =>
    split at hs
    · cases hs
    · rename_i hI
      have hrun : ∀ v, (Instr.makeInterface t v).run P w = .ok (.iface t v) w := fun v => by
        unfold mkI at hI
        split at hI
        · cases hI
        · rename_i dsc hne hu
          unfold Instr.makeInterface
          cases dsc <;> first | exact (hne _ rfl).elim | simp [run_underlying hu]
        · cases hI
      split at hs
      · rename_i o off hx
        split at hs
        · rename_i Tb cs ho
          cases hs
          have hx' := h.pk howe
          rw [hx] at hx'
          obtain ⟨hb, hx'⟩ := hx'
          have hob : E.ob o = .box Tb cs := (h.ob o).trans ho
          rw [hob] at hx'
          obtain ⟨b, hl, e1⟩ := hx'
          refine land_val h (v := .iface t (.pointer (some ⟨b, off, none⟩))) (by simp [execOp, e1, hrun]) ⟨hb, ?_⟩ rfl trivial
          rw [hob]
          exact ⟨b, hl, rfl⟩
        · cases hs
      · rename_i k n hx
        cases hs
        have hx' := h.pk howe
        rw [hx] at hx'
        obtain ⟨e1, e2⟩ := hx'
        exact land_val h (v := .iface t (.int k n)) (by simp [execOp, e1, hrun]) ⟨rfl, e2⟩ rfl trivial
      · cases hs
  case range t x =>
    split at hs
    · rename_i s hx
      cases hb : isStr P t <;> rw [hb] at hs <;> simp only [cond_true, cond_false] at hs
      · cases hs
      · cases hs
        have hx' := h.pk howe
        rw [hx] at hx'
        obtain ⟨e1, hl⟩ := hx'
        have hu : P.underlying t = some .string := by
          unfold isStr at hb
          split at hb
          · assumption
          · cases hb
        have hnx1 : ¬ E.born nx := hnx nx (Nat.le_refl _) (Nat.lt_succ_self _)
        intro K B hK
        unfold Oper.wp
        have hr : (execOp a.eval ⟨d, .range t x, ty, pos, af, gd⟩).run P w = .ok (.value (.pointer (some ⟨w.heap.size, 0, none⟩))) (w.alloc (.stringIter ⟨s.toArray⟩ 0)) := by
          simp [execOp, e1, run_range_string w t _ hu, World.iter]
        rw [hr, Oper.upon_value]
        have hev := evo_new h.mem hnx1 (.it s 0) (.stringIter ⟨s.toArray⟩ 0)
        refine hK _ _ (E.set nx (.it s 0) (some (w.heap.size, 0))) (mem_newO h.mem hnx1 _ _ ⟨w.heap.size, set_loc _ _ _ _, heap_alloc_at _ _, hl⟩) hev (fun i => ?_) (fun i hi => ?_) ⟨.inr rfl, ?_⟩ trivial
        · simp only [uos, fo_uo]
          by_cases hi : i = nx
          · subst hi; rw [set_ob, if_pos rfl]
          · rw [set_ob_ne _ _ _ hi, if_neg hi]; exact h.ob i
        · rcases hi with hi | rfl
          · exact .inl hi
          · exact .inr ⟨Nat.le_refl _, by simp⟩
        · rw [set_ob]
          exact ⟨w.heap.size, set_loc _ _ _ _, rfl⟩
    · cases hs
  case unOp op t x =>
    split at hs
    · rename_i v hv
      cases hs
      exact land_un h op t x (h.pk howe) hv
    · cases hs
  case convert src dst x =>
    split at hs
    · rename_i v hv
      cases hs
      exact land_convert h (h.pk howe) hv
    · split at hs
      · rename_i v hv
        cases hs
        exact land_runes h (h.pk howe) hv
      · cases hs
  case extract x i =>
    split at hs
    · rename_i l hl
      split at hs
      · rename_i v hv
        cases hs
        have hx := h.pk howe
        rw [hl] at hx
        exact land_extract h hx hv
      · cases hs
    · cases hs
  case field t x f =>
    split at hs
    · rename_i l b off n hl hI
      cases hs
      have hx := h.pk howe.1
      rw [hl] at hx
      exact land_field h hx hI howe.2
    · cases hs
  case fieldAddr t x f =>
    split at hs
    · rename_i k hI
      split at hs
      · rename_i o off hl
        split at hs
        · rename_i cs hcs
          cases hs
          have hx := h.pk howe
          rw [hl] at hx
          exact land_fieldAddr h hI hx (fun v hv => pb_add ((h.ob o).trans hcs) hv)
        · cases hs
      · rename_i o i off hl
        split at hs
        · rename_i fz z e xs hcs
          cases hs
          have hx := h.pk howe
          rw [hl] at hx
          exact land_fieldAddr h hI hx (fun v hv => pe_add ((h.ob o).trans hcs) hv)
        · cases hs
      · rename_i t' x' off hl
        cases hs
        have hx := h.pk howe
        rw [hl] at hx
        exact land_fieldAddr h hI hx (fun v hv => pr_add hv)
      · cases hs
    · cases hs
  case indexAddr t x i =>
    split at hs
    · rename_i k n hi
      split at hs
      · rename_i p v hv
        cases hs
        have hy := h.pk howe.2.1
        rw [hi] at hy
        exact land_indexAddr h (h.pk howe.1) hy hv howe.2.2
      · cases hs
    · cases hs
  case index t x i =>
    split at hs
    · rename_i k n s hi hx
      cases hb : isStr P t <;> rw [hb] at hs <;> simp only [cond_true, cond_false] at hs
      · cases hs
      · cases hs
        have hx' := h.pk howe.1
        have hy' := h.pk howe.2.1
        rw [hx] at hx'
        rw [hi] at hy'
        exact land_index h hx' hy' hb howe.2.2.1 howe.2.2.2
    · cases hs
  case slice t x lo hi mx =>
    cases mx with
    | some m => simp [stepU, uPick, uAlloc, uBox, uLoad, uStore, uBin, uUn, uConv, uExt, uField, uFAddr, uIAddr, uIndex, uSlice, uBSl, uBuild, uNil, uMk, uIfc, uRng] at hs
    | none =>
      simp only at hs
      split at hs
      · rename_i p v hv
        cases hs
        obtain ⟨h1, h2, h3⟩ := howe
        refine land_slice h (h.pk h1) (fun y hy => ?_) (fun y hy => ?_) hv h3
        · subst hy; exact h.pk h2.1
        · subst hy
          cases lo with
          | none => exact h.pk h2.1
          | some l => exact h.pk h2.2.1
      · cases hs
  case buildSlice t n ps =>
    split at hs
    · rename_i e z hI
      split at hs
      · rename_i l hl
        cases hb : (l.length == n && decide (n * e.n ≤ 16777216) && decide (n * z ≤ 140737488355328)) <;> rw [hb] at hs <;> simp only [cond_true, cond_false] at hs
        · cases hs
        · cases hs
          simp only [Bool.and_eq_true, beq_iff_eq, decide_eq_true_eq] at hb
          exact land_buildSlice h (hnx nx (Nat.le_refl _) (by simp)) hI hl hb.1.1 hb.1.2 hb.2
      · cases hs
    · cases hs
  case build t ps =>
    split at hs
    · rename_i pl cs hp' hz
      split at hs
      · rename_i l hl
        cases hs
        exact land_build h hp' hz hl
      · cases hs
    · cases hs
  case nilCheck x =>
    split at hs
    · rename_i o off hl
      split at hs
      · rename_i cs hcs
        cases hs
        have hx := h.pk howe
        rw [hl] at hx
        obtain ⟨b, q, e1, _⟩ := pb_add (k := 0) ((h.ob o).trans hcs) hx
        exact land_nilCheck h hx (.inl ⟨_, e1⟩)
      · cases hs
    · rename_i o i off hl
      split at hs
      · rename_i fz z e xs hcs
        cases hs
        have hx := h.pk howe
        rw [hl] at hx
        obtain ⟨b, q, e1, _⟩ := pe_add (k := 0) ((h.ob o).trans hcs) hx
        exact land_nilCheck h hx (.inl ⟨_, e1⟩)
      · cases hs
    · rename_i t' x' off hl
      cases hs
      have hx := h.pk howe
      rw [hl] at hx
      refine land_nilCheck h hx (.inl ?_)
      obtain ⟨b, f, us, e1, _⟩ := hx
      exact ⟨_, e1⟩
    · rename_i f caps hl
      cases hs
      have hx := h.pk howe
      rw [hl] at hx
      refine land_nilCheck h hx (.inr ?_)
      obtain ⟨vs, e1, _⟩ := hx
      exact ⟨_, _, e1⟩
    · cases hs
  case makeFunc fn first caps =>
    cases fn <;> simp only [stepU, uPick, uAlloc, uBox, uLoad, uStore, uBin, uUn, uConv, uExt, uField, uFAddr, uIAddr, uIndex, uSlice, uBSl, uBuild, uNil, uMk, uIfc, uRng, reduceCtorEq] at hs
    rename_i f
    split at hs
    · rename_i l hf hl
      cases hb : boxes (fo hp) l <;> rw [hb] at hs <;> simp only [cond_true, cond_false] at hs
      · cases hs
      · cases hs
        exact land_makeFunc h hf hl (boxes_ok h.ob l hb)
    · cases hs
  case call c => exact sCall_ok h hCs hs hnx howe
  all_goals cases hs

end
end
end Go.Proofs.YtaoplfeohffbiaaGreatDoor.Sx

/-! Rows of bytes that grow (strings.Builder), in symbolic runs. -/
namespace Go.Proofs.YtaoplfeohffbiaaGreatDoor.Sx
set_option linter.unusedSimpArgs false
set_option linter.unusedVariables false
set_option linter.unusedSectionVars false
noncomputable section

section
variable {P : Program} {Cs : List Con} {G : Ctx} {E : Env} {w : World} {hp : List (Nat × Ob)} {nx : Nat} {fr fr' : List SV} {a : Act} {ob ob' : Nat → Ob}
variable {d : Option Tmp} {ty : TypeId} {pos : String} {af : Array Edge} {gd : Option (Nat × Bool)}

theorem ptrT_u {t e : TypeId} (h : ptrT P t = some e) : P.underlying t = some (.pointer e) := by
  unfold ptrT at h
  split at h
  · rename_i e' hu
    cases h
    exact hu
  · cases h

theorem isUns_u {t : TypeId} (h : isUns P t = true) : P.underlying t = some .unsafePointer := by
  unfold isUns at h
  split at h
  · assumption
  · cases h

theorem elT_u {t e : TypeId} (h : elT P t = some e) : P.underlying t = some (.slice e) := by
  unfold elT at h
  split at h
  · rename_i e' hu
    cases h
    exact hu
  · cases h

theorem cells_info {t : TypeId} (h : 1 ≤ P.cellsOf t) : ∃ j, P.info? t = some j ∧ j.size = P.cellsOf t ∧ j.size ≠ 0 := by
  unfold Program.cellsOf at h ⊢
  cases hi : P.info? t with
  | none => rw [hi] at h; simp at h
  | some j => rw [hi] at h; simp at h; exact ⟨j, rfl, by simp, by omega⟩

/-- A box's block. -/
theorem pb_at (h : Pre P G E w hp fr a) {o off : Nat} {Tb : TypeId} {cs : List S1} {v : Value} (hob : fo hp o = .box Tb cs) (r : S1ok E w (.pb o off) v) :
    ∃ b vs ex, E.loc o = some (b, 0) ∧ v = .pointer (some ⟨b, off, none⟩) ∧ w.heap[b]? = some (.cells (vs ++ ex) Tb (0, 0)) ∧ S1sok E w cs vs.toList ∧ vs.size = cs.length ∧ E.ob o = .box Tb cs ∧ E.born o := by
  obtain ⟨hb, r⟩ := r
  have ho : E.ob o = .box Tb cs := (h.ob o).trans hob
  rw [ho] at r
  obtain ⟨b, hl, hv⟩ := r
  have hm := h.mem.hp o hb
  rw [ho] at hm
  obtain ⟨b', vs, ex, k1, k2, k3⟩ := hm
  rw [hl] at k1
  cases k1
  exact ⟨b, vs, ex, hl, hv, k2, k3, by have := k3.1; simpa using this, ho, hb⟩

theorem shape_of {b : Nat} {cs : Array Value} {T : TypeId} {fz : Nat × Nat} (hh : w.heap[b]? = some (.cells cs T fz)) : w.shape? b = some (T, cs.size) := by
  simp [World.shape?, hh]

theorem lies_self {T : TypeId} {n : Nat} (h1 : 1 ≤ P.cellsOf T) (hn : P.cellsOf T ≤ n) : liesAt P P.depth T (n / P.cellsOf T) 0 T 1 = true := by
  have hd : P.depth = (2 * (P.types.size + Made.depth) + 1) + 1 := rfl
  have h2 : 1 ≤ n / P.cellsOf T := (Nat.one_le_div_iff (by omega)).2 hn
  have h3 : P.cellsOf T ≠ 0 := by omega
  rw [hd]
  simp only [liesAt, Bool.or_eq_true]
  left
  rw [hd]
  simp [rowAt, h3, h2, sameLayout]

theorem u8_has (b : UInt8) : IntKind.u8.has (b.toNat : Int) := by
  have := b.toNat_lt
  simp [IntKind.has, IntKind.min, IntKind.max, IntKind.signed, IntKind.bits]
  omega

theorem byS_ok (E : Env) (w : World) (bs : List UInt8) : S1sok E w (byS bs) (Lib.byteCells bs) := ⟨by simp [byS, Lib.byteCells], fun i x v h1 h2 => by
  simp only [byS, Lib.byteCells, List.getElem?_map, Option.map_eq_some_iff] at h1 h2
  obtain ⟨b, hb, rfl⟩ := h1
  obtain ⟨b', hb', rfl⟩ := h2
  rw [hb] at hb'
  cases hb'
  exact ⟨rfl, u8_has b⟩⟩

theorem S1sok.app {l l' : List S1} {vs vs' : List Value} (h : S1sok E w l vs) (h' : S1sok E w l' vs') : S1sok E w (l ++ l') (vs ++ vs') := ⟨by simp [h.1, h'.1], fun i x v h1 h2 => by
  rw [List.getElem?_append] at h1 h2
  rw [h.1] at h2
  by_cases hi : i < l.length
  · rw [if_pos hi] at h1 h2; exact h.2 i x v h1 h2
  · rw [if_neg hi] at h1 h2; exact h'.2 _ x v h1 h2⟩

theorem S1sok.evo {E' : Env} {w' : World} (hev : Evo E E' w w') {l : List S1} {vs : List Value} (h : S1sok E w l vs) : S1sok E' w' l vs := ⟨h.1, fun i x v h1 h2 => hev.s1 (h.2 i x v h1 h2)⟩

theorem freeze_heap {b : Nat} {us : Array Value} {T : TypeId} {f n : Nat} (hh : w.heap[b]? = some (.cells us T (0, 0))) (hn : n ≠ 0) : (w.freeze ⟨b, f, none⟩ n).heap[b]? = some (.cells us T (f, f + n)) := by
  unfold World.freeze
  rw [if_neg hn]
  simp [Array.getElem?_modify, hh]

theorem freeze_other {b b' f n : Nat} (hb : b' ≠ b) : (w.freeze ⟨b, f, none⟩ n).heap[b']? = w.heap[b']? := by
  unfold World.freeze
  split
  · rfl
  · simp only [Array.getElem?_modify]
    rw [if_neg (Ne.symm hb)]

theorem freeze_size {b f n : Nat} : (w.freeze ⟨b, f, none⟩ n).heap.size = w.heap.size := by
  unfold World.freeze
  split
  · rfl
  · simp

theorem killed_ob {o i : Nat} : (E.killed [o]).ob i = if i = o then .dead else E.ob i := by
  show (if i ∈ [o] then Ob.dead else E.ob i) = _
  simp

theorem evo_freeze {o b n : Nat} (hmut : (E.ob o).mut = true) (hl : E.loc o = some (b, 0)) {us : Array Value} {T : TypeId} (hh : w.heap[b]? = some (.cells us T (0, 0))) (hn : n ≠ 0) :
    Evo E (E.killed [o]) w (w.freeze ⟨b, 0, none⟩ n) where
  born i hi := hi
  keep i hi := by
    rw [killed_ob]
    by_cases e : i = o
    · rw [if_pos e]; exact .inl rfl
    · rw [if_neg e]; exact (Evo.rfl' (E := E) (w := w)).keep i hi
  own b' hb ho := by
    rcases ho with ho | ⟨j, f, h1, h2⟩
    · exact .inl ho
    · rw [killed_ob] at h1
      by_cases e : j = o
      · rw [if_pos e] at h1; cases h1
      · rw [if_neg e] at h1; exact .inr ⟨j, f, h1, h2⟩
  mem b' hb ho := freeze_other fun e => ho (e ▸ .inr ⟨o, 0, hmut, hl⟩)
  blk b' cs' T' fz' hc := by
    by_cases e : b' = b
    · subst e
      rw [hh] at hc
      cases hc
      exact ⟨_, _, freeze_heap hh hn, rfl⟩
    · exact ⟨cs', fz', (freeze_other e).trans hc, rfl⟩
  size := by rw [freeze_size]; exact Nat.le_refl _
  bad := rfl
  oth b' y hy := by
    by_cases e : b' = b
    · subst e
      rw [hh] at hy
      cases hy
      trivial
    · rw [freeze_other e, hy]; exact OthK.same

theorem freeze_os {b f n : Nat} : (w.freeze ⟨b, f, none⟩ n).os = w.os ∧ (w.freeze ⟨b, f, none⟩ n).tape = w.tape ∧ (w.freeze ⟨b, f, none⟩ n).output = w.output := by
  unfold World.freeze
  split <;> exact ⟨rfl, rfl, rfl⟩

theorem mem_freeze (m : Mem G E w) {o b n : Nat} (hmut : (E.ob o).mut = true) (hl : E.loc o = some (b, 0)) {us : Array Value} {T : TypeId} (hh : w.heap[b]? = some (.cells us T (0, 0))) (hn : n ≠ 0) :
    Mem G (E.killed [o]) (w.freeze ⟨b, 0, none⟩ n) := by
  have hev := evo_freeze hmut hl hh hn
  have hlive : E.ob o ≠ .dead := mut_ne hmut
  have hd1 : ∀ q, (E.killed [o]).ob q ≠ .dead → E.ob q ≠ .dead := fun q hq => by
    rw [killed_ob] at hq
    by_cases e : q = o
    · rw [if_pos e] at hq; exact absurd rfl hq
    · rwa [if_neg e] at hq
  refine m.step hev (fun j => j = o) (fun j hb hne => ⟨hb, ?_, rfl, fun b' f hd hl' => freeze_other fun e => hne ?_⟩) (fun j hj => by subst hj; rw [killed_ob, if_pos rfl]; trivial) (fun j hb => ?_)
    (fun p p' b' g g' h1 h2 h3 h4 => m.sep p p' b' g g' (hd1 p h1) (hd1 p' h2) h3 h4) (fun p b' g h1 h2 => m.new p b' g (hd1 p h1) h2) freeze_os.1 freeze_os.2.1 freeze_os.2.2 (fun b' hb hm => ?_)
  · rw [killed_ob, if_neg hne]
  · subst e
    exact m.sep j o b' f 0 hd hlive hl' hl
  · rw [killed_ob]
    by_cases e : j = o
    · rw [if_pos e]
    · rw [if_neg e]; exact m.unb j hb
  · refine freeze_other fun e => ?_
    rw [e] at hb hm
    rcases m.new o b 0 hlive hl with h1 | h1
    · omega
    · exact hm h1

theorem run_appcall2 {t t' : TypeId} {s x : Operand} {v : Value} {w' : World} {vs vx : Value} (hs : a.eval s = vs) (hx : a.eval x = vx) (hr : (Builtin.append_ #[t, t'] ty #[vs, vx]).run P w = .ok v w') :
    (execOp a.eval ⟨d, .call { callee := .builtin .append, args := #[s, x], argTypes := #[t, t'] }, ty, pos, af, gd⟩).run P w = .ok (.value v) w' := by
  simp [execOp, resolve, invoke, builtin, hs, hx, hr]

theorem land_growB (h : Pre P G E w hp fr a) (hnx : ¬ E.born nx) {o : Oper} {os : List Nat} {el : TypeId} {cs : List S1} {n C : Nat} {vs ex : Array Value}
    (hr : (execOp a.eval o).run P w = .ok (.value (.slice (some ⟨w.heap.size, 0, none⟩) n C)) (w.drew.alloc (.cells (vs ++ ex) el))) (hvs : S1sok E w cs vs.toList) (hn : n = cs.length) (hC : n ≤ C) (hCs : C ≤ (vs ++ ex).size) :
    Land P G E w hp nx o a ⟨True, .s (.sb nx 1 0 n none), kill os ++ [(nx, .box el cs)], nx + 1, True⟩ := by
  have hnew : (w.drew.alloc (.cells (vs ++ ex) el)).heap[w.heap.size]? = some (.cells (vs ++ ex) el (0, 0)) := heap_alloc_at w.drew _
  have hold : ∀ b, b < w.heap.size → (w.drew.alloc (.cells (vs ++ ex) el)).heap[b]? = w.heap[b]? := fun b hb => heap_alloc_ne w.drew _ b hb
  have hev : Evo E (softE E [] os nx (.box el cs) (some (w.heap.size, 0))) w (w.drew.alloc (.cells (vs ++ ex) el)) := by
    refine evo_soft hnx (fun b f hbf hb => ?_) (fun b hb _ => hold b hb) (fun b cs' T' fz' hc => ⟨cs', fz', (hold b (lt_of_row hc)).trans hc, rfl⟩) ?_ fun b y hy => (by rw [hold b (lt_of_obj hy), hy]; exact OthK.same)
    · cases hbf; omega
    · show w.heap.size ≤ (w.heap.push _).size
      simp
  have := land_soft_new (l := []) (os := os) (X := .s (.sb nx 1 0 n none)) (ow := True) (gv := True) h hr hev (fun i b' f' hi hio hd hl => ⟨fun b f hbf => ?_, hold b' (h.mem.lt hd hl)⟩) ⟨_, vs, ex, set_loc _ _ _ _, hnew, hvs.evo hev⟩ (fun b f hbf => ?_) rfl rfl rfl (fun b hb _ => hold b (Nat.lt_of_lt_of_le hb h.mem.size)) ?_ trivial
  · exact this
  · cases hbf
    have := h.mem.lt hd hl
    omega
  · cases hbf; exact .inl h.mem.size
  · refine ⟨.inr rfl, ?_⟩
    show match (Env.set _ nx _ _).ob nx with | .box _ cs => _ | _ => _
    rw [set_ob]
    exact ⟨_, 0, C, set_loc _ _ _ _, rfl, fun _ => rfl, hC, fun c' hc' => (by cases hc'), by omega, _, _, _, hnew, by omega⟩

theorem land_stayB (h : Pre P G E w hp fr a) (hnx : ¬ E.born nx) {o : Oper} {el : TypeId} {cs : List S1} {n c q b : Nat} {old vs ex : Array Value} (hq : (E.ob q).mut = true) (hql : E.loc q = some (b, 0)) (hh : w.heap[b]? = some (.cells old el (0, 0)))
    (hsz : (vs ++ ex).size = old.size) (hr : (execOp a.eval o).run P w = .ok (.value (.slice (some ⟨b, 0, none⟩) n c)) (w.setRow b (vs ++ ex))) (hvs : S1sok E w cs vs.toList) (hn : n = cs.length) (hC : n ≤ c) (hCs : c ≤ (vs ++ ex).size) :
    Land P G E w hp nx o a ⟨True, .s (.sb nx 1 0 n none), [(q, .dead), (nx, .box el cs)], nx + 1, True⟩ := by
  have hown : E.owned b := .inr ⟨q, 0, hq, hql⟩
  have hnew : (w.setRow b (vs ++ ex)).heap[b]? = some (.cells (vs ++ ex) el (0, 0)) := setRow_heap w b old _ el (0, 0) hh
  have hoth : ∀ b', b' ≠ b → (w.setRow b (vs ++ ex)).heap[b']? = w.heap[b']? := fun b' hb => setRow_other w b b' _ hb
  have hev : Evo E (softE E [] [q] nx (.box el cs) (some (b, 0))) w (w.setRow b (vs ++ ex)) := by
    refine evo_soft hnx (fun b1 f1 hbf _ => ?_) (fun b' _ ho => hoth b' fun e => ho (e ▸ hown)) (fun b' cs' T' fz' hc => ?_) ?_ fun b' y hy => ?_
    · cases hbf; exact hown
    · by_cases e : b' = b
      · subst e
        rw [hh] at hc
        cases hc
        exact ⟨_, _, hnew, hsz⟩
      · exact ⟨cs', fz', (hoth b' e).trans hc, rfl⟩
    · simp [World.setRow]
    · by_cases e : b' = b
      · subst e
        rw [hh] at hy
        cases hy
        trivial
      · rw [hoth b' e, hy]; exact OthK.same
  have := land_soft_new (l := []) (os := [q]) (X := .s (.sb nx 1 0 n none)) (ow := True) (gv := True) h hr hev (fun i b' f' hi hio hd hl => ?_) ⟨_, vs, ex, set_loc _ _ _ _, hnew, hvs.evo hev⟩ (fun b1 f1 hbf => ?_) rfl rfl rfl (fun b' hb hm => ?_) ?_ trivial
  · exact this
  · have hne : b' ≠ b := fun e => by
      subst e
      exact hio (by rw [h.mem.sep i q b' f' 0 hd (mut_ne hq) hl hql]; simp)
    exact ⟨fun b1 f1 hbf => (by cases hbf; exact hne), hoth b' hne⟩
  · cases hbf; exact h.mem.new q b 0 (mut_ne hq) hql
  · refine hoth b' fun e => ?_
    subst e
    rcases h.mem.new q b' 0 (mut_ne hq) hql with h1 | h1
    · omega
    · exact hm h1
  · refine ⟨.inr rfl, ?_⟩
    show match (Env.set _ nx _ _).ob nx with | .box _ cs => _ | _ => _
    rw [set_ob]
    exact ⟨_, 0, c, set_loc _ _ _ _, rfl, fun _ => rfl, hC, fun c' hc' => (by cases hc'), by omega, _, _, _, hnew, by omega⟩

theorem unB_ok : ∀ (cs : List S1) (vs : List Value), isBy cs = true → S1sok E w cs vs → vs = Lib.byteCells (unB cs)
  | [], vs, _, hv => List.eq_nil_of_length_eq_zero (by simpa using hv.1)
  | x :: cs, [], _, hv => by have := hv.1; simp at this
  | x :: cs, v :: vs, h, hv => by
    simp only [isBy, Bool.and_eq_true] at h
    have h0 := hv.2 0 x v rfl rfl
    have ih := unB_ok cs vs h.2 ⟨by have := hv.1; simpa using this, fun i y u h1 h2 => hv.2 (i + 1) y u (by simpa using h1) (by simpa using h2)⟩
    cases x <;> simp only [isB1, Bool.false_eq_true, false_and] at h
    rename_i k n
    have hk := keq_eq h.1
    subst hk
    have hb := h0.2
    simp only [IntKind.has, IntKind.min, IntKind.max, IntKind.signed, IntKind.bits] at hb
    have hn : ((UInt8.ofNat n.toNat).toNat : Int) = n := by
      have h2 : n.toNat < 256 := by simp at hb; omega
      rw [UInt8.toNat_ofNat_of_lt' h2]
      simp at hb
      omega
    rw [ih, h0.1]
    show _ = Lib.byteCells (UInt8.ofNat n.toNat :: unB cs)
    simp only [Lib.byteCells, List.map_cons, hn]

theorem yTo_u {s t : TypeId} (h : yTo P s t = true) : ∃ e, P.underlying s = some (.pointer e) ∧ P.underlying t = some .unsafePointer ∧ 1 ≤ P.cellsOf e := by
  unfold yTo at h
  split at h
  · rename_i e he
    rw [Bool.and_eq_true] at h
    exact ⟨e, ptrT_u he, isUns_u h.1, Nat.le_of_ble_eq_true h.2⟩
  · cases h
theorem yFrom_u {s t T : TypeId} {n : Nat} (h : yFrom P s t T n = true) : P.underlying t = some (.pointer T) ∧ P.underlying s = some .unsafePointer ∧ 1 ≤ P.cellsOf T ∧ P.cellsOf T ≤ n := by
  unfold yFrom at h
  split at h
  · rename_i e he
    simp only [Bool.and_eq_true] at h
    obtain ⟨h1, h2, h3, h4⟩ := h
    have h2 := Nat.eq_of_beq_eq_true h2
    subst h2
    exact ⟨ptrT_u he, isUns_u h1, Nat.le_of_ble_eq_true h3, Nat.le_of_ble_eq_true h4⟩
  · cases h
theorem yEq_u {t : TypeId} (h : yEq P t = true) : ∃ e, P.underlying t = some (.pointer e) ∧ 1 ≤ P.cellsOf e := by
  unfold yEq at h
  split at h
  · rename_i e he
    exact ⟨e, ptrT_u he, Nat.le_of_ble_eq_true h⟩
  · cases h
theorem yEl_u {t el : TypeId} (h : yEl P t = some el) : elemI P t = some (.int .u8, 1) ∧ P.underlying t = some (.slice el) := by
  unfold yEl at h
  split at h
  · rename_i he
    exact ⟨he, elT_u h⟩
  · cases h
theorem yRow_u {t T : TypeId} (h : yRow P t T = true) : P.underlying t = some (.pointer T) ∧ P.cellsOf T = 1 := by
  unfold yRow at h
  split at h
  · rename_i e he
    simp only [Bool.and_eq_true] at h
    have h2 := Nat.eq_of_beq_eq_true h.1
    subst h2
    exact ⟨ptrT_u he, Nat.eq_of_beq_eq_true h.2⟩
  · cases h

theorem yConv_ok (h : Pre P G E w hp fr a) {ow : Prop} {src dst : TypeId} {x : Operand} {u : Up} (how : ow → pkP (ev fr x)) (hs : yConv P (fo hp) nx ow src dst (pkV (ev fr x)) = some u) (ho : u.owe) :
    Land P G E w hp nx ⟨d, .convert src dst x, ty, pos, af, gd⟩ a u := by
  unfold yConv at hs
  split at hs
  · rename_i o off he
    split at hs
    · rename_i T cs hob
      cases hc : (yTo P src dst || (Nat.beq off 0 && yFrom P src dst T cs.length))
      · rw [hc] at hs; cases hs
      rw [hc] at hs
      cases hs
      obtain ⟨h1, h2⟩ := ho
      have hx := h.pk (how h1)
      rw [he] at hx
      obtain ⟨b, vs, ex, hl, hv, hh, hok, hsz, ho, hb⟩ := pb_at h hob hx
      have hsh := shape_of hh
      rw [Bool.or_eq_true] at hc
      rcases hc with hc | hc
      · obtain ⟨t, c1, c2, c3⟩ := yTo_u hc
        obtain ⟨j, hj, hjs, hj0⟩ := cells_info c3
        refine land_val h (v := a.eval x) ?_ hx rfl trivial
        have := Lib.run_to_unsafe (P := P) w ⟨b, off, none⟩ c1 c2 hj hj0 hsh (by simp; omega)
        simp [execOp, hv, this]
      · rw [Bool.and_eq_true] at hc
        have c0 := Nat.eq_of_beq_eq_true hc.1
        subst c0
        obtain ⟨c1, c2, c3, c4⟩ := yFrom_u hc.2
        obtain ⟨j, hj, hjs, hj0⟩ := cells_info c3
        refine land_val h (v := a.eval x) ?_ hx rfl trivial
        have hlies := lies_self (P := P) (n := (vs ++ ex).size) c3 (by simp; omega)
        have := Lib.run_from_unsafe (P := P) w ⟨b, 0, none⟩ c2 c1 hj hsh hlies
        simp [execOp, hv, this]
    · cases hs
  · cases hs

theorem yPtr_ok (h : Pre P G E w hp fr a) {ow : Prop} {op : BinOp} {t t2 : TypeId} {x y : Operand} {u : Up} (how : ow → pkP (ev fr x) ∧ pkP (ev fr y)) (hs : yPtr P (fo hp) nx ow op t (pkV (ev fr y)) (pkV (ev fr x)) = some u) (ho : u.owe) :
    Land P G E w hp nx ⟨d, .binOp op t x y t2, ty, pos, af, gd⟩ a u := by
  unfold yPtr at hs
  split at hs
  · rename_i o off he
    split at hs
    · rename_i o' off' he'
      split at hs
      · rename_i Tb cs hob
        cases hc : (yEq P t && (Nat.beq o o' && Nat.beq off off'))
        · rw [hc] at hs; cases hs
        rw [hc] at hs
        simp only [Bool.and_eq_true] at hc
        obtain ⟨c3, c1, c2⟩ := hc
        have c1 := Nat.eq_of_beq_eq_true c1
        have c2 := Nat.eq_of_beq_eq_true c2
        obtain ⟨e, c3, c4⟩ := yEq_u c3
        subst c1
        subst c2
        have key : ow → ∃ b, a.eval x = .pointer (some ⟨b, off, none⟩) ∧ a.eval y = .pointer (some ⟨b, off, none⟩) := fun hw => by
          have hx := h.pk (how hw).1
          have hy := h.pk (how hw).2
          rw [he] at hx
          rw [he'] at hy
          obtain ⟨b, vs, ex, hl, hv, _⟩ := pb_at h hob hx
          obtain ⟨b', vs', ex', hl', hv', _⟩ := pb_at h hob hy
          rw [hl] at hl'
          cases hl'
          exact ⟨b, hv, hv'⟩
        obtain ⟨j, hj, _⟩ := cells_info c4
        have heq : ∀ (b d : Nat), (Op.equalIn (d + 1) t (.pointer (some ⟨b, off, none⟩)) (.pointer (some ⟨b, off, none⟩))).run P w = .ok true w := fun b d => by
          simp [Op.equalIn, run_underlying c3, sizeOf, typeInfo, hj, run_sameAddr_same]
        simp only [cond_true] at hs
        split at hs
        · cases hs
          obtain ⟨b, hv, hv'⟩ := key ho
          refine land_val h (v := .bool true) ?_ rfl rfl trivial
          simp [execOp, hv, hv', eqGuard, binOp, Op.equal, Op.maxDepth, heq b 9999]
        · cases hs
          obtain ⟨b, hv, hv'⟩ := key ho
          refine land_val h (v := .bool false) ?_ rfl rfl trivial
          simp [execOp, hv, hv', eqGuard, binOp, Op.equal, Op.maxDepth, heq b 9999]
        · cases hs
      · cases hs
    · cases hs
  · cases hs

theorem yEs_ok (h : Pre P G E w hp fr a) {ow : Prop} {g : FuncId} {x : Operand} {ts : Array TypeId} {u : Up} (how : ow → pkP (ev fr x)) (he : isEsc P g = true) (hs : yEs (fo hp) nx ow (pkV (ev fr x)) = some u) (ho : u.owe) :
    Land P G E w hp nx ⟨d, .call { callee := .value (.func g), args := #[x], argTypes := ts }, ty, pos, af, gd⟩ a u := by
  unfold isEsc at he
  split at he
  · rename_i fn hf
    simp only [Bool.and_eq_true, decide_eq_true_eq] at he
    obtain ⟨h1, h2, h3⟩ := he
    unfold yEs at hs
    split at hs
    · rename_i o off hv
      split at hs
      · cases hs
        have hx := h.pk (how ho)
        rw [hv] at hx
        refine land_val h (v := a.eval x) ?_ hx rfl trivial
        have hfind : Extern.find fn = some Extern.AbiNoEscape.same := by unfold Extern.find; rw [h2]; rfl
        have hr := run_callFunc_extern (P := P) hf (by rw [h2]; rfl) h1 (by simpa using h3) hfind #[a.eval x] w
        rw [Lib.run_noEscape] at hr
        have hev : a.eval (.func g) = .func (.func g) #[] #[] := rfl
        simp [execOp, resolve, invoke, hev, Deferred.ofValue, hr]
      · cases hs
    · cases hs
  · cases he

theorem yLen_ok (h : Pre P G E w hp fr a) {ow : Prop} {t : TypeId} {x : Operand} {u : Up} (how : ow → pkP (ev fr x)) (hs : yLen P (fo hp) nx ow t (pkV (ev fr x)) = some u) (hw : u.owe) :
    Land P G E w hp nx ⟨d, .call { callee := .builtin .len, args := #[x], argTypes := #[t] }, ty, pos, af, gd⟩ a u := by
  unfold yLen at hs
  split at hs
  · rename_i o z off n k he
    split at hs
    · rename_i Tb cs hob
      split at hs
      · rename_i el ht
        cases hs
        obtain ⟨hw, hn⟩ := hw
        have hx := h.pk (how hw)
        rw [he] at hx
        obtain ⟨hb, r⟩ := hx
        have ho : E.ob o = .box Tb cs := (h.ob o).trans hob
        rw [ho] at r
        obtain ⟨b, off', c, hl, hv, _⟩ := r
        refine land_val h (v := .int .i64 (n : Int)) ?_ ⟨rfl, has_len hn⟩ rfl trivial
        simp [execOp, resolve, invoke, builtin, hv, Builtin.len_, run_underlying (elT_u ht), goInt]
      · cases hs
    · cases hs
  · cases hs

theorem yData_ok (h : Pre P G E w hp fr a) {ow : Prop} {x : Operand} {ts : Array TypeId} {u : Up} (how : ow → pkP (ev fr x)) (hs : yData (fo hp) nx ow (pkV (ev fr x)) = some u) (hw : u.owe) :
    Land P G E w hp nx ⟨d, .call { callee := .builtin .unsafeSliceData, args := #[x], argTypes := ts }, ty, pos, af, gd⟩ a u := by
  unfold yData at hs
  split at hs
  · rename_i he
    cases hs
    have hx := h.pk (how hw)
    rw [he] at hx
    have hv : a.eval x = .slice none 0 0 := hx
    refine land_val h (v := .pointer none) ?_ rfl rfl trivial
    simp [execOp, resolve, invoke, builtin, hv, Lib.run_unsafeSliceData_nil]
  · rename_i o z off n k he
    split at hs
    · rename_i Tb cs hob
      cases hs
      obtain ⟨hw, hn⟩ := hw
      have hx := h.pk (how hw)
      rw [he] at hx
      obtain ⟨hb, r⟩ := hx
      have ho : E.ob o = .box Tb cs := (h.ob o).trans hob
      rw [ho] at r
      obtain ⟨b, off', c, hl, hv, k1, k2, _⟩ := r
      have hc0 : c ≠ 0 := by omega
      have := k1 hc0
      subst this
      refine land_val h (v := .pointer (some ⟨b, off', none⟩)) ?_ ⟨hb, by rw [ho]; exact ⟨b, hl, rfl⟩⟩ rfl trivial
      simp [execOp, resolve, invoke, builtin, hv, Lib.run_unsafeSliceData_row _ _ _ _ _ _ hc0]
    · cases hs
  · cases hs

theorem yStr_ok (h : Pre P G E w hp fr a) {ow : Prop} {pt pt' : TypeId} {p n : Operand} {u : Up} (how : ow → pkP (ev fr p) ∧ pkP (ev fr n)) (hs : yStr P (fo hp) nx ow pt (pkV (ev fr n)) (pkV (ev fr p)) = some u) (hw : u.owe) :
    Land P G E w hp nx ⟨d, .call { callee := .builtin .unsafeString, args := #[p, n], argTypes := #[pt, pt'] }, ty, pos, af, gd⟩ a u := by
  unfold yStr at hs
  split at hs
  · rename_i he
    split at hs
    · rename_i m hne
      cases hs
      obtain ⟨hw, rfl⟩ := hw
      have hx := h.pk (how hw).1
      have hn := h.pk (how hw).2
      rw [he] at hx
      rw [hne] at hn
      have hv : a.eval p = .pointer none := hx
      have hvn : a.eval n = .int .i64 0 := hn.1
      refine land_val h (v := .string .empty) ?_ ⟨rfl, by simp⟩ rfl trivial
      simp [execOp, resolve, invoke, builtin, hv, hvn, Lib.run_unsafeString_none]
    · cases hs
  · rename_i o he
    split at hs
    · rename_i m hne
      split at hs
      · rename_i Tb cs hob
        cases hc : yRow P pt Tb
        · rw [hc] at hs; cases hs
        rw [hc] at hs
        cases hs
        obtain ⟨hw, hby, c3, c5, c4⟩ := hw
        obtain ⟨c1, c2⟩ := yRow_u hc
        have hx := h.pk (how hw).1
        have hn := h.pk (how hw).2
        rw [he] at hx
        rw [hne] at hn
        obtain ⟨b, vs, ex, hl, hv, hh, hok, hsz, ho, hb⟩ := pb_at h hob hx
        have hvs := unB_ok cs _ hby hok
        have hbl : (unB cs).length = cs.length := by simp [unB]
        generalize unB cs = bs at hvs hbl
        rw [← hbl] at c3 c4 c5
        have hvn : a.eval n = .int .i64 (bs.length : Int) := by rw [hn.1, c3]
        have hvl : vs.size = bs.length := by rw [hsz, hbl]
        have hr := Lib.run_unsafeString_row (P := P) w pt pt' ty Tb c1 c2 b _ (shape_of hh) bs (by intro e; rw [e] at c5; simp at c5) (by rw [← hvl]; simp) (by omega) (fun j x hj => by
          rw [add_lit', Nat.zero_add]
          have h1 : vs.toList[j]? = some (Value.int .u8 x.toNat) := by rw [hvs]; simp only [Lib.byteCells, List.getElem?_map, hj, Option.map_some]
          have hjl : j < vs.size := by have := (List.getElem?_eq_some_iff.1 h1).1; simpa using this
          rw [Lib.cell_of_heap hh, Array.getElem?_append, if_pos hjl]
          simpa using h1)
        have hmut : (E.ob o).mut = true := by rw [ho]; rfl
        intro K B hK
        unfold Oper.wp
        have hrun : (execOp a.eval ⟨d, .call { callee := .builtin .unsafeString, args := #[p, n], argTypes := #[pt, pt'] }, ty, pos, af, gd⟩).run P w = .ok (.value (.string ⟨bs.toArray⟩)) (w.freeze ⟨b, 0, none⟩ bs.length) := by
          have hm : (#[p, n]).map a.eval = #[a.eval p, a.eval n] := by simp
          simp only [execOp, resolve, invoke, builtin, Sem.run_bind, Sem.run_pure, Result.andThen_ok]
          rw [hm, hv, hvn, hr]
          rfl
        rw [hrun, Oper.upon_value]
        have hn0 : bs.length ≠ 0 := by omega
        refine hK _ _ _ (mem_freeze h.mem hmut hl hh hn0) (evo_freeze hmut hl hh hn0) (fun i => ?_) (fun i hi => .inl hi) ⟨rfl, c4⟩ trivial
        simp only [uos, fo_uo]
        rw [killed_ob, h.ob]
      · cases hs
    · cases hs
  · cases hs

theorem ySrc_ok (h : Pre P G E w hp fr a) {t t' : TypeId} {x : Operand} (hpk : pkP (ev fr x)) {bs : List UInt8} {el : TypeId} (hu : P.underlying t = some (.slice el)) (hs : ySrc P (fo hp) t t' (pkV (ev fr x)) = some bs) (hne : bs ≠ []) :
    Src P 1 t' (a.eval x) bs.length (Lib.byteCells bs) w := by
  have hx := h.pk hpk
  unfold ySrc at hs
  split at hs
  · rename_i bs' he
    rw [he] at hx
    cases hst : isStr P t'
    · rw [hst] at hs; cases hs
    rw [hst] at hs
    cases hs
    have hst' : P.underlying t' = some .string := by
      unfold isStr at hst
      split at hst
      · assumption
      · cases hst
    rw [show a.eval x = .string ⟨bs.toArray⟩ from hx.1]
    have := Src.ofString (P := P) w hst' ⟨bs.toArray⟩
    have e : (ByteArray.mk bs.toArray).size = bs.length := by show bs.toArray.size = _; simp
    rwa [e] at this
  · rename_i o lo hi he
    rw [he] at hx
    cases htt : Nat.beq t t'
    · rw [htt] at hs; cases hs
    rw [htt] at hs
    simp only [cond_true] at hs
    have htt := Nat.eq_of_beq_eq_true htt
    subst htt
    split at hs
    · rename_i l hl
      cases hs
      have hrd0 : rdS (fo hp) (.slice 1 (.int .u8)) [.sub o lo hi] = some (l, []) := by
        unfold sList at hl
        simp only at hl
        split at hl
        · rename_i ys hy
          rw [hy]
          cases hl
          rfl
        · cases hl
      have hrd := rd_plain h hrd0 (S1sok.one hx)
      obtain ⟨hlen, hr⟩ := hrd
      rcases hr with ⟨a', c, _, e0⟩ | ⟨b, off, c, e1, hc, hne', hS, hlt, hcells⟩
      · exact absurd (by rw [e0]; rfl) hne
      · simp only [List.cons.injEq, and_true] at e1
        have hbl : (bsL l).length = l.length := by simp [bsL]
        rw [e1, hbl]
        have hkey : ∀ i (hi : i < l.length), (Lib.byteCells (bsL l))[i]? = some (.int .u8 l[i]) ∧ w.cell? ⟨b, off + i, none⟩ = some (.int .u8 l[i]) := by
          intro i hi
          obtain ⟨us, hul, hcu, hri⟩ := hcells i hi
          obtain ⟨e2, hh⟩ := hri
          subst e2
          have h1 := hcu 0 _ rfl
          have e3 : off + i * (Ty.int IntKind.u8).n + 0 = off + i := by simp [Ty.n]
          rw [e3] at h1
          refine ⟨?_, h1⟩
          have hb := hh
          simp only [IntKind.has, IntKind.min, IntKind.max, IntKind.signed, IntKind.bits] at hb
          have hn : ((UInt8.ofNat l[i].toNat).toNat : Int) = l[i] := by
            have h2 : l[i].toNat < 256 := by simp at hb; omega
            rw [UInt8.toNat_ofNat_of_lt' h2]
            simp at hb
            omega
          simp only [Lib.byteCells, bsL, List.getElem?_map, List.getElem?_eq_getElem hi, Option.map_some, hn]
        refine Src.ofSlice w hu ⟨b, off, none⟩ l.length c _ (by rw [Lib.byteCells_length, hbl, Nat.mul_one]) (fun j u hj => ?_) fun u hu' => ?_
        · have hjl : j < l.length := by
            have := (List.getElem?_eq_some_iff.1 hj).1
            rw [Lib.byteCells_length, hbl] at this
            exact this
          obtain ⟨k1, k2⟩ := hkey j hjl
          rw [k1] at hj
          cases hj
          rw [add_lit']
          exact k2
        · obtain ⟨_, _, rfl⟩ := List.mem_map.1 hu'
          rfl
    · cases hs
  · cases hs

theorem yApp_ok (h : Pre P G E w hp fr a) (hnx : ¬ E.born nx) {ow : Prop} {t t' : TypeId} {s x : Operand} {u : Up} (how : ow → pkP (ev fr s) ∧ pkP (ev fr x)) (hs : yApp P (fo hp) nx ow t t' (pkV (ev fr s)) (pkV (ev fr x)) = some u) (hw : u.owe) :
    Land P G E w hp nx ⟨d, .call { callee := .builtin .append, args := #[s, x], argTypes := #[t, t'] }, ty, pos, af, gd⟩ a u := by
  unfold yApp at hs
  split at hs
  · rename_i el hE
    obtain ⟨hI, hu0⟩ := yEl_u hE
    obtain ⟨el', inf, zv, hu, hi, hsz, hby, hzv, hzs, hz0, he0⟩ := elemI_run hI
    rw [hu0] at hu
    cases hu
    have hu := hu0
    have hsz1 : inf.size = 1 := hsz
    have hzs1 : zv.cells.size = 1 := hzs
    split at hs
    · rename_i bs hsx
      have hbl := Lib.byteCells_length bs
      unfold yAppV at hs
      split at hs
      · rename_i hse
        cases hs
        obtain ⟨hw, hne, hn⟩ := hw
        have hsv := h.pk (how hw).1
        rw [hse] at hsv
        have hsrc := ySrc_ok h (how hw).2 hu hsx hne
        have hpos : 0 < bs.length := List.length_pos_iff.2 hne
        obtain ⟨vx, hvx⟩ : ∃ v, a.eval x = v := ⟨_, rfl⟩
        rw [hvx] at hsrc
        rw [← hsz1] at hsrc
        have hv : a.eval s = .slice none 0 0 := hsv
        have hfit : Builtin.nextslicecap (0 + bs.length) 0 * inf.bytes ≤ 281474976710656 := growslice_fits (by omega) (by rw [hby]; omega)
        have hr := run_append_grow_src (P := P) w t t' ty el inf zv hu hi hzv none 0 0 [] (run_firstCells_none w.drew _ 0 0 0) vx bs.length _ hsrc (by omega) (by omega) hfit
        have hr' := run_appcall2 (d := d) (ty := ty) (pos := pos) (af := af) (gd := gd) hv hvx hr
        rw [Nat.zero_add] at hr'
        have hge := grownCap_ge w bs.length 0 el
        exact land_growB (os := []) h hnx hr' (by simpa using byS_ok E w bs) (by simp [byS]) hge (by simp [hbl, size_zeroCells, hzs1]; omega)
      · rename_i o n hse
        split at hs
        · rename_i Tb cs hob
          cases hc : Nat.beq Tb el
          · rw [hc] at hs; cases hs
          rw [hc] at hs
          cases hs
          obtain ⟨hw, hne, c2, c3⟩ := hw
          have hsv := h.pk (how hw).1
          rw [hse] at hsv
          have hsrc := ySrc_ok h (how hw).2 hu hsx hne
          have hpos : 0 < bs.length := List.length_pos_iff.2 hne
          obtain ⟨vx, hvx⟩ : ∃ v, a.eval x = v := ⟨_, rfl⟩
          rw [hvx] at hsrc
          rw [← hsz1] at hsrc
          have c1 := Nat.eq_of_beq_eq_true hc
          subst c1
          obtain ⟨hb, r⟩ := hsv
          have ho : E.ob o = .box Tb cs := (h.ob o).trans hob
          rw [ho] at r
          obtain ⟨b, off', c, hl, hv, k1, k2, _, k4, us, T', fz', k5, k6⟩ := r
          have hm := h.mem.hp o hb
          rw [ho] at hm
          obtain ⟨b', vs, ex, m1, m2, m3⟩ := hm
          rw [hl] at m1
          cases m1
          rw [k5] at m2
          cases m2
          have hvs : vs.size = cs.length := by have := m3.1; simpa using this
          have hmut : (E.ob o).mut = true := by rw [ho]; rfl
          have hcell : ∀ j u, vs.toList[j]? = some u → w.cell? ((⟨b, off', none⟩ : Addr).add j) = some u := fun j u hj => by
            have hjl : j < vs.size := by have := (List.getElem?_eq_some_iff.1 hj).1; simpa using this
            have := k1 (by omega)
            subst this
            rw [add_lit', Nat.zero_add, Lib.cell_of_heap k5, Array.getElem?_append, if_pos hjl]
            simpa using hj
          have hcat : S1sok E w (cs ++ byS bs) (vs.toList ++ Lib.byteCells bs) := m3.app (byS_ok E w bs)
          have hlen : n + bs.length = (cs ++ byS bs).length := by simp [byS, c2]
          by_cases hroom : n + bs.length ≤ c
          · have := k1 (by omega)
            subst this
            have h1 : ∀ u ∈ Lib.byteCells bs, u.oneCell' = true := hsrc.one
            have hst2 := run_storeCells_at P b n Tb (Lib.byteCells bs) 0 (vs ++ ex) w k5 (by rw [hbl]; omega) h1
            simp only [Nat.add_zero] at hst2
            have hsp : (vs ++ ex).toList.take n ++ Lib.byteCells bs ++ (vs ++ ex).toList.drop (n + (Lib.byteCells bs).length) = (vs.toList ++ Lib.byteCells bs) ++ (vs ++ ex).toList.drop (n + bs.length) := by
              rw [hbl]
              congr 2
              rw [Array.toList_append, c2, ← hvs]
              simp
            have hr : (Builtin.append_ #[t, t'] ty #[.slice (some ⟨b, 0, none⟩) n c, vx]).run P w = .ok (.slice (some ⟨b, 0, none⟩) (n + bs.length) c) (w.setRow b ((vs.toList ++ Lib.byteCells bs).toArray ++ ((vs ++ ex).toList.drop (n + bs.length)).toArray)) := by
              have hap : ((vs.toList ++ Lib.byteCells bs).toArray ++ ((vs ++ ex).toList.drop (n + bs.length)).toArray) = ((vs ++ ex).toList.take n ++ Lib.byteCells bs ++ (vs ++ ex).toList.drop (n + (Lib.byteCells bs).length)).toArray := by
                rw [hsp]
                simp
              rw [hap]
              have hfc := hsrc.cells
              rw [hsz1] at hfc
              simp only [Array.toList_append, List.append_assoc] at hst2
              rcases hsrc.kind with ⟨e', hk⟩ | hk <;> simp [Builtin.append_, run_underlying hu, run_underlying hk, sizeOf, typeInfo, hi, hsz1, hsrc.len, hroom, Addr.add_lit, hfc, hst2]
            have hr' := run_appcall2 (d := d) (ty := ty) (pos := pos) (af := af) (gd := gd) hv hvx hr
            have hus : (vs ++ ex).size = vs.size + ex.size := Array.size_append
            have hnews : ((vs.toList ++ Lib.byteCells bs).toArray ++ ((vs ++ ex).toList.drop (n + bs.length)).toArray).size = (vs ++ ex).size := by
              simp [hbl, hvs]
              omega
            refine land_stayB (q := o) h hnx hmut hl k5 hnews hr' (by simpa using hcat) hlen hroom (by rw [hnews]; omega)
          · have hfit : Builtin.nextslicecap (n + bs.length) c * inf.bytes ≤ 281474976710656 := growslice_fits (by omega) (by rw [hby]; omega)
            have hr := run_append_grow_src (P := P) w t t' ty Tb inf zv hu hi hzv (some ⟨b, off', none⟩) n c vs.toList (run_firstCells_some w.drew _ n _ n c _ (by simp [hsz1, hvs, c2]) (by simpa using hcell)) vx bs.length _ hsrc (by omega) (by omega) hfit
            have hr' := run_appcall2 (d := d) (ty := ty) (pos := pos) (af := af) (gd := gd) hv hvx hr
            have hge := grownCap_ge w (n + bs.length) c Tb
            exact land_growB (os := [o]) h hnx hr' (by simpa using hcat) hlen hge (by simp [hbl, hvs, size_zeroCells, hzs1]; omega)
        · cases hs
      · cases hs
    · cases hs
  · cases hs

theorem yCall_ok (h : Pre P G E w hp fr a) {c : Call} {u : Up} (hs : yCall P (fo hp) nx fr c = some u) (hnx : nx < u.hi → ¬ E.born nx) (ho : u.owe) : Land P G E w hp nx ⟨d, .call c, ty, pos, af, gd⟩ a u := by
  obtain ⟨callee, args, ats⟩ := c
  unfold yCall at hs
  simp only at hs
  split at hs
  · rename_i s x t t' ha ht
    rw [toList_two ha, toList_two ht]
    refine yApp_ok h (hnx ?_) id hs ho
    simp only [yApp, yAppV, cond_eq_ite] at hs
    repeat' (split at hs)
    all_goals (first | (cases hs; done) | (cases hs; exact Nat.lt_succ_self _))
  · rename_i x t ha ht
    rw [toList_one ha, toList_one ht]
    exact yLen_ok h id hs ho
  · rename_i x _ ha
    rw [toList_one ha]
    exact yData_ok h id hs ho
  · rename_i p n pt pt' ha ht
    rw [toList_two ha, toList_two ht]
    exact yStr_ok h id hs ho
  · rename_i g x ha
    cases hE : isEsc P g <;> rw [hE] at hs <;> simp only [cond_true, cond_false, reduceCtorEq] at hs
    rw [toList_one ha]
    exact yEs_ok h id hE hs ho
  · cases hs

theorem stepY_ok (h : Pre P G E w hp fr a) {o : Op} {u : Up} (hs : stepY P (fo hp) nx fr o = some u) (hnx : nx < u.hi → ¬ E.born nx) (ho : u.owe) : Land P G E w hp nx ⟨d, o, ty, pos, af, gd⟩ a u := by
  cases o <;> simp only [stepY, reduceCtorEq] at hs
  case convert src dst x => exact yConv_ok h id hs ho
  case binOp op t x y t2 => exact yPtr_ok h id hs ho
  case call c => exact yCall_ok h hs hnx ho

theorem stepY_hi {op : Op} {u : Up} (h : stepY P ob nx fr op = some u) : nx ≤ u.hi := by
  cases op <;> simp only [stepY, yConv, yPtr, yCall, yEs, yApp, yAppV, yData, yStr, yLen, cond_eq_ite, reduceCtorEq] at h
  all_goals (repeat' (split at h))
  all_goals (first | (cases h; done) | (cases h; simp; done))

theorem stepV_ok (h : Pre P G E w hp fr a) (hCs : ∀ c ∈ Cs, c.Ok P) {op : Op} {u : Up} (hs : stepV P Cs (fo hp) nx fr op = some u) (hnx : ∀ o, nx ≤ o → o < u.hi → ¬ E.born o) (ho : u.owe) :
    Land P G E w hp nx ⟨d, op, ty, pos, af, gd⟩ a u := by
  unfold stepV at hs
  split at hs
  · rename_i u' hu
    cases hs
    exact step_ok h hCs hu hnx ho
  · exact stepY_ok h hs (fun hlt => hnx nx (Nat.le_refl _) hlt) ho

end
end
end Go.Proofs.YtaoplfeohffbiaaGreatDoor.Sx

/-! The symbolic run holds of the machine. -/
namespace Go.Proofs.YtaoplfeohffbiaaGreatDoor.Sx
set_option linter.unusedSimpArgs false
set_option linter.unusedVariables false
set_option linter.unusedSectionVars false
noncomputable section

/-- The fence in which a frame runs: none but for the round that it belongs to. -/
def Fr (r : Option (Nat × Nat)) : Fence := match r with
  | none => Fence.wide
  | some (_, l) => Fence.wide.inRound l
theorem Fr_fn {r : Option (Nat × Nat)} {f : FuncId} : (Fr r).fn f := by cases r <;> trivial
theorem Fr_depth {r : Option (Nat × Nat)} : (Fr r).depth = none := by cases r <;> rfl
theorem Fr_room {r : Option (Nat × Nat)} {n : Nat} : (Fr r).room n := fun d hd => by rw [Fr_depth] at hd; cases hd
theorem Fr_n {r : Option (Nat × Nat)} {n : Nat} : (Fr r).depth.isSome = true → 1 ≤ n := by rw [Fr_depth]; exact fun h => by cases h
theorem Fr_fenced {P : Program} {r : Option (Nat × Nat)} {m : Machine} : m.fenced P (Fr r) := by cases r <;> exact fenced_wide P m

theorem comesIn_fr {P : Program} {r : Option (Nat × Nat)} {m m' : Machine} {e : Ending} : ComesIn (Machine.fenced P (Fr r)) P m m' e ↔ Comes P m m' e := by
  cases r <;> exact comesIn_wide
theorem callsIn_fr {P : Program} {r : Option (Nat × Nat)} {n : Nat} {f : FuncId} {args : Array Value} {w : World} {R : Ending → World → Prop} : CallsIn (Fr r) n P f args w R ↔ Calls P f args w R := by
  cases r <;> exact callsIn_wide
theorem rowsIn_fr {P : Program} {r : Option (Nat × Nat)} {n : Nat} {row : String} {args : Array Value} {w : World} {R : Value → World → Prop} (h : Rows P row args w R) : RowsIn (Fr r) n P row args w R := fun c cs _ => by
  obtain ⟨v, w', h1, h2⟩ := h c cs
  exact ⟨v, w', h1, (StepsIn.of_steps h2).mono fun _ _ => Fr_fenced⟩

/-- What holds of an operation holds of it in any round, but for a deferred call. -/
theorem op_in {P : Program} {r : Option (Nat × Nat)} {o : Oper} {a : Act} {w : World} {K : Act → World → Prop} {Q : Exit → Act → World → Prop} (hd : ∀ c, o.op ≠ .defer c) (h : o.wp P a w K Q) : o.wpIn (Fr r) 0 P a w K Q := by
  unfold Oper.wp at h
  refine ⟨fun _ _ => Fr_fn, ?_⟩
  have e : o.semAt (Fr r).round a.eval = execOp a.eval o := by
    cases r with
    | none => exact Oper.semAt_none ..
    | some p => exact Oper.semAt_some _ _ _ hd
  rw [e]
  generalize (execOp a.eval o).run P w = x at *
  cases x with
  | ok x w' => cases x with
    | value v => exact h
    | skip => exact h
    | defer d => exact h
    | enter f args => exact ⟨Fr_n, callsIn_fr.2 h⟩
    | row row args => exact ⟨Fr_n, rowsIn_fr h⟩
    | _ => exact h.elim
  | halt x w' => cases x <;> exact h

/-- What stays from a frame to those that it runs. -/
def Ctx.core (G : Ctx) : Option (Env × World) × World × (Nat → Prop) × (Nat → Prop) := (G.st0, G.w0, G.mod, G.bad)
/-- What a walk may ask of where it began: nothing, but where a law says otherwise. -/
class FactG where
  F : Option (Env × World) × World × (Nat → Prop) × (Nat → Prop) → Prop
instance (priority := low) factT : FactG := ⟨fun _ => True⟩
class AllF [FactG] : Prop where
  all : ∀ c, FactG.F c
instance allT : @AllF factT := ⟨fun _ => trivial⟩

/-- The marks of the loops that the frame has begun. -/
def MarkAt (G : Ctx) (b : Nat) : Prop := (G.w0.heap.size ≤ b ∨ G.mod b) ∧ ∀ E0 w1, G.st0 = some (E0, w1) → w1.heap.size ≤ b
def Marks (G : Ctx) (w : World) (ds : List Deferred) : Prop := ∃ bs : List Nat, ds = bs.map (fun b => { target := .collected b, args := #[] }) ∧ (bs ++ G.mrk).Nodup ∧ ∀ b ∈ bs, MarkAt G b ∧ w.heap[b]? = some (.deferred (some []))
theorem Marks.evo {G : Ctx} {E E' : Env} {w w' : World} {ds : List Deferred} (m : Marks G w ds) (h : Evo E E' w w') : Marks G w' ds := by
  obtain ⟨bs, e, hn, hb⟩ := m
  exact ⟨bs, e, hn, fun b hm => ⟨(hb b hm).1, h.oth b _ (hb b hm).2⟩⟩

structure Conc (P : Program) (G : Ctx) (st : St) (E : Env) (a : Act) (w : World) : Prop where
  pre : Pre P G E w st.hp st.fr a
  born : ∀ i, E.born i → i < st.nx
  len : a.tmps.size = st.fr.length
  dfr : Marks G w a.defers
  rd : ∀ p, G.rd = some p → p ∈ G.rds

/-- Code as it is walked in the frame's round. -/
abbrev cwp (P : Program) (G : Ctx) (c : Code) (Q : Exit → Act → World → Prop) (a : Act) (w : World) : Prop := c.wpIn (Fr G.rd) 0 P Q a w

/-- With an item x of its own behind the code c. -/
def BehW (P : Program) (G : Ctx) (x : Item) (c : Code) (Q : Exit → Act → World → Prop) (a : Act) (w : World) : Prop :=
  ∀ (b : Frame) (k : List Item) (cs : List Frame), b.roundOf = (Fr G.rd).round → ∃ e a' w', Q e a' w' ∧ ArrivesIn (Machine.fenced P (Fr G.rd)) P (lone (b.atR a (.code c :: x :: k)) cs w) b k cs e a' w'

/-- At a loop's head, behind its test's jump. -/
abbrev LoopW (P : Program) (G : Ctx) (c : Code) (Q : Exit → Act → World → Prop) (a : Act) (w : World) : Prop := BehW P G (.inLoop c) c Q a w

theorem LoopW.round {P : Program} {G : Ctx} {c : Code} {Q : Exit → Act → World → Prop} {a : Act} {w : World} (h : cwp P G c (Exit.then (LoopW P G c Q) Q) a w) : LoopW P G c Q a w := by
  intro b k cs hro
  obtain ⟨e, a₁, w₁, hq, harr⟩ := h b (.inLoop c :: k) cs hro Fr_fn Fr_room
  cases e with
  | normal =>
    obtain ⟨e₂, a₂, w₂, hq₂, harr₂⟩ := hq b k cs hro
    exact ⟨e₂, a₂, w₂, hq₂, .of_steps (StepsIn.trans harr (.one Fr_fenced stepR_inLoop)) harr₂⟩
  | exit id => exact ⟨_, a₁, w₁, hq, .pass (x := .inLoop c) rfl (fun _ _ => .inl (by simp)) harr⟩
  | goto l => exact ⟨_, a₁, w₁, hq, .pass (x := .inLoop c) rfl (fun _ _ => .inl (by simp)) harr⟩
  | ret => exact ⟨_, a₁, w₁, hq, .pass (x := .inLoop c) rfl (fun _ _ => .inl (by simp)) harr⟩
  | panic ch => exact ⟨_, a₁, w₁, hq, .pass (x := .inLoop c) rfl (fun _ _ => .inl (by simp)) harr⟩
  | outgrown => exact ⟨_, a₁, w₁, hq, .pass (x := .inLoop c) rfl (fun _ _ => .inl (by simp)) harr⟩

theorem LoopW.loop {P : Program} {G : Ctx} {c : Code} {Q : Exit → Act → World → Prop} {a : Act} {w : World} (h : LoopW P G c Q a w) : cwp P G (.loop c) Q a w := by
  intro b k cs hro _ _
  obtain ⟨e, a', w', hq, harr⟩ := h b k cs hro
  exact ⟨e, a', w', hq, .of_steps (.one Fr_fenced stepR_loop) harr⟩

theorem stepR_scope' {P : Program} {b : Frame} {a : Act} {k : List Item} {cs : List Frame} {w : World} {c : Code} : step P (lone (b.atR a (.code (.scope c) :: k)) cs w) = .next (lone (b.atR a (.code c :: .inScope c :: k)) cs w) :=
  step_lone_go (by simp [stepG, stepG.exec, Frame.atR])
theorem stepR_inScope' {P : Program} {b : Frame} {a : Act} {k : List Item} {cs : List Frame} {w : World} {c : Code} : step P (lone (b.atR a (.inScope c :: k)) cs w) = .next (lone (b.atR a k) cs w) :=
  step_lone_go (by simp [stepG, stepG.exec, Frame.atR])

/-- What is owed behind the code c of a scope, by the way in which it is left. -/
def scpQ (P : Program) (G : Ctx) (c : Code) (Q : Exit → Act → World → Prop) : Exit → Act → World → Prop
  | .goto l, a, w => match findLabel c l with
    | some rest => BehW P G (.inScope c) rest Q a w
    | none => Q (.goto l) a w
  | e, a, w => Q e a w

theorem ScW.of {P : Program} {G : Ctx} {x c : Code} {Q : Exit → Act → World → Prop} {a : Act} {w : World} (h : cwp P G x (scpQ P G c Q) a w) : BehW P G (.inScope c) x Q a w := by
  intro b k cs hro
  obtain ⟨e, a₁, w₁, hq, harr⟩ := h b (.inScope c :: k) cs hro Fr_fn Fr_room
  cases e with
  | normal => exact ⟨.normal, a₁, w₁, hq, StepsIn.trans harr (.one Fr_fenced stepR_inScope')⟩
  | exit id => exact ⟨.exit id, a₁, w₁, hq, fun k' hk => harr.1 k' (by simp [exitTo, hk]), fun hr hk => harr.2 hr (by simp [exitTo, hk])⟩
  | goto l =>
    cases hf : findLabel c l with
    | some rest =>
      have hq : BehW P G (.inScope c) rest Q a₁ w₁ := by simpa only [scpQ, hf] using hq
      obtain ⟨e₂, a₂, w₂, hq₂, harr₂⟩ := hq b k cs hro
      exact ⟨e₂, a₂, w₂, hq₂, .of_steps (harr.1 _ (by simp [gotoIn, hf])) harr₂⟩
    | none =>
      have hq : Q (.goto l) a₁ w₁ := by simpa only [scpQ, hf] using hq
      exact ⟨.goto l, a₁, w₁, hq, fun k' hk => harr.1 k' (by simp [gotoIn, hf, hk]), fun hr hk => harr.2 hr (by simp [gotoIn, hf, hk])⟩
  | ret => exact ⟨_, a₁, w₁, hq, harr⟩
  | panic ch => exact ⟨_, a₁, w₁, hq, harr⟩
  | outgrown => exact ⟨_, a₁, w₁, hq, harr⟩

theorem ScW.scope {P : Program} {G : Ctx} {c : Code} {Q : Exit → Act → World → Prop} {a : Act} {w : World} (h : BehW P G (.inScope c) c Q a w) : cwp P G (.scope c) Q a w := by
  intro b k cs hro _ _
  obtain ⟨e, a', w', hq, harr⟩ := h b k cs hro
  exact ⟨e, a', w', hq, .of_steps (.one Fr_fenced stepR_scope') harr⟩

/-- What is owed where a stack of code is left in some way. -/
def kont (P : Program) (G : Ctx) (B : Exit → Act → World → Prop) : List It → Exit → Act → World → Prop
  | [], e, a, w => B e a w
  | .c c :: k, e, a, w => match e with
    | .normal => cwp P G c (kont P G B k) a w
    | e => kont P G B k e a w
  | .ops all l :: k, e, a, w => match e with
    | .normal => wpListIn (Fr G.rd) 0 P all.toArray (kont P G B k) l a w
    | e => kont P G B k e a w
  | .blk id :: k, e, a, w => match e with
    | .exit id' => if id' = id then kont P G B k .normal a w else kont P G B k (.exit id') a w
    | e => kont P G B k e a w
  | .fin J :: k, e, a, w => match e with
    | .normal => ∃ st E, Conc P G st E a w ∧ J st
    | e => kont P G B k e a w
  | .scp c :: k, e, a, w => scpQ P G c (kont P G B k) e a w
  | .lp c :: k, e, a, w => match e with
    | .normal => LoopW P G c (kont P G B k) a w
    | e => kont P G B k e a w
  | .beg o :: k, e, a, w => match e with
    | .normal => ∀ l, G.rd = some (o, l) → ∃ w', (Instr.beginRound l).run P w = .ok () w' ∧ kont P G B k .normal a w'
    | _ => False
  | .rnd X :: _, e, a, w => ∃ st E, Conc P G st E a w ∧ X e st

def Ok (P : Program) (G : Ctx) (B : Exit → Act → World → Prop) (k : List It) (st : St) : Prop := ∀ E a w, Conc P G st E a w → kont P G B k .normal a w

theorem kont_ret {P : Program} {G : Ctx} {B : Exit → Act → World → Prop} {a : Act} {w : World} : ∀ (k : List It), (∀ X, rndK k = some X → ∃ st E, Conc P G st E a w ∧ X .ret st) → (rndK k = none → B .ret a w) → kont P G B k .ret a w
  | [], _, h => h rfl
  | .c _ :: k, h1, h2 => kont_ret k h1 h2
  | .ops _ _ :: k, h1, h2 => kont_ret k h1 h2
  | .blk _ :: k, h1, h2 => kont_ret k h1 h2
  | .fin _ :: k, h1, h2 => kont_ret k h1 h2
  | .scp _ :: k, h1, h2 => kont_ret k h1 h2
  | .lp _ :: k, h1, h2 => kont_ret k h1 h2
  | .beg _ :: k, h1, _ => (h1 noX rfl).elim fun _ h => h.elim fun _ h => h.2
  | .rnd X :: _, h1, _ => h1 X rfl

theorem kont_jump {P : Program} {G : Ctx} {B : Exit → Act → World → Prop} {id : Nat} : ∀ (k k' : List It) (a : Act) (w : World), jump id k = some k' → kont P G B k' .normal a w → kont P G B k (.exit id) a w
  | [], _, _, _, h, _ => by cases h
  | .c _ :: k, k', a, w, h, hk => kont_jump k k' a w h hk
  | .ops _ _ :: k, k', a, w, h, hk => kont_jump k k' a w h hk
  | .fin _ :: k, k', a, w, h, hk => kont_jump k k' a w h hk
  | .scp _ :: k, k', a, w, h, hk => kont_jump k k' a w h hk
  | .lp _ :: k, k', a, w, h, hk => kont_jump k k' a w h hk
  | .beg _ :: _, _, _, _, h, _ => by cases h
  | .rnd _ :: _, _, _, _, h, _ => by cases h
  | .blk id' :: k, k', a, w, h, hk => by
    simp only [jump] at h
    show if id = id' then kont P G B k .normal a w else kont P G B k (.exit id) a w
    cases hb : id' == id <;> rw [hb] at h <;> simp only [cond_true, cond_false] at h
    · have hne : id ≠ id' := by simpa using Ne.symm (by simpa using hb)
      rw [if_neg hne]
      exact kont_jump k k' a w h hk
    · have e : id = id' := by simpa using (show id' = id by simpa using hb).symm
      cases h
      rw [if_pos e]; exact hk

theorem kont_exit {P : Program} {G : Ctx} {B : Exit → Act → World → Prop} {id : Nat} {a : Act} {w : World} : ∀ (k : List It) (X : Exit → St → Prop), jump id k = none → rndK k = some X → (∃ st E, Conc P G st E a w ∧ X (.exit id) st) → kont P G B k (.exit id) a w
  | [], _, _, h, _ => by cases h
  | .c _ :: k, X, h, h1, h2 => kont_exit k X h h1 h2
  | .ops _ _ :: k, X, h, h1, h2 => kont_exit k X h h1 h2
  | .fin _ :: k, X, h, h1, h2 => kont_exit k X h h1 h2
  | .scp _ :: k, X, h, h1, h2 => kont_exit k X h h1 h2
  | .lp _ :: k, X, h, h1, h2 => kont_exit k X h h1 h2
  | .beg _ :: _, X, _, h1, h2 => by cases h1; exact h2.elim fun _ h => h.elim fun _ h => h.2
  | .rnd _ :: _, X, _, h1, h2 => by cases h1; exact h2
  | .blk id' :: k, X, h, h1, h2 => by
    simp only [jump] at h
    show if id = id' then kont P G B k .normal a w else kont P G B k (.exit id) a w
    cases hb : id' == id <;> rw [hb] at h <;> simp only [cond_true, cond_false] at h
    · have hne : id ≠ id' := by simpa using Ne.symm (by simpa using hb)
      rw [if_neg hne]
      exact kont_exit k X h h1 h2
    · cases h

theorem kont_goto {P : Program} {G : Ctx} {B : Exit → Act → World → Prop} {l : Nat} : ∀ (k k' : List It) (a : Act) (w : World), gotoK l k = some k' → kont P G B k' .normal a w → kont P G B k (.goto l) a w
  | [], _, _, _, h, _ => by cases h
  | .c _ :: k, k', a, w, h, hk => kont_goto k k' a w h hk
  | .ops _ _ :: k, k', a, w, h, hk => kont_goto k k' a w h hk
  | .fin _ :: k, k', a, w, h, hk => kont_goto k k' a w h hk
  | .lp _ :: k, k', a, w, h, hk => kont_goto k k' a w h hk
  | .blk _ :: k, k', a, w, h, hk => kont_goto k k' a w h hk
  | .beg _ :: _, _, _, _, h, _ => by cases h
  | .rnd _ :: _, _, _, _, h, _ => by cases h
  | .scp c :: k, k', a, w, h, hk => by
    simp only [gotoK] at h
    show scpQ P G c (kont P G B k) (.goto l) a w
    cases hf : findLabel c l with
    | some rest =>
      rw [hf] at h
      cases h
      simp only [scpQ, hf]
      exact ScW.of (Code.wpIn_mono (fun e a w q => by cases e <;> exact q) hk)
    | none =>
      rw [hf] at h
      simp only [scpQ, hf]
      exact kont_goto k k' a w h hk

theorem kont_gone {P : Program} {G : Ctx} {B : Exit → Act → World → Prop} {l : Nat} {a : Act} {w : World} : ∀ (k : List It) (X : Exit → St → Prop), gotoK l k = none → rndK k = some X → (∃ st E, Conc P G st E a w ∧ X (.goto l) st) → kont P G B k (.goto l) a w
  | [], _, _, h, _ => by cases h
  | .c _ :: k, X, h, h1, h2 => kont_gone k X h h1 h2
  | .ops _ _ :: k, X, h, h1, h2 => kont_gone k X h h1 h2
  | .fin _ :: k, X, h, h1, h2 => kont_gone k X h h1 h2
  | .lp _ :: k, X, h, h1, h2 => kont_gone k X h h1 h2
  | .blk _ :: k, X, h, h1, h2 => kont_gone k X h h1 h2
  | .beg _ :: _, X, _, h1, h2 => by cases h1; exact h2.elim fun _ h => h.elim fun _ h => h.2
  | .rnd _ :: _, X, _, h1, h2 => by cases h1; exact h2
  | .scp c :: k, X, h, h1, h2 => by
    simp only [gotoK] at h
    show scpQ P G c (kont P G B k) (.goto l) a w
    cases hf : findLabel c l with
    | some rest => rw [hf] at h; cases h
    | none =>
      rw [hf] at h
      simp only [scpQ, hf]
      exact kont_gone k X h h1 h2

theorem gl_sl : ∀ (l : List SV) (i : Nat) (v : SV) (j : Nat), gl (sl l i v) j = if j = i ∧ i < l.length then v else gl l j
  | [], _, _, _ => by simp [sl_nil, sl_zero, sl_succ, gl_nil, gl_zero, gl_succ]
  | x :: l, 0, v, 0 => by simp [sl_nil, sl_zero, sl_succ, gl_nil, gl_zero, gl_succ]
  | x :: l, 0, v, j + 1 => by simp [sl_nil, sl_zero, sl_succ, gl_nil, gl_zero, gl_succ]
  | x :: l, i + 1, v, 0 => by simp [sl_nil, sl_zero, sl_succ, gl_nil, gl_zero, gl_succ]
  | x :: l, i + 1, v, j + 1 => by simp [sl_nil, sl_zero, sl_succ, gl_nil, gl_zero, gl_succ, gl_sl l i v j]

theorem sl_len : ∀ (l : List SV) (i : Nat) (v : SV), (sl l i v).length = l.length
  | [], _, _ => rfl
  | x :: l, 0, v => rfl
  | x :: l, i + 1, v => by simp [sl_nil, sl_zero, sl_succ, sl_len l i v]

theorem gl_out : ∀ (l : List SV) (i : Nat), l.length ≤ i → gl l i = .unk
  | [], _, _ => rfl
  | x :: l, 0, h => by simp at h
  | x :: l, i + 1, h => by simpa [gl_nil, gl_zero, gl_succ] using gl_out l i (by simpa using h)

section
variable {P : Program} {Cs : List Con} {G : Ctx} {B : Exit → Act → World → Prop}

theorem fr_put {E : Env} {w : World} {fr : List SV} {a : Act} (hlen : a.tmps.size = fr.length) (h : ∀ i, SVok E w (gl fr i) (a.tmps.getD i undef)) {d : Option Tmp} {X : SV} {v : Value} (hv : SVok E w X v) :
    (a.put d v).tmps.size = (setD fr d X).length ∧ ∀ i, SVok E w (gl (setD fr d X) i) ((a.put d v).tmps.getD i undef) := by
  cases d with
  | none => exact ⟨hlen, h⟩
  | some d =>
    refine ⟨by simp [Act.put, setD, sl_len, hlen], fun i => ?_⟩
    simp only [setD, gl_sl]
    by_cases hi : i = d ∧ d < fr.length
    · rw [if_pos hi]
      have hlt' : d < a.tmps.size := by rw [hlen]; exact hi.2
      have : (a.put (some d) v).tmps.getD i undef = v := by
        rw [hi.1]
        simp [Act.put, hlt']
      rw [this]; exact hv
    · rw [if_neg hi]
      have : (a.put (some d) v).tmps.getD i undef = a.tmps.getD i undef := by
        by_cases e : i = d
        · subst e
          have hge : ¬ i < a.tmps.size := fun hlt => hi ⟨rfl, by rw [← hlen]; exact hlt⟩
          simp [Act.put, hge]
        · simp [Act.put, Array.getElem?_setIfInBounds_ne (Ne.symm e)]
      rw [this]; exact h i

theorem put_dfr {a : Act} {d : Option Tmp} {v : Value} {w : World} (h : Marks G w a.defers) : Marks G w (a.put d v).defers := by cases d <;> exact h

/-- Behind a step. -/
theorem Conc.behind {st : St} {E : Env} {a : Act} {w : World} (h : Conc P G st E a w) {d : Option Tmp} {X : SV} {v : Value} {w' : World} {E' : Env} {hp' : List (Nat × Ob)} {m : Nat} (hm : Mem G E' w') (hev : Evo E E' w w')
    (hob : ∀ i, E'.ob i = fo hp' i) (hb : ∀ i, E'.born i → E.born i ∨ (st.nx ≤ i ∧ i < m)) (hv : SVok E' w' X v) (hnm : st.nx ≤ m) : Conc P G ⟨setD st.fr d X, hp', m⟩ E' (a.put d v) w' := by
  obtain ⟨h1, h2⟩ := fr_put (d := d) h.len (fun i => hev.sv (h.pre.fr i)) hv
  exact ⟨⟨hm, hob, h2⟩, fun i hi => by rcases hb i hi with hi | hi; exact Nat.lt_of_lt_of_le (h.born i hi) hnm; exact hi.2, h1, put_dfr (h.dfr.evo hev), h.rd⟩

def isB : Value → Option Bool
  | .bool b => some b
  | _ => none

theorem gvB_ok {E : Env} {w : World} {want : Bool} : ∀ {x : SV} {v : Value} {g : Bool}, SVok E w x v → gvB want x = some g → x ≠ .unk ∧ (isB v == some want) = g
  | .s x, v, g, h, hg => by
    cases x <;> simp only [gvB, reduceCtorEq] at hg
    rename_i b
    cases hg
    have : v = .bool b := h
    subst this
    refine ⟨by simp, ?_⟩
    cases want <;> cases b <;> rfl
  | .gd g' x, v, g, h, hg => by
    simp only [gvB] at hg
    split at hg
    · rename_i b hb
      cases hg
      refine ⟨by simp, ?_⟩
      cases g'
      · rw [h.2 rfl]; rfl
      · rw [(gvB_ok (h.1 rfl) hb).2]; simp
    · cases hg
  | .unk, _, _, _, hg => by cases hg
  | .agg _, _, _, _, hg => by cases hg
  | .tup _, _, _, _, hg => by cases hg

theorem gval_ok {st : St} {E : Env} {a : Act} {w : World} (h : Conc P G st E a w) {all : List Oper} {o : Oper} {j : Nat} {want g : Bool} (hg : o.guard = some (j, want)) (hv : gval all st.fr j want = some g) :
    Region.wanted o (yielded all.toArray a.tmps) = g := by
  unfold gval at hv
  split at hv
  · rename_i oj hoj
    split at hv
    · rename_i d hd
      obtain ⟨hne, hw⟩ := gvB_ok (h.pre.fr d) hv
      have hlt : d < a.tmps.size := by
        rcases Nat.lt_or_ge d st.fr.length with hlt | hge
        · rw [h.len]; exact hlt
        · exact absurd (gl_out _ _ hge) hne
      have hy : yielded all.toArray a.tmps j = isB (a.tmps.getD d undef) := by
        have : a.tmps[d]? = some (a.tmps.getD d undef) := by simp [hlt]
        simp only [yielded, List.getElem?_toArray, hoj, hd, Option.bind_some, this]
        cases a.tmps.getD d undef <;> rfl
      simp only [Region.wanted, hg, hy]
      rw [← hw]
    · cases hv
  · cases hv

theorem sCall_hi {ob : Nat → Ob} {nx : Nat} {fr : List SV} {c : Call} {u : Up} (h : sCall P Cs ob nx fr c = some u) : nx ≤ u.hi := by
  simp only [sCall, upV, cond_eq_ite] at h
  repeat' (split at h)
  all_goals (try (first | (cases h; done) | (cases h; simp; done)))
  rename_i u' hu'
  cases h
  show nx ≤ u'.hi
  simp only [sAppend] at hu'
  repeat' (split at hu')
  all_goals (first | (cases hu'; done) | (cases hu'; simp; done))

theorem stepU_hi {ob : Nat → Ob} {nx : Nat} {fr : List SV} {op : Op} {u : Up} (h : stepU P Cs ob nx fr op = some u) : nx ≤ u.hi := by
  cases op
  case call c => exact sCall_hi h
  case makeFunc fn first caps =>
    cases fn <;> simp only [stepU, uPick, uAlloc, uBox, uLoad, uStore, uBin, uUn, uConv, uExt, uField, uFAddr, uIAddr, uIndex, uSlice, uBSl, uBuild, uNil, uMk, uIfc, uRng, upV, cond_eq_ite, reduceCtorEq] at h
    repeat' (split at h)
    all_goals (first | (cases h; done) | (cases h; simp; done))
  case slice t x lo hi mx =>
    cases mx <;> simp only [stepU, uPick, uAlloc, uBox, uLoad, uStore, uBin, uUn, uConv, uExt, uField, uFAddr, uIAddr, uIndex, uSlice, uBSl, uBuild, uNil, uMk, uIfc, uRng, upV, reduceCtorEq] at h
    repeat' (split at h)
    all_goals (first | (cases h; done) | (cases h; simp; done))
  all_goals simp only [stepU, uPick, uAlloc, uBox, uLoad, uStore, uBin, uUn, uConv, uExt, uField, uFAddr, uIAddr, uIndex, uSlice, uBSl, uBuild, uNil, uMk, uIfc, uRng, upV, cond_eq_ite, reduceCtorEq] at h
  all_goals (repeat' (split at h))
  all_goals (first | (cases h; done) | (cases h; simp; done))

theorem stepU_nd {ob : Nat → Ob} {nx : Nat} {fr : List SV} {op : Op} {u : Up} (h : stepU P Cs ob nx fr op = some u) : ∀ c, op ≠ .defer c := fun c e => by subst e; cases h

theorem Ok.ops_nil {all : List Oper} {k : List It} {st : St} (h : Ok P G B k st) : Ok P G B (.ops all [] :: k) st := fun E a w hc => wpListIn_nil (F := Fr G.rd) (n := 0) (P := P) (ops := all.toArray) (h E a w hc)

theorem stepV_hi {ob : Nat → Ob} {nx : Nat} {fr : List SV} {op : Op} {u : Up} (h : stepV P Cs ob nx fr op = some u) : nx ≤ u.hi := by
  unfold stepV at h
  split at h
  · rename_i u' hu
    cases h
    exact stepU_hi hu
  · exact stepY_hi h

theorem stepV_nd {ob : Nat → Ob} {nx : Nat} {fr : List SV} {op : Op} {u : Up} (h : stepV P Cs ob nx fr op = some u) : ∀ c, op ≠ .defer c := fun c e => by subst e; cases h

theorem Ok.op {all l : List Oper} {o : Oper} {k : List It} {st : St} {u : Up} (hCs : ∀ c ∈ Cs, c.Ok P) (hs : stepV P Cs (fo st.hp) st.nx st.fr o.op = some u) (hg : o.guard = none) (howe : u.owe)
    (h : u.gives → Ok P G B (.ops all l :: k) ⟨setD st.fr o.dst u.val, uos st.hp u.ws, u.hi⟩) : Ok P G B (.ops all (o :: l) :: k) st := by
  intro E a w hc
  refine wpListIn_plain hg fun K hK => ?_
  obtain ⟨d, op, ty, pos, af, gd⟩ := o
  have hL := stepV_ok (d := d) (ty := ty) (pos := pos) (af := af) (gd := gd) hc.pre hCs hs (fun i hi _ hb => by have := hc.born i hb; omega) howe
  exact op_in (stepV_nd hs) <| hL K _ fun v w' E' hm hev hob hb hv hgv => hK _ _ (h hgv E' _ w' (hc.behind hm hev hob hb hv (stepV_hi hs)))

theorem Ok.opg {all l : List Oper} {o : Oper} {k : List It} {st : St} {u : Up} {j : Nat} {want g : Bool} (hCs : ∀ c ∈ Cs, c.Ok P) (hs : stepV P Cs (fo st.hp) st.nx st.fr o.op = some u) (hg : o.guard = some (j, want))
    (hv : gval all st.fr j want = some g) (howe : g = true → u.owe) (h1 : g = true → u.gives → Ok P G B (.ops all l :: k) ⟨setD st.fr o.dst u.val, uos st.hp u.ws, u.hi⟩)
    (h2 : g = false → Ok P G B (.ops all l :: k) ⟨setD st.fr o.dst .unk, st.hp, st.nx⟩) : Ok P G B (.ops all (o :: l) :: k) st := by
  intro E a w hc
  refine wpListIn_step fun K hK => ?_
  have hw := gval_ok hc hg hv
  obtain ⟨d, op, ty, pos, af, gd⟩ := o
  cases g
  · rw [if_neg (by rw [hw]; simp)]
    exact ⟨fun _ _ => Fr_fn, hK _ _ (h2 rfl E _ w (hc.behind hc.pre.mem Evo.rfl' hc.pre.ob (fun i hi => .inl hi) (X := .unk) trivial (Nat.le_refl _)))⟩
  · rw [if_pos hw]
    have hL := stepV_ok (d := d) (ty := ty) (pos := pos) (af := af) (gd := gd) hc.pre hCs hs (fun i hi _ hb => by have := hc.born i hb; omega) (howe rfl)
    exact op_in (stepV_nd hs) <| hL K _ fun v w' E' hm hev hob hb hv hgv => hK _ _ (h1 rfl hgv E' _ w' (hc.behind hm hev hob hb hv (stepV_hi hs)))

theorem Ok.opgd {all l : List Oper} {o : Oper} {k : List It} {st : St} {u : Up} {j : Nat} {want g : Bool} (hCs : ∀ c ∈ Cs, c.Ok P) (hs : stepV P Cs (fo st.hp) st.nx st.fr o.op = some u) (hg : o.guard = some (j, want))
    (hv : gval all st.fr j want = some g) (hws : u.ws = []) (howe : g = true → u.owe) (h : (g = true → u.gives) → Ok P G B (.ops all l :: k) ⟨setD st.fr o.dst (.gd g u.val), st.hp, u.hi⟩) : Ok P G B (.ops all (o :: l) :: k) st := by
  intro E a w hc
  refine wpListIn_step fun K hK => ?_
  have hw := gval_ok hc hg hv
  obtain ⟨d, op, ty, pos, af, gd⟩ := o
  cases g
  · rw [if_neg (by rw [hw]; simp)]
    exact ⟨fun _ _ => Fr_fn, hK _ _ (h (fun h0 => (by cases h0)) E _ w (hc.behind hc.pre.mem Evo.rfl' hc.pre.ob (fun i hi => .inl hi) (X := .gd false u.val) ⟨fun h0 => (by cases h0), fun _ => rfl⟩ (stepV_hi hs)))⟩
  · rw [if_pos hw]
    have hL := stepV_ok (d := d) (ty := ty) (pos := pos) (af := af) (gd := gd) hc.pre hCs hs (fun i hi _ hb => by have := hc.born i hb; omega) (howe rfl)
    exact op_in (stepV_nd hs) <| hL K _ fun v w' E' hm hev hob hb hv hgv => hK _ _ (h (fun _ => hgv) E' _ w' (hc.behind hm hev (by rw [hws] at hob; exact hob) hb (X := .gd true u.val) ⟨fun _ => hv, fun h0 => (by cases h0)⟩ (stepV_hi hs)))

theorem Ok.seq {x y : Code} {k : List It} {st : St} (h : Ok P G B (.c x :: .c y :: k) st) : Ok P G B (.c (.seq x y) :: k) st := fun E a w hc =>
  wpIn_seq (Code.wpIn_mono (fun e a w q => by cases e <;> exact q) (h E a w hc))

theorem Ok.block {id : Nat} {x : Code} {k : List It} {st : St} (h : Ok P G B (.c x :: .blk id :: k) st) : Ok P G B (.c (.block id x) :: k) st := fun E a w hc =>
  wpIn_block (Code.wpIn_mono (fun e a w q => by cases e <;> exact q) (h E a w hc))

theorem Ok.scope {x : Code} {k : List It} {st : St} (h : Ok P G B (.c x :: .scp x :: k) st) : Ok P G B (.c (.scope x) :: k) st := fun E a w hc =>
  ScW.scope (ScW.of (Code.wpIn_mono (fun e a w q => by cases e <;> exact q) (h E a w hc)))

theorem Ok.lp {x : Code} {k : List It} {st : St} (h : Ok P G B (.c x :: .lp x :: k) st) : Ok P G B (.lp x :: k) st := fun E a w hc =>
  LoopW.round (Code.wpIn_mono (fun e a w q => by cases e <;> exact q) (h E a w hc))

theorem Ok.unroll {x : Code} {k : List It} {st : St} (h : Ok P G B (.c x :: .lp x :: k) st) : Ok P G B (.c (.loop x) :: k) st := fun E a w hc =>
  LoopW.loop (LoopW.round (Code.wpIn_mono (fun e a w q => by cases e <;> exact q) (h E a w hc)))

theorem Ok.cond {x : Operand} {p q : Code} {k : List It} {st : St} {t : Bool} (hx : pkV (ev st.fr x) = .s (.bool t)) (hk : pkP (ev st.fr x)) (h1 : t = true → Ok P G B (.c p :: k) st) (h2 : t = false → Ok P G B (.c q :: k) st) :
    Ok P G B (.c (.cond x p q) :: k) st := fun E a w hc => by
  have := hc.pre.pk hk
  rw [hx] at this
  exact wpIn_cond_split this (fun ht => h1 ht E a w hc) (fun ht => h2 ht E a w hc)

theorem Ok.condM {x : Operand} {p q : Code} {k : List It} {st : St} {t f : Bool} (hx : pkV (ev st.fr x) = .s (.mb t f)) (hk : pkP (ev st.fr x)) (h1 : t = true → Ok P G B (.c p :: k) st) (h2 : f = true → Ok P G B (.c q :: k) st) :
    Ok P G B (.c (.cond x p q) :: k) st := fun E a w hc => by
  have := hc.pre.pk hk
  rw [hx] at this
  obtain ⟨b, e, k1, k2⟩ := this
  exact wpIn_cond_split e (fun ht => h1 (k1 ht) E a w hc) (fun ht => h2 (k2 ht) E a w hc)

theorem Ok.region {id : Nat} {ops : Array Oper} {k : List It} {st : St} (h : Ok P G B (.ops ops.toList ops.toList :: k) st) : Ok P G B (.c (.region id ops false) :: k) st := fun E a w hc => by
  have := h E a w hc
  have h' : wpListIn (Fr G.rd) 0 P ops.toList.toArray (kont P G B k) ops.toList a w := this
  rw [Array.toArray_toList] at h'
  exact wpIn_region_list h'

/-! ### A frame's end, its marks -/
structure Calm (w w' : World) : Prop where
  cells : ∀ (b : Nat) cs T fz, w.heap[b]? = some (.cells cs T fz) → w'.heap[b]? = w.heap[b]?
  loop : ∀ (b : Nat) r, w.heap[b]? = some (.loop r) → w'.heap[b]? = w.heap[b]?
  iter : ∀ (b : Nat) s p, w.heap[b]? = some (.stringIter s p) → w'.heap[b]? = w.heap[b]?
  map : ∀ (b : Nat) s p, w.heap[b]? = some (.map s p) → w'.heap[b]? = w.heap[b]?
  size : w'.heap.size = w.heap.size
  os : w'.os = w.os
  tape : w'.tape = w.tape
  output : w'.output = w.output

theorem cell_calm {w w' : World} (h : Calm w w') {b off : Nat} {u : Value} (hc : w.cell? ⟨b, off, none⟩ = some u) : w'.cell? ⟨b, off, none⟩ = some u := by
  have key : ∃ cs T fz, w.heap[b]? = some (.cells cs T fz) := by
    unfold World.cell? at hc
    split at hc
    · rename_i cs T fz hb
      exact ⟨_, _, _, hb⟩
    · cases hc
  obtain ⟨cs, T, fz, hb⟩ := key
  rw [cell_same (h.cells b cs T fz hb)]; exact hc

theorem Rd.calm {S : Nat → Prop} {w w' : World} (h : Calm w w') : ∀ (t : Ty) (vs : List Value) (x : t.den), Rd S w t vs x → Rd S w' t vs x
  | .int _, _, _, r => r
  | .bool, _, _, r => r
  | .str, _, _, r => r
  | .unit, _, _, r => r
  | .opq, _, _, r => r
  | .pair a b, _, _, ⟨v1, v2, e, r1, r2⟩ => ⟨v1, v2, e, Rd.calm h a v1 _ r1, Rd.calm h b v2 _ r2⟩
  | .slice _ e, _, _, ⟨hl, r⟩ => by
    refine ⟨hl, r.imp id ?_⟩
    rintro ⟨b, off, c, ev, hc, hne, hS, hb, hx⟩
    refine ⟨b, off, c, ev, hc, hne, hS, by rw [h.size]; exact hb, fun i hi => ?_⟩
    obtain ⟨us, hu, hcell, hr⟩ := hx i hi
    exact ⟨us, hu, fun j u hj => cell_calm h (hcell j u hj), Rd.calm h e us _ hr⟩

theorem S1ok.calm {E : Env} {w w' : World} (h : Calm w w') {x : S1} {v : Value} (r : S1ok E w x v) : S1ok E w' x v := by
  cases x with
  | unk => trivial
  | int k n => exact r
  | bool b => exact r
  | mb t f => exact r
  | str s => exact r
  | nils => exact r
  | val u => exact r
  | ro t x => exact Rd.calm h _ _ _ r
  | sub o lo hi =>
    obtain ⟨hb, r⟩ := r
    refine ⟨hb, ?_⟩
    cases ho : E.ob o with
    | dead => rw [ho] at r; exact r
    | box Tb cs => rw [ho] at r; exact r
    | lp s fr ps a b pd => rw [ho] at r; exact r
    | it s2 p2 => rw [ho] at r; exact r
    | mp es2 => rw [ho] at r; exact r
    | arr fz z e xs =>
      rw [ho] at r
      obtain ⟨h1, h2, h3⟩ := r
      refine ⟨h1, h2, ?_⟩
      cases hl : E.loc o with
      | none => rw [hl] at h3; exact h3
      | some p =>
        obtain ⟨b, off⟩ := p
        rw [hl] at h3
        rcases h3 with ⟨c, cs, T, fzz, e1, e2, e3, e4⟩ | h3
        · exact .inl ⟨c, cs, T, fzz, e1, e2, (h.cells b cs T fzz e3).trans e3, e4⟩
        · exact .inr h3
  | pb o off => exact r
  | pe o i off => exact r
  | pr t x off =>
    obtain ⟨b, f, us, e1, hS, hlt, hlen, hc, hr⟩ := r
    exact ⟨b, f, us, e1, hS, by rw [h.size]; exact hlt, hlen, fun j u hj => cell_calm h (hc j u hj), Rd.calm h _ _ _ hr⟩
  | fn f caps => exact r
  | yl o => exact r
  | ifp t o off => exact r
  | ifi t k n => exact r
  | mr o => exact r
  | fb f caps => exact r
  | sb o z off n k =>
    obtain ⟨hb, r⟩ := r
    refine ⟨hb, ?_⟩
    cases ho : E.ob o with
    | dead => rw [ho] at r; exact r
    | arr fz z e xs => rw [ho] at r; exact r
    | lp s fr ps a b pd => rw [ho] at r; exact r
    | it s2 p2 => rw [ho] at r; exact r
    | mp es2 => rw [ho] at r; exact r
    | box Tb cs =>
      rw [ho] at r
      obtain ⟨b, off', c, e1, e2, e3, e4, e5, e6, us, T, fz, e7, e8⟩ := r
      exact ⟨b, off', c, e1, e2, e3, e4, e5, e6, us, T, fz, (h.cells b _ _ _ e7).trans e7, e8⟩

theorem S1sok.calm {E : Env} {w w' : World} (h : Calm w w') {l : List S1} {vs : List Value} (r : S1sok E w l vs) : S1sok E w' l vs := ⟨r.1, fun i x v h1 h2 => (r.2 i x v h1 h2).calm h⟩

theorem SVok.calm {E : Env} {w w' : World} (h : Calm w w') : ∀ {x : SV} {v : Value}, SVok E w x v → SVok E w' x v
  | .unk, _, _ => trivial
  | .s _, _, r => S1ok.calm h r
  | .agg _, _, ⟨vs, e, r⟩ => ⟨vs, e, r.calm h⟩
  | .tup _, _, ⟨vs, e, hl, r⟩ => ⟨vs, e, hl, fun i bl u h1 h2 => ⟨fun hb => let ⟨us, e', r'⟩ := (r i bl u h1 h2).1 hb; ⟨us, e', r'.calm h⟩, fun hb => ((r i bl u h1 h2).2 hb).calm h⟩⟩
  | .gd _ _, _, r => ⟨fun hg => SVok.calm h (r.1 hg), r.2⟩

theorem ObOk.calm {E : Env} {w w' : World} (h : Calm w w') {o : Nat} {x : Ob} (r : ObOk E w o x) : ObOk E w' o x := by
  cases x with
  | dead => trivial
  | box Tb cs =>
    obtain ⟨b, vs, T, h1, h2, h3⟩ := r
    exact ⟨b, vs, T, h1, (h.cells b _ _ _ h2).trans h2, h3.calm h⟩
  | arr fz z e xs =>
    obtain ⟨h0, r⟩ := r
    refine ⟨h0, ?_⟩
    cases hloc : E.loc o with
    | none => rw [hloc] at r; exact r
    | some p =>
      obtain ⟨b, off⟩ := p
      rw [hloc] at r
      obtain ⟨vs, T, fzz, h1, h2, h3, h4⟩ := r
      exact ⟨vs, T, fzz, (h.cells b _ _ _ h1).trans h1, h2, h3, fun i hi => Rd.calm h _ _ _ (h4 i hi)⟩
  | lp s fr ps asg body pd =>
    obtain ⟨b, r, h1, h2, h3, h4, h5, h6, h7, h8, h9⟩ := r
    exact ⟨b, r, h1, (h.loop b _ h2).trans h2, h3, h4, h5, h6, h7, h8, fun i => (h9 i).calm h⟩
  | it s2 p2 =>
    obtain ⟨b, h1, h2, h3⟩ := r
    exact ⟨b, h1, (h.iter b _ _ h2).trans h2, h3⟩
  | mp es2 =>
    obtain ⟨b, ents, c, h1, h2, h3, h4⟩ := r
    exact ⟨b, ents, c, h1, (h.map b _ _ h2).trans h2, h3, fun i x e k1 k2 => ⟨(h4 i x e k1 k2).1.calm h, (h4 i x e k1 k2).2.calm h⟩⟩

/-- A mark's block is shut. -/
theorem shut_run {P : Program} {w : World} {b : Nat} (hb : w.heap[b]? = some (.deferred (some []))) :
    (Instr.takeDeferred b).run P w = .ok [] { w with heap := w.heap.setIfInBounds b (.deferred none) } := by
  simp [Instr.takeDeferred, getObj, setObj, Sem.run, hb]

theorem shut_calm {w : World} {b : Nat} (hb : w.heap[b]? = some (.deferred (some []))) : Calm w { w with heap := w.heap.setIfInBounds b (.deferred none) } := by
  have key : ∀ (b' : Nat) x, w.heap[b']? = some x → x ≠ .deferred (some []) → (w.heap.setIfInBounds b (.deferred none))[b']? = w.heap[b']? := fun b' x hx hne => by
    have : b ≠ b' := fun e => by subst e; rw [hb] at hx; cases hx; exact hne rfl
    rw [Array.getElem?_setIfInBounds_ne this]
  exact ⟨fun b' cs T fz h => key b' _ h (by simp), fun b' r h => key b' _ h (by simp), fun b' s p h => key b' _ h (by simp), fun b' s p h => key b' _ h (by simp), by simp, rfl, rfl, rfl⟩

theorem Conc.shut {st : St} {E : Env} {a : Act} {w : World} (h : Conc P G st E a w) {b : Nat} {bs : List Nat} (hd : a.defers = (b :: bs).map (fun b => { target := .collected b, args := #[] })) (hn : (b :: bs ++ G.mrk).Nodup)
    (hb : ∀ c ∈ b :: bs, MarkAt G c ∧ w.heap[c]? = some (.deferred (some []))) :
    Conc P G st E { a with defers := bs.map (fun b => { target := .collected b, args := #[] }) } { w with heap := w.heap.setIfInBounds b (.deferred none) } := by
  have hc := shut_calm (hb b (List.mem_cons_self ..)).2
  have m := h.pre.mem
  have hne : ∀ c, c ∈ bs ++ G.mrk → b ≠ c := fun c hc e => by
    subst e
    rw [List.cons_append] at hn
    exact (List.nodup_cons.1 hn).1 hc
  have hk : ∀ c ∈ bs ++ G.mrk, ∀ x, w.heap[c]? = some x → (w.heap.setIfInBounds b (.deferred none))[c]? = some x := fun c hc x hx => by
    rw [Array.getElem?_setIfInBounds_ne (hne c hc)]; exact hx
  refine ⟨⟨⟨fun o ho => (m.hp o ho).calm hc, m.unb, m.sep, m.new, m.bad, m.bd, m.os, m.tape, m.output, by rw [hc.size]; exact m.size, fun c hlt hm => ?_, fun p hp => (m.sus p hp).calm hc, fun p hp => ?_, fun c hcm => hk c (List.mem_append_right _ hcm) _ (m.mks c hcm), m.gl, fun E0 w1 h0 => ?_⟩, h.pre.ob, fun i => (h.pre.fr i).calm hc⟩, h.born, h.len, ⟨bs, rfl, ?_, fun c hcm => ⟨(hb c (List.mem_cons_of_mem _ hcm)).1, hk c (List.mem_append_left _ hcm) _ (hb c (List.mem_cons_of_mem _ hcm)).2⟩⟩, h.rd⟩
  · have : b ≠ c := fun e => by
      rcases (hb b (List.mem_cons_self ..)).1.1 with h | h
      · omega
      · exact hm (e ▸ h)
    rw [Array.getElem?_setIfInBounds_ne this]
    exact m.old c hlt hm
  · obtain ⟨k1, k2, r, k3⟩ := m.rdk p hp
    exact ⟨k1, k2, r, (hc.loop _ _ k3).trans k3⟩
  · obtain ⟨g1, g2⟩ := m.ev E0 w1 h0
    have hbig : ∀ c, c < w1.heap.size → (w.heap.setIfInBounds b (.deferred none))[c]? = w.heap[c]? := fun c hc' => by
      have : b ≠ c := fun e => by
        have := (hb b (List.mem_cons_self ..)).1.2 E0 w1 h0
        omega
      rw [Array.getElem?_setIfInBounds_ne this]
    exact ⟨g1, g2.born, g2.keep, g2.own, fun c hc' hn => (hbig c hc').trans (g2.mem c hc' hn), fun c cs T fz hx => by
      obtain ⟨cs', fz', e1, e2⟩ := g2.blk c cs T fz hx
      exact ⟨cs', fz', (hbig c (by
        rcases Nat.lt_or_ge c w1.heap.size with h' | h'
        · exact h'
        · simp [Array.getElem?_eq_none h'] at hx)).trans e1, e2⟩, by rw [hc.size]; exact g2.size, g2.bad, fun c x hx => by
      show OthK x (w.heap.setIfInBounds b (.deferred none))[c]?
      rw [hbig c (by
        rcases Nat.lt_or_ge c w1.heap.size with h' | h'
        · exact h'
        · simp [Array.getElem?_eq_none h'] at hx)]
      exact g2.oth c x hx⟩
  · rw [List.cons_append] at hn
    exact (List.nodup_cons.1 hn).2

/-- A frame leaves, its marks shut one by one. -/
theorem Conc.leave {fn : Func} {R : Ending → World → Prop} {st : St} {E : Env} {a : Act} {w : World} (h : Conc P G st E a w)
    (hR : ∀ a' w', a'.tmps = a.tmps → Conc P G st E a' w' → ∃ v, (results fn a.tmps).run P w' = .ok v w' ∧ R (.returned v) w') : LeavesInM (Fr none) 0 P fn a.tmps R a.defers .returning w := by
  obtain ⟨bs, e, hn, hb⟩ := h.dfr
  have key : ∀ (bs : List Nat) (a' : Act) (w : World), a'.tmps = a.tmps → Conc P G st E a' w → a'.defers = bs.map (fun b => { target := .collected b, args := #[] }) → (bs ++ G.mrk).Nodup → (∀ b ∈ bs, MarkAt G b ∧ w.heap[b]? = some (.deferred (some []))) →
      LeavesInM (Fr none) 0 P fn a.tmps R (bs.map (fun b => { target := .collected b, args := #[] })) .returning w := by
    intro bs
    induction bs with
    | nil => intro a' w ht hc hd _ _; exact hR a' w ht hc
    | cons b bs ih =>
      intro a' w ht hc hd hn hb
      refine ⟨by simp, .inl ⟨b, _, rfl, shut_run (hb b (List.mem_cons_self ..)).2, ?_⟩⟩
      have hc' := hc.shut hd hn hb
      obtain ⟨bs', e', hn', hb'⟩ := hc'.dfr
      have e2 : bs' = bs := by
        have : (bs.map (fun b => ({ target := .collected b, args := #[] } : Deferred))) = bs'.map (fun b => { target := .collected b, args := #[] }) := e'
        have inj : ∀ (l m : List Nat), l.map (fun b => ({ target := .collected b, args := #[] } : Deferred)) = m.map (fun b => { target := .collected b, args := #[] }) → l = m := by
          intro l
          induction l with
          | nil => intro m hm; cases m with
            | nil => rfl
            | cons => simp at hm
          | cons x l ih => intro m hm; cases m with
            | nil => simp at hm
            | cons y m => simp at hm; rw [hm.1, ih m (by simpa using hm.2)]
        exact (inj _ _ this).symm
      subst e2
      exact ih { tmps := a'.tmps, defers := bs'.map (fun b => { target := .collected b, args := #[] }) } _ ht hc' rfl hn' hb'
  rw [e]
  exact key bs a w rfl h e hn hb

end
end
end Go.Proofs.YtaoplfeohffbiaaGreatDoor.Sx

/-! What a symbolic end says of what is handed back. -/
namespace Go.Proofs.YtaoplfeohffbiaaGreatDoor.Sx
set_option linter.unusedSimpArgs false
set_option linter.unusedVariables false
set_option linter.unusedSectionVars false
noncomputable section

theorem fo_app_in {l l' : List (Nat × Ob)} {o : Nat} (h : o ∈ keys l) : fo (l ++ l') o = fo l o := by
  induction l with
  | nil => simp [keys] at h
  | cons p l ih =>
    obtain ⟨j, y⟩ := p
    simp only [List.cons_append, fo_nil, fo_cons]
    cases hb : j == o
    · have : o ∈ keys l := by
        simp only [keys, List.map_cons, List.mem_cons] at h
        rcases h with h | h
        · simp [h] at hb
        · exact h
      exact ih this
    · rfl

theorem fo_app_out {l l' : List (Nat × Ob)} {o : Nat} (h : o ∉ keys l) : fo (l ++ l') o = fo l' o := by
  induction l with
  | nil => rfl
  | cons p l ih =>
    obtain ⟨j, y⟩ := p
    simp only [keys, List.map_cons, List.mem_cons, not_or] at h
    have : (j == o) = false := by simpa using Ne.symm h.1
    simp only [List.cons_append, fo_nil, fo_cons, this, cond_false]
    exact ih h.2

structure Inj (E : Env) (w : World) (t : Ty) (y : t.den) (i : Nat) (us : List Value) (used : List Nat) (loc : Loc) (src : Nat → Option Nat) : Prop where
  cells : ∀ R : Env, (∀ o, i ≤ o → o < i + t.nsl → R.born o ∧ R.ob o = fo (injO t y i) o ∧ R.loc o = loc o) → S1sok R w (injS t y i) us
  obs : ∀ R : Env, (∀ o, i ≤ o → o < i + t.nsl → R.born o ∧ R.ob o = fo (injO t y i) o ∧ R.loc o = loc o) → (∀ b, R.owned b → E.owned b) → ∀ o, i ≤ o → o < i + t.nsl → ObOk R w o (fo (injO t y i) o)
  whence : ∀ o b f, i ≤ o → o < i + t.nsl → loc o = some (b, f) → ∃ q f', src o = some q ∧ E.loc q = some (b, f') ∧ (E.ob q).mut = true
  mem : ∀ o q, i ≤ o → o < i + t.nsl → src o = some q → q ∈ used
  inj : used.Nodup → ∀ o o' q, i ≤ o → o < i + t.nsl → i ≤ o' → o' < i + t.nsl → src o = some q → src o' = some q → o = o'
  wf : t.wf y

theorem Inj.flat {E : Env} {w : World} {t : Ty} {y : t.den} {i : Nat} {us : List Value} (hn : t.nsl = 0) (hc : ∀ R : Env, S1sok R w (injS t y i) us) (hw : t.wf y) : Inj E w t y i us [] (fun _ => none) (fun _ => none) :=
  ⟨fun R _ => hc R, fun R _ _ o h1 h2 => (by omega), fun o b f _ _ h => (by cases h), fun o q _ _ h => (by cases h), fun _ o o' q h1 h2 => (by omega), hw⟩

theorem inj_ok {G : Ctx} {E : Env} {w : World} {hp : List (Nat × Ob)} (m : Mem G E w) (hob : ∀ i, E.ob i = fo hp i) :
    ∀ (t : Ty) (l : List S1) (y : t.den) (i : Nat) (vs : List Value) (p : Prop) (u : List Nat) (r : List S1), mt (fo hp) t l y = some (p, u, r) → p → S1sok E w l vs →
      ∃ us rest loc src, vs = us ++ rest ∧ S1sok E w r rest ∧ Inj E w t y i us u loc src := by
  intro t
  induction t with
  | int k =>
    intro l y i vs p u r h hp' hl
    match l, h with
    | .int k' n :: r', h =>
      simp only [mt] at h
      cases hk : keq k' k <;> rw [hk] at h <;> simp only [cond_true, cond_false, reduceCtorEq, Option.some.injEq, Prod.mk.injEq] at h
      obtain ⟨rfl, rfl, rfl⟩ := h
      obtain ⟨v, us, rfl, h1, h2⟩ := hl.uncons
      have := keq_eq hk
      subst this
      subst hp'
      exact ⟨[v], us, _, _, rfl, h2, Inj.flat rfl (fun R => .one ⟨h1.1, h1.2⟩) h1.2⟩
  | bool =>
    intro l y i vs p u r h hp' hl
    match l, h with
    | .bool b :: r', h =>
      simp only [mt, Option.some.injEq, Prod.mk.injEq] at h
      obtain ⟨rfl, rfl, rfl⟩ := h
      obtain ⟨v, us, rfl, h1, h2⟩ := hl.uncons
      subst hp'
      exact ⟨[v], us, _, _, rfl, h2, Inj.flat rfl (fun R => .one h1) trivial⟩
  | str =>
    intro l y i vs p u r h hp' hl
    match l, h with
    | .str s :: r', h =>
      simp only [mt, Option.some.injEq, Prod.mk.injEq] at h
      obtain ⟨rfl, rfl, rfl⟩ := h
      obtain ⟨v, us, rfl, h1, h2⟩ := hl.uncons
      subst hp'
      exact ⟨[v], us, _, _, rfl, h2, Inj.flat rfl (fun R => .one h1) h1.2⟩
  | unit =>
    intro l y i vs p u r h hp' hl
    simp only [mt, Option.some.injEq, Prod.mk.injEq] at h
    obtain ⟨_, rfl, rfl⟩ := h
    exact ⟨[], vs, _, _, rfl, hl, Inj.flat rfl (fun R => .nil) trivial⟩
  | opq =>
    intro l y i vs p u r h hp' hl
    match l, h with
    | .val v' :: r', h =>
      simp only [mt] at h
      cases hk : v'.oneCell' <;> rw [hk] at h <;> simp only [cond_true, cond_false, reduceCtorEq, Option.some.injEq, Prod.mk.injEq] at h
      obtain ⟨rfl, rfl, rfl⟩ := h
      obtain ⟨v, us, rfl, h1, h2⟩ := hl.uncons
      subst hp'
      exact ⟨[v], us, _, _, rfl, h2, Inj.flat rfl (fun R => .one ⟨by rw [show v = _ from h1], hk⟩) hk⟩
    | .ro t' x :: r', h =>
      simp only [mt] at h
      split at h
      · rename_i z hz
        obtain ⟨e, rfl⟩ := cast_some hz
        subst e
        simp only [Option.some.injEq, Prod.mk.injEq] at h
        obtain ⟨rfl, rfl, rfl⟩ := h
        obtain ⟨v, us, rfl, h1, h2⟩ := hl.uncons
        subst hp'
        exact ⟨[v], us, _, _, rfl, h2, Inj.flat rfl (fun R => .one h1) h1.2⟩
      · cases h
  | pair a b iha ihb =>
    intro l y i vs p u r h hp' hl
    simp only [mt] at h
    split at h
    · rename_i p1 u1 l' h1
      split at h
      · rename_i p2 u2 l'' h2
        simp only [Option.some.injEq, Prod.mk.injEq] at h
        obtain ⟨rfl, rfl, rfl⟩ := h
        obtain ⟨usA, restA, locA, srcA, rfl, sA, jA⟩ := iha l y.1 i vs p1 u1 l' h1 hp'.1 hl
        obtain ⟨usB, restB, locB, srcB, rfl, sB, jB⟩ := ihb l' y.2 (i + a.nsl) restA p2 u2 l'' h2 hp'.2 sA
        have kA := (injO_keys a y.1 i).1
        have kB := (injO_keys b y.2 (i + a.nsl)).1
        have foA : ∀ o, i ≤ o → o < i + a.nsl → fo (injO (.pair a b) y i) o = fo (injO a y.1 i) o := by
          intro o _ h2
          show fo (injO a y.1 i ++ injO b y.2 (i + a.nsl)) o = _
          by_cases hk : o ∈ keys (injO a y.1 i)
          · exact fo_app_in hk
          · rw [fo_app_out hk, fo_not hk, fo_not (fun hkb => by have := kB o hkb; omega)]
        have foB : ∀ o, i + a.nsl ≤ o → fo (injO (.pair a b) y i) o = fo (injO b y.2 (i + a.nsl)) o := by
          intro o h1
          exact fo_app_out (fun hk => by have := kA o hk; omega)
        have hn : (Ty.pair a b).nsl = a.nsl + b.nsl := rfl
        refine ⟨usA ++ usB, restB, fun o => if o < i + a.nsl then locA o else locB o, fun o => if o < i + a.nsl then srcA o else srcB o, by simp, sB, ?_⟩
        have RA : ∀ R : Env, (∀ o, i ≤ o → o < i + (Ty.pair a b).nsl → R.born o ∧ R.ob o = fo (injO (.pair a b) y i) o ∧ R.loc o = if o < i + a.nsl then locA o else locB o) →
            (∀ o, i ≤ o → o < i + a.nsl → R.born o ∧ R.ob o = fo (injO a y.1 i) o ∧ R.loc o = locA o) ∧
            (∀ o, i + a.nsl ≤ o → o < i + a.nsl + b.nsl → R.born o ∧ R.ob o = fo (injO b y.2 (i + a.nsl)) o ∧ R.loc o = locB o) := by
          intro R hR
          refine ⟨fun o h1 h2 => ?_, fun o h1 h2 => ?_⟩
          · obtain ⟨r1, r2, r3⟩ := hR o h1 (by omega)
            exact ⟨r1, r2.trans (foA o h1 h2), by rw [r3, if_pos h2]⟩
          · obtain ⟨r1, r2, r3⟩ := hR o (by omega) (by omega)
            exact ⟨r1, r2.trans (foB o h1), by rw [r3, if_neg (by omega)]⟩
        refine ⟨fun R hR => (jA.cells R (RA R hR).1).append (jB.cells R (RA R hR).2), fun R hR ho o h1 h2 => ?_, fun o b' f h1 h2 h3 => ?_, fun o q h1 h2 h3 => ?_, fun hnd o o' q h1 h2 h3 h4 h5 h6 => ?_, ⟨jA.wf, jB.wf⟩⟩
        · by_cases hlt : o < i + a.nsl
          · rw [foA o h1 hlt]; exact jA.obs R (RA R hR).1 ho o h1 hlt
          · rw [foB o (by omega)]; exact jB.obs R (RA R hR).2 ho o (by omega) (by omega)
        · by_cases hlt : o < i + a.nsl
          · simp only [if_pos hlt] at h3 ⊢; exact jA.whence o b' f h1 hlt h3
          · simp only [if_neg hlt] at h3 ⊢; exact jB.whence o b' f (by omega) (by omega) h3
        · by_cases hlt : o < i + a.nsl
          · simp only [if_pos hlt] at h3; exact List.mem_append_left _ (jA.mem o q h1 hlt h3)
          · simp only [if_neg hlt] at h3; exact List.mem_append_right _ (jB.mem o q (by omega) (by omega) h3)
        · obtain ⟨n1, n2, n3⟩ := List.nodup_append.1 hnd
          by_cases hlt : o < i + a.nsl <;> by_cases hlt' : o' < i + a.nsl
          · simp only [if_pos hlt] at h5; simp only [if_pos hlt'] at h6; exact jA.inj n1 o o' q h1 hlt h3 hlt' h5 h6
          · simp only [if_pos hlt] at h5; simp only [if_neg hlt'] at h6
            exact absurd rfl (n3 q (jA.mem o q h1 hlt h5) q (jB.mem o' q (by omega) (by omega) h6))
          · simp only [if_neg hlt] at h5; simp only [if_pos hlt'] at h6
            exact absurd rfl (n3 q (jA.mem o' q h3 hlt' h6) q (jB.mem o q (by omega) (by omega) h5))
          · simp only [if_neg hlt] at h5; simp only [if_neg hlt'] at h6; exact jB.inj n2 o o' q (by omega) (by omega) (by omega) (by omega) h5 h6
      · cases h
    · cases h
  | slice z e ih =>
    intro l y i vs p u r h hp' hl
    match l, h with
    | .nils :: r', h =>
      simp only [mt, Option.some.injEq, Prod.mk.injEq] at h
      obtain ⟨rfl, rfl, rfl⟩ := h
      obtain ⟨v, us, rfl, h1, h2⟩ := hl.uncons
      subst hp'
      refine ⟨[v], us, fun _ => none, fun _ => none, rfl, h2, ⟨fun R hR => .one ?_, fun R hR ho o g1 g2 => ?_, fun o b f _ _ h => (by cases h), fun o q _ _ h => (by cases h), fun _ o o' q g1 g2 g3 g4 h5 => (by cases h5), ⟨by simp, by simp⟩⟩⟩
      · obtain ⟨r1, r2, r3⟩ := hR i (Nat.le_refl _) (by simp [Ty.nsl])
        refine ⟨r1, ?_⟩
        rw [r2]
        simp only [injO, fo_nil, fo_cons, beq_self_eq_true, cond_true]
        refine ⟨Nat.le_refl _, Nat.le_refl _, ?_⟩
        rw [r3]
        exact ⟨h1, rfl⟩
      · have e1 : o = i := by simp [Ty.nsl] at g2; omega
        subst e1
        obtain ⟨r1, r2, r3⟩ := hR o (Nat.le_refl _) (by simp [Ty.nsl])
        simp only [injO, fo_nil, fo_cons, beq_self_eq_true, cond_true]
        refine ⟨by simp, ?_⟩
        rw [r3]
    | .sub o lo hi :: r', h =>
      simp only [mt] at h
      split at h
      · rename_i z' e' xs ho
        split at h
        · rename_i ys hy
          obtain ⟨e2, rfl⟩ := cast_some hy
          cases e2
          simp only [Option.some.injEq, Prod.mk.injEq] at h
          obtain ⟨rfl, rfl, rfl⟩ := h
          obtain ⟨v, us, rfl, h1, h2⟩ := hl.uncons
          have hob' : E.ob o = .arr false z e xs := (hob o).trans ho
          have hm := m.hp o h1.1
          rw [hob'] at hm
          have hrd : Rd (fun _ => False) w (.slice z e) [v] ((xs.drop lo).take (hi - lo)) := sub_rd (S' := fun _ => False) (fun _ hb => hb.elim) hob' hm h1 (fun _ _ _ hf => hf)
          have hwf := Rd.wf _ _ _ hrd
          obtain ⟨_, h1⟩ := h1
          rw [hob'] at h1
          obtain ⟨g1, g2, g3⟩ := h1
          have hlen : ((xs.drop lo).take (hi - lo)).length = hi - lo := by simp; omega
          change (xs.drop lo).take (hi - lo) = y at hp'
          rw [hp'] at hrd hwf hlen
          refine ⟨[v], us, fun _ => match E.loc o with | none => none | some (b, off) => some (b, off + lo * e.n), fun _ => some o, rfl, h2, ⟨fun R hR => .one ?_, fun R hR hown q k1 k2 => ?_, fun q b f _ _ hq => ?_, fun q q' _ _ hq => ?_, fun _ q q' _ k1 k2 k3 k4 _ _ => (by simp only [Ty.nsl] at k2 k4; omega), hwf⟩⟩
          · obtain ⟨r1, r2, r3⟩ := hR i (Nat.le_refl _) (by simp [Ty.nsl])
            refine ⟨r1, ?_⟩
            rw [r2]
            simp only [injO, fo_nil, fo_cons, beq_self_eq_true, cond_true]
            refine ⟨Nat.zero_le _, Nat.le_refl _, ?_⟩
            rw [r3]
            cases hl' : E.loc o with
            | none =>
              rw [hl'] at g3
              refine ⟨g3.1, ?_⟩
              have := g3.2
              omega
            | some pq =>
              obtain ⟨b, off⟩ := pq
              rw [hl'] at g3
              rcases g3 with ⟨c, cs, T, fzz, e1, k1, k2, k3⟩ | ⟨k1, q, e1⟩
              · refine .inl ⟨c, cs, T, fzz, by rw [e1, hlen]; simp, by omega, k2, ?_⟩
                rw [Nat.zero_add, Nat.add_assoc, ← Nat.add_mul]; exact k3
              · exact .inr ⟨by omega, q, e1⟩
          · have e1 : q = i := by simp [Ty.nsl] at k2; omega
            subst e1
            obtain ⟨r1, r2, r3⟩ := hR q (Nat.le_refl _) (by simp [Ty.nsl])
            simp only [injO, fo_nil, fo_cons, beq_self_eq_true, cond_true]
            obtain ⟨hz, hm⟩ := hm
            refine ⟨hrd.1, ?_⟩
            rw [r3]
            cases hl' : E.loc o with
            | none =>
              rw [hl'] at g3
              have := g3.2
              exact List.eq_nil_of_length_eq_zero (by omega)
            | some pq =>
              obtain ⟨b, off⟩ := pq
              rw [hl'] at hm
              obtain ⟨vs', T, fzz, n1, n2, n3, n4⟩ := hm
              refine ⟨vs', T, fzz, n1, n2, ?_, fun j hj => ?_⟩
              · rw [hlen]
                have := Nat.mul_le_mul_right e.n g2
                have e3 : lo * e.n + (hi - lo) * e.n = hi * e.n := by rw [← Nat.add_mul]; congr 1; omega
                omega
              · have hj' : lo + j < xs.length := by omega
                have e4 : y[j] = xs[lo + j] := by
                  have : y[j] = ((xs.drop lo).take (hi - lo))[j]'(by rw [hp']; exact hj) := by simp only [hp']
                  rw [this]; simp
                rw [e4]
                have e5 : off + lo * e.n + j * e.n = off + (lo + j) * e.n := by rw [Nat.add_mul]; omega
                rw [e5]
                exact Rd.mono (Nat.le_refl _) (fun b' _ hb' => ⟨rfl, fun hR' => hb' (hown b' hR')⟩) _ _ _ (n4 (lo + j) hj')
          · cases hl' : E.loc o with
            | none => rw [hl'] at hq; cases hq
            | some pq =>
              obtain ⟨b', off⟩ := pq
              rw [hl'] at hq
              cases hq
              exact ⟨o, off, rfl, hl', by rw [hob']; rfl⟩
          · cases hq; simp
        · cases h
      · cases h

end
end Go.Proofs.YtaoplfeohffbiaaGreatDoor.Sx

/-! Contracts out of symbolic runs. -/
namespace Go.Proofs.YtaoplfeohffbiaaGreatDoor.Sx
set_option linter.unusedSimpArgs false
set_option linter.unusedVariables false
set_option linter.unusedSectionVars false
noncomputable section

/-- Values of results against their cells. -/
def CompsOk (E : Env) (w : World) (l : List (Bool × List S1)) (vs : List Value) : Prop :=
  vs.length = l.length ∧ ∀ (i : Nat) (bl : Bool × List S1) u, l[i]? = some bl → vs[i]? = some u →
    (bl.1 = true → ∃ us : List Value, u = .agg us.toArray ∧ S1sok E w bl.2 us) ∧ (bl.1 = false → S1sok E w bl.2 [u])

theorem CompsOk.nil {E : Env} {w : World} : CompsOk E w [] [] := ⟨rfl, fun i bl u h => by simp at h⟩

theorem CompsOk.cons {E : Env} {w : World} {bl : Bool × List S1} {u : Value} {l : List (Bool × List S1)} {vs : List Value}
    (h : (bl.1 = true → ∃ us : List Value, u = .agg us.toArray ∧ S1sok E w bl.2 us) ∧ (bl.1 = false → S1sok E w bl.2 [u])) (r : CompsOk E w l vs) : CompsOk E w (bl :: l) (u :: vs) := by
  refine ⟨by simp [r.1], fun i b v h1 h2 => ?_⟩
  cases i with
  | zero => simp at h1 h2; subst h1; subst h2; exact h
  | succ i => exact r.2 i b v (by simpa using h1) (by simpa using h2)

theorem CompsOk.uncons {E : Env} {w : World} {bl : Bool × List S1} {l : List (Bool × List S1)} {vs : List Value} (r : CompsOk E w (bl :: l) vs) :
    ∃ u us', vs = u :: us' ∧ ((bl.1 = true → ∃ us : List Value, u = .agg us.toArray ∧ S1sok E w bl.2 us) ∧ (bl.1 = false → S1sok E w bl.2 [u])) ∧ CompsOk E w l us' := by
  obtain ⟨h1, h2⟩ := r
  cases vs with
  | nil => simp at h1
  | cons u us' => exact ⟨u, us', rfl, h2 0 bl u rfl rfl, by simpa using h1, fun i b v g1 g2 => h2 (i + 1) b v (by simpa using g1) (by simpa using g2)⟩

structure InjL (E : Env) (w : World) (rs : List (Bool × Ty)) (y : (tyL rs).den) (i : Nat) (vs : List Value) (used : List Nat) (loc : Loc) (src : Nat → Option Nat) : Prop where
  cells : ∀ R : Env, (∀ o, i ≤ o → o < i + nslL rs → R.born o ∧ R.ob o = fo (resO rs y i) o ∧ R.loc o = loc o) → CompsOk R w (resL rs y i) vs
  obs : ∀ R : Env, (∀ o, i ≤ o → o < i + nslL rs → R.born o ∧ R.ob o = fo (resO rs y i) o ∧ R.loc o = loc o) → (∀ b, R.owned b → E.owned b) → ∀ o, i ≤ o → o < i + nslL rs → ObOk R w o (fo (resO rs y i) o)
  whence : ∀ o b f, i ≤ o → o < i + nslL rs → loc o = some (b, f) → ∃ q f', src o = some q ∧ E.loc q = some (b, f') ∧ (E.ob q).mut = true
  mem : ∀ o q, i ≤ o → o < i + nslL rs → src o = some q → q ∈ used
  inj : used.Nodup → ∀ o o' q, i ≤ o → o < i + nslL rs → i ≤ o' → o' < i + nslL rs → src o = some q → src o' = some q → o = o'
  wf : (tyL rs).wf y

theorem injL_ok {G : Ctx} {E : Env} {w : World} {hp : List (Nat × Ob)} (m : Mem G E w) (hob : ∀ i, E.ob i = fo hp i) :
    ∀ (rs : List (Bool × Ty)) (l : List (Bool × List S1)) (y : (tyL rs).den) (i : Nat) (vs : List Value) (p : Prop) (u : List Nat), mtL (fo hp) rs l y = some (p, u) → p → CompsOk E w l vs →
      ∃ loc src, InjL E w rs y i vs u loc src
  | [], [], y, i, vs, p, u, h, _, hl => by
    simp only [mtL, Option.some.injEq, Prod.mk.injEq] at h
    obtain ⟨_, rfl⟩ := h
    have : vs = [] := List.eq_nil_of_length_eq_zero hl.1
    subst this
    exact ⟨fun _ => none, fun _ => none, fun R _ => .nil, fun R _ _ o h1 h2 => (by simp [nslL] at h2; omega), fun o b f _ _ h => (by cases h), fun o q _ _ h => (by cases h), fun _ o o' q h1 h2 => (by simp [nslL] at h2; omega), trivial⟩
  | [], _ :: _, _, _, _, _, _, h, _, _ => by simp [mtL] at h
  | _ :: _, [], _, _, _, _, _, h, _, _ => by simp [mtL] at h
  | (b, t) :: rs, (b', cs) :: ls, y, i, vs, p, u, h, hp', hl => by
    simp only [mtL] at h
    cases hb : b == b' <;> rw [hb] at h <;> simp only [cond_true, cond_false] at h
    · cases h
    · have hbb : b = b' := by simpa using hb
      subst hbb
      split at h
      · rename_i p1 u1 p2 u2 h1 h2
        simp only [Option.some.injEq, Prod.mk.injEq] at h
        obtain ⟨rfl, rfl⟩ := h
        obtain ⟨v, vs', rfl, hv, hl'⟩ := hl.uncons
        obtain ⟨locB, srcB, jB⟩ := injL_ok m hob rs ls y.2 (i + t.nsl) vs' p2 u2 h2 hp'.2 hl'
        have hA : ∃ us locA srcA, Inj E w t y.1 i us u1 locA srcA ∧ ((b = true ∧ v = .agg us.toArray) ∨ (b = false ∧ us = [v])) := by
          cases b
          · obtain ⟨us, rest, locA, srcA, e1, s1, jA⟩ := inj_ok m hob t cs y.1 i [v] p1 u1 [] h1 hp'.1 (hv.2 rfl)
            rw [s1.nil_inv, List.append_nil] at e1
            exact ⟨us, locA, srcA, jA, .inr ⟨rfl, e1.symm⟩⟩
          · obtain ⟨us0, rfl, hk⟩ := hv.1 rfl
            obtain ⟨us, rest, locA, srcA, e1, s1, jA⟩ := inj_ok m hob t cs y.1 i us0 p1 u1 [] h1 hp'.1 hk
            rw [s1.nil_inv, List.append_nil] at e1
            exact ⟨us, locA, srcA, jA, .inl ⟨rfl, by rw [e1]⟩⟩
        obtain ⟨usA, locA, srcA, jA, hform⟩ := hA
        have kA := (injO_keys t y.1 i).1
        have kB := (resO_keys rs y.2 (i + t.nsl)).1
        have foA : ∀ o, i ≤ o → o < i + t.nsl → fo (resO ((b, t) :: rs) y i) o = fo (injO t y.1 i) o := by
          intro o _ h2
          show fo (injO t y.1 i ++ resO rs y.2 (i + t.nsl)) o = _
          by_cases hk : o ∈ keys (injO t y.1 i)
          · exact fo_app_in hk
          · rw [fo_app_out hk, fo_not hk, fo_not (fun hkb => by have := kB o hkb; omega)]
        have foB : ∀ o, i + t.nsl ≤ o → fo (resO ((b, t) :: rs) y i) o = fo (resO rs y.2 (i + t.nsl)) o := by
          intro o h1
          exact fo_app_out (fun hk => by have := kA o hk; omega)
        have hn : nslL ((b, t) :: rs) = t.nsl + nslL rs := rfl
        refine ⟨fun o => if o < i + t.nsl then locA o else locB o, fun o => if o < i + t.nsl then srcA o else srcB o, ?_⟩
        have RA : ∀ R : Env, (∀ o, i ≤ o → o < i + nslL ((b, t) :: rs) → R.born o ∧ R.ob o = fo (resO ((b, t) :: rs) y i) o ∧ R.loc o = if o < i + t.nsl then locA o else locB o) →
            (∀ o, i ≤ o → o < i + t.nsl → R.born o ∧ R.ob o = fo (injO t y.1 i) o ∧ R.loc o = locA o) ∧
            (∀ o, i + t.nsl ≤ o → o < i + t.nsl + nslL rs → R.born o ∧ R.ob o = fo (resO rs y.2 (i + t.nsl)) o ∧ R.loc o = locB o) := by
          intro R hR
          refine ⟨fun o h1 h2 => ?_, fun o h1 h2 => ?_⟩
          · obtain ⟨r1, r2, r3⟩ := hR o h1 (by omega)
            exact ⟨r1, r2.trans (foA o h1 h2), by rw [r3, if_pos h2]⟩
          · obtain ⟨r1, r2, r3⟩ := hR o (by omega) (by omega)
            exact ⟨r1, r2.trans (foB o h1), by rw [r3, if_neg (by omega)]⟩
        refine ⟨fun R hR => .cons ?_ (jB.cells R (RA R hR).2), fun R hR ho o h1 h2 => ?_, fun o b' f h1 h2 h3 => ?_, fun o q h1 h2 h3 => ?_, fun hnd o o' q h1 h2 h3 h4 h5 h6 => ?_, ⟨jA.wf, jB.wf⟩⟩
        · have hc := jA.cells R (RA R hR).1
          rcases hform with ⟨rfl, rfl⟩ | ⟨rfl, rfl⟩
          · exact ⟨fun _ => ⟨_, rfl, hc⟩, fun h => (by cases h)⟩
          · exact ⟨fun h => (by cases h), fun _ => hc⟩
        · by_cases hlt : o < i + t.nsl
          · rw [foA o h1 hlt]; exact jA.obs R (RA R hR).1 ho o h1 hlt
          · rw [foB o (by omega)]; exact jB.obs R (RA R hR).2 ho o (by omega) (by omega)
        · by_cases hlt : o < i + t.nsl
          · simp only [if_pos hlt] at h3 ⊢; exact jA.whence o b' f h1 hlt h3
          · simp only [if_neg hlt] at h3 ⊢; exact jB.whence o b' f (by omega) (by omega) h3
        · by_cases hlt : o < i + t.nsl
          · simp only [if_pos hlt] at h3; exact List.mem_append_left _ (jA.mem o q h1 hlt h3)
          · simp only [if_neg hlt] at h3; exact List.mem_append_right _ (jB.mem o q (by omega) (by omega) h3)
        · obtain ⟨n1, n2, n3⟩ := List.nodup_append.1 hnd
          by_cases hlt : o < i + t.nsl <;> by_cases hlt' : o' < i + t.nsl
          · simp only [if_pos hlt] at h5; simp only [if_pos hlt'] at h6; exact jA.inj n1 o o' q h1 hlt h3 hlt' h5 h6
          · simp only [if_pos hlt] at h5; simp only [if_neg hlt'] at h6
            exact absurd rfl (n3 q (jA.mem o q h1 hlt h5) q (jB.mem o' q (by omega) (by omega) h6))
          · simp only [if_neg hlt] at h5; simp only [if_pos hlt'] at h6
            exact absurd rfl (n3 q (jA.mem o' q h3 hlt' h6) q (jB.mem o q (by omega) (by omega) h5))
          · simp only [if_neg hlt] at h5; simp only [if_neg hlt'] at h6; exact jB.inj n2 o o' q (by omega) (by omega) (by omega) (by omega) h5 h6
      · cases h

theorem memN_iff (n : Nat) (l : List Nat) : memN n l = true ↔ n ∈ l := by
  induction l with
  | nil => simp [memN]
  | cons x l ih =>
    simp only [memN]
    cases h : x == n
    · have : ¬ n = x := by simpa using Ne.symm (by simpa using h)
      simp [ih, this]
    · have : n = x := by simpa using (show x = n by simpa using h).symm
      simp [this]

theorem nodupN_ok : ∀ {l : List Nat}, nodupN l = true → l.Nodup
  | [], _ => List.nodup_nil
  | x :: l, h => by
    simp only [nodupN, Bool.and_eq_true] at h
    refine List.nodup_cons.2 ⟨fun hx => ?_, nodupN_ok h.2⟩
    have := (memN_iff x l).2 hx
    rw [this] at h
    simp at h

def rv (tmps : Array Value) : ResultVar → Sem Value
  | .tmp t => pure (tmps.getD t undef)
  | .cell a t => do loadVar t (← asAddr (tmps.getD a undef))

section
variable {P : Program} {Cs : List Con} {G : Ctx} {B : Exit → Act → World → Prop}

theorem compOf_ok {E : Env} {w : World} {X : SV} {v : Value} {c : Bool × List S1} (hX : SVok E w X v) (h : compOf X = some c) : (c.1 = true → ∃ us : List Value, v = .agg us.toArray ∧ S1sok E w c.2 us) ∧ (c.1 = false → S1sok E w c.2 [v]) := by
  cases X <;> simp only [compOf, reduceCtorEq, Option.some.injEq] at h
  · subst h; exact ⟨fun h => (by cases h), fun _ => .one hX⟩
  · subst h; exact ⟨fun _ => hX, fun h => (by cases h)⟩

theorem load_at {E : Env} {w : World} {t : TypeId} {b : Bool} {n off blk o : Nat} (hI : aggI P t = some (b, n)) {l : List S1} {us : List Value} (hs : S1sok E w l us) (hle : off + n ≤ l.length)
    (hc : ∀ j u, us[j]? = some u → w.cell? ⟨blk, o + j, none⟩ = some u) : ∃ v, (loadVar t ⟨blk, o + off, none⟩).run P w = .ok v w ∧ SVok E w (cellOr b l off n) v := by
  have hlen : ((us.drop off).take n).length = n := by have := hs.1; simp; omega
  obtain ⟨v, hr, hv⟩ := run_load (w := w) (blk := blk) (off := o + off) hI hlen (fun j u hj => by
    have hj' : j < n := by
      have := List.getElem?_eq_some_iff.1 hj
      obtain ⟨hlt, _⟩ := this
      simp at hlt
      omega
    rw [List.getElem?_take_of_lt hj', List.getElem?_drop] at hj
    have := hc _ _ hj
    rwa [show o + off + j = o + (off + j) by omega])
  exact ⟨v, hr, cellOr_ok hs hle (aggI_run hI w).2.2 hv⟩

theorem load_ok {hp : List (Nat × Ob)} {fr : List SV} {E : Env} {w : World} {a : Act} (h : Pre P G E w hp fr a) {t : TypeId} {b : Bool} {n : Nat} (hI : aggI P t = some (b, n)) {X : SV} {va : Value} (hx : SVok E w X va) {p : Prop} {v : SV}
    (hs : sLoad (fo hp) b n X = some (p, v)) (howe : p) : ∃ ad u, va = .pointer (some ad) ∧ (loadVar t ad).run P w = .ok u w ∧ SVok E w v u := by
  unfold sLoad at hs
  split at hs
  · rename_i o off
    split at hs
    · rename_i Tb cs ho
      simp only [Option.some.injEq, Prod.mk.injEq] at hs
      obtain ⟨rfl, rfl⟩ := hs
      have hob : E.ob o = .box Tb cs := (h.ob o).trans ho
      obtain ⟨hb, hx⟩ := hx
      rw [hob] at hx
      obtain ⟨blk, hl, hv⟩ := hx
      have hm := h.mem.hp o hb
      rw [hob] at hm
      obtain ⟨blk', vs, T, hl', hh, hsok⟩ := hm
      rw [hl] at hl'
      cases hl'
      obtain ⟨u, h1, h2⟩ := load_at (o := 0) (blk := blk) hI hsok howe (fun j u hj => by rw [Nat.zero_add]; exact cell_of hh (by rw [Array.toList_append, List.getElem?_append_left (List.getElem?_eq_some_iff.1 hj).1]; exact hj))
      rw [Nat.zero_add] at h1
      exact ⟨_, u, hv, h1, h2⟩
    · cases hs
  · rename_i o i off
    split at hs
    · rename_i fz z e xs ho
      simp only [Option.some.injEq, Prod.mk.injEq] at hs
      obtain ⟨rfl, rfl⟩ := hs
      have hob : E.ob o = .arr fz z e xs := (h.ob o).trans ho
      obtain ⟨hb, hx⟩ := hx
      rw [hob] at hx
      obtain ⟨hi, blk, f, hl, hv⟩ := hx
      have hm := h.mem.hp o hb
      rw [hob] at hm
      obtain ⟨us, hul, hc, hr⟩ := arr_cells hm hl hi
      rw [getD_of_lt hi]
      obtain ⟨u, h1, h2⟩ := load_at (o := f + i * e.n) (blk := blk) hI (cellsS_ok e us _ hr) (by rw [cellsS_len]; exact howe) hc
      exact ⟨_, u, hv, h1, h2⟩
    · cases hs
  · rename_i t' x' off
    simp only [Option.some.injEq, Prod.mk.injEq] at hs
    obtain ⟨rfl, rfl⟩ := hs
    obtain ⟨blk, f, us, hv, _, _, hul, hc, hr⟩ := hx
    obtain ⟨u, h1, h2⟩ := load_at (o := f) (blk := blk) hI (cellsS_ok t' us _ hr) (by rw [cellsS_len]; exact howe) hc
    exact ⟨_, u, hv, h1, h2⟩
  · cases hs

theorem retV_ok {hp : List (Nat × Ob)} {fr : List SV} {E : Env} {w : World} {a : Act} (h : Pre P G E w hp fr a) : ∀ (rs : List ResultVar) (p : Prop) (l : List (Bool × List S1)), retV P (fo hp) fr rs = some (p, l) → p →
    ∃ vs : List Value, (rs.mapM (rv a.tmps)).run P w = .ok vs w ∧ CompsOk E w l vs
  | [], p, l, hs, _ => by
    simp only [retV, Option.some.injEq, Prod.mk.injEq] at hs
    obtain ⟨_, rfl⟩ := hs
    exact ⟨[], by simp, .nil⟩
  | .tmp t :: rs, p, l, hs, hp' => by
    simp only [retV] at hs
    split at hs
    · rename_i c q l' hc hr
      simp only [Option.some.injEq, Prod.mk.injEq] at hs
      obtain ⟨rfl, rfl⟩ := hs
      obtain ⟨vs, h1, h2⟩ := retV_ok h rs q l' hr hp'
      refine ⟨a.tmps.getD t undef :: vs, ?_, .cons (compOf_ok (h.fr t) hc) h2⟩
      simp [List.mapM_cons, rv, h1]
    · cases hs
  | .cell t T :: rs, p, l, hs, hp' => by
    simp only [retV] at hs
    split at hs
    · rename_i b n hI
      split at hs
      · rename_i q v hv
        split at hs
        · rename_i c q' l' hc hr
          simp only [Option.some.injEq, Prod.mk.injEq] at hs
          obtain ⟨rfl, rfl⟩ := hs
          obtain ⟨vs, h1, h2⟩ := retV_ok h rs q' l' hr hp'.2
          obtain ⟨ad, u, had, hu1, hu2⟩ := load_ok h hI (h.fr t) hv hp'.1
          refine ⟨u :: vs, ?_, .cons (compOf_ok hu2 hc) h2⟩
          simp only [List.mapM_cons, rv, had, asAddr, Sem.run_bind, Sem.run_pure, Result.andThen_ok, hu1, h1]
        · cases hs
      · cases hs
    · cases hs

theorem resV_ok {E : Env} {w : World} {l : List (Bool × List S1)} {vs : List Value} (h : CompsOk E w l vs) : SVok E w (resV l) (if hs : vs.toArray.size = 1 then vs.toArray[0] else .tuple vs.toArray) := by
  unfold resV
  split
  · rename_i cs
    obtain ⟨u, us', rfl, h1, h2⟩ := h.uncons
    have : us' = [] := List.eq_nil_of_length_eq_zero h2.1
    subst this
    simp only [List.size_toArray, List.length_cons, List.length_nil, Nat.zero_add, dite_true]
    exact h1.1 rfl
  · rename_i x
    obtain ⟨u, us', rfl, h1, h2⟩ := h.uncons
    have : us' = [] := List.eq_nil_of_length_eq_zero h2.1
    subst this
    simp only [List.size_toArray, List.length_cons, List.length_nil, Nat.zero_add, dite_true]
    have := h1.2 rfl
    obtain ⟨_, _, e, h3, _⟩ := this.uncons
    cases e
    exact h3
  · rename_i hn1 hn2
    by_cases hs : vs.toArray.size = 1
    · exfalso
      have hl : l.length = 1 := by rw [← h.1]; simpa using hs
      match l, hl with
      | [(true, cs)], _ => exact hn1 cs rfl
      | [(false, cs)], _ =>
        obtain ⟨u, us', rfl, h1, h2⟩ := h.uncons
        have := (h1.2 rfl).1
        match cs, this with
        | [x], _ => exact hn2 x rfl
    · rw [dif_neg hs]
      exact ⟨vs, rfl, h.1, h.2⟩

/-- The end of a symbolic run is the end of the call. -/
theorem ret_ok {fn : Func} {S : Nat → Prop} {w0 : World} {rs : List (Bool × Ty)} {y : (tyL rs).den} {i : Nat} {st : St} {E : Env} {a : Act} {w : World} (hG : G.w0 = w0 ∧ G.mod = fun _ => False) (hbad : E.bad = S)
    (h : RetQ P fn.results.toList rs y st) (hc : Conc P G st E a w) : ∃ v, (results fn a.tmps).run P w = .ok v w ∧ ResPost S rs y i w0 (.returned v) w := by
  unfold RetQ at h
  split at h
  · rename_i p l hr
    split at h
    · rename_i q u hq
      obtain ⟨h1, h2, h3⟩ := h
      obtain ⟨vs, hv1, hv2⟩ := retV_ok hc.pre _ p l hr h1
      obtain ⟨loc, src, hj⟩ := injL_ok hc.pre.mem hc.pre.ob rs l y i vs q u hq h2 hv2
      have hrun : (results fn a.tmps).run P w = .ok (if hs : vs.toArray.size = 1 then vs.toArray[0] else .tuple vs.toArray) w := by
        have h0 : results fn a.tmps = (do let us ← fn.results.mapM (rv a.tmps); pure (if h : us.size = 1 then us[0] else .tuple us)) := by
          unfold results
          congr 1
        have h1' : (fn.results.mapM (rv a.tmps)).run P w = .ok vs.toArray w := by
          rw [Array.mapM_eq_mapM_toList]
          simp [hv1]
        rw [h0]
        simp only [Sem.run_bind, h1', Result.andThen_ok, Sem.run_pure]
      have m := hc.pre.mem
      obtain ⟨hG1, hG2⟩ := hG
      have hmod : ∀ b, ¬ G.mod b := by intro b hb; rw [hG2] at hb; exact hb
      have hR : ∀ o, i ≤ o → o < i + nslL rs → (resE S rs y i loc).born o ∧ (resE S rs y i loc).ob o = fo (resO rs y i) o ∧ (resE S rs y i loc).loc o = loc o := fun o h1 h2 => ⟨⟨h1, h2⟩, rfl, rfl⟩
      have hrange : ∀ o, fo (resO rs y i) o ≠ .dead → i ≤ o ∧ o < i + nslL rs := by
        intro o ho
        rcases Classical.em (o ∈ keys (resO rs y i)) with hk | hk
        · exact (resO_keys rs y i).1 o hk
        · exact absurd (fo_not hk) ho
      have hown : ∀ b, (resE S rs y i loc).owned b → E.owned b := by
        rintro b (hb | ⟨o, f, h1, h2⟩)
        · exact .inl (by rw [hbad]; exact hb)
        · obtain ⟨r1, r2⟩ := hrange o (mut_ne h1)
          obtain ⟨q, f', _, k2, k3⟩ := hj.whence o b f r1 r2 h2
          exact .inr ⟨q, f', k3, k2⟩
      refine ⟨_, hrun, _, rfl, ?_, hj.wf, loc, resV_ok (hj.cells _ hR), fun o ho => hj.obs _ hR hown o ho.1 ho.2, fun o o' b f f' k1 k2 k3 k4 => ?_, fun o b f k1 k2 => ?_⟩
      · rw [← hG1]
        exact ⟨m.os, m.tape, m.output, m.size, fun b hb => m.old b hb (hmod b)⟩
      · obtain ⟨r1, r2⟩ := hrange o k1
        obtain ⟨r3, r4⟩ := hrange o' k2
        obtain ⟨q, g, s1, s2, s3⟩ := hj.whence o b f r1 r2 k3
        obtain ⟨q', g', s1', s2', s3'⟩ := hj.whence o' b f' r3 r4 k4
        have e := m.sep q q' b g g' (mut_ne s3) (mut_ne s3') s2 s2'
        subst e
        exact hj.inj (nodupN_ok h3) o o' q r1 r2 r3 r4 s1 s1'
      · obtain ⟨r1, r2⟩ := hrange o k1
        obtain ⟨q, g, s1, s2, s3⟩ := hj.whence o b f r1 r2 k2
        rw [← hG1]
        exact (m.new q b g (mut_ne s3) s2).resolve_right (hmod b)
    · exact h.elim
  · exact h.elim

theorem gl_app (l r : List SV) (i : Nat) : gl (appSV l r) i = if i < l.length then gl l i else gl r (i - l.length) := by
  induction l generalizing i with
  | nil => simp [appSV_nil, appSV_cons]
  | cons x l ih => cases i with
    | zero => simp [appSV_nil, appSV_cons, gl_nil, gl_zero, gl_succ]
    | succ i => simp [appSV_nil, appSV_cons, gl_nil, gl_zero, gl_succ, ih]

theorem app_len (l r : List SV) : (appSV l r).length = l.length + r.length := by
  induction l with
  | nil => simp [appSV_nil, appSV_cons]
  | cons x l ih => simp [appSV_nil, appSV_cons, ih]; omega

theorem gl_unks (n i : Nat) : gl (unks n) i = .unk := by
  induction n generalizing i with
  | zero => rfl
  | succ n ih => cases i with
    | zero => rfl
    | succ i => exact ih i

theorem unks_len (n : Nat) : (unks n).length = n := by
  induction n with
  | zero => rfl
  | succ n ih => simp [unks_zero, unks_succ, ih]

theorem argSV_ok {E : Env} {w : World} : ∀ (as : List (Bool × Ty)) (vs : List Value) (x : (tyL as).den), ArgsRd E.owned w as vs x → vs.length = (argSV as x).length ∧ ∀ (i : Nat) v, vs[i]? = some v → SVok E w (gl (argSV as x) i) v
  | [], [], _, _ => ⟨rfl, fun i v h => by simp at h⟩
  | [], _ :: _, _, h => h.elim
  | _ :: _, [], _, h => h.elim
  | (b, t) :: as, v :: vs, x, ⟨h1, h2, h3⟩ => by
    obtain ⟨hl, hv⟩ := argSV_ok as vs x.2 h3
    cases b
    · have hr := h2 rfl
      have hk := cellsS_ok t [v] x.1 hr
      refine ⟨by simp [argSV, hl], fun i u hu => ?_⟩
      cases i with
      | zero =>
        simp at hu
        subst hu
        exact hk.2 0 _ v (g1_eq _ 0 (by rw [← hk.1]; simp)) rfl
      | succ i => exact hv i u (by simpa using hu)
    · obtain ⟨us, rfl, hr⟩ := h1 rfl
      refine ⟨by simp [argSV, hl], fun i u hu => ?_⟩
      cases i with
      | zero => simp at hu; subst hu; exact ⟨us, rfl, cellsS_ok t us x.1 hr⟩
      | succ i => exact hv i u (by simpa using hu)

/-- The results' cells, as data that no block of S holds. -/
theorem rdL_ok {S : Nat → Prop} {E : Env} {w : World} {hp : List (Nat × Ob)} (hob : ∀ i, E.ob i = fo hp i) (hm : ∀ o, E.born o → ObOk E w o (E.ob o)) (hS : ∀ b, S b → E.owned b) (hI : ∀ o b f, E.ob o ≠ .dead → E.loc o = some (b, f) → ¬ S b) :
    ∀ (rs : List (Bool × Ty)) (l : List (Bool × List S1)) (y : (tyL rs).den) (vs : List Value), rdL (fo hp) rs l = some y → CompsOk E w l vs → ∀ E' : Env, (∀ b, E'.owned b → S b) → CompsOk E' w (roL rs y) vs
  | [], [], _, vs, _, h, _, _ => by
    have : vs = [] := List.eq_nil_of_length_eq_zero h.1
    subst this; exact CompsOk.nil
  | [], _ :: _, _, _, h, _, _, _ => by simp [rdL] at h
  | _ :: _, [], _, _, h, _, _, _ => by simp [rdL] at h
  | (b, t) :: rs, (b', l) :: ls, y, vs, h, hc, E', hE' => by
    simp only [rdL] at h
    cases hb : b == b' <;> rw [hb] at h <;> simp only [cond_true, cond_false] at h
    · cases h
    · have hbb : b = b' := by simpa using hb
      subst hbb
      split at h
      · rename_i x xs hx hxs
        cases h
        obtain ⟨u, us, rfl, ⟨h1, h2⟩, h3⟩ := hc.uncons
        have key : ∀ cs : List Value, S1sok E w l cs → S1sok E' w (cellsS t x) cs := by
          intro cs hcs
          obtain ⟨us', rest, l1, rfl, g1, g2, _⟩ := rdS_ok hob hm hS t l x [] cs hx (fun o _ ha b f hlo => hI o b f (fun hd => by rw [hd] at ha; cases ha) hlo) hcs
          rw [g2.nil_inv, List.append_nil]
          exact cellsS_ok t us' x (Rd.mono (Nat.le_refl _) (fun b' _ hb' => ⟨rfl, fun ho => hb' (hE' b' ho)⟩) t us' x g1)
        exact CompsOk.cons ⟨fun hb => by
          obtain ⟨cs, e, hk⟩ := h1 hb
          exact ⟨cs, e, key cs hk⟩, fun hb => key [u] (h2 hb)⟩ (rdL_ok hob hm hS hI rs ls xs us hxs h3 E' hE')
      · cases h

/-- The end of a symbolic run is the end of a call whose results may be shared. -/
theorem rets_ok {fn : Func} {S : Nat → Prop} {w0 : World} {rs : List (Bool × Ty)} {y : (tyL rs).den} {st : St} {E : Env} {a : Act} {w : World} (hG : G.w0 = w0 ∧ G.mod = fun _ => False) (hbad : E.bad = S) (hS : ∀ b, S b → b < w0.heap.size)
    (h : RetS P fn.results.toList rs y st) (hc : Conc P G st E a w) : ∃ v, (results fn a.tmps).run P w = .ok v w ∧ ShPost S rs y w0 (.returned v) w := by
  unfold RetS at h
  split at h
  · rename_i p l hr
    split at h
    · rename_i y' hq
      obtain ⟨h1, hwf, rfl⟩ := h
      obtain ⟨vs, hv1, hv2⟩ := retV_ok hc.pre _ p l hr h1
      have hrun : (results fn a.tmps).run P w = .ok (if hs : vs.toArray.size = 1 then vs.toArray[0] else .tuple vs.toArray) w := by
        have h0 : results fn a.tmps = (do let us ← fn.results.mapM (rv a.tmps); pure (if h : us.size = 1 then us[0] else .tuple us)) := by
          unfold results
          congr 1
        have h1' : (fn.results.mapM (rv a.tmps)).run P w = .ok vs.toArray w := by
          rw [Array.mapM_eq_mapM_toList]
          simp [hv1]
        rw [h0]
        simp only [Sem.run_bind, h1', Result.andThen_ok, Sem.run_pure]
      have m := hc.pre.mem
      obtain ⟨hG1, hG2⟩ := hG
      have hmod : ∀ b, ¬ G.mod b := by intro b hb; rw [hG2] at hb; exact hb
      refine ⟨_, hrun, _, rfl, ?_, hwf, fun E' hE' => resV_ok (rdL_ok hc.pre.ob m.hp (fun b hb => .inl (by rw [hbad]; exact hb)) (fun o b f k1 k2 hb => ?_) rs l y' vs hq hv2 E' hE')⟩
      · rw [← hG1]
        exact ⟨m.os, m.tape, m.output, m.size, fun b hb => m.old b hb (hmod b)⟩
      · have h2 := (m.new o b f k1 k2).resolve_right (hmod b)
        rw [hG1] at h2
        have := hS b hb
        omega
    · exact h.elim
  · exact h.elim

/-- What is owed at a contract's end. -/
def RetC (P : Program) (results : List ResultVar) (c : Con) (x : (tyL c.as).den) : St → Prop :=
  match c.sh with
  | true => RetS P results c.rs (c.F x)
  | false => RetQ P results c.rs (c.F x)

/-- A CONTRACT OUT OF A SYMBOLIC RUN. -/
theorem con_ok {c : Con} {fn : Func} {code : Code} (hf : P.funcs[c.f]? = some fn) (hb : fn.body = some code) (hn : fn.name ≠ "runtime.NumGoroutine")
    (h : ∀ x, (tyL c.as).wf x → c.pre x → ∀ (G : Ctx) (B : Exit → Act → World → Prop), G.sus = [] ∧ G.rds = [] ∧ G.st0 = none → (∀ st E a w, RetC P fn.results.toList c x st → Conc P G st E a w → B .ret a w ∧ B .normal a w) →
      Ok P G B [.c code] ⟨appSV (argSV c.as x) (unks (fn.ntmps - c.as.length)), [], 0⟩) (hlen : c.as.length ≤ fn.ntmps) : c.Ok P where
  enters args w := by
    have : ¬ fn.name = "runtime.NumGoroutine" := hn
    simp [callFunc, hf, hb, this]
  calls S w vs x hS hgw har hwf hpre i := by
    refine (callsIn_fr (r := none) (n := 0)).1 (callsIn_of_wp_marks hf hb trivial ?_ rfl)
    let G : Ctx := ⟨w, fun _ => False, [], S, none, [], [], none⟩
    let E : Env := ⟨fun _ => .dead, fun _ => none, fun _ => False, S⟩
    have hE : E.owned = S := by
      funext b
      refine propext ⟨fun h => ?_, fun h => .inl h⟩
      rcases h with h | ⟨o, f, h1, h2⟩
      · exact h
      · cases h2
    obtain ⟨hal, hav⟩ := argSV_ok (E := E) (w := w) c.as vs x (by rw [hE]; exact har)
    have hasl : ∀ (as : List (Bool × Ty)) (x : (tyL as).den), (argSV as x).length = as.length := by
      intro as
      induction as with
      | nil => intro _; rfl
      | cons p as ih => intro x; obtain ⟨b, t⟩ := p; cases b <;> simp [argSV, ih]
    refine h x hwf hpre G (bodyPostM (Fr none) 0 P fn (c.Post S x i w)) ⟨rfl, rfl, rfl⟩ (fun st E a w' hr hc => ?_) E _ w ⟨⟨⟨?_, fun _ _ => rfl, ?_, ?_, ?_, rfl, rfl, rfl, rfl, Nat.le_refl _, fun _ _ _ => rfl, ?_, fun p hp => (by cases hp), fun b hb => (by cases hb), ⟨hgw.1, fun b hb => ⟨fun h => h, hgw.2 b hb⟩⟩, fun E0 w1 h0 => (by cases h0)⟩, fun _ => rfl, fun i => ?_⟩, fun _ h => h.elim, ?_, ⟨[], rfl, List.nodup_nil, fun b hb => (by cases hb)⟩, fun p hp => (by cases hp)⟩
    · have key : ∀ a' w', a'.tmps = a.tmps → Conc P G st E a' w' → ∃ v, (results fn a.tmps).run P w' = .ok v w' ∧ c.Post S x i w (.returned v) w' := fun a' w' ht hc => by
        rw [← ht]
        unfold RetC at hr
        unfold Con.Post
        cases hsh : c.sh with
        | true =>
          rw [hsh] at hr
          exact rets_ok (G := G) ⟨rfl, rfl⟩ (hc.pre.mem.bd) hS hr hc
        | false =>
          rw [hsh] at hr
          exact ret_ok (G := G) (i := i) ⟨rfl, rfl⟩ (hc.pre.mem.bd) hr hc
      exact ⟨hc.leave key, hc.leave key⟩
    · intro o ho; exact ho.elim
    · intro o o' b f f' h1; exact absurd rfl h1
    · intro o b f h1; exact absurd rfl h1
    · intro b hb; exact ⟨hS b hb, fun h => h⟩
    · intro p hp; cases hp
    · rw [gl_app]
      by_cases hi : i < (argSV c.as x).length
      · rw [if_pos hi]
        refine hav i _ ?_
        have hi' : i < vs.length := by omega
        simp [hi', Array.getElem?_append]
      · rw [if_neg hi, gl_unks]; trivial
    · simp [app_len, unks_len, hasl, hal]

end
end
end Go.Proofs.YtaoplfeohffbiaaGreatDoor.Sx
