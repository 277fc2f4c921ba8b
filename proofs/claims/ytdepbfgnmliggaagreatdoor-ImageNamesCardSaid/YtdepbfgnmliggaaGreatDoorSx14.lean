/- Steps: literals, small ones. -/
import Derived.Test.YtdepbfgnmliggaaGreatDoorSx13
namespace Go.Proofs.YtdepbfgnmliggaaGreatDoor.Sx
set_option linter.unusedSimpArgs false
set_option linter.unusedVariables false

theorem fold_set (off : Nat) : ∀ (l : List Value) (k : Nat) (cells : Array Value), off + k + l.length ≤ cells.size →
    ((l.zipIdx k).foldl (fun cs p => cs.setIfInBounds (off + p.2) p.1) cells).toList = splice cells.toList (off + k) l
  | [], k, cells, _ => by simp [splice]
  | v :: l, k, cells, h => by
    have hl : off + k + l.length + 1 ≤ cells.size := by simp at h; omega
    simp only [List.zipIdx_cons, List.foldl_cons]
    rw [fold_set off l (k + 1) (cells.setIfInBounds (off + k) v) (by simp; omega)]
    apply List.ext_getElem?
    intro j
    have h1 : off + (k + 1) + l.length ≤ (cells.setIfInBounds (off + k) v).toList.length := by simp; omega
    have h2 : off + k + (v :: l).length ≤ cells.toList.length := by simp; omega
    rw [splice_get h1, splice_get h2]
    by_cases c1 : j < off + k
    · rw [if_pos (by omega), if_pos c1, Array.toList_setIfInBounds, List.getElem?_set_ne (by omega)]
    · rw [if_neg c1]
      by_cases c2 : j = off + k
      · subst c2
        rw [if_pos (by omega), if_pos (by simp), Array.toList_setIfInBounds, List.getElem?_set_self (by simp; omega)]
        simp
      · rw [if_neg (by omega)]
        by_cases c3 : j < off + (k + 1) + l.length
        · rw [if_pos c3, if_pos (by simp; omega)]
          have : j - (off + k) = (j - (off + (k + 1))) + 1 := by omega
          rw [this, List.getElem?_cons_succ]
        · rw [if_neg c3, if_neg (by simp; omega), Array.toList_setIfInBounds, List.getElem?_set_ne (by omega)]

theorem flat_len (size : Nat) : ∀ (l : List Value), (∀ v ∈ l, v.cells.size = size) → (l.flatMap fun v => v.cells.toList).length = l.length * size
  | [], _ => by simp
  | u :: l, hv => by
    have h1 := flat_len size l fun x hx => hv x (List.mem_cons_of_mem _ hx)
    have h2 := hv u (by simp)
    rw [List.flatMap_cons, List.length_append, h1, List.length_cons, Nat.add_mul, Array.length_toList, h2]
    omega

theorem fill_ok (size : Nat) : ∀ (l : List Value) (i : Nat) (cells : Array Value), (∀ v ∈ l, v.cells.size = size) → (i + l.length) * size ≤ cells.size →
    ∃ cs, Instr.fill (fun i => some (i * size, size)) cells (l.zipIdx i |>.map fun p => (p.2, p.1)) = some cs ∧ cs.toList = splice cells.toList (i * size) (l.flatMap fun v => v.cells.toList)
  | [], i, cells, _, _ => ⟨cells, rfl, by simp [splice]⟩
  | v :: l, i, cells, hv, hle => by
    have hsz : v.cells.size = size := hv v (by simp)
    have hle' : i * size + size + l.length * size ≤ cells.size := by simp [Nat.add_mul] at hle; omega
    let c1 := v.cells.zipIdx.foldl (fun cs p => cs.setIfInBounds (i * size + p.2) p.1) cells
    have hc1 : c1.toList = splice cells.toList (i * size) v.cells.toList := by
      have := fold_set (i * size) v.cells.toList 0 cells (by simp; omega)
      rw [Nat.add_zero] at this
      rw [← this]
      show (v.cells.zipIdx.foldl (fun cs p => cs.setIfInBounds (i * size + p.2) p.1) cells).toList = _
      rw [← Array.foldl_toList, Array.toList_zipIdx]
    have hlen : c1.size = cells.size := by rw [← Array.length_toList, hc1, splice_len (by simp; omega)]; simp
    obtain ⟨cs, h1, h2⟩ := fill_ok size l (i + 1) c1 (fun u hu => hv u (by simp [hu])) (by rw [hlen]; simp [Nat.add_mul]; omega)
    refine ⟨cs, ?_, ?_⟩
    · simp only [List.zipIdx_cons, List.map_cons, Instr.fill]
      have hn : ¬ (v.cells.size ≠ size ∨ i * size + v.cells.size > cells.size) := by omega
      rw [if_neg (by simpa using hn)]
      exact h1
    · rw [h2, hc1]
      simp only [List.flatMap_cons]
      apply List.ext_getElem?
      intro j
      have hfl : (l.flatMap fun v => v.cells.toList).length = l.length * size := flat_len size l fun u hu => hv u (List.mem_cons_of_mem _ hu)
      have g1 : (i + 1) * size + (l.flatMap fun v => v.cells.toList).length ≤ (splice cells.toList (i * size) v.cells.toList).length := by
        rw [splice_len (by simp; omega), hfl, Nat.add_mul]; simp; omega
      have g2 : i * size + (v.cells.toList ++ l.flatMap fun v => v.cells.toList).length ≤ cells.toList.length := by simp [hsz]; simp at hfl; omega
      have g3 : i * size + v.cells.toList.length ≤ cells.toList.length := by simp; omega
      rw [splice_get g1, splice_get g2, splice_get g3, hfl]
      have e1 : (i + 1) * size = i * size + size := by rw [Nat.add_mul]; omega
      have e2 : v.cells.toList.length = size := by simpa using hsz
      rw [List.length_append, hfl, e1, e2]
      by_cases c1 : j < i * size
      · rw [if_pos (by omega), if_pos c1, if_pos c1]
      · rw [if_neg c1, if_neg c1]
        by_cases c2 : j < i * size + size
        · rw [if_pos c2, if_pos c2, if_pos (by omega), List.getElem?_append_left (by omega)]
        · rw [if_neg c2, if_neg c2]
          by_cases c3 : j < i * size + size + l.length * size
          · rw [if_pos c3, if_pos (by omega), List.getElem?_append_right (by omega)]
            congr 1
            omega
          · rw [if_neg c3, if_neg (by omega)]

section
variable {P : Program} {G : Ctx} {E : Env} {w : World} {hp : List (Nat × Ob)} {nx : Nat} {fr : List SV} {a : Act}
variable {d : Option Tmp} {ty : TypeId} {pos : String} {af : Array Edge} {gd : Option (Nat × Bool)}

/-- Cells of a value whose symbolic cells read as data. -/
theorem cells_rd (h : Pre P G E w hp fr a) {X : SV} {v : Value} (hX : SVok E w X v) {t : Ty} (ht : 0 < t.n) {y : t.den} (hr : rdS (fo hp) t X.cells = some (y, [])) : ∃ us, v.cells = us.toArray ∧ S1sok E w X.cells us := by
  cases X with
  | s x =>
    have hs : S1sok E w [x] [v] := .one hX
    have hrd := rd_plain h hr hs
    exact ⟨[v], cells_of_one (rd_stl t _ y hrd v (by simp)), hs⟩
  | agg l => obtain ⟨us, rfl, hk⟩ := hX; exact ⟨us, rfl, hk⟩
  | unk => exact absurd (Rd.len t _ y (rd_plain h hr (us := []) .nil)) (by simp; omega)
  | tup l => exact absurd (Rd.len t _ y (rd_plain h hr (us := []) .nil)) (by simp; omega)
  | gd g x => exact absurd (Rd.len t _ y (rd_plain h hr (us := []) .nil)) (by simp; omega)

theorem sParts_ok (h : Pre P G E w hp fr a) {e : Ty} (hn : 0 < e.n) {L : List Nat} : ∀ (ps : List (Nat × Operand)) (i : Nat) (l : List e.den), sParts (fo hp) e fr ps i = some l → (∀ o, o ∈ idsParts fr ps → o ∈ L) →
    ∃ vs : List Value, (ps.map fun p => (p.1, a.eval p.2)) = (vs.zipIdx i).map (fun p => (p.2, p.1)) ∧ (∀ v ∈ vs, v.cells.size = e.n) ∧ Parts (E.frozen L).owned w e (vs.flatMap fun v => v.cells.toList) l ∧ vs.length = l.length
  | [], i, l, hs, _ => by
    simp only [sParts, Option.some.injEq] at hs
    subst hs
    exact ⟨[], rfl, by simp, ⟨by simp, fun i hi => by simp at hi⟩, rfl⟩
  | (j, x) :: ps, i, l, hs, hL => by
    simp only [sParts] at hs
    cases hj : j == i <;> rw [hj] at hs <;> simp only [cond_true, cond_false] at hs
    · cases hs
    · split at hs
      · rename_i y hy
        split at hs
        · rename_i l' hl'
          cases hs
          obtain ⟨vs, h1, h2, h3, h4⟩ := sParts_ok h hn ps (i + 1) l' hl' (fun o ho => hL o (by simp [idsParts, ho]))
          obtain ⟨us, hu, hk⟩ := cells_rd h (h.ev x) hn hy
          have hrd := rd_frozen h (l := L) (fun o ho => hL o (by simp [idsParts, ho])) hy hk
          have hul := Rd.len _ _ _ hrd
          have hji : j = i := by simpa using hj
          subst hji
          refine ⟨a.eval x :: vs, by simp [h1], ?_, ?_, by simp [h4]⟩
          · intro v hv
            rcases List.mem_cons.1 hv with rfl | hv
            · rw [hu]; simpa using hul
            · exact h2 v hv
          · have hone : Parts (E.frozen L).owned w e us [y] := ⟨by simpa using hul, fun i hi => by
              have h0 : i = 0 := by simp at hi; omega
              subst h0
              simpa [List.take_of_length_le (Nat.le_of_eq hul)] using hrd⟩
            have := hone.append h3
            simpa [List.flatMap_cons, hu] using this
        · cases hs
      · cases hs

theorem land_buildSlice (h : Pre P G E w hp fr a) (hnx : ¬ E.born nx) {t : TypeId} {n : Nat} {ps : Array (Nat × Operand)} {e : Ty} {z : Nat} (hI : elemI P t = some (e, z)) {l : List e.den}
    (hs : sParts (fo hp) e fr ps.toList 0 = some l) (hl : l.length = n) (h24 : n * e.n ≤ 16777216) (h47 : n * z ≤ 140737488355328) {ow : Prop} :
    Land P G E w hp nx ⟨d, .buildSlice t n ps, ty, pos, af, gd⟩ a ⟨ow, .s (.sub nx 0 n), freeze (fo hp) (idsParts fr ps.toList) ++ [(nx, .arr false z e l)], nx + 1, True⟩ := by
  obtain ⟨el, inf, zv, hu, hi, hsz, hb, hzv, hzs, hz0, hn0⟩ := elemI_run hI
  obtain ⟨vs, h1, h2, h3, h4⟩ := sParts_ok h hn0 (L := idsParts fr ps.toList) ps.toList 0 l hs (fun _ ho => ho)
  refine Land.frozen (idsParts fr ps.toList) ?_
  have hF := h.frozen (idsParts fr ps.toList)
  have hnxF : ¬ (E.frozen (idsParts fr ps.toList)).born nx := hnx
  have hvn : vs.length = n := h4.trans hl
  let zc := if n * e.n = 0 then #[] else zv.cells
  let c0 : Array Value := (Array.range (n * e.n)).map (fun i => zc[i % zc.size]!)
  have hc0 : c0.size = n * e.n := by simp [c0]
  obtain ⟨cs, hf, hcs⟩ := fill_ok e.n vs 0 c0 h2 (by rw [hc0, Nat.zero_add, hvn]; exact Nat.le_refl _)
  have hfl : (vs.flatMap fun v => v.cells.toList).length = n * e.n := by rw [h3.1, hl]
  have hcs' : cs.toList = vs.flatMap fun v => v.cells.toList := by
    rw [hcs, Nat.zero_mul]
    unfold splice
    rw [List.drop_of_length_le (by simp [hc0]; simp at hfl; omega)]
    simp
  have hmap : (ps.map fun p => (p.1, a.eval p.2)).toList = (vs.zipIdx 0).map (fun p => (p.2, p.1)) := by rw [Array.toList_map]; exact h1
  refine land_new hF hnxF (vs := cs) (T := el) (v := .slice (some ⟨w.heap.size, 0, none⟩) n n) ?_ (fun E' hev hl' hh => ?_) (fun E' ho hl' hb' hh => ?_) trivial
  · have h24' : ¬ (16777216 < n * e.n) := by omega
    have hf' : Instr.fill (fun i => some (i * e.n, e.n)) c0 (ps.map fun p => (p.1, a.eval p.2)).toList = some cs := by rw [hmap]; exact hf
    have hbs : (Instr.buildSlice t n (ps.map fun p => (p.1, a.eval p.2))).run P w = .ok (.slice (some ⟨w.heap.size, 0, none⟩) n n) (w.alloc (.cells cs el)) := by
      simp only [Instr.buildSlice, Sem.run_bind, run_underlying hu, Result.andThen_ok]
      simp only [sizeOf, typeInfo, run_program, hi, Sem.run_bind, Sem.run_pure, Result.andThen_ok, hsz, if_neg h24', Nat.reducePow, gt_iff_lt]
      by_cases h0 : n * e.n = 0
      · have hz1 : zc = #[] := if_pos h0
        simp only [c0, hz1] at hf'
        rw [if_pos h0]
        simp only [Sem.run_bind, Sem.run_pure, Result.andThen_ok, hf', newRow, run_newObj_alloc]
      · have hz1 : zc = zv.cells := if_neg h0
        simp only [c0, hz1] at hf'
        rw [if_neg h0]
        simp only [Sem.run_bind, Sem.run_pure, Result.andThen_ok, zeroValue, typeInfo, run_program, hi, hzv, hf', newRow, run_newObj_alloc]
    simp only [execOp, Sem.run_bind, hbs, Result.andThen_ok]
    rfl
  · exact ob_of_parts (by rw [hl]; exact h47) hl' hh (f := 0) (vs := cs.toList) (rest := []) (by simp) (Nat.zero_le _) (by rw [hcs']; exact h3.mono hev)
  · refine ⟨hb', ?_⟩
    rw [ho]
    refine ⟨Nat.zero_le _, by omega, ?_⟩
    rw [hl']
    have : cs.size = n * e.n := by rw [← Array.length_toList, hcs', hfl]
    exact .inl ⟨n, cs, el, (0, 0), by simp, by omega, hh, by simp [this]⟩

theorem land_extract (h : Pre P G E w hp fr a) {x : Operand} {i : Nat} {l : List (Bool × List S1)} {v : SV} {ow : Prop} (hx : SVok E w (.tup l) (a.eval x)) (hs : sTup l i = some v) :
    Land P G E w hp nx ⟨d, .extract x i, ty, pos, af, gd⟩ a ⟨ow, v, [], nx, True⟩ := by
  obtain ⟨vs, e1, hl, hr⟩ := hx
  have key : ∀ (l : List (Bool × List S1)) (i : Nat), sTup l i = some v → ∃ bl, l[i]? = some bl ∧ ((bl.1 = true ∧ v = .agg bl.2) ∨ (bl.1 = false ∧ ∃ y, bl.2 = [y] ∧ v = .s y)) := by
    intro l
    induction l with
    | nil => intro i hi; simp [sTup] at hi
    | cons c l ih =>
      intro i hi
      obtain ⟨b, cs⟩ := c
      cases i with
      | zero =>
        cases b
        · match cs, hi with
          | [y], hi => simp only [sTup, Option.some.injEq] at hi; exact ⟨_, rfl, .inr ⟨rfl, y, rfl, hi.symm⟩⟩
          | [], hi => simp [sTup] at hi
          | _ :: _ :: _, hi => simp [sTup] at hi
        · simp only [sTup, Option.some.injEq] at hi; exact ⟨_, rfl, .inl ⟨rfl, hi.symm⟩⟩
      | succ i =>
        have : sTup l i = some v := by
          cases b
          · match cs, hi with
            | [y], hi => exact hi
            | [], hi => exact hi
            | _ :: _ :: _, hi => exact hi
          · exact hi
        exact ih i this
  obtain ⟨bl, hbl, hv⟩ := key l i hs
  have hi : i < vs.length := by rw [hl]; exact (List.getElem?_eq_some_iff.1 hbl).1
  have hu := List.getElem?_eq_getElem hi
  obtain ⟨r1, r2⟩ := hr i bl vs[i] hbl hu
  refine land_val h (v := vs[i]) ?_ ?_ rfl trivial
  · simp [execOp, e1, Instr.extract, hu]
  · rcases hv with ⟨hb, rfl⟩ | ⟨hb, y, hy, rfl⟩
    · obtain ⟨us, e2, h2⟩ := r1 hb
      exact ⟨us, e2, h2⟩
    · have h2 := r2 hb
      rw [hy] at h2
      obtain ⟨_, _, e3, h3, _⟩ := h2.uncons
      cases e3
      exact h3

theorem land_index (h : Pre P G E w hp fr a) {t : TypeId} {x y : Operand} {k : IntKind} {i : Int} {s : List UInt8} {ow : Prop} (hx : SVok E w (.s (.str s)) (a.eval x)) (hy : SVok E w (.s (.int k i)) (a.eval y))
    (ht : isStr P t = true) (h0 : 0 ≤ i) (h1 : i < (s.length : Int)) : Land P G E w hp nx ⟨d, .index t x y, ty, pos, af, gd⟩ a ⟨ow, .s (.int .u8 ((s.getD i.toNat 0).toNat : Int)), [], nx, True⟩ := by
  obtain ⟨e1, hl⟩ := hx
  obtain ⟨e2, _⟩ := hy
  have ht' : P.underlying t = some .string := by
    unfold isStr at ht
    split at ht
    · assumption
    · cases ht
  have hi : i.toNat < s.length := by omega
  have hg : (ByteArray.mk s.toArray)[i.toNat]? = some s[i.toNat] := by
    have : i.toNat < (ByteArray.mk s.toArray).size := by show i.toNat < s.toArray.size; simpa using hi
    have h2 := getElem?_pos (ByteArray.mk s.toArray) i.toNat this
    rw [h2]
    rfl
  refine land_val h (v := .int .u8 (s[i.toNat].toNat : Int)) ?_ ?_ rfl trivial
  · simp [execOp, e1, e2, Instr.index, asIntOf, run_underlying ht', h0, hg]
  · rw [getD_of_lt hi]
    refine ⟨rfl, ?_⟩
    have := UInt8.toNat_lt (s[i.toNat]'hi)
    simp [IntKind.has, IntKind.min, IntKind.max, IntKind.signed, IntKind.bits]
    omega

/-- Bytes as a string. -/
theorem foldl_push : ∀ (l : List Int) (s : ByteArray), l.foldl (fun r n => r.push (UInt8.ofNat n.toNat)) s = ⟨s.data ++ (bsL l).toArray⟩
  | [], s => by simp [bsL]
  | n :: l, s => by
    rw [List.foldl_cons, foldl_push l]
    apply ByteArray.ext
    simp [bsL, ByteArray.push]

theorem tyOf_byte {t : TypeId} {d : Nat} (h : tyOf P d t = some (.int .u8)) : P.underlying t = some (.int .u8) := by
  cases d with
  | zero => cases h
  | succ d =>
    simp only [tyOf] at h
    split at h <;> try (cases h; try assumption)
    · split at h <;> cases h
    · rename_i fs hu
      exfalso
      cases hl : fs.toList with
      | nil => rw [hl] at h; cases h
      | cons f l =>
        rw [hl, List.foldr_cons] at h
        split at h <;> cases h

theorem run_bytes {S : Nat → Prop} {v : Value} {xs : List Int} {z : Nat} (h : Rd S w (.slice z (.int .u8)) [v] xs) : (Conv.bytesToString v).run P w = .ok (.string ⟨(bsL xs).toArray⟩) w ∧ ∃ a l c, v = .slice a l c := by
  obtain ⟨_, h⟩ := h
  rcases h with ⟨a, c, e, e0⟩ | ⟨b, off, c, e, _, hne, _, _, hr⟩
  · cases e
    subst e0
    refine ⟨?_, _, _, _, rfl⟩
    cases a with
    | none => simp [Conv.bytesToString, bsL]; rfl
    | some a =>
      have := run_bytesToString (P := P) w a 0 c [] (by have := run_loadCells_list (P := P) w a [] (fun j v hj => by simp at hj); simpa using this)
      rw [this]
      simp [bsL]
      rfl
  · cases e
    refine ⟨?_, _, _, _, rfl⟩
    have hc := run_loadCells_list (P := P) w ⟨b, off, none⟩ (xs.map (Value.int .u8)) (fun j v hj => by
      rw [add_lit']
      rw [List.getElem?_map] at hj
      cases hx : xs[j]? with
      | none => rw [hx] at hj; cases hj
      | some n =>
        rw [hx] at hj
        cases hj
        obtain ⟨hlt, hn⟩ := List.getElem?_eq_some_iff.1 hx
        obtain ⟨us, hu, hcell, hrd⟩ := hr j hlt
        obtain ⟨rfl, _⟩ := hrd
        have := hcell 0 _ rfl
        simpa [Ty.n, hn] using this)
    rw [List.length_map] at hc
    rw [run_bytesToString w ⟨b, off, none⟩ xs.length c xs hc, foldl_push]
    simp

theorem isByteTy_eq {e : Ty} (h : isByteTy e = true) : e = .int .u8 := by
  unfold isByteTy at h
  split at h
  · rfl
  · cases h

theorem sList_rd (h : Pre P G E w hp fr a) {z : Nat} {e : Ty} {x : S1} {v : Value} {xs : List e.den} (hx : SVok E w (.s x) v) (hX : sList (fo hp) z e (.s x) = some xs) : Rd (fun _ => False) w (.slice z e) [v] xs := by
  simp only [sList] at hX
  split at hX
  · rename_i ys hr
    cases hX
    obtain ⟨us, rest, l1, e1, h1, h2, _⟩ := rdS_ok (S' := fun _ => False) h.ob h.mem.hp (fun _ hb => hb.elim) (.slice z e) [x] xs [] [v] hr (fun _ _ _ _ _ _ hb => hb) (.one hx)
    have : us = [v] := by
      have hlen := Rd.len _ _ _ h1
      have hr0 := h2.nil_inv
      subst hr0
      simpa using e1.symm
    rw [← this]
    exact h1
  · cases hX

theorem land_convert (h : Pre P G E w hp fr a) {src dst : TypeId} {x : Operand} {X : SV} {r : S1} {ow : Prop} (hx : SVok E w X (a.eval x)) (hs : sConv P (fo hp) src dst X = some r) :
    Land P G E w hp nx ⟨d, .convert src dst x, ty, pos, af, gd⟩ a ⟨ow, .s r, [], nx, True⟩ := by
  have st : ∀ t, isStr P t = true → P.underlying t = some .string := by
    intro t ht
    unfold isStr at ht
    split at ht
    · assumption
    · cases ht
  unfold sConv at hs
  split at hs
  · rename_i k n
    split at hs
    · rename_i k1 k2 h1 h2
      cases hs
      obtain ⟨e1, _⟩ := hx
      refine land_val h (v := .int k2 (wr k2 n)) ?_ ⟨rfl, has_wrap _ _⟩ rfl trivial
      simp [execOp, e1, convert, run_underlying h1, run_underlying h2, Conv.intToInt]; rfl
    · cases hs
  · rename_i s
    cases hb : isStr P src && isStr P dst <;> rw [hb] at hs <;> simp only [cond_true, cond_false] at hs
    · cases hs
    · cases hs
      rw [Bool.and_eq_true] at hb
      obtain ⟨e1, hl⟩ := hx
      refine land_val h (v := .string ⟨s.toArray⟩) ?_ ⟨rfl, hl⟩ rfl trivial
      simp [execOp, e1, convert, run_underlying (st _ hb.1), run_underlying (st _ hb.2)]
  · rename_i y _ _
    split at hs
    · rename_i e z hI
      cases hb : isByteTy e && isStr P dst <;> rw [hb] at hs <;> simp only [cond_true, cond_false] at hs
      · cases hs
      · rw [Bool.and_eq_true] at hb
        split at hs
        · rename_i l hl
          cases hs
          have he := isByteTy_eq hb.1
          subst he
          obtain ⟨el, inf, zv, hu, _, _, _, _, _, hz0, _⟩ := elemI_run hI
          have hu8 : P.underlying el = some (.int .u8) := by
            unfold elemI at hI
            rw [hu] at hI
            simp only at hI
            split at hI
            · rename_i i ty h1 h2
              split at hI
              · split at hI
                · cases hI; exact tyOf_byte h2
                · cases hI
              · cases hI
            · cases hI
          have hrd := sList_rd h hx hl
          obtain ⟨hrun, ad, n, c, ev⟩ := run_bytes (P := P) hrd
          have hlen : (bsL l).length ≤ 140737488355328 := by
            rw [bsL, List.length_map]
            exact Nat.le_trans (Nat.le_mul_of_pos_right _ hz0) hrd.1
          refine land_val h (v := .string ⟨(bsL l).toArray⟩) ?_ ⟨rfl, hlen⟩ rfl trivial
          rw [ev] at hrun
          simp [execOp, ev, run_convert_bytes_string w src dst el ad n c hu hu8 (st _ hb.2), hrun]
        · cases hs
    · cases hs
  · cases hs

theorem land_nilCheck (h : Pre P G E w hp fr a) {x : Operand} {r : S1} {ow : Prop} (hx : SVok E w (.s r) (a.eval x))
    (hr : (∃ b, a.eval x = .pointer (some b)) ∨ ∃ f vs, a.eval x = .func (.func f) #[] vs) : Land P G E w hp nx ⟨d, .nilCheck x, ty, pos, af, gd⟩ a ⟨ow, .s r, [], nx, True⟩ := by
  refine land_val h (v := a.eval x) ?_ hx rfl trivial
  rcases hr with ⟨b, e⟩ | ⟨f, vs, e⟩ <;> simp [execOp, e]

theorem caps_ok (h : Pre P G E w hp fr a) : ∀ (xs : List Operand) (l : List (Nat × Nat)), capsOf fr xs = some l → (∀ o off, (o, off) ∈ l → ∃ cs, E.ob o = .box cs) →
    (xs.map a.eval).length = l.length ∧ ∀ (i o off : Nat), l[i]? = some (o, off) → E.born o ∧ match E.ob o with
        | .box _ => ∃ b, E.loc o = some (b, 0) ∧ (xs.map a.eval)[i]? = some (.pointer (some ⟨b, off, none⟩))
        | _ => True
  | [], l, hs, _ => by simp only [capsOf, Option.some.injEq] at hs; subst hs; exact ⟨rfl, fun i o off hi => by simp at hi⟩
  | x :: xs, l, hs, hb => by
    simp only [capsOf] at hs
    split at hs
    · rename_i o off r h1 h2
      cases hs
      obtain ⟨hl, hr⟩ := caps_ok h xs r h2 (fun o' off' hm => hb o' off' (by simp [hm]))
      refine ⟨by simp [hl], fun i o' off' hi => ?_⟩
      cases i with
      | zero =>
        simp only [List.getElem?_cons_zero, Option.some.injEq, Prod.mk.injEq] at hi
        obtain ⟨rfl, rfl⟩ := hi
        have hx := h.ev x
        rw [h1] at hx
        obtain ⟨g1, g2⟩ := hx
        refine ⟨g1, ?_⟩
        obtain ⟨cs, hcs⟩ := hb o off (by simp)
        rw [hcs] at g2 ⊢
        obtain ⟨b, g3, g4⟩ := g2
        exact ⟨b, g3, by simp [g4]⟩
      | succ i => exact hr i o' off' (by simpa using hi)
    · cases hs

theorem land_min (h : Pre P G E w hp fr a) (mn : Bool) {x y : Operand} {X Y r : SV} {ats : Array TypeId} {ow : Prop} (hx : SVok E w X (a.eval x)) (hy : SVok E w Y (a.eval y)) (hs : sMin mn X Y = some r) :
    Land P G E w hp nx ⟨d, .call { callee := .builtin (if mn then .min else .max), args := #[x, y], argTypes := ats }, ty, pos, af, gd⟩ a ⟨ow, r, [], nx, True⟩ := by
  unfold sMin at hs
  split at hs
  · rename_i k p k' q
    cases hk : keq k k' <;> rw [hk] at hs <;> simp only [cond_true, cond_false, reduceCtorEq, Option.some.injEq] at hs
    have := keq_eq hk
    subst this
    subst hs
    obtain ⟨e1, b1⟩ := hx
    obtain ⟨e2, b2⟩ := hy
    cases mn
    · refine land_val h (v := .int k (if p < q then q else p)) ?_ ⟨rfl, by show k.has (if p < q then q else p); split <;> assumption⟩ rfl trivial
      simp [execOp, resolve, invoke, builtin, e1, e2, Builtin.max_, Builtin.max2]
    · refine land_val h (v := .int k (if q < p then q else p)) ?_ ⟨rfl, by show k.has (if q < p then q else p); split <;> assumption⟩ rfl trivial
      simp [execOp, resolve, invoke, builtin, e1, e2, Builtin.min_, Builtin.min2]
  · cases hs

theorem has_len {n : Nat} (h : n ≤ 140737488355328) : IntKind.i64.has (n : Int) := by
  simp [IntKind.has, IntKind.min, IntKind.max, IntKind.signed, IntKind.bits]; omega

theorem land_len (h : Pre P G E w hp fr a) {x : Operand} {X : SV} {t : TypeId} {ts : List TypeId} {n : Nat} {ow : Prop} (hx : SVok E w X (a.eval x)) (hs : sLen P (fo hp) t X = some n) :
    Land P G E w hp nx ⟨d, .call { callee := .builtin .len, args := #[x], argTypes := (t :: ts).toArray }, ty, pos, af, gd⟩ a ⟨ow, .s (.int .i64 (n : Int)), [], nx, True⟩ := by
  have run : ∀ (v : Value) (td : TypeDesc), a.eval x = v → P.underlying t = some td → ((∃ el q c, td = .slice el ∧ v = .slice q n c) ∨ (td = .string ∧ ∃ s : ByteArray, v = .string s ∧ s.size = n)) →
      (execOp a.eval ⟨d, .call { callee := .builtin .len, args := #[x], argTypes := (t :: ts).toArray }, ty, pos, af, gd⟩).run P w = .ok (.value (.int .i64 (n : Int))) w := by
    intro v td hv ht hc
    rcases hc with ⟨el, q, c, rfl, rfl⟩ | ⟨rfl, s, rfl, rfl⟩
    · simp [execOp, resolve, invoke, builtin, hv, Builtin.len_, run_underlying ht, goInt]
    · simp [execOp, resolve, invoke, builtin, hv, Builtin.len_, run_underlying ht, goInt]
  unfold sLen at hs
  split at hs
  · rename_i o lo hi
    split at hs
    · rename_i fz z e xs ho
      split at hs
      · rename_i ez hI
        cases hz : Nat.ble 1 z <;> rw [hz] at hs <;> simp only [cond_true, cond_false] at hs
        · cases hs
        · cases hs
          have hz1 := Nat.le_of_ble_eq_true hz
          obtain ⟨e', z'⟩ := ez
          obtain ⟨el, inf, zv, hu, _⟩ := elemI_run hI
          have hob : E.ob o = .arr fz z e xs := (h.ob o).trans ho
          have hx0 := hx
          obtain ⟨hb, hx⟩ := hx
          rw [hob] at hx
          obtain ⟨h1, h2, h3⟩ := hx
          have hv : ∃ q c, a.eval x = .slice q (hi - lo) c := by
            cases hl : E.loc o with
            | none => rw [hl] at h3; obtain ⟨e1, rfl⟩ := h3; exact ⟨none, 0, by simpa using e1⟩
            | some q =>
              obtain ⟨b, off⟩ := q
              rw [hl] at h3
              rcases h3 with ⟨c, _, _, _, e1, _⟩ | ⟨hle, q, e1⟩
              · exact ⟨_, c, e1⟩
              · exact ⟨q, 0, by rw [e1]; congr 1; omega⟩
          obtain ⟨q, c, e1⟩ := hv
          have hm := h.mem.hp o hb
          rw [hob] at hm
          refine land_val h (v := .int .i64 ((hi - lo : Nat) : Int)) (run _ _ e1 hu (.inl ⟨el, q, c, rfl, rfl⟩)) ⟨rfl, has_len ?_⟩ rfl trivial
          have := Nat.le_trans (Nat.le_mul_of_pos_right xs.length hz1) hm.1
          omega
      · cases hs
    · cases hs
  · rename_i z e xs
    split at hs
    · rename_i ez hI
      cases hz : Nat.ble 1 z <;> rw [hz] at hs <;> simp only [cond_true, cond_false] at hs
      · cases hs
      · cases hs
        have hz1 := Nat.le_of_ble_eq_true hz
        obtain ⟨e', z'⟩ := ez
        obtain ⟨el, inf, zv, hu, _⟩ := elemI_run hI
        obtain ⟨hl, hx⟩ := hx
        have hle := Nat.le_trans (Nat.le_mul_of_pos_right xs.length hz1) hl
        rcases hx with ⟨q, c, e1, rfl⟩ | ⟨b, off, c, e1, _⟩
        · simp only [List.cons.injEq, and_true] at e1
          exact land_val h (v := .int .i64 ((0 : Nat) : Int)) (run _ _ e1 hu (.inl ⟨el, q, c, rfl, rfl⟩)) ⟨rfl, has_len hle⟩ rfl trivial
        · simp only [List.cons.injEq, and_true] at e1
          exact land_val h (v := .int .i64 (xs.length : Int)) (run _ _ e1 hu (.inl ⟨el, _, c, rfl, rfl⟩)) ⟨rfl, has_len hle⟩ rfl trivial
    · cases hs
  · rename_i s
    cases ht : isStr P t <;> rw [ht] at hs <;> simp only [cond_true, cond_false] at hs
    · cases hs
    · cases hs
      have ht' : P.underlying t = some .string := by
        unfold isStr at ht
        split at ht
        · assumption
        · cases ht
      obtain ⟨e1, hl⟩ := hx
      exact land_val h (v := .int .i64 (s.length : Int)) (run _ _ e1 ht' (.inr ⟨rfl, _, rfl, by show s.toArray.size = _; simp⟩)) ⟨rfl, has_len hl⟩ rfl trivial
  · split at hs
    · rename_i ez hI
      cases hs
      obtain ⟨e', z'⟩ := ez
      obtain ⟨el, inf, zv, hu, _⟩ := elemI_run hI
      exact land_val h (v := .int .i64 ((0 : Nat) : Int)) (run _ _ hx hu (.inl ⟨el, none, 0, rfl, rfl⟩)) ⟨rfl, has_len (by omega)⟩ rfl trivial
    · cases hs
  · cases hs

end
end Go.Proofs.YtdepbfgnmliggaaGreatDoor.Sx
