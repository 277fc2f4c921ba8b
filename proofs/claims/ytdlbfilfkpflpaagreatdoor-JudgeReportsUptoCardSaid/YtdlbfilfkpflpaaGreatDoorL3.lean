/- A part of the proof. -/
import Derived.Test.YtdlbfilfkpflpaaGreatDoorL2
import Derived.SizedLaws
import Derived.Carry
import Derived.ProofKit
import Derived.OpenShut
import Derived.ChangeSame
import Derived.KernelRfl
import Derived.Deep.CondSized
import Derived.Test.YtdlbfilfkpflpaaGreatDoorRows
import Derived.LaidHandle
import Derived.LaidLaws
import Derived.Laws.Tables
import Derived.Lib.ItoaNum
import Derived.Shelf.Strconv.Itoa0
import Derived.Shelf.Strconv.Itoa1
import Derived.Shelf.LaysM
import Derived.Shelf.Strconv.Itoa2
import Derived.Shelf.Strconv.Itoa3
import Derived.Test.YtdlbfilfkpflpaaGreatDoorProg
import Derived.Lib.AppendIntMem
import Derived.Test.YtdlbfilfkpflpaaGreatDoorL0
import Derived.Test.YtdlbfilfkpflpaaGreatDoorL1

/-! Out of a reading of the form's own, a reading of the symbolic run's; a law's row out of its contract. -/
namespace Go.Proofs.YtdlbfilfkpflpaaGreatDoor.Sx
set_option linter.unusedSimpArgs false
set_option linter.unusedVariables false
noncomputable section
open Go.ChangeShapes Go.WideShapes Go.ChangeAt Go.RowKit

/-- The fields lie one behind the other. -/
def offsB (P : Program) : List Field → Nat → Nat → Bool
  | [], o, n => o == n
  | f :: r, o, n => (f.offset == o) && offsB P r (o + P.cellsOf f.type) n

def tyChk (P : Program) : Nat → TypeId → Bool
  | 0, _ => false
  | d + 1, t =>
    match P.underlying t with
    | some (.slice e) => tyChk P d e && Nat.ble 1 (P.cellsOf e) && (P.cellsOf t == 1)
    | some (.struct fs) => offsB P fs.toList 0 (P.cellsOf t) && fs.toList.all fun f => tyChk P d f.type
    | _ => P.cellsOf t == 1

/-- How many values and letters a datum holds. -/
def Ty.bulk : (t : Ty) → t.den → Nat
  | .str, s => s.length + 1
  | .pair a b, x => a.bulk x.1 + b.bulk x.2
  | .slice _ e, xs => (xs.map e.bulk).sum
  | .int _, _ => 1
  | .bool, _ => 1
  | .unit, _ => 0
  | .opq, _ => 0

section
variable {H : Type} {enc : TypeId × Value → H} {P : Program} {W : World} {sp : Nat → Bool}

theorem bulk_sum {e : Ty} : ∀ (ys : List e.den) (ds : List (DataW H)), ys.length = ds.length → (∀ (j : Nat) y d, ys[j]? = some y → ds[j]? = some d → e.bulk y ≤ Rows.uptoBulk d) → (ys.map e.bulk).sum ≤ Rows.uptoBulkAll ds
  | [], [], _, _ => by simp
  | y :: ys, d :: ds, hl, h => by
    have h1 := bulk_sum ys ds (by simpa using hl) fun j y d a b => h (j + 1) y d (by simpa using a) (by simpa using b)
    have h2 := h 0 y d rfl rfl
    simp only [List.map_cons, List.sum_cons, Rows.uptoBulkAll]
    omega
  | [], _ :: _, hl, _ => by simp at hl
  | _ :: _, [], hl, _ => by simp at hl

theorem mapM_at {α β : Type} {f : α → Option β} : ∀ {l : List α} {r : List β}, l.mapM f = some r → r.length = l.length ∧ ∀ (i : Nat) (h : i < l.length), ∃ y, f l[i] = some y ∧ r[i]? = some y
  | [], r, h => by simp at h; subst h; exact ⟨rfl, fun i h => by simp at h⟩
  | a :: l, r, h => by
    rw [List.mapM_cons] at h
    cases ha : f a with
    | none => rw [ha] at h; cases h
    | some b =>
      rw [ha] at h
      cases hl : l.mapM f with
      | none => rw [hl] at h; cases h
      | some r' =>
        rw [hl] at h
        cases h
        obtain ⟨h1, h2⟩ := mapM_at hl
        refine ⟨by simp [h1], fun i hi => ?_⟩
        cases i with
        | zero => exact ⟨b, ha, rfl⟩
        | succ i =>
          obtain ⟨y, k1, k2⟩ := h2 i (by simpa using hi)
          exact ⟨y, k1, by simpa using k2⟩

theorem weightsAll_at {e : TypeId} : ∀ {l : List (DataW H)} {d : DataW H}, d ∈ l → ∀ n ∈ d.weights P e, n ∈ DataW.weightsAll P e l
  | x :: l, d, hd, n, hn => by
    simp only [DataW.weightsAll, List.mem_append]
    rcases List.mem_cons.1 hd with rfl | hd
    · exact .inl hn
    · exact .inr (weightsAll_at hd n hn)

theorem tyN : ∀ (d : Nat) (t : TypeId) (ty : Ty), tyOf P d t = some ty → tyChk P d t = true → ty.n = P.cellsOf t
  | 0, _, _, h, _ => by cases h
  | d + 1, t, ty, h, hc => by
    unfold tyOf at h
    unfold tyChk at hc
    split at h
    · rename_i k hu; rw [hu] at hc; cases h; exact (beq_iff_eq.1 hc).symm
    · rename_i hu; rw [hu] at hc; cases h; exact (beq_iff_eq.1 hc).symm
    · rename_i hu; rw [hu] at hc; cases h; exact (beq_iff_eq.1 hc).symm
    · rename_i e hu
      rw [hu] at hc
      simp only [Bool.and_eq_true] at hc
      split at h
      · cases h; exact (beq_iff_eq.1 hc.2).symm
      · cases h
    · rename_i fs hu
      rw [hu] at hc
      simp only [Bool.and_eq_true, List.all_eq_true] at hc
      obtain ⟨h1, h2⟩ := hc
      have key : ∀ (l : List Field) (o N : Nat) (ty : Ty), (∀ f ∈ l, tyChk P d f.type = true) → offsB P l o N = true →
          l.foldr (fun f acc => match tyOf P d f.type, acc with | some a, some b => some (.pair a b) | _, _ => none) (some Ty.unit) = some ty → o + ty.n = N := by
        intro l
        induction l with
        | nil => intro o N ty _ ho ht; cases ht; simpa [offsB, Ty.n] using ho
        | cons f l ih =>
          intro o N ty hall ho ht
          simp only [List.foldr_cons] at ht
          split at ht
          · rename_i a b ha hb
            cases ht
            simp only [offsB, Bool.and_eq_true] at ho
            have := ih _ _ b (fun g hg => hall g (List.mem_cons_of_mem _ hg)) ho.2 hb
            have := tyN d f.type a ha (hall f (List.mem_cons_self))
            simp only [Ty.n]; omega
          · cases ht
      have := key fs.toList 0 _ ty h2 h1 h
      omega
    · cases h
    · cases h
    · cases h
    · rename_i u hn1 hn2 hn3 hn4 hn5 hn6 hn7 hn8 hu
      rw [hu] at hc
      cases h
      have hc' : (P.cellsOf t == 1) = true := by
        revert hc
        cases u <;> first | exact fun h => h | exact absurd rfl (hn4 _) | exact absurd rfl (hn5 _) | exact absurd hu (hn4 _) | exact absurd hu (hn5 _)
      exact (beq_iff_eq.1 hc').symm
    · cases h

theorem cells_at {base : Nat} {a : Addr} {n : Nat} {us : List Value} (h : W.cells? base a n = some us) : us.length = n ∧ ∀ i, i < n → ∃ u, us[i]? = some u ∧ W.cell? (a.add i) = some u := by
  unfold World.cells? at h
  split at h
  · obtain ⟨h1, h2⟩ := mapM_at h
    refine ⟨by simpa using h1, fun i hi => ?_⟩
    obtain ⟨y, k1, k2⟩ := h2 i (by simpa using hi)
    exact ⟨y, k2, by simpa using k1⟩
  · cases h

theorem spot_none {a : Addr} {u : Value} (h : W.cell? a = some u) : a.spot = none := by
  unfold World.cell? at h
  split at h
  · split at h
    · cases h
    · rename_i hs; simpa using hs
  · cases h

theorem trod_fields {n fuel : Nat} {cs : List Value} (ih : ∀ (t : TypeId) (ty : Ty), tyOf P n t = some ty → tyChk P n t = true → ∀ (cs : List Value) (x : DataW H × List MemPlace),
      DataW.trod enc P W 0 sp true fuel t cs = some x → (∀ k ∈ x.1.weights P t, k ≤ reachBytes) → ∃ y, Rd (fun _ => False) W ty cs y ∧ ty.small y ∧ ty.bulk y ≤ Rows.uptoBulk x.1) :
    ∀ (l : List Field) (o : Nat) (ty : Ty) (xs : List (DataW H × List MemPlace)), (∀ f ∈ l, tyChk P n f.type = true) → offsB P l o cs.length = true →
      l.foldr (fun f acc => match tyOf P n f.type, acc with | some a, some b => some (.pair a b) | _, _ => none) (some Ty.unit) = some ty →
      (∀ (i : Nat) (f : Field), l[i]? = some f → DataW.trod enc P W 0 sp true fuel f.type ((cs.drop f.offset).take (P.cellsOf f.type)) = xs[i]?) → xs.length = l.length →
      (∀ k ∈ DataW.weightsEach P (l.map (·.type)) (xs.map (·.1)), k ≤ reachBytes) → ∃ y, Rd (fun _ => False) W ty (cs.drop o) y ∧ ty.small y ∧ ty.bulk y ≤ Rows.uptoBulkAll (xs.map (·.1))
  | [], o, ty, xs, _, ho, ht, _, _, _ => by
    cases ht
    refine ⟨(), ?_, trivial, Nat.zero_le _⟩
    show cs.drop o = []
    simp only [offsB, beq_iff_eq] at ho
    simp [ho]
  | f :: l, o, ty, [], _, _, _, _, hl, _ => by simp at hl
  | f :: l, o, ty, x :: xs, hall, ho, ht, hx, hl, hw => by
    simp only [List.foldr_cons] at ht
    split at ht
    · rename_i a b ha hb
      cases ht
      simp only [offsB, Bool.and_eq_true, beq_iff_eq] at ho
      obtain ⟨rfl, ho⟩ := ho
      obtain ⟨y1, h1, s1, t1⟩ := ih f.type a ha (hall f (List.mem_cons_self)) _ x (hx 0 f rfl) (fun k hk => hw k (by simp only [List.map_cons, DataW.weightsEach, List.mem_append]; exact .inl hk))
      obtain ⟨y2, h2, s2, t2⟩ := trod_fields ih l _ b xs (fun g hg => hall g (List.mem_cons_of_mem _ hg)) ho hb (fun i g hg => hx (i + 1) g (by simpa using hg)) (by simpa using hl)
        (fun k hk => hw k (by simp only [List.map_cons, DataW.weightsEach, List.mem_append]; exact .inr hk))
      refine ⟨(y1, y2), ⟨(cs.drop f.offset).take (P.cellsOf f.type), cs.drop (f.offset + P.cellsOf f.type), ?_, h1, h2⟩, ⟨s1, s2⟩, ?_⟩
      rotate_left
      · simp only [Ty.bulk, List.map_cons, Rows.uptoBulkAll]; omega
      rw [← List.drop_drop, List.take_append_drop]
    · cases ht

theorem trod_rd : ∀ (n : Nat) (t : TypeId) (ty : Ty), tyOf P n t = some ty → tyChk P n t = true → ∀ (fuel : Nat) (cs : List Value) (x : DataW H × List MemPlace),
    DataW.trod enc P W 0 sp true fuel t cs = some x → (∀ k ∈ x.1.weights P t, k ≤ reachBytes) → ∃ y, Rd (fun _ => False) W ty cs y ∧ ty.small y ∧ ty.bulk y ≤ Rows.uptoBulk x.1
  | 0, _, _, h, _, _, _, _, _, _ => by cases h
  | n + 1, t, ty, h, hc, fuel, cs, x, ht, hw => by
    unfold tyOf at h
    unfold tyChk at hc
    split at h
    · rename_i k hu
      cases h
      obtain ⟨m, rfl, hxe, hwf⟩ := DataW.trod_int hu ht
      refine ⟨m, ⟨rfl, ?_⟩, trivial, by subst hxe; simp [Ty.bulk, Rows.uptoBulk]⟩
      simp only [Lit.wf, Bool.and_eq_true, decide_eq_true_eq] at hwf
      exact hwf
    · rename_i hu
      cases h
      obtain ⟨b, rfl, hxe⟩ := DataW.trod_bool hu ht
      exact ⟨b, rfl, trivial, by subst hxe; simp [Ty.bulk, Rows.uptoBulk]⟩
    · rename_i hu
      cases h
      obtain ⟨s, rfl, rfl, _⟩ := DataW.trod_string hu ht
      have h1 := hw s.data.toList.length (by simp [DataW.weights])
      unfold reachBytes at h1
      exact ⟨s.data.toList, ⟨by simp, by omega⟩, h1, by simp [Ty.bulk, Rows.uptoBulk]⟩
    · rename_i e hu
      rw [hu] at hc
      simp only [Bool.and_eq_true] at hc
      obtain ⟨⟨hc1, hc2⟩, _⟩ := hc
      have hc2 := Nat.le_of_ble_eq_true hc2
      split at h
      · rename_i i ety hi hety
        cases h
        have hbytes : P.bytesOf e = i.bytes := by simp [Program.bytesOf, hi]
        have hn := tyN n e ety hety hc1
        rcases DataW.trod_slice hu ht with ⟨rfl, _⟩ | ⟨a, len, cap, elems, rest, m, _, rfl, rfl, _, hle, _, hlen, hel, _⟩
        · exact ⟨[], ⟨by simp, .inl ⟨none, 0, rfl, rfl⟩⟩, by simp [Ty.small], by simp [Ty.bulk]⟩
        · have hz := hw ((elems.length + rest.length) * i.bytes) (by simp [DataW.weights, hu, hbytes])
          have hsz' : len * i.bytes ≤ 140737488351232 := by
            have := Nat.mul_le_mul_right i.bytes (Nat.le_add_right elems.length rest.length)
            rw [hlen] at this hz
            unfold reachBytes at hz; omega
          have hsz : len * i.bytes ≤ 140737488355328 := by omega
          have each : ∀ j, j < len → ∃ (y : ety.den) (us : List Value), us.length = ety.n ∧ (∀ q u, us[q]? = some u → W.cell? ((a.add (j * ety.n)).add q) = some u) ∧ Rd (fun _ => False) W ety us y ∧ ety.small y ∧ ∀ d, elems[j]? = some d → ety.bulk y ≤ Rows.uptoBulk d.1 := by
            intro j hj
            have h1 := hel j hj
            have hj' : j < elems.length := by omega
            rw [List.getElem?_eq_getElem hj'] at h1
            rw [Option.bind_eq_some_iff] at h1
            obtain ⟨us, hus, htr⟩ := h1
            obtain ⟨k1, k2⟩ := cells_at hus
            obtain ⟨y, hy, hys, hyb⟩ := trod_rd n e ety hety hc1 m us _ htr (fun k hk => hw k (by
              simp only [DataW.weights, hu, List.mem_cons, List.mem_append]
              exact .inr (.inl (weightsAll_at (List.mem_map.2 ⟨_, List.getElem_mem hj', rfl⟩) k hk))))
            refine ⟨y, us, by rw [hn, k1], fun q u hq => ?_, hy, hys, fun d hd => by rw [List.getElem?_eq_getElem hj'] at hd; cases hd; exact hyb⟩
            have hql : q < P.cellsOf e := by
              have := (List.getElem?_eq_some_iff.1 hq).1
              omega
            obtain ⟨u', g1, g2⟩ := k2 q hql
            rw [hq] at g1
            cases g1
            rw [hn]; exact g2
          rcases Nat.eq_zero_or_pos len with h0 | h0
          · subst h0
            exact ⟨[], ⟨by simp, .inl ⟨some a, cap, rfl, rfl⟩⟩, by simp [Ty.small], by simp [Ty.bulk]⟩
          · have hspot : a.spot = none ∧ a.block < W.heap.size := by
              obtain ⟨y, us, g1, g2, _⟩ := each 0 h0
              have : 0 < us.length := by omega
              have := g2 0 _ (List.getElem?_eq_getElem this)
              have e0 : (a.add (0 * ety.n)).add 0 = a := by simp [Addr.add]
              rw [e0] at this
              refine ⟨spot_none this, ?_⟩
              obtain ⟨ab, ao, asp⟩ := a
              have e1 := spot_none this
              dsimp only at e1; subst e1
              exact cell_lt this
            obtain ⟨b, off, spt⟩ := a
            obtain ⟨hsp0, hlt⟩ := hspot
            dsimp only at hsp0 hlt
            subst hsp0
            have hex : ∀ j : Fin len, ∃ y : ety.den, ∃ us : List Value, us.length = ety.n ∧ (∀ q u, us[q]? = some u → W.cell? ⟨b, off + j.1 * ety.n + q, none⟩ = some u) ∧ Rd (fun _ => False) W ety us y ∧ ety.small y ∧ ∀ d, elems[j.1]? = some d → ety.bulk y ≤ Rows.uptoBulk d.1 := by
              intro j
              obtain ⟨y, us, g1, g2, g3⟩ := each j.1 j.2
              refine ⟨y, us, g1, fun q u hq => ?_, g3⟩
              have := g2 q u hq
              have e1 : ((⟨b, off, none⟩ : Addr).add (j.1 * ety.n)).add q = ⟨b, off + j.1 * ety.n + q, none⟩ := by
                unfold Addr.add
                by_cases hz1 : j.1 * ety.n = 0 <;> by_cases hz2 : q = 0 <;> simp [hz1, hz2]
              rwa [e1] at this
            refine ⟨List.ofFn fun j => Classical.choose (hex j), ⟨by simpa using hsz, .inr ⟨b, off, cap, by simp, by simpa using hle, ?_, fun h => h, hlt, fun j hj => ?_⟩⟩, ⟨by simpa using hsz', fun y hy => ?_⟩, ?_⟩
            · intro hnil
              have := congrArg List.length hnil
              simp at this; omega
            · have hj' : j < len := by simpa using hj
              obtain ⟨us, g1, g2, g3, _, _⟩ := Classical.choose_spec (hex ⟨j, hj'⟩)
              refine ⟨us, g1, g2, ?_⟩
              simpa using g3
            · obtain ⟨j, rfl⟩ := List.mem_ofFn.1 hy
              obtain ⟨_, _, _, _, g4, _⟩ := Classical.choose_spec (hex j)
              exact g4
            · have key := bulk_sum (H := H) (e := ety) (List.ofFn fun j => Classical.choose (hex j)) (elems.map (·.1)) (by simp [hlen]) fun j y d h1 h2 => by
                rw [List.getElem?_ofFn] at h1
                split at h1
                · rename_i hj
                  cases h1
                  obtain ⟨_, _, _, _, _, g5⟩ := Classical.choose_spec (hex ⟨j, hj⟩)
                  rw [List.getElem?_map, Option.map_eq_some_iff] at h2
                  obtain ⟨d', h3, rfl⟩ := h2
                  exact g5 d' h3
                · cases h1
              simp only [Ty.bulk, Rows.uptoBulk]
              exact Nat.le_trans key (by omega)
      · cases h
    · rename_i fs hu
      rw [hu] at hc
      simp only [Bool.and_eq_true, List.all_eq_true] at hc
      obtain ⟨h1, h2⟩ := hc
      obtain ⟨xs, m, _, rfl, hcl, hxl, hx⟩ := DataW.trod_struct hu ht
      obtain ⟨y, hy, hys, hyb⟩ := trod_fields (n := n) (fuel := m) (cs := cs) (fun t ty a1 a2 cs x a3 a4 => trod_rd n t ty a1 a2 m cs x a3 a4) fs.toList 0 ty xs h2 (by rw [hcl]; exact h1) h
        (fun i f hf => hx i f (by simpa using hf)) (by simpa using hxl) (fun k hk => hw k (by simpa [DataW.weights, hu] using hk))
      exact ⟨y, by simpa using hy, hys, by simp only [Rows.uptoBulk]; omega⟩
    · cases h
    · cases h
    · cases h
    · rename_i u hn1 hn2 hn3 hn4 hn5 hn6 hn7 hn8 hu
      cases h
      cases fuel with
      | zero => simp [DataW.trod] at ht
      | succ m =>
        unfold DataW.trod at ht
        rw [hu] at ht
        have key : ∃ v, cs = [v] ∧ v.oneCell' = true := by
          split at ht <;> first
            | exact ⟨_, rfl, rfl⟩
            | (simp only [Option.some.injEq] at *; simp_all; done)
            | (exfalso; simp_all; done)
            | cases ht
        obtain ⟨v, rfl, hv⟩ := key
        exact ⟨v, ⟨rfl, hv⟩, trivial, Nat.zero_le _⟩
    · cases h

/-! ### A law's row out of its contract -/
def aggB (P : Program) (t : TypeId) : Bool := match P.underlying t with
  | some (.struct _) => true
  | some (.array _ _) => true
  | _ => false

/-- The parameters' types are those of the contract. -/
def ParOk (P : Program) : List TypeId → List (Bool × Ty) → Prop
  | [], [] => True
  | t :: ts, (b, ty) :: al => (tyOf P 20 t = some ty ∧ tyChk P 20 t = true ∧ aggB P t = b ∧ P.readableRec t = true ∧ decide (t < P.types.size) = true) ∧ ParOk P ts al
  | _, _ => False

theorem okWide_agg {w : World} {r : Reach} {b : Nat} {t : TypeId} {v : Value} (ht : aggB P t = true) (h : Value.okWide P w r b t v) : ∃ cs : List Value, v = .agg cs.toArray ∧ v.cells.toList = cs := by
  unfold aggB at ht
  unfold Value.okWide at h
  split at ht
  · rename_i hu
    rw [hu] at h
    obtain ⟨cs, rfl, _⟩ := h
    exact ⟨cs.toList, by simp, rfl⟩
  · rename_i hu
    rw [hu] at h
    obtain ⟨cs, rfl, _⟩ := h
    exact ⟨cs.toList, by simp, rfl⟩
  · cases ht

theorem okWide_one {w : World} {r : Reach} {b : Nat} {t : TypeId} {v : Value} (ht : aggB P t = false) (h : Value.okWide P w r b t v) : v.cells.toList = [v] := by
  unfold aggB at ht
  cases v with
  | agg cs =>
    exfalso
    unfold Value.okWide at h
    cases hu : P.underlying t with
    | none => rw [hu] at h; simp [Cell.okWide, Cell.ok, hu] at h
    | some u =>
      rw [hu] at h ht
      cases u <;> simp_all [Cell.okWide, Cell.ok]
  | _ => rfl

theorem args_rd {base : Nat} : ∀ (al : List (Bool × Ty)) (ts : List TypeId) (vs : List Value) (ds : List (DataW H)) (ps : List MemPlace), ParOk P ts al → DataW.TrodAll enc P W 0 sp true ts vs ds ps →
    (∀ (j : Nat) t v, ts[j]? = some t → vs[j]? = some v → Value.okWide P W .any base t v) → (∀ k ∈ DataW.weightsEach P ts ds, k ≤ reachBytes) → ∃ x, ArgsRd (fun _ => False) W al vs x ∧ (tyL al).small x ∧ (tyL al).bulk x ≤ Rows.uptoBulkAll ds
  | [], [], [], [], _, _, _, _, _ => ⟨(), trivial, trivial, Nat.zero_le _⟩
  | [], [], [], _ :: _, _, _, h, _, _ => h.elim
  | [], [], _ :: _, _, _, _, h, _, _ => by cases ‹List (DataW H)› <;> exact h.elim
  | [], _ :: _, _, _, _, h, _, _, _ => h.elim
  | _ :: _, [], _, _, _, h, _, _, _ => h.elim
  | (b, ty) :: al, t :: ts, v :: vs, d :: ds, ps, ⟨⟨h1, h2, h3, _⟩, hp⟩, ⟨p, q, hv, hr, _⟩, hok, hw => by
    obtain ⟨x, hx, hxs, hxb⟩ := args_rd al ts vs ds q hp hr (fun j t v a b => hok (j + 1) t v (by simpa using a) (by simpa using b)) (fun k hk => hw k (by simp only [DataW.weightsEach, List.mem_append]; exact .inr hk))
    obtain ⟨fuel, hf⟩ := hv
    obtain ⟨y, hy, hys, hyb⟩ := trod_rd 20 t ty h1 h2 fuel _ _ hf (fun k hk => hw k (by simp only [DataW.weightsEach, List.mem_append]; exact .inl hk))
    have ho := hok 0 t v rfl rfl
    refine ⟨(y, x), ⟨fun hb => ?_, fun hb => ?_, hx⟩, ⟨hys, hxs⟩, by dsimp only at hyb; simp only [tyL, Ty.bulk, Rows.uptoBulkAll]; omega⟩
    · subst hb
      obtain ⟨cs, e1, e2⟩ := okWide_agg h3 ho
      exact ⟨cs, e1, by rw [e2] at hy; exact hy⟩
    · subst hb
      rw [okWide_one h3 ho] at hy
      exact hy
  | _ :: _, _ :: _, [], _, _, _, h, _, _ => by cases ‹List (DataW H)› <;> exact h.elim
  | _ :: _, _ :: _, _ :: _, [], _, _, h, _, _ => h.elim

theorem args_back (hl : laidOutB P = true) {W' : World} (hb : Below W.heap.size W W') {sp' : Nat → Bool} : ∀ {al : List (Bool × Ty)} {ts : List TypeId} {vs : List Value} {ds : List (DataW H)} {ps : List MemPlace}, ParOk P ts al → DataW.TrodAll enc P W 0 (fun _ => true) true ts vs ds ps →
    (∀ x ∈ ps, x.block < W.heap.size) → (∀ x ∈ ps, sp' x.block = true) → DataW.TrodAll enc P W' 0 sp' true ts vs ds ps
  | [], [], [], [], _, _, h, _, _ => h
  | [], [], [], _ :: _, _, _, h, _, _ => h.elim
  | [], [], _ :: _, _, _, _, h, _, _ => by cases ‹List (DataW H)› <;> exact h.elim
  | [], _ :: _, _, _, _, h, _, _, _ => h.elim
  | _ :: _, [], _, _, _, h, _, _, _ => h.elim
  | (b, ty) :: al, t :: ts, v :: vs, d :: ds, ps, ⟨⟨_, _, _, h4, h5⟩, hp⟩, ⟨p, q, hv, hr, e⟩, hlt, hsp => by
    subst e
    exact ⟨p, q, WideElems.Trod_stays hl h4 (of_decide_eq_true h5) hv (fun x hx => hb.same (hlt x (List.mem_append_left _ hx))) (fun x hx => hsp x (List.mem_append_left _ hx)),
      args_back hl hb hp hr (fun x hx => hlt x (List.mem_append_right _ hx)) (fun x hx => hsp x (List.mem_append_right _ hx)), rfl⟩
  | _ :: _, _ :: _, [], _, _, _, h, _, _ => by cases ‹List (DataW H)› <;> exact h.elim
  | _ :: _, _ :: _, _ :: _, [], _, _, h, _, _ => h.elim

/-- A law's contract: true, whatever comes. -/
def lawCon (f : FuncId) (al : List (Bool × Ty)) : Con := ⟨f, al, [(false, .bool)], (tyL al).small, fun _ => (true, ()), false⟩

theorem law_post {f : Func} {s : ChangeSpec} {apart fresh handsOn again : Bool} {W' : World} {args : Array Value} {ds gs : List (DataW H)} {before : List MemPlace} {al : List (Bool × Ty)} {tb : TypeId} (hl : laidOutB P = true)
    (hvs : s.vars = []) (hs : ∀ ds : List (DataW H), ds.length = al.length → s.fn H ds = { results := [.lit (.bool true)], args := ds }) (hp : ParOk P f.params.toList al) (hr : f.resultTypes = #[tb]) (htb : P.underlying tb = some .bool)
    (hW : DataW.Whole enc P f.params.toList s.vars apart W args.toList ds gs before) (hb : Below W.heap.size W W') :
    s.post enc P f apart fresh handsOn again W args (.bool true) W' := by
  have hW0 := hW
  obtain ⟨p, q, hA, hV, rfl, hz, hn⟩ := hW
  rw [hvs] at hV
  obtain ⟨rfl, rfl⟩ := trodVars_none hV
  have hlen : ∀ (ts : List TypeId) (al : List (Bool × Ty)) (vs : List Value) (ds : List (DataW H)) (ps : List MemPlace), ParOk P ts al → DataW.TrodAll enc P W 0 (fun _ => true) true ts vs ds ps → ds.length = al.length := by
    intro ts
    induction ts with
    | nil => intro al vs ds ps h1 h2; cases al with
      | nil => cases vs <;> cases ds <;> first | rfl | exact h2.elim
      | cons _ _ => exact h1.elim
    | cons t ts ih => intro al vs ds ps h1 h2; cases al with
      | nil => exact h1.elim
      | cons a al => cases vs <;> cases ds <;> first | exact h2.elim | (obtain ⟨_, _, _, h2, _⟩ := h2; obtain ⟨_, h1⟩ := h1; simp [ih al _ _ _ h1 h2])
  have hds := hlen _ _ _ _ _ hp hA
  have hfn := hs ds hds
  have hlt : ∀ x ∈ p ++ [], x.block < W.heap.size := fun x hx => hW0.lt x hx
  simp only [List.append_nil] at hlt
  have hres : ∀ (b : Nat) (sp : Nat → Bool) (hd : Bool), DataW.TrodAll enc P W' b sp hd f.resultTypes.toList ((Value.bool true).resultList f.resultTypes.size) [.lit (.bool true)] [] := by
    intro b sp hd
    rw [hr]
    exact ⟨[], [], ⟨1, by simp [DataW.trod, htb, Value.cells]⟩, rfl, rfl⟩
  have hok : ∀ (j : Nat) (t : TypeId) (r : Value), f.resultTypes[j]? = some t → ((Value.bool true).resultList f.resultTypes.size)[j]? = some r → Value.okWide P W' .any 0 t r := by
    refine ok_one hr rfl ?_
    simp [Value.okWide, htb, Cell.okWide, Cell.ok]
  have hargs : ∀ sp' : Nat → Bool, (∀ x ∈ p, sp' x.block = true) → DataW.TrodAll enc P W' 0 sp' true f.params.toList args.toList ds p := fun sp' hsp => args_back hl hb hp hA hlt hsp
  have hold : ∀ x ∈ p, (fun b => decide (b < W.heap.size)) x.block = true := fun x hx => by simpa using hlt x hx
  have hvv : ∀ sp' : Nat → Bool, DataW.TrodVars enc P W' sp' s.vars ([] : List (DataW H)) [] := fun sp' => by rw [hvs]; exact rfl
  refine ⟨ds, [], p ++ [], [], p, [], hW0, ?_, ?_, ?_, World.keptBut_mono (fun x hx => ⟨hx, .inr (.inl (by simpa using hx))⟩) (hb.frame (· ∈ p ++ [])), fun _ => ⟨hok, ?_⟩⟩
  · rw [List.append_nil, hfn]; exact hres _ _ _
  · rw [List.append_nil, hfn]; exact hargs _ hold
  · rw [List.append_nil, hfn]; exact hvv _
  · refine ⟨_, _, ([] ++ p) ++ [], ⟨[] ++ p, [], trodAll_append (hargs _ (fun _ _ => rfl)) (hres _ _ _), hvv _, rfl, ?_, ?_⟩, ?_⟩
    · intro b off hx
      have hin : MemPlace.cell b off ∈ p := by simpa using hx
      rw [hb.frozen (hlt _ hin)]
      exact hz b off (by simpa using hin)
    · intro ha
      simpa using hn ha
    · intro x hx _
      simpa using hx

theorem law_lifted {C : Checked} {os : Os} {f : FuncId} {fn : Func} {s : ChangeSpec} {conds : List PathCond} {apart fresh handsOn again : Bool} {pl : List (Bool × Ty)} {tb : TypeId} (hgw : ∀ W : World, GW W) (hcon : (lawCon f pl).Ok C.prog)
    (hl : laidOutB C.prog = true) (hvs : s.vars = []) (hs : ∀ ds : List (DataW H), ds.length = pl.length → s.fn H ds = { results := [.lit (.bool true)], args := ds }) (hp : ParOk C.prog fn.params.toList pl)
    (hr : fn.resultTypes = #[tb]) (htb : C.prog.underlying tb = some .bool)
    (own : ownKnob C.prog.godebug = none) (started : os.Started) (noInit : C.prog.inits.idxOf? f = none) (hfn : C.prog.funcs[f]? = some fn)
    (witness : ∃ (w : World) (tape : Tape) (i : Input), w.os = os ∧ (w.forCall tape i).Shaped C.prog ∧ i.vars = [] ∧ Input.okWide C.prog (w.forCall tape i) .any w.heap.size f i ∧
      s.pre6 enc C.prog fn conds apart (w.forCall tape i).memory i.args ∧ Assume.holds {} C.prog (lone (Frame.enter C.prog f i.args .normal) [] (w.forCall tape i))) :
    ReturnsInHanded {} C os f .any (s.pre6 enc C.prog fn conds apart) (s.post enc C.prog fn apart fresh handsOn again) := by
  refine returnsInHanded_of_change_sized own started noInit hfn witness ?_
  intro W base args ds gs before hval hW _ hsz _
  obtain ⟨p, q, hA, hV, hbf, hz, hn⟩ := hW
  have hV' := hV
  rw [hvs] at hV'
  obtain ⟨rfl, rfl⟩ := trodVars_none hV'
  obtain ⟨x, hx, hxs, _⟩ := args_rd (base := base) pl fn.params.toList args.toList ds p hp hA (fun j t v a b => hval j t v (by simpa using a) (by simpa using b)) (fun k hk => by
    have := List.all_eq_true.1 hsz k
    have hvt : s.plain.varTypes C.prog = [] := by
      simp [DataSpec.varTypes, ChangeSpec.plain, hvs]
    rw [hvt] at this
    simpa using this (by simpa using hk))
  have hwf := hx.wf
  have := hcon.calls (fun _ => False) W args.toList x (fun _ h => h.elim) ⟨hgw W, fun _ _ h => h⟩ hx hwf hxs 0
  unfold Con.Post at this
  simp only [lawCon] at this
  rw [Array.toArray_toList] at this
  refine this.mono fun e W' hpost => ?_
  obtain ⟨v, rfl, hb, _, loc, hv, _⟩ := hpost
  have hv' : v = .bool true := hv
  subst hv'
  exact ⟨_, rfl, law_post hl hvs hs hp hr htb ⟨p, [], hA, hV, hbf, hz, hn⟩ hb⟩

/-- The contract of a law where what comes is small. -/
def lawConU (f : FuncId) (al : List (Bool × Ty)) : Con := ⟨f, al, [(false, .bool)], fun x => (tyL al).small x ∧ (tyL al).bulk x ≤ 1048576, fun _ => (true, ()), false⟩

theorem law_liftedU {C : Checked} {os : Os} {f : FuncId} {fn : Func} {s : ChangeSpec} {conds : List PathCond} {apart fresh handsOn again : Bool} {pl : List (Bool × Ty)} {tb : TypeId} {F : Stop.Interp} (hgw : ∀ W : World, GW W) (hcon : (lawConU f pl).Ok C.prog)
    (hl : laidOutB C.prog = true) (hvs : s.vars = []) (hs : ∀ ds : List (DataW H), ds.length = pl.length → s.fn H ds = { results := [.lit (.bool true)], args := ds }) (hp : ParOk C.prog fn.params.toList pl)
    (hr : fn.resultTypes = #[tb]) (htb : C.prog.underlying tb = some .bool)
    (own : ownKnob C.prog.godebug = none) (started : os.Started) (noInit : C.prog.inits.idxOf? f = none) (hfn : C.prog.funcs[f]? = some fn)
    (hsF : ((Rows.OpenSpec.upto s).at F) = s)
    (witness : ∃ (w : World) (tape : Tape) (i : Input), w.os = os ∧ (w.forCall tape i).Shaped C.prog ∧ i.vars = [] ∧ Input.okWide C.prog (w.forCall tape i) .any w.heap.size f i ∧
      (Rows.OpenSpec.upto s).pre6 enc C.prog fn conds apart (w.forCall tape i).memory i.args ∧ Assume.holds {} C.prog (lone (Frame.enter C.prog f i.args .normal) [] (w.forCall tape i))) :
    ReturnsInHanded {} C os f .any ((Rows.OpenSpec.upto s).pre6 enc C.prog fn conds apart) (((Rows.OpenSpec.upto s).at F).post enc C.prog fn apart fresh handsOn again) := by
  refine returnsInHanded_of_cond_sized (k := Rows.uptoSmall) rfl own started noInit hfn witness ?_
  intro W base args ds gs before hval hW _ hk hsz _
  rw [hsF]
  have hW : DataW.Whole enc C.prog fn.params.toList s.vars apart W args.toList ds gs before := hW
  obtain ⟨p, q, hA, hV, hbf, hz, hn⟩ := hW
  have hV' := hV
  rw [hvs] at hV'
  obtain ⟨rfl, rfl⟩ := trodVars_none hV'
  obtain ⟨x, hx, hxs, hxb⟩ := args_rd (base := base) pl fn.params.toList args.toList ds p hp hA (fun j t v a b => hval j t v (by simpa using a) (by simpa using b)) (fun k hk => by
    have := List.all_eq_true.1 hsz k
    have hvt : (Rows.OpenSpec.upto s).bare.plain.varTypes C.prog = [] := by
      simp [DataSpec.varTypes, OpenSpec.bare, ChangeSpec.plain, Rows.OpenSpec.upto, OpenSpec.ofChange, hvs]
    rw [hvt] at this
    simpa using this (by simpa using hk))
  have hwf := hx.wf
  have hb : Rows.uptoBulkAll (ds ++ []) ≤ 1048576 := of_decide_eq_true hk
  rw [List.append_nil] at hb
  have := hcon.calls (fun _ => False) W args.toList x (fun _ h => h.elim) ⟨hgw W, fun _ _ h => h⟩ hx hwf ⟨hxs, Nat.le_trans hxb hb⟩ 0
  unfold Con.Post at this
  simp only [lawConU] at this
  rw [Array.toArray_toList] at this
  refine this.mono fun e W' hpost => ?_
  obtain ⟨v, rfl, hb, _, loc, hv, _⟩ := hpost
  have hv' : v = .bool true := hv
  subst hv'
  exact ⟨_, rfl, law_post hl hvs hs hp hr htb ⟨p, [], hA, hV, hbf, hz, hn⟩ hb⟩

end
end
end Go.Proofs.YtdlbfilfkpflpaaGreatDoor.Sx

/-! A law's row out of its contract, where the row lists package-level variables. -/
namespace Go.Proofs.YtdlbfilfkpflpaaGreatDoor.Sx
set_option linter.unusedSimpArgs false
set_option linter.unusedVariables false
noncomputable section
open Go.ChangeShapes Go.WideShapes Go.ChangeAt Go.RowKit

theorem law_liftedX {H : Type} {enc : TypeId × Value → H} {C : Checked} {os : Os} {f : FuncId} {fn : Func} {s : ChangeSpec} {conds : List PathCond} {apart fresh handsOn again : Bool} {pl : List (Bool × Ty)} {tb : TypeId} {X : World → Array Value → Prop}
    (hX : ∀ (w w' : World) (args : Array Value), w.heap = w'.heap → X w args → X w' args) (hXG : ∀ (w : World) (args : Array Value), X w args → GW w) (hcon : (lawCon f pl).Ok C.prog)
    (hl : laidOutB C.prog = true) (hvs : s.vars = []) (hs : ∀ ds : List (DataW H), ds.length = pl.length → s.fn H ds = { results := [.lit (.bool true)], args := ds }) (hp : ParOk C.prog fn.params.toList pl)
    (hr : fn.resultTypes = #[tb]) (htb : C.prog.underlying tb = some .bool)
    (own : ownKnob C.prog.godebug = none) (started : os.Started) (noInit : C.prog.inits.idxOf? f = none) (hfn : C.prog.funcs[f]? = some fn)
    (witness : ∃ (w : World) (tape : Tape) (i : Input), w.os = os ∧ (w.forCall tape i).Shaped C.prog ∧ i.vars = [] ∧ Input.okWide C.prog (w.forCall tape i) .any w.heap.size f i ∧
      ((s.pre enc C.prog fn conds apart (w.forCall tape i).memory i.args ∧ X (w.forCall tape i).memory i.args) ∧ sizedMet enc C.prog fn (OpenSpec.ofChange s) apart (w.forCall tape i).memory i.args) ∧ Assume.holds {} C.prog (lone (Frame.enter C.prog f i.args .normal) [] (w.forCall tape i))) :
    ReturnsInHanded {} C os f .any (fun w args => (s.pre enc C.prog fn conds apart w args ∧ X w args) ∧ sizedMet enc C.prog fn (OpenSpec.ofChange s) apart w args) (s.post enc C.prog fn apart fresh handsOn again) := by
  refine returnsInHanded_of_change_and hX own started noInit hfn witness ?_
  intro W base args ds gs before hval hW _ hsz hXW _
  obtain ⟨p, q, hA, hV, hbf, hz, hn⟩ := hW
  have hV' := hV
  rw [hvs] at hV'
  obtain ⟨rfl, rfl⟩ := trodVars_none hV'
  obtain ⟨x, hx, hxs, _⟩ := args_rd (base := base) pl fn.params.toList args.toList ds p hp hA (fun j t v a b => hval j t v (by simpa using a) (by simpa using b)) (fun k hk => by
    have := List.all_eq_true.1 hsz k
    have hvt : s.plain.varTypes C.prog = [] := by
      simp [DataSpec.varTypes, ChangeSpec.plain, hvs]
    rw [hvt] at this
    simpa using this (by simpa using hk))
  have hwf := hx.wf
  have := hcon.calls (fun _ => False) W args.toList x (fun _ h => h.elim) ⟨hXG W _ hXW, fun _ _ h => h⟩ hx hwf hxs 0
  unfold Con.Post at this
  simp only [lawCon] at this
  rw [Array.toArray_toList] at this
  refine this.mono fun e W' hpost => ?_
  obtain ⟨v, rfl, hb, _, loc, hv, _⟩ := hpost
  have hv' : v = .bool true := hv
  subst hv'
  exact ⟨_, rfl, law_post hl hvs hs hp hr htb ⟨p, [], hA, hV, hbf, hz, hn⟩ hb⟩

end
end Go.Proofs.YtdlbfilfkpflpaaGreatDoor.Sx

/-! A region that draws its order, whose last operation waits for all others: so that one may be a call that is run by its body. -/
namespace Go.Proofs.YtdlbfilfkpflpaaGreatDoor.Sx
set_option linter.unusedSimpArgs false
set_option linter.unusedVariables false
noncomputable section

section
variable {P : Program} {Cs : List Con}

structure LeftT (all : List Oper) (L : List Rc) (m : Nat) (listed : Array Bool) : Prop where
  at' : ∀ c ∈ L, all[c.j]? = some c.o
  un : ∀ j, listed.getD j true = false ↔ (∃ c ∈ L, c.j = j) ∨ j = m
  ltm : ∀ c ∈ L, c.j < m
  lt : L.Pairwise fun c d => c.j < d.j
  ind : L.Pairwise fun c d => Anc all d.j c.j ∨ Indep all c d
  ids : L.Pairwise fun c d => c.hi ≤ d.nx
  down : Down all listed
  lex : ∀ (j : Nat) o, all[j]? = some o → ∀ e ∈ o.after.toList, Region.binds .any e = true → e.on < j
  size : listed.size = all.length

theorem any_okT {all : List Oper} {G : Ctx} {Q : Exit → Act → World → Prop} {N : Nat} {fr' : List SV} {ob' : Nat → Ob} {m : Nat} {om : Oper} (hCs : ∀ c ∈ Cs, c.Ok P) (hom : all[m]? = some om) (hgd : om.guard = none) (hancm : ∀ j, j < m → Anc all m j)
    (hQ : ∀ E a w, Con2 P G fr' ob' N E a w → om.wpIn (Fr G.rd) 0 P a w (Q .normal) Q) :
    ∀ (fuel : Nat) (L : List Rc) (listed : Array Bool) (fr : List SV) (ob : Nat → Ob) (E : Env) (a : Act) (w : World), L.length + 1 ≤ fuel → LeftT all L m listed → Ch P Cs all L fr ob fr' ob' → Con2 P G fr ob N E a w →
      (∀ c ∈ L, (∀ i, c.nx ≤ i → i < c.hi → ¬ E.born i) ∧ c.hi ≤ N ∧ c.nx ≤ c.hi) → wpAnyIn (Fr G.rd) 0 P .any all.toArray Q fuel listed a w := by
  have hmlt : m < all.length := (List.getElem?_eq_some_iff.1 hom).1
  have hne : ∀ (L : List Rc) (listed : Array Bool), LeftT all L m listed → Region.ready .any all.toArray listed ≠ [] := by
    intro L listed hl hr
    cases L with
    | nil =>
      have : m ∈ Region.ready .any all.toArray listed := by
        refine mem_ready.2 ⟨(hl.un m).2 (.inr rfl), om, by simpa using hom, fun e he hb => ?_⟩
        have hlt := hl.lex m om hom e (by simpa using he) hb
        have hin : e.on < listed.size := by rw [hl.size]; omega
        cases hv : listed.getD e.on false with
        | true => rfl
        | false =>
          exfalso
          have hv' : listed.getD e.on true = false := by simp [hin] at hv ⊢; exact hv
          rcases (hl.un e.on).1 hv' with ⟨d, hd, _⟩ | h
          · cases hd
          · omega
      rw [hr] at this; cases this
    | cons c L =>
      have hat := hl.at' c (List.mem_cons_self ..)
      have : c.j ∈ Region.ready .any all.toArray listed := by
        refine mem_ready.2 ⟨(hl.un c.j).2 (.inl ⟨c, List.mem_cons_self .., rfl⟩), c.o, by simpa using hat, fun e he hb => ?_⟩
        have hlt := hl.lex c.j c.o hat e (by simpa using he) hb
        have hsz : c.j < all.length := (List.getElem?_eq_some_iff.1 hat).1
        have hin : e.on < listed.size := by rw [hl.size]; omega
        cases hv : listed.getD e.on false with
        | true => rfl
        | false =>
          exfalso
          have hv' : listed.getD e.on true = false := by simp [hin] at hv ⊢; exact hv
          rcases (hl.un e.on).1 hv' with ⟨d, hd, hdj⟩ | h
          · rcases List.mem_cons.1 hd with rfl | hd
            · omega
            · have := List.rel_of_pairwise_cons hl.lt hd
              omega
          · have := hl.ltm c (List.mem_cons_self ..)
            omega
      rw [hr] at this; cases this
  intro fuel
  induction fuel with
  | zero => intro L listed fr ob E a w hlen; omega
  | succ fuel ih =>
    intro L listed fr ob E a w hlen hl hch hc hids
    refine ⟨fun hr => absurd hr (hne L listed hl), fun j hj => ?_⟩
    obtain ⟨h0, o, ho, hall⟩ := mem_ready.1 hj
    rcases (hl.un j).1 h0 with ⟨d, hdm, hdj⟩ | rfl
    · obtain ⟨L1, L2, rfl⟩ := List.append_of_mem hdm
      have hat := hl.at' d hdm
      have hoo : o = d.o := by
        rw [hdj] at hat
        have : all[j]? = some o := by simpa using ho
        rw [this] at hat; exact Option.some.inj hat
      have hind : ∀ c ∈ L1, Indep all c d := by
        intro c hc1
        have h1 := List.pairwise_append.1 hl.ind
        rcases h1.2.2 c hc1 d (List.mem_cons_self ..) with hanc | hi
        · exfalso
          have hls := anc_listed hl.down hanc fun o' ho' e he hb => by
            have : o' = o := by rw [hat] at ho'; rw [hoo]; exact (Option.some.inj ho').symm
            subst this
            exact hall e (by simpa using he) hb
          have hcu := (hl.un c.j).2 (.inl ⟨c, List.mem_append_left _ hc1, rfl⟩)
          rw [getD_tf hcu] at hls; cases hls
        · exact hi
      obtain ⟨hfit, hch'⟩ := Ch.front L1 L2 fr ob hind hch
      have hsub : List.Sublist (L1 ++ L2) (L1 ++ d :: L2) := List.Sublist.append_left (List.sublist_cons_self d L2) L1
      have hd3 := hids d hdm
      have hjlt : j < listed.size := by
        rcases Nat.lt_or_ge j listed.size with h' | h'
        · exact h'
        · simp [Array.getElem?_eq_none h'] at h0
      have hjn : ∀ c ∈ L1 ++ L2, c.j ≠ j := by
        intro c hc1
        have h1 := List.pairwise_append.1 hl.lt
        rcases List.mem_append.1 hc1 with hc1 | hc1
        · have := h1.2.2 c hc1 d (List.mem_cons_self ..); omega
        · have := List.rel_of_pairwise_cons h1.2.1 hc1; omega
      have hjm : j ≠ m := by have := hl.ltm d hdm; omega
      have hleft : LeftT all (L1 ++ L2) m (listed.setIfInBounds j true) := by
        refine ⟨fun c hc1 => hl.at' c (hsub.subset hc1), fun k => ?_, fun c hc1 => hl.ltm c (hsub.subset hc1), hl.lt.sublist hsub, hl.ind.sublist hsub, hl.ids.sublist hsub, fun k o' hk hkl e he hb => ?_, hl.lex, by simp [hl.size]⟩
        · by_cases hkj : j = k
          · subst hkj
            simp only [Array.getD_eq_getD_getElem?, Array.getElem?_setIfInBounds, hjlt, if_true, Option.getD_some]
            refine ⟨fun h => (by cases h), fun h => ?_⟩
            rcases h with ⟨c, h1, h2⟩ | h
            · exact absurd h2 (hjn c h1)
            · exact absurd h hjm
          · rw [getD_set_ne true hkj, hl.un k]
            constructor
            · rintro (⟨c, h1, h2⟩ | h)
              · rcases List.mem_append.1 h1 with h1 | h1
                · exact .inl ⟨c, List.mem_append_left _ h1, h2⟩
                · rcases List.mem_cons.1 h1 with rfl | h1
                  · exact absurd (hdj.symm.trans h2) hkj
                  · exact .inl ⟨c, List.mem_append_right _ h1, h2⟩
              · exact .inr h
            · rintro (⟨c, h1, h2⟩ | h)
              · exact .inl ⟨c, hsub.subset h1, h2⟩
              · exact .inr h
        · by_cases hkj : j = k
          · subst hkj
            have : o' = o := by
              have : all[j]? = some o := by simpa using ho
              rw [this] at hk; exact (Option.some.inj hk).symm
            subst this
            exact getD_set_true (hall e (by simpa using he) hb)
          · rw [getD_set_ne false hkj] at hkl
            exact getD_set_true (hl.down k o' hk hkl e he hb)
      have hstep := fit_step (K := wpAnyIn (Fr G.rd) 0 P .any all.toArray Q fuel (listed.setIfInBounds j true)) (B := Q) hCs hfit hc hd3.1 hd3.2.1 fun a' w' E' hc' hb' => by
        refine ih (L1 ++ L2) _ _ _ E' a' w' ?_ hleft hch' hc' fun c hc1 => ?_
        · simp at hlen ⊢; omega
        · have h3 := hids c (hsub.subset hc1)
          refine ⟨fun i k1 k2 hbi => ?_, h3.2⟩
          rcases hb' i hbi with hbi | ⟨k3, k4⟩
          · exact h3.1 i k1 k2 hbi
          · have h1 := List.pairwise_append.1 hl.ids
            rcases List.mem_append.1 hc1 with hc1 | hc1
            · have := h1.2.2 c hc1 d (List.mem_cons_self ..); omega
            · have := List.rel_of_pairwise_cons h1.2.1 hc1; omega
      show wpOpIn (Fr G.rd) 0 P all.toArray Q j _ a w
      unfold wpOpIn
      have ho2 : all.toArray[j]? = some d.o := by rw [← hoo]; exact ho
      simp only [ho2]
      split
      · rename_i hw
        rw [if_pos hw] at hstep
        exact hstep
      · rename_i hw
        rw [if_neg hw] at hstep
        exact hstep
    · -- the last one
      have hoo : o = om := by
        have : all[j]? = some o := by simpa using ho
        rw [this] at hom; exact Option.some.inj hom
      subst hoo
      have hL : L = [] := by
        cases L with
        | nil => rfl
        | cons c L =>
          exfalso
          have hls := anc_listed hl.down (hancm c.j (hl.ltm c (List.mem_cons_self ..))) fun o' ho' e he hb => by
            have : o' = o := by rw [hom] at ho'; exact (Option.some.inj ho').symm
            subst this
            exact hall e (by simpa using he) hb
          have hcu := (hl.un c.j).2 (.inl ⟨c, List.mem_cons_self .., rfl⟩)
          rw [getD_tf hcu] at hls; cases hls
      subst hL
      obtain ⟨rfl, rfl⟩ := hch
      show wpOpIn (Fr G.rd) 0 P all.toArray Q j _ a w
      unfold wpOpIn
      have ho2 : all.toArray[j]? = some o := by simpa using hom
      simp only [ho2]
      rw [if_pos (by simp [Region.wanted, hgd])]
      refine Oper.wpIn_mono (fun a' w' h => ?_) (hQ E a w hc)
      have hjlt : j < listed.size := by rw [hl.size]; exact hmlt
      have hr : Region.ready .any all.toArray (listed.setIfInBounds j true) = [] := by
        refine List.eq_nil_iff_forall_not_mem.2 fun k hk => ?_
        obtain ⟨g0, _⟩ := mem_ready.1 hk
        by_cases hkj : j = k
        · subst hkj
          simp only [Array.getD_eq_getD_getElem?, Array.getElem?_setIfInBounds, hjlt, if_true, Option.getD_some] at g0
          cases g0
        · rw [getD_set_ne true hkj] at g0
          rcases (hl.un k).1 g0 with ⟨c, hc1, _⟩ | h
          · cases hc1
          · exact hkj h.symm
      cases fuel with
      | zero => exact ⟨hr, h⟩
      | succ fuel => exact ⟨fun _ => h, fun k hk => by rw [hr] at hk; cases hk⟩

/-- What is asked of such a region, of its text alone. -/
def tailB (ops : Array Oper) : Bool :=
  let tab := ancT ops.toList []
  Nat.blt 0 ops.size && (match ops[ops.size - 1]? with | some o => o.guard.isNone | none => false) && (List.range (ops.size - 1)).all fun i => (tab.getD (ops.size - 1) 0).testBit i

variable {G : Ctx}

theorem Ok.tail {B : Exit → Act → World → Prop} (hCs : ∀ c ∈ Cs, c.Ok P) {id : Nat} {ops : Array Oper} {k : List It} {st : St} (hsta : staB P ops = true) (htl : tailB ops = true)
    (h : runD P Cs ops.toList (fun recs st' => dynB ops recs = true ∧ Ok P G B (.ops ops.toList (ops.toList.drop (ops.size - 1)) :: k) st') [] ops.toList.dropLast st) : Ok P G B (.c (.region id ops true) :: k) st := by
  intro E a w hc
  simp only [staB, Bool.and_eq_true, List.all_eq_true, List.mem_range, Bool.or_eq_true] at hsta
  obtain ⟨⟨hm, hlex⟩, hst⟩ := hsta
  simp only [tailB, Bool.and_eq_true, List.all_eq_true, List.mem_range] at htl
  obtain ⟨⟨hsz, hgo⟩, htl⟩ := htl
  have hsz : 0 < ops.size := by rw [Nat.blt_eq] at hsz; exact hsz
  have homs : ∃ om, ops[ops.size - 1]? = some om ∧ om.guard = none := by
    split at hgo
    · rename_i o ho; exact ⟨o, ho, by simpa using hgo⟩
    · cases hgo
  obtain ⟨om, hom, hgd⟩ := homs
  have homl : ops.toList[ops.size - 1]? = some om := by simpa using hom
  have hdl : ops.toList.drop (ops.size - 1) = [om] := by
    have hlt : ops.size - 1 < ops.toList.length := by simp; omega
    rw [List.drop_eq_getElem_cons hlt, List.drop_eq_nil_iff.2 (by simp; omega)]
    rw [List.getElem?_eq_getElem hlt] at homl
    rw [Option.some.inj homl]
  rw [hdl] at h
  obtain ⟨L, st', ⟨hdyn, hok⟩, k2, k3, k4, k5, k6, k7⟩ := runD_chain hCs ops.toList.dropLast 0 [] st E a w h hc
  simp only [List.nil_append] at hdyn
  simp only [dynB, List.all_eq_true, List.mem_range, Bool.or_eq_true] at hdyn
  have hdlen : ops.toList.dropLast.length = ops.size - 1 := by simp
  have hlen : L.length = ops.size - 1 := by
    have := congrArg List.length k2
    simpa using this
  have hj : ∀ i (hi : i < L.length), L[i].j = i := by
    intro i hi
    have : (L.map (·.j))[i]? = some i := by
      have hi' : i < ops.toList.dropLast.length := by rw [hdlen]; omega
      rw [k3, List.getElem?_eq_getElem (by simpa using hi')]; simp
    simpa [hi] using this
  have ho : ∀ i (hi : i < L.length), ops[i]? = some L[i].o := by
    intro i hi
    have : (L.map (·.o))[i]? = ops.toList.dropLast[i]? := by rw [k2]
    rw [List.getElem?_dropLast, if_pos (by simp; omega)] at this
    simp [hi] at this
    rw [← this]
  have hanc : ∀ j a, ((ancT ops.toList []).getD j 0).testBit a = true → Anc ops.toList j a := ancT_ok ops.toList [] [] rfl rfl fun j a ha => by simp at ha
  have hleft : LeftT ops.toList L (ops.size - 1) (Array.replicate ops.size false) := by
    refine ⟨fun c hcm => ?_, fun j => ?_, fun c hcm => ?_, ?_, ?_, k5, fun k o hk hkl => ?_, fun j o hjo e he hb => ?_, by simp⟩
    · obtain ⟨i, hi, rfl⟩ := List.mem_iff_getElem.1 hcm
      rw [hj i hi]
      simpa using ho i hi
    · constructor
      · intro hjl
        have hlt : j < ops.size := by
          rcases Nat.lt_or_ge j ops.size with h' | h'
          · exact h'
          · simp [h'] at hjl
        by_cases hjm : j = ops.size - 1
        · exact .inr hjm
        · exact .inl ⟨L[j], List.getElem_mem _, hj j (by omega)⟩
      · rintro (⟨c, hcm, rfl⟩ | rfl)
        · obtain ⟨i, hi, rfl⟩ := List.mem_iff_getElem.1 hcm
          rw [hj i hi]
          rw [hlen] at hi
          simp [show i < ops.size by omega]
        · simp [show ops.size - 1 < ops.size by omega]
    · obtain ⟨i, hi, rfl⟩ := List.mem_iff_getElem.1 hcm
      rw [hj i hi]; omega
    · refine List.pairwise_iff_getElem.2 fun i j hi hj' hij => ?_
      rw [hj i hi, hj j hj']; exact hij
    · refine List.pairwise_iff_getElem.2 fun i j hi hj' hij => ?_
      rw [hj i hi, hj j hj']
      have hjs : j < ops.size := by omega
      rcases hst j hjs i hij with h1 | h1
      · exact .inl (hanc j i h1)
      · rcases hdyn j hjs i hij with h2 | h2
        · exact .inl (hanc j i h2)
        · refine .inr ⟨?_, ?_⟩
          · rw [ho i hi, ho j hj'] at h1
            rw [Array.toArray_toList]
            exact h1
          · have e1 : (L.map fun c => (c.rd, keys' c.ws))[i]? = some (L[i].rd, keys' L[i].ws) := by simp [hi]
            have e2 : (L.map fun c => (c.rd, keys' c.ws))[j]? = some (L[j].rd, keys' L[j].ws) := by simp [hj']
            rw [e1, e2] at h2
            simp only [Bool.and_eq_true] at h2
            exact ⟨fun x hx => ⟨disj_ok h2.1.1 x hx, disj_ok h2.1.2 x hx⟩, disj_ok h2.2⟩
    · exfalso
      rcases Nat.lt_or_ge k ops.size with h' | h'
      · simp [h'] at hkl
      · have hks : k < ops.toList.length := (List.getElem?_eq_some_iff.1 hk).1
        simp at hks
        omega
    · have := lexT_ok ops.toList 0 hlex j o hjo e he hb
      omega
  have hc' : Conc P G st E a { w with drawn := w.drawn + 1 } := hc.heap rfl rfl rfl rfl
  have hc2 : Con2 P G st.fr (fo st.hp) st'.nx E a { w with drawn := w.drawn + 1 } := ⟨st.hp, rfl, hc'.pre, fun i hi => Nat.lt_of_lt_of_le (hc.born i hi) k7, hc'.len, hc'.dfr, hc'.rd⟩
  have hany := any_okT (all := ops.toList) (Q := kont P G B k) hCs homl hgd (fun j hjm => hanc _ _ (htl j hjm))
    (fun E a w ⟨hp, e, hcc⟩ => by
      have hcc' : Conc P G st' E a w := ⟨⟨hcc.pre.mem, fun i => by rw [e]; exact hcc.pre.ob i, hcc.pre.fr⟩, hcc.born, hcc.len, hcc.dfr, hcc.rd⟩
      have h1 : wpListIn (Fr G.rd) 0 P ops.toList.toArray (kont P G B k) [om] a w := hok E a w hcc'
      unfold wpListIn at h1
      rw [if_pos (by simp [Region.wanted, hgd])] at h1
      exact h1)
    ops.size L (Array.replicate ops.size false) st.fr (fo st.hp) E a _ (by omega) hleft k4 hc2 fun c hcm => by
      have := k6 c hcm
      exact ⟨fun i h1 h2 hb => by have := hc.born i hb; omega, this.2.2, this.2.1⟩
  rw [Array.toArray_toList] at hany
  exact wpIn_region_any hm hany

/-- A REGION THAT DRAWS ITS ORDER, its last operation a call by the callee's body. -/
theorem OkQ.tail {kp : List Nat} {Q : St → Prop} (hCs : ∀ c ∈ Cs, c.Ok P) {id : Nat} {ops : Array Oper} {k : List It} {st : St} (hsta : staB P ops = true) (htl : tailB ops = true)
    (h : runD P Cs ops.toList (fun recs st' => dynB ops recs = true ∧ OkQ P kp Q (.ops ops.toList (ops.toList.drop (ops.size - 1)) :: k) st') [] ops.toList.dropLast st) : OkQ P kp Q (.c (.region id ops true) :: k) st :=
  fun G B hs hQ => Ok.tail hCs hsta htl (runD_mono (fun r s hh => ⟨hh.1, hh.2 G B hs hQ⟩) _ _ _ h)

end
end
end Go.Proofs.YtdlbfilfkpflpaaGreatDoor.Sx

/-! A region that draws its order, cut where all that comes behind waits for all that stands ahead: so calls amid it may be run by their bodies. -/
namespace Go.Proofs.YtdlbfilfkpflpaaGreatDoor.Sx
set_option linter.unusedSimpArgs false
set_option linter.unusedVariables false
noncomputable section

section
variable {P : Program} {Cs : List Con}

def prefA (n s : Nat) : Array Bool := (List.replicate n true ++ List.replicate (s - n) false).toArray
theorem prefA_at {n s j : Nat} {d : Bool} (hn : n ≤ s) : (prefA n s).getD j d = if j < n then true else if j < s then false else d := by
  simp only [prefA, Array.getD_eq_getD_getElem?, List.getElem?_toArray, List.getElem?_append, List.length_replicate, List.getElem?_replicate]
  by_cases h1 : j < n
  · simp [h1]
  · by_cases h2 : j < s
    · simp [h1, h2, show j - n < s - n by omega]
    · simp [h1, h2, show ¬ j - n < s - n by omega]
theorem prefA_size {n s : Nat} (hn : n ≤ s) : (prefA n s).size = s := by simp [prefA]; omega
theorem prefA_next {n s : Nat} (hn : n < s) : (prefA n s).setIfInBounds n true = prefA (n + 1) s := by
  refine Array.ext (by simp [prefA_size (show n ≤ s by omega), prefA_size (show n + 1 ≤ s by omega)]) fun i h1 h2 => ?_
  have e : ∀ (A : Array Bool) (h : i < A.size), A[i] = A.getD i false := fun A h => by simp [h]
  rw [e, e]
  by_cases hi : n = i
  · subst hi
    rw [prefA_at (by omega), if_pos (by omega)]
    simp [Array.getElem?_setIfInBounds, prefA_size (show n ≤ s by omega), hn]
  · rw [getD_set_ne false hi, prefA_at (by omega), prefA_at (by omega)]
    by_cases h : i < n
    · rw [if_pos h, if_pos (by omega)]
    · simp [h, show ¬ i < n + 1 by omega]
theorem eq_prefA {A : Array Bool} {n s : Nat} (hn : n ≤ s) (hs : A.size = s) (h : ∀ j, A.getD j true = false ↔ n ≤ j ∧ j < s) : A = prefA n s := by
  refine Array.ext (by rw [hs, prefA_size hn]) fun i h1 h2 => ?_
  have e : ∀ (A : Array Bool) (h : i < A.size), A[i] = A.getD i true := fun A h => by simp [h]
  rw [e, e, prefA_at hn]
  have hk := h i
  by_cases c : n ≤ i
  · rw [if_neg (by omega), if_pos (by omega)]
    exact hk.2 ⟨c, by omega⟩
  · rw [if_pos (by omega)]
    cases hv : A.getD i true
    · exact absurd (hk.1 hv).1 c
    · rfl

/-- What is to come up to m; behind it all waits. -/
structure LeftC (all : List Oper) (L : List Rc) (m : Nat) (listed : Array Bool) : Prop where
  at' : ∀ c ∈ L, all[c.j]? = some c.o
  un : ∀ j, listed.getD j true = false ↔ (∃ c ∈ L, c.j = j) ∨ (m ≤ j ∧ j < all.length)
  ltm : ∀ c ∈ L, c.j < m
  cut : ∀ c ∈ L, ∀ j, m ≤ j → j < all.length → Anc all j c.j
  lt : L.Pairwise fun c d => c.j < d.j
  ind : L.Pairwise fun c d => Anc all d.j c.j ∨ Indep all c d
  ids : L.Pairwise fun c d => c.hi ≤ d.nx
  down : Down all listed
  lex : ∀ (j : Nat) o, all[j]? = some o → ∀ e ∈ o.after.toList, Region.binds .any e = true → e.on < j
  size : listed.size = all.length

theorem any_okC {all : List Oper} {G : Ctx} {Q : Exit → Act → World → Prop} {N : Nat} {fr' : List SV} {ob' : Nat → Ob} {m r : Nat} (hCs : ∀ c ∈ Cs, c.Ok P) (hm : m ≤ all.length)
    (hQ : ∀ E a w, Con2 P G fr' ob' N E a w → wpAnyIn (Fr G.rd) 0 P .any all.toArray Q r (prefA m all.length) a w) :
    ∀ (L : List Rc) (listed : Array Bool) (fr : List SV) (ob : Nat → Ob) (E : Env) (a : Act) (w : World), LeftC all L m listed → Ch P Cs all L fr ob fr' ob' → Con2 P G fr ob N E a w →
      (∀ c ∈ L, (∀ i, c.nx ≤ i → i < c.hi → ¬ E.born i) ∧ c.hi ≤ N ∧ c.nx ≤ c.hi) → wpAnyIn (Fr G.rd) 0 P .any all.toArray Q (L.length + r) listed a w := by
  have hne : ∀ (c : Rc) (L : List Rc) (listed : Array Bool), LeftC all (c :: L) m listed → Region.ready .any all.toArray listed ≠ [] := by
    intro c L listed hl hr
    have hat := hl.at' c (List.mem_cons_self ..)
    have : c.j ∈ Region.ready .any all.toArray listed := by
      refine mem_ready.2 ⟨(hl.un c.j).2 (.inl ⟨c, List.mem_cons_self .., rfl⟩), c.o, by simpa using hat, fun e he hb => ?_⟩
      have hlt := hl.lex c.j c.o hat e (by simpa using he) hb
      have hsz : c.j < all.length := (List.getElem?_eq_some_iff.1 hat).1
      have hin : e.on < listed.size := by rw [hl.size]; omega
      cases hv : listed.getD e.on false with
      | true => rfl
      | false =>
        exfalso
        have hv' : listed.getD e.on true = false := by simp [hin] at hv ⊢; exact hv
        rcases (hl.un e.on).1 hv' with ⟨d, hd, hdj⟩ | h
        · rcases List.mem_cons.1 hd with rfl | hd
          · omega
          · have := List.rel_of_pairwise_cons hl.lt hd
            omega
        · have := hl.ltm c (List.mem_cons_self ..)
          omega
    rw [hr] at this; cases this
  intro L
  generalize hn : L.length = n
  induction n generalizing L with
  | zero =>
    intro listed fr ob E a w hl hch hc hids
    obtain rfl : L = [] := List.eq_nil_of_length_eq_zero hn
    obtain ⟨rfl, rfl⟩ := hch
    have e : listed = prefA m all.length := eq_prefA hm hl.size fun j => by
      rw [hl.un j]
      exact ⟨fun h => h.resolve_left fun ⟨c, h1, _⟩ => (by cases h1), .inr⟩
    rw [e, Nat.zero_add]
    exact hQ E a w hc
  | succ n ih =>
    intro listed fr ob E a w hl hch hc hids
    obtain ⟨c0, L0, rfl⟩ : ∃ c0 L0, L = c0 :: L0 := by
      cases L with
      | nil => cases hn
      | cons c L => exact ⟨c, L, rfl⟩
    rw [show n + 1 + r = (n + r) + 1 by omega]
    refine ⟨fun hr => absurd hr (hne c0 L0 listed hl), fun j hj => ?_⟩
    obtain ⟨h0, o, ho, hall⟩ := mem_ready.1 hj
    have hlisted : ∀ a, Anc all j a → listed.getD a false = true := fun a hanc => anc_listed hl.down hanc fun o' ho' e he hb => by
      have : o' = o := by
        have h2 : all[j]? = some o := by simpa using ho
        rw [h2] at ho'; exact (Option.some.inj ho').symm
      subst this
      exact hall e (by simpa using he) hb
    rcases (hl.un j).1 h0 with ⟨d, hdm, hdj⟩ | ⟨h1, h2⟩
    · obtain ⟨L1, L2, hL⟩ := List.append_of_mem hdm
      rw [hL] at hl hch hids hn hdm
      have hat := hl.at' d hdm
      have hoo : o = d.o := by
        rw [hdj] at hat
        have : all[j]? = some o := by simpa using ho
        rw [this] at hat; exact Option.some.inj hat
      have hind : ∀ c ∈ L1, Indep all c d := by
        intro c hc1
        have h1 := List.pairwise_append.1 hl.ind
        rcases h1.2.2 c hc1 d (List.mem_cons_self ..) with hanc | hi
        · exfalso
          have hls := hlisted c.j (by rw [← hdj]; exact hanc)
          have hcu := (hl.un c.j).2 (.inl ⟨c, List.mem_append_left _ hc1, rfl⟩)
          rw [getD_tf hcu] at hls; cases hls
        · exact hi
      obtain ⟨hfit, hch'⟩ := Ch.front L1 L2 fr ob hind hch
      have hsub : List.Sublist (L1 ++ L2) (L1 ++ d :: L2) := List.Sublist.append_left (List.sublist_cons_self d L2) L1
      have hd3 := hids d hdm
      have hjlt : j < listed.size := by
        rcases Nat.lt_or_ge j listed.size with h' | h'
        · exact h'
        · simp [Array.getElem?_eq_none h'] at h0
      have hjn : ∀ c ∈ L1 ++ L2, c.j ≠ j := by
        intro c hc1
        have h1 := List.pairwise_append.1 hl.lt
        rcases List.mem_append.1 hc1 with hc1 | hc1
        · have := h1.2.2 c hc1 d (List.mem_cons_self ..); omega
        · have := List.rel_of_pairwise_cons h1.2.1 hc1; omega
      have hjm : j < m := by have := hl.ltm d hdm; omega
      have hleft : LeftC all (L1 ++ L2) m (listed.setIfInBounds j true) := by
        refine ⟨fun c hc1 => hl.at' c (hsub.subset hc1), fun k => ?_, fun c hc1 => hl.ltm c (hsub.subset hc1), fun c hc1 => hl.cut c (hsub.subset hc1), hl.lt.sublist hsub, hl.ind.sublist hsub, hl.ids.sublist hsub, fun k o' hk hkl e he hb => ?_, hl.lex, by simp [hl.size]⟩
        · by_cases hkj : j = k
          · subst hkj
            simp only [Array.getD_eq_getD_getElem?, Array.getElem?_setIfInBounds, hjlt, if_true, Option.getD_some]
            refine ⟨fun h => (by cases h), fun h => ?_⟩
            rcases h with ⟨c, h1, h2⟩ | h
            · exact absurd h2 (hjn c h1)
            · omega
          · rw [getD_set_ne true hkj, hl.un k]
            constructor
            · rintro (⟨c, h1, h2⟩ | h)
              · rcases List.mem_append.1 h1 with h1 | h1
                · exact .inl ⟨c, List.mem_append_left _ h1, h2⟩
                · rcases List.mem_cons.1 h1 with rfl | h1
                  · exact absurd (hdj.symm.trans h2) hkj
                  · exact .inl ⟨c, List.mem_append_right _ h1, h2⟩
              · exact .inr h
            · rintro (⟨c, h1, h2⟩ | h)
              · exact .inl ⟨c, hsub.subset h1, h2⟩
              · exact .inr h
        · by_cases hkj : j = k
          · subst hkj
            have : o' = o := by
              have : all[j]? = some o := by simpa using ho
              rw [this] at hk; exact (Option.some.inj hk).symm
            subst this
            exact getD_set_true (hall e (by simpa using he) hb)
          · rw [getD_set_ne false hkj] at hkl
            exact getD_set_true (hl.down k o' hk hkl e he hb)
      have hstep := fit_step (K := wpAnyIn (Fr G.rd) 0 P .any all.toArray Q (n + r) (listed.setIfInBounds j true)) (B := Q) hCs hfit hc hd3.1 hd3.2.1 fun a' w' E' hc' hb' => by
        refine ih (L1 ++ L2) (by simp at hn ⊢; omega) _ _ _ E' a' w' hleft hch' hc' fun c hc1 => ?_
        have h3 := hids c (hsub.subset hc1)
        refine ⟨fun i k1 k2 hbi => ?_, h3.2⟩
        rcases hb' i hbi with hbi | ⟨k3, k4⟩
        · exact h3.1 i k1 k2 hbi
        · have h1 := List.pairwise_append.1 hl.ids
          rcases List.mem_append.1 hc1 with hc1 | hc1
          · have := h1.2.2 c hc1 d (List.mem_cons_self ..); omega
          · have := List.rel_of_pairwise_cons h1.2.1 hc1; omega
      show wpOpIn (Fr G.rd) 0 P all.toArray Q j _ a w
      unfold wpOpIn
      have ho2 : all.toArray[j]? = some d.o := by rw [← hoo]; exact ho
      simp only [ho2]
      split
      · rename_i hw
        rw [if_pos hw] at hstep
        exact hstep
      · rename_i hw
        rw [if_neg hw] at hstep
        exact hstep
    · exfalso
      have hls := hlisted c0.j (hl.cut c0 (List.mem_cons_self ..) j h1 h2)
      have hcu := (hl.un c0.j).2 (.inl ⟨c0, List.mem_cons_self .., rfl⟩)
      rw [getD_tf hcu] at hls; cases hls

/-- The region from its first n operations on. -/
def OkP (P : Program) (kp : List Nat) (Q : St → Prop) (ops : Array Oper) (k : List It) (n : Nat) (st : St) : Prop :=
  ∀ (G : Ctx) (B : Exit → Act → World → Prop), KpOk G kp → (∀ st E a w, Q st → Conc P G st E a w → B .ret a w ∧ B .normal a w) →
    ∀ E a w, Conc P G st E a w → wpAnyIn (Fr G.rd) 0 P .any ops (kont P G B k) (ops.size - n) (prefA n ops.size) a w

/-- All behind the first m wait for those from n up to m. -/
def cutB (ops : Array Oper) (n m : Nat) : Bool :=
  let tab := ancT ops.toList []
  (List.range ops.size).all fun j => Nat.blt j m || (List.range m).all fun i => Nat.blt i n || (tab.getD j 0).testBit i
/-- Of those from n up to m, each waits for the other or is apart from it. -/
def staP (ops : Array Oper) (n m : Nat) : Bool :=
  let tab := ancT ops.toList []
  (List.range m).all fun j => Nat.blt j n || (List.range j).all fun i => Nat.blt i n || (tab.getD j 0).testBit i || (match ops[i]?, ops[j]? with
      | some x, some y => Oper.apart ops x y
      | _, _ => true)
def dynP (ops : Array Oper) (n : Nat) (recs : List (List Nat × List Nat)) : Bool :=
  let tab := ancT ops.toList []
  (List.range recs.length).all fun j => (List.range j).all fun i => (tab.getD (n + j) 0).testBit (n + i) || (match recs[i]?, recs[j]? with
      | some (r, w), some (r', w') => disj w r' && disj w w' && disj w' r
      | _, _ => true)
def lexP (P : Program) (ops : Array Oper) : Bool := P.follows .mixedOrders && lexT ops.toList 0

variable {kp : List Nat} {Q : St → Prop}

theorem OkQ.cutStart {id : Nat} {ops : Array Oper} {k : List It} {st : St} (hl : lexP P ops = true) (h : OkP P kp Q ops k 0 st) : OkQ P kp Q (.c (.region id ops true) :: k) st := by
  intro G B hs hQ E a w hc
  simp only [lexP, Bool.and_eq_true] at hl
  have hc' : Conc P G st E a { w with drawn := w.drawn + 1 } := hc.heap rfl rfl rfl rfl
  have := h G B hs hQ E a _ hc'
  refine wpIn_region_any hl.1 ?_
  have e : prefA 0 ops.size = Array.replicate ops.size false := by simp [prefA]
  rw [← e]
  exact this

theorem OkP.stop {ops : Array Oper} {k : List It} {n : Nat} {st : St} (hn : ops.size = n) (h : OkQ P kp Q k st) : OkP P kp Q ops k n st := by
  subst hn
  intro G B hs hQ E a w hc
  rw [Nat.sub_self]
  refine ⟨List.eq_nil_iff_forall_not_mem.2 fun j hj => ?_, h G B hs hQ E a w hc⟩
  obtain ⟨h0, o, ho, _⟩ := mem_ready.1 hj
  have hlt : j < ops.size := (Array.getElem?_eq_some_iff.1 ho).1
  rw [prefA_at (Nat.le_refl _), if_pos hlt] at h0
  cases h0

theorem prefA_down {ops : Array Oper} {n : Nat} (hn : n ≤ ops.size) (hlex : ∀ (j : Nat) o, ops.toList[j]? = some o → ∀ e ∈ o.after.toList, Region.binds .any e = true → e.on < j) : Down ops.toList (prefA n ops.size) := by
  intro k o hk hkl e he hb
  have := hlex k o hk e he hb
  rw [prefA_at hn] at hkl ⊢
  by_cases h : k < n
  · rw [if_pos (by omega)]
  · rw [if_neg h] at hkl
    have hks : k < ops.size := by have := (List.getElem?_eq_some_iff.1 hk).1; simpa using this
    rw [if_pos hks] at hkl; cases hkl

theorem OkP.draw (hCs : ∀ c ∈ Cs, c.Ok P) {ops : Array Oper} {k : List It} {n : Nat} {st : St} (m : Nat) (hl : lexP P ops = true) (hnm : Nat.ble n m = true ∧ Nat.ble m ops.size = true) (hcut : cutB ops n m = true) (hsta : staP ops n m = true)
    (h : runD P Cs ops.toList (fun recs st' => dynP ops n recs = true ∧ OkP P kp Q ops k m st') [] ((ops.toList.drop n).take (m - n)) st) : OkP P kp Q ops k n st := by
  intro G B hs hQ E a w hc
  have hnm1 : n ≤ m := Nat.le_of_ble_eq_true hnm.1
  have hms : m ≤ ops.size := Nat.le_of_ble_eq_true hnm.2
  simp only [lexP, Bool.and_eq_true] at hl
  have hlex : ∀ (j : Nat) o, ops.toList[j]? = some o → ∀ e ∈ o.after.toList, Region.binds .any e = true → e.on < j := fun j o hjo e he hb => by
    have := lexT_ok ops.toList 0 hl.2 j o hjo e he hb
    omega
  simp only [cutB, List.all_eq_true, List.mem_range, Bool.or_eq_true, Nat.blt_eq] at hcut
  simp only [staP, List.all_eq_true, List.mem_range, Bool.or_eq_true, Nat.blt_eq] at hsta
  have hseg : ((ops.toList.drop n).take (m - n)).length = m - n := by simp; omega
  obtain ⟨L, st', ⟨hdyn, hok⟩, k2, k3, k4, k5, k6, k7⟩ := runD_chain hCs ((ops.toList.drop n).take (m - n)) n [] st E a w h hc
  simp only [List.nil_append] at hdyn
  simp only [dynP, List.all_eq_true, List.mem_range, Bool.or_eq_true, List.length_map] at hdyn
  have hlen : L.length = m - n := by
    have := congrArg List.length k2
    rw [List.length_map, hseg] at this; exact this
  have hj : ∀ i (hi : i < L.length), L[i].j = n + i := by
    intro i hi
    have : (L.map (·.j))[i]? = some (n + i) := by
      rw [k3, hseg, List.getElem?_eq_getElem (by simpa using (by omega : i < m - n))]; simp
    simpa [hi] using this
  have ho : ∀ i (hi : i < L.length), ops[n + i]? = some L[i].o := by
    intro i hi
    have : (L.map (·.o))[i]? = ((ops.toList.drop n).take (m - n))[i]? := by rw [k2]
    rw [List.getElem?_take_of_lt (by omega), List.getElem?_drop] at this
    simp [hi] at this
    rw [← this]
  have hanc : ∀ j a, ((ancT ops.toList []).getD j 0).testBit a = true → Anc ops.toList j a := ancT_ok ops.toList [] [] rfl rfl fun j a ha => by simp at ha
  have hleft : LeftC ops.toList L m (prefA n ops.size) := by
    refine ⟨fun c hcm => ?_, fun j => ?_, fun c hcm => ?_, fun c hcm j h1 h2 => ?_, ?_, ?_, k5, prefA_down (by omega) hlex, hlex, by rw [prefA_size (by omega)]; simp⟩
    · obtain ⟨i, hi, rfl⟩ := List.mem_iff_getElem.1 hcm
      rw [hj i hi]
      simpa using ho i hi
    · rw [prefA_at (by omega)]
      simp only [Array.length_toList]
      constructor
      · intro hjl
        by_cases h1 : j < n
        · rw [if_pos h1] at hjl; cases hjl
        · rw [if_neg h1] at hjl
          by_cases h2 : j < ops.size
          · by_cases h3 : j < m
            · exact .inl ⟨L[j - n]'(by omega), List.getElem_mem _, by rw [hj _ (by omega)]; omega⟩
            · exact .inr ⟨by omega, h2⟩
          · rw [if_neg h2] at hjl; cases hjl
      · rintro (⟨c, hcm, rfl⟩ | ⟨h1, h2⟩)
        · obtain ⟨i, hi, rfl⟩ := List.mem_iff_getElem.1 hcm
          rw [hj i hi, if_neg (by omega), if_pos (by omega)]
        · rw [if_neg (by omega), if_pos h2]
    · obtain ⟨i, hi, rfl⟩ := List.mem_iff_getElem.1 hcm
      rw [hj i hi]; omega
    · obtain ⟨i, hi, rfl⟩ := List.mem_iff_getElem.1 hcm
      rw [hj i hi]
      simp only [Array.length_toList] at h2
      rcases hcut j h2 with h3 | h3
      · omega
      · rcases h3 (n + i) (by omega) with h4 | h4
        · omega
        · exact hanc _ _ h4
    · refine List.pairwise_iff_getElem.2 fun i j hi hj' hij => ?_
      rw [hj i hi, hj j hj']; omega
    · refine List.pairwise_iff_getElem.2 fun i j hi hj' hij => ?_
      rw [hj i hi, hj j hj']
      rcases hsta (n + j) (by omega) with h1 | h1
      · omega
      · rcases h1 (n + i) (by omega) with (h2 | h2) | h2
        · omega
        · exact .inl (hanc _ _ h2)
        · rcases hdyn j hj' i hij with h3 | h3
          · exact .inl (hanc _ _ h3)
          · refine .inr ⟨?_, ?_⟩
            · rw [ho i hi, ho j hj'] at h2
              rw [Array.toArray_toList]
              exact h2
            · have e1 : (L.map fun c => (c.rd, keys' c.ws))[i]? = some (L[i].rd, keys' L[i].ws) := by simp [hi]
              have e2 : (L.map fun c => (c.rd, keys' c.ws))[j]? = some (L[j].rd, keys' L[j].ws) := by simp [hj']
              rw [e1, e2] at h3
              simp only [Bool.and_eq_true] at h3
              exact ⟨fun x hx => ⟨disj_ok h3.1.1 x hx, disj_ok h3.1.2 x hx⟩, disj_ok h3.2⟩
  have hc2 : Con2 P G st.fr (fo st.hp) st'.nx E a w := ⟨st.hp, rfl, hc.pre, fun i hi => Nat.lt_of_lt_of_le (hc.born i hi) k7, hc.len, hc.dfr, hc.rd⟩
  have hany := any_okC (all := ops.toList) (Q := kont P G B k) (m := m) (r := ops.size - m) hCs (by simpa using hms)
    (fun E a w ⟨hp, e, hcc⟩ => by
      have := hok G B hs hQ E a w ⟨⟨hcc.pre.mem, fun i => by rw [e]; exact hcc.pre.ob i, hcc.pre.fr⟩, hcc.born, hcc.len, hcc.dfr, hcc.rd⟩
      simpa using this)
    L (prefA n ops.size) st.fr (fo st.hp) E a w hleft k4 hc2 fun c hcm => by
      have := k6 c hcm
      exact ⟨fun i h1 h2 hb => by have := hc.born i hb; omega, this.2.2, this.2.1⟩
  rw [Array.toArray_toList] at hany
  rw [show ops.size - n = L.length + (ops.size - m) by omega]
  exact hany

/-- The n-th operation, a call by the callee's body. -/
def callP (P : Program) (inl : List Nat) (kp : List Nat) (Q : St → Prop) (ops : Array Oper) (k : List It) (n : Nat) (st : St) : Prop :=
  match ops[n]? with
  | none => False
  | some o => match inlU P inl st o.op with
    | none => False
    | some (pre, code, rs, fr') => match o.guard with
      | none => pre ∧ OkQ P (ddN (idsF st.fr ++ kp)) (RetI P rs fun v hp nx => OkP P kp Q ops k (n + 1) ⟨setD st.fr o.dst v, hp, nx⟩) [.c code] ⟨fr', st.hp, st.nx⟩
      | some (j, want) => match gval ops.toList st.fr j want with
        | none => False
        | some g => brB g (pre ∧ OkQ P (ddN (idsF st.fr ++ kp)) (RetI P rs fun v hp nx => OkP P kp Q ops k (n + 1) ⟨setD st.fr o.dst v, hp, nx⟩) [.c code] ⟨fr', st.hp, st.nx⟩)
            (OkP P kp Q ops k (n + 1) ⟨setD st.fr o.dst .unk, st.hp, st.nx⟩)

theorem OkP.call (inl : List Nat) {ops : Array Oper} {k : List It} {n : Nat} {st : St} (hl : lexP P ops = true) (hcut : cutB ops n (n + 1) = true) (h : callP P inl kp Q ops k n st) : OkP P kp Q ops k n st := by
  intro G B hs hQ E a w hc
  simp only [lexP, Bool.and_eq_true] at hl
  have hlex : ∀ (j : Nat) o, ops.toList[j]? = some o → ∀ e ∈ o.after.toList, Region.binds .any e = true → e.on < j := fun j o hjo e he hb => by
    have := lexT_ok ops.toList 0 hl.2 j o hjo e he hb
    omega
  simp only [cutB, List.all_eq_true, List.mem_range, Bool.or_eq_true, Nat.blt_eq] at hcut
  have hanc : ∀ j a, ((ancT ops.toList []).getD j 0).testBit a = true → Anc ops.toList j a := ancT_ok ops.toList [] [] rfl rfl fun j a ha => by simp at ha
  unfold callP at h
  split at h
  · exact h.elim
  rename_i o ho
  have hns : n < ops.size := (Array.getElem?_eq_some_iff.1 ho).1
  have hol : ops.toList[n]? = some o := by simpa using ho
  -- the ready ones
  have hready : ∀ j ∈ Region.ready .any ops (prefA n ops.size), j = n := by
    intro j hj
    obtain ⟨h0, o', ho', hall⟩ := mem_ready.1 hj
    have hjs : j < ops.size := (Array.getElem?_eq_some_iff.1 ho').1
    rcases Nat.lt_trichotomy j n with c | c | c
    · rw [prefA_at (by omega), if_pos c] at h0; cases h0
    · exact c
    · exfalso
      rcases hcut j hjs with h3 | h3
      · omega
      · rcases h3 n (by omega) with h4 | h4
        · omega
        · have hls := anc_listed (prefA_down (n := n) (by omega) hlex) (hanc _ _ h4) fun o2 ho2 e he hb => by
            have : o2 = o' := by
              have h2 : ops.toList[j]? = some o' := by simpa using ho'
              rw [h2] at ho2; exact (Option.some.inj ho2).symm
            subst this
            exact hall e (by simpa using he) hb
          rw [prefA_at (n := n) (s := ops.size) (by omega), if_neg (by omega), if_pos hns] at hls
          cases hls
  have hin : n ∈ Region.ready .any ops (prefA n ops.size) := by
    refine mem_ready.2 ⟨by rw [prefA_at (by omega), if_neg (by omega), if_pos hns], o, ho, fun e he hb => ?_⟩
    have := hlex n o hol e (by simpa using he) hb
    rw [prefA_at (by omega), if_pos (by omega)]
  obtain ⟨r, hr⟩ : ∃ r, ops.size - n = r + 1 := ⟨ops.size - n - 1, by omega⟩
  rw [hr]
  refine ⟨fun hr => (by rw [hr] at hin; cases hin), fun j hj => ?_⟩
  obtain rfl := hready j hj
  rw [prefA_next hns]
  have hr2 : ops.size - (j + 1) = r := by omega
  have next : ∀ st', OkP P kp Q ops k (j + 1) st' → ∀ E a w, Conc P G st' E a w → wpAnyIn (Fr G.rd) 0 P .any ops (kont P G B k) r (prefA (j + 1) ops.size) a w := fun st' h' E a w hc' => by
    have := h' G B hs hQ E a w hc'
    rw [hr2] at this; exact this
  show wpOpIn (Fr G.rd) 0 P ops (kont P G B k) j _ a w
  unfold wpOpIn
  simp only [ho]
  split at h
  · exact h.elim
  rename_i pre code rs fr' hi
  obtain ⟨c, f, g, caps, fn, h1, h2, h3, h4, h5, h6, h7, h8, rfl, rfl, rfl⟩ := inlU_some hi
  have key : ((pkP (ev st.fr f) ∧ pkPs st.fr c.args.toList) ∧ OkQ P (ddN (idsF st.fr ++ kp)) (RetI P fn.results.toList fun v hp nx => OkP P kp Q ops k (j + 1) ⟨setD st.fr o.dst v, hp, nx⟩) [.c code] ⟨appSV (pkVs st.fr c.args.toList) (appSV (pbs caps) (unks (fn.ntmps - (c.args.size + caps.length)))), st.hp, st.nx⟩) →
      o.wpIn (Fr G.rd) 0 P a w (wpAnyIn (Fr G.rd) 0 P .any ops (kont P G B k) r (prefA (j + 1) ops.size)) (kont P G B k) := by
    intro hh
    refine inline_gen (R := fun v hp nx => OkP P kp Q ops k (j + 1) ⟨setD st.fr o.dst v, hp, nx⟩) h1 h2 h3 hh.1 h4 h5 h6 h7 h8 (fun G' B' hs' hr' hB' => ?_) hc fun v hp nx E a w hok hcc => next _ hok E a w hcc
    refine hh.2 G' B' ⟨fun p hp i hi => ?_, fun p hp => ?_, fun E0 w1 h0 o ho => ?_⟩ fun st2 E2 a2 w2 hr hc2 => hB' st2 E2 a2 w2 hr hc2
    · rcases hs' p hp with ⟨q, hq⟩ | hp
      · rw [hq] at hi
        exact mem_ddN (List.mem_append_left _ (idsF_at _ _ _ hi))
      · exact mem_ddN (List.mem_append_right _ (hs.1 p hp i hi))
    · rw [hr'.1] at hp
      exact mem_ddN (List.mem_append_right _ (hs.2.1 p hp))
    · exact mem_ddN (List.mem_append_right _ (hs.2.2 E0 w1 (hr'.2.symm.trans h0) o ho))
  split at h
  · rename_i hg
    rw [if_pos (by simp [Region.wanted, hg])]
    exact key h
  · rename_i j' want hg
    split at h
    · exact h.elim
    · rename_i gb hv
      have hv' : gval ops.toList st.fr j' want = some gb := hv
      have hw := gval_ok hc hg hv'
      rw [Array.toArray_toList] at hw
      cases gb
      · rw [if_neg (by rw [hw]; simp)]
        exact ⟨fun _ _ => Fr_fn, next _ (h.2 rfl) E _ w (hc.behind hc.pre.mem Evo.rfl' hc.pre.ob (fun i hi => .inl hi) (X := .unk) trivial (Nat.le_refl _))⟩
      · rw [if_pos hw]
        exact key (h.1 rfl)

end
end
end Go.Proofs.YtdlbfilfkpflpaaGreatDoor.Sx

/-! What is known is told anew. -/
namespace Go.Proofs.YtdlbfilfkpflpaaGreatDoor.Sx
set_option linter.unusedSimpArgs false
set_option linter.unusedVariables false
noncomputable section

/-- What is known is told anew: slots forgotten or told otherwise, objects renamed. -/
theorem OkQ.reset {P : Program} {kp : List Nat} {Q : St → Prop} (W : List Nat) (U : List (Nat × SV)) (H : List (Nat × Ob)) (m : Nat) {k : List It} {fr : List SV} {hp : List (Nat × Ob)} {nx : Nat}
    (h1 : SubQ kp ⟨fr, hp, nx⟩ ⟨upds (forget fr W) U, uos hp H, m⟩) (h : OkQ P kp Q k ⟨upds (forget fr W) U, uos hp H, m⟩) : OkQ P kp Q k ⟨fr, hp, nx⟩ := OkQ.sub h1 h

end
end Go.Proofs.YtdlbfilfkpflpaaGreatDoor.Sx

/-! A function held against nil. -/
namespace Go.Proofs.YtdlbfilfkpflpaaGreatDoor.Sx
set_option linter.unusedSimpArgs false
set_option linter.unusedVariables false
noncomputable section

/-- A FUNCTION HELD AGAINST NIL. -/
theorem OkQ.fnNil {P : Program} {kp : List Nat} {Q : St → Prop} {all l : List Oper} {o : Oper} {k : List It} {st : St} {t t' : TypeId} {x : Operand} {f : Nat} {caps : List (Nat × Nat)} (hop : o.op = .binOp .eql t x (.const .nilFunc) t') (hg : o.guard = none)
    (hu : isFn P t = true) (hx : pkV (ev st.fr x) = .s (.fn f caps)) (hk : pkP (ev st.fr x)) (h : OkQ P kp Q (.ops all l :: k) ⟨setD st.fr o.dst (.s (.bool false)), st.hp, st.nx⟩) : OkQ P kp Q (.ops all (o :: l) :: k) st := by
  intro G B hs hQ E a w hc
  have hx' := hc.pre.pk hk
  rw [hx] at hx'
  obtain ⟨cvs, e1, _⟩ := hx'
  refine wpListIn_plain hg fun K hK => op_in (fun c e => by rw [hop] at e; cases e) ?_
  have hrun : (execOp a.eval o).run P w = .ok (.value (.bool false)) w := by
    obtain ⟨d, op, ty, pos, af, gd⟩ := o
    simp only at hop
    subst hop
    have e2 : a.eval (.const .nilFunc) = .nilFunc := rfl
    simp [execOp, e1, e2, eqGuard, run_eql_fn w hu]
  unfold Oper.wp
  rw [hrun]
  exact hK _ _ (h G B hs hQ E _ w (hc.behind hc.pre.mem Evo.rfl' hc.pre.ob (fun i hi => .inl hi) (X := .s (.bool false)) rfl (Nat.le_refl _)))

end
end Go.Proofs.YtdlbfilfkpflpaaGreatDoor.Sx

/-! errors.As where the error's own type is the target's: the target's box holds the error's pointer. -/
namespace Go.Proofs.YtdlbfilfkpflpaaGreatDoor.Sx
set_option linter.unusedSimpArgs false
set_option linter.unusedVariables false
noncomputable section

/-- What errors.As does at these two types (the kit's way: as_hit). -/
def AsHit (P : Program) (f : FuncId) (tF tT : TypeId) : Prop :=
  ∀ (e t : Addr) (old : Value) (w : World), GW w → w.cell? t = some old → w.frozen? t = false →
    Calls P f #[.iface tF (.pointer (some e)), .iface tT (.pointer (some t))] w fun ev w' => ev = .returned (.bool true) ∧ ∃ x1 x2 x3 x4 : Obj, w' = ((((w.alloc x1).alloc x2).alloc x3).alloc x4).setCell t (.pointer (some e))

section
variable {P : Program} {G : Ctx} {st : St} {E : Env} {a : Act} {w : World}

theorem as_gen {o : Oper} {f : FuncId} {tF tT : TypeId} (hit : AsHit P f tF tT) (he : ∀ args w, (callFunc f args).run P w = .ok (.enter f args) w)
    {g x y : Operand} {ats : Array TypeId} {o1 off o2 : Nat} {Ta Tb : TypeId} {cs : List S1} {c : S1} (hop : o.op = .call { callee := .value g, args := #[x, y], argTypes := ats })
    (hf : pkV (ev st.fr g) = .s (.fn f [])) (hx : pkV (ev st.fr x) = .s (.ifp tF o1 off)) (hy : pkV (ev st.fr y) = .s (.ifp tT o2 0)) (hk : pkP (ev st.fr g) ∧ pkP (ev st.fr x) ∧ pkP (ev st.fr y)) (h1 : fo st.hp o1 = .box Ta cs) (h2 : fo st.hp o2 = .box Tb [c])
    (hc : Conc P G st E a w) {K : Act → World → Prop} {R : Exit → Act → World → Prop}
    (hK : ∀ E a w, Conc P G ⟨setD st.fr o.dst (.s (.bool true)), uo st.hp o2 (.box Tb [.pb o1 off]), st.nx⟩ E a w → K a w) : o.wpIn (Fr G.rd) 0 P a w K R := by
  have hf' := hc.pre.pk hk.1
  rw [hf] at hf'
  obtain ⟨vs, e0, e00, _⟩ := hf'
  have hvs : vs = [] := List.eq_nil_of_length_eq_zero e00
  subst hvs
  have hx' := hc.pre.pk hk.2.1
  rw [hx] at hx'
  obtain ⟨hb1, hx'⟩ := hx'
  have hob1 : E.ob o1 = .box Ta cs := (hc.pre.ob o1).trans h1
  rw [hob1] at hx'
  obtain ⟨b1, hl1, e1⟩ := hx'
  have hy' := hc.pre.pk hk.2.2
  rw [hy] at hy'
  obtain ⟨hb2, hy'⟩ := hy'
  have hob2 : E.ob o2 = .box Tb [c] := (hc.pre.ob o2).trans h2
  rw [hob2] at hy'
  obtain ⟨b2, hl2, e2⟩ := hy'
  have hm := hc.pre.mem.hp o2 hb2
  rw [hob2] at hm
  obtain ⟨b2', cur, T, hl2', hh, hsok⟩ := hm
  rw [hl2] at hl2'
  cases hl2'
  have hcs : cur.size = 1 := by simpa using hsok.1
  obtain ⟨d, op, ty, pos, af, gd⟩ := o
  simp only at hop
  subst hop
  refine op_in (fun c e => by cases e) ?_
  have hrun : (execOp a.eval ⟨d, .call { callee := .value g, args := #[x, y], argTypes := ats }, ty, pos, af, gd⟩).run P w = .ok (.enter f #[.iface tF (.pointer (some ⟨b1, off, none⟩)), .iface tT (.pointer (some ⟨b2, 0, none⟩))]) w := by
    simp [execOp, resolve, e0, e1, e2, Deferred.ofValue, invoke, he]
  unfold Oper.wp
  rw [hrun, Oper.upon_enter]
  have hcell : w.cell? ⟨b2, 0, none⟩ = some (cur[0]'(by omega)) := by
    simp [World.cell?, hh, Array.getElem?_append, hcs]
  have hfz : w.frozen? ⟨b2, 0, none⟩ = false := by simp [World.frozen?, hh]
  refine (hit ⟨b1, off, none⟩ ⟨b2, 0, none⟩ _ w hc.pre.mem.gw.1 hcell hfz).mono fun ev w' hpost => ?_
  obtain ⟨rfl, x1, x2, x3, x4, rfl⟩ := hpost
  have hc4 := (((hc.grow x1).grow x2).grow x3).grow x4
  generalize (((w.alloc x1).alloc x2).alloc x3).alloc x4 = W at hc4 ⊢
  have hm4 := hc4.pre.mem.hp o2 hb2
  rw [hob2] at hm4
  obtain ⟨b4, cur4, T4, hl4, hh4, hsok4⟩ := hm4
  rw [hl2] at hl4
  cases hl4
  have hcs4 : cur4.size = 1 := by simpa using hsok4.1
  rw [setCell_eq_setRow W b2 0 (cur4 ++ T4) Tb (0, 0) _ hh4]
  have e5 : (cur4 ++ T4).setIfInBounds 0 (.pointer (some ⟨b1, off, none⟩)) = #[.pointer (some ⟨b1, off, none⟩)] ++ T4 := by
    obtain ⟨l4⟩ := cur4
    match l4, hcs4 with
    | [v4], _ => apply Array.toList_inj.1; simp
  rw [e5]
  have hmut : (E.ob o2).mut = true := by rw [hob2]; rfl
  have hsame : same (E.ob o2) (.box Tb [.pb o1 off]) := by rw [hob2]; rfl
  have hsz : (#[.pointer (some ⟨b1, off, none⟩)] ++ T4 : Array Value).size = (cur4 ++ T4).size := by simp [hcs4]
  have hev := evo_row hc4.pre.mem hmut hl2 hh4 hsz hsame
  refine hK (E.set o2 (.box Tb [.pb o1 off]) (some (b2, 0))) _ _ (hc4.behind (mem_row hc4.pre.mem hmut hl2 hh4 hsz hsame fun hev => ?_) hev (fun i => ?_) (fun i hi => ?_) rfl (Nat.le_refl _))
  · refine ⟨b2, #[.pointer (some ⟨b1, off, none⟩)], T4, set_loc _ _ _ _, setRow_heap W b2 _ _ Tb _ hh4, ?_⟩
    have hpb : S1ok E W (.pb o1 off) (.pointer (some ⟨b1, off, none⟩)) := by
      refine ⟨hb1, ?_⟩
      rw [hob1]
      exact ⟨b1, hl1, rfl⟩
    exact .one (hev.s1 hpb)
  · show _ = fo (uo st.hp o2 _) i
    rw [fo_uo]
    by_cases e : i = o2
    · subst e; rw [if_pos rfl, set_ob]
    · rw [if_neg e, set_ob_ne _ _ _ e]; exact hc4.pre.ob i
  · rcases hi with hi | hi
    · exact .inl hi
    · subst hi; exact .inl hb2

end

/-- errors.As: THE ERROR IS FOUND. -/
theorem OkQ.asHit {P : Program} {kp : List Nat} {Q : St → Prop} {all l : List Oper} {o : Oper} {k : List It} {st : St} {f : FuncId} {tF tT : TypeId} (hit : AsHit P f tF tT) (he : ∀ args w, (callFunc f args).run P w = .ok (.enter f args) w)
    {g x y : Operand} {ats : Array TypeId} {o1 off o2 : Nat} {Ta Tb : TypeId} {cs : List S1} {c : S1} (hop : o.op = .call { callee := .value g, args := #[x, y], argTypes := ats }) (hg : o.guard = none ∨ ∃ j want, o.guard = some (j, want) ∧ gval all st.fr j want = some true)
    (hf : pkV (ev st.fr g) = .s (.fn f [])) (hx : pkV (ev st.fr x) = .s (.ifp tF o1 off)) (hy : pkV (ev st.fr y) = .s (.ifp tT o2 0)) (hk : pkP (ev st.fr g) ∧ pkP (ev st.fr x) ∧ pkP (ev st.fr y)) (h1 : fo st.hp o1 = .box Ta cs) (h2 : fo st.hp o2 = .box Tb [c])
    (h : OkQ P kp Q (.ops all l :: k) ⟨setD st.fr o.dst (.s (.bool true)), uo st.hp o2 (.box Tb [.pb o1 off]), st.nx⟩) : OkQ P kp Q (.ops all (o :: l) :: k) st := by
  intro G B hs hQ E a w hc
  rcases hg with hg | ⟨j, want, hg, hv⟩
  · exact wpListIn_plain hg fun K hK => as_gen hit he hop hf hx hy hk h1 h2 hc fun E a w hc' => hK _ _ (h G B hs hQ E a w hc')
  · refine wpListIn_step fun K hK => ?_
    have hw := gval_ok hc hg hv
    rw [if_pos hw]
    exact as_gen hit he hop hf hx hy hk h1 h2 hc fun E a w hc' => hK _ _ (h G B hs hQ E a w hc')

end
end Go.Proofs.YtdlbfilfkpflpaaGreatDoor.Sx

/-! Contracts out of the kit's shelf: calls that hand back a value and leave the world as it was. -/
namespace Go.Proofs.YtdlbfilfkpflpaaGreatDoor.Sx
set_option linter.unusedSimpArgs false
set_option linter.unusedVariables false
noncomputable section

theorem enters_fn {P : Program} {f : FuncId} {fn : Func} {code : Code} (hf : P.funcs[f]? = some fn) (hb : fn.body = some code) (hn : fn.name ≠ "runtime.NumGoroutine") (args : Array Value) (w : World) : (callFunc f args).run P w = .ok (.enter f args) w := by
  have : ¬ fn.name = "runtime.NumGoroutine" := hn
  simp [callFunc, hf, hb, this]

theorem con_pure {P : Program} {f : FuncId} {al rs : List (Bool × Ty)} {pre : (tyL al).den → Prop} {F : (tyL al).den → (tyL rs).den} (he : ∀ args w, (callFunc f args).run P w = .ok (.enter f args) w)
    (h : ∀ S w vs x, ArgsRd S w al vs x → (tyL al).wf x → pre x → ∃ v, (Calls P f vs.toArray w fun e w' => e = .returned v ∧ w' = w) ∧ (tyL rs).wf (F x) ∧ ∀ E w, SVok E w (resV (roL rs (F x))) v) : Con.Ok P ⟨f, al, rs, pre, F, true⟩ where
  enters := he
  calls S w vs x hS hg hr hwf hp i := by
    obtain ⟨v, hc, h1, h2⟩ := h S w vs x hr hwf hp
    unfold Con.Post
    refine hc.mono ?_
    rintro e w' ⟨rfl, rfl⟩
    exact ⟨v, rfl, RowKit.Below.refl _ _, h1, fun E _ => h2 E _⟩

/-- The same, of calls that read the listed variables and leave more in the memory. -/
theorem con_below {P : Program} {f : FuncId} {al rs : List (Bool × Ty)} {pre : (tyL al).den → Prop} {F : (tyL al).den → (tyL rs).den} (he : ∀ args w, (callFunc f args).run P w = .ok (.enter f args) w)
    (h : ∀ S w vs x, GW w → ArgsRd S w al vs x → (tyL al).wf x → pre x → ∃ v, (Calls P f vs.toArray w fun e w' => e = .returned v ∧ RowKit.Below w.heap.size w w') ∧ (tyL rs).wf (F x) ∧ ∀ E w, SVok E w (resV (roL rs (F x))) v) : Con.Ok P ⟨f, al, rs, pre, F, true⟩ where
  enters := he
  calls S w vs x hS hg hr hwf hp i := by
    obtain ⟨v, hc, h1, h2⟩ := h S w vs x hg.1 hr hwf hp
    unfold Con.Post
    refine hc.mono ?_
    rintro e w' ⟨rfl, hb⟩
    exact ⟨v, rfl, hb, h1, fun E _ => h2 E _⟩

theorem args1 {S : Nat → Prop} {w : World} {t1 : Ty} {vs : List Value} {x : (tyL [(false, t1)]).den} (h : ArgsRd S w [(false, t1)] vs x) : ∃ v1, vs = [v1] ∧ Rd S w t1 [v1] x.1 := by
  match vs, h with
  | [v1], h => exact ⟨v1, rfl, h.2.1 rfl⟩
  | [], h => exact h.elim
  | _ :: _ :: _, h => exact h.2.2.elim

/-- Two arguments of one cell each. -/
theorem args2 {S : Nat → Prop} {w : World} {t1 t2 : Ty} {vs : List Value} {x : (tyL [(false, t1), (false, t2)]).den} (h : ArgsRd S w [(false, t1), (false, t2)] vs x) : ∃ v1 v2, vs = [v1, v2] ∧ Rd S w t1 [v1] x.1 ∧ Rd S w t2 [v2] x.2.1 := by
  match vs, h with
  | [v1, v2], h => exact ⟨v1, v2, rfl, h.2.1 rfl, h.2.2.2.1 rfl⟩
  | [], h => exact h.elim
  | [_], h => exact h.2.2.elim
  | _ :: _ :: _ :: _, h => exact h.2.2.2.2.elim

end
end Go.Proofs.YtdlbfilfkpflpaaGreatDoor.Sx

/-! Verdicts, counted and told: what the document says, as lists. -/
namespace Go.Proofs.YtdlbfilfkpflpaaGreatDoor.Sx
attribute [local irreducible] OkQ Ok
set_option linter.unusedSimpArgs false
set_option linter.unusedVariables false

theorem nDig_le : ∀ (k u : Nat), u < 10 ^ (k + 1) → Lib.nDigits u ≤ k + 1
  | 0, u, h => by rw [Lib.nDigits_small (by omega)]; omega
  | k + 1, u, h => by
    by_cases h2 : u < 10
    · rw [Lib.nDigits_small h2]; omega
    · rw [Lib.nDigits_big h2]
      have := nDig_le k (u / 10) (by rw [Nat.pow_succ] at h; omega)
      omega
theorem itoa_len {n : Int} (h : -9223372036854775808 ≤ n) (h' : n ≤ 9223372036854775807) : (Lib.itoa n).length ≤ 20 := by
  unfold Lib.itoa
  split
  · rw [List.length_cons, Lib.decDigits_length]
    have := nDig_le 18 n.natAbs (by omega)
    omega
  · rw [Lib.decDigits_length]
    have := nDig_le 18 n.toNat (by omega)
    omega

/-- A base's name. -/
def basV (b : Int) : List UInt8 := if b = -1 then [97, 117, 116, 111] else if b = 0 then [108, 101, 102, 116] else if b = 1 then [114, 105, 103, 104, 116] else [98, 97, 115, 101, 32] ++ Lib.itoa b
def lvl1 (x : Int) : List UInt8 := if x = -1 then [32, 120] else [32] ++ Lib.itoa x
def lvlsV (l : List Int) : List UInt8 := l.flatMap lvl1
def ord1 (x : Int) : List UInt8 := [32] ++ Lib.itoa x
def ordV (l : List Int) : List UInt8 := l.flatMap ord1
abbrev VD := Int × Int × Bool × Int × Int × List Int × List Int × Unit
def vZ : VD := (0, 0, false, 0, 0, [], [], ())
/-- What is told of a verdict, whatever it be. -/
def headV (v : VD) : List UInt8 := [99, 97, 115, 101, 32] ++ (Lib.itoa (wr .i64 (v.1 + 1)) ++ ([44, 32] ++ basV v.2.1))
def lineV (v : VD) : List UInt8 := headV v ++ (if v.2.2.2.1 ≠ 0 then [58, 32, 101, 114, 114, 111, 114, 32] ++ (Lib.itoa v.2.2.2.1 ++ [10]) else
  [58, 32, 108, 101, 118, 101, 108, 32] ++ (Lib.itoa v.2.2.2.2.1 ++ ([44, 32, 108, 101, 118, 101, 108, 115] ++ (lvlsV v.2.2.2.2.2.1 ++ ([44, 32, 111, 114, 100, 101, 114] ++ (ordV v.2.2.2.2.2.2.1 ++ [10]))))))
def passB (v : VD) : Bool := decide (v.2.2.2.1 = 0) && v.2.2.1
def failB (v : VD) : Bool := decide (v.2.2.2.1 = 0) && !v.2.2.1
def refuB (v : VD) : Bool := !decide (v.2.2.2.1 = 0)
def toldV (v : VD) : List UInt8 := if passB v = true then [] else lineV v
/-- All, passed, failed, refused. -/
def cntA (l : List VD) : Int := (l.length : Int)
def cntP (l : List VD) : Int := (l.countP passB : Int)
def cntF (l : List VD) : Int := (l.countP failB : Int)
def cntR (l : List VD) : Int := (l.countP refuB : Int)
def footV (l : List VD) : List UInt8 := Lib.itoa (cntP l) ++ ([32, 111, 102, 32] ++ (Lib.itoa (cntA l) ++ ([32, 112, 97, 115, 115, 101, 100, 44, 32] ++ (Lib.itoa (cntF l) ++ ([32, 102, 97, 105, 108, 101, 100, 44, 32] ++ (Lib.itoa (cntR l) ++ [32, 114, 101, 102, 117, 115, 101, 100, 10]))))))
def repsV (l : List VD) : List UInt8 := l.flatMap toldV
def repV (l : List VD) : List UInt8 := repsV l ++ footV l

theorem flat_take {α β : Type} {f : α → List β} {l : List α} {i : Nat} {d : α} (h : i < l.length) : (l.take (i + 1)).flatMap f = (l.take i).flatMap f ++ f (l.getD i d) := by
  rw [List.take_succ_eq_append_getElem h, List.flatMap_append]
  simp [List.getD_eq_getElem?_getD, h]
theorem count_take {α : Type} {f : α → Bool} {l : List α} {i : Nat} {d : α} (h : i < l.length) : ((l.take (i + 1)).countP f : Int) = ((l.take i).countP f : Int) + (if f (l.getD i d) = true then 1 else 0) := by
  rw [List.take_succ_eq_append_getElem h, List.countP_append]
  have e : l.getD i d = l[i] := by simp [List.getD_eq_getElem?_getD, h]
  rw [e]
  by_cases hf : f l[i] = true
  · simp [hf]
  · simp [hf]

/-- How long they are. -/
def okL (l : List Int) : Prop := ∀ x ∈ l, -9223372036854775808 ≤ x ∧ x ≤ 9223372036854775807
theorem flatI_len {f : Int → List UInt8} (hf : ∀ x, -9223372036854775808 ≤ x → x ≤ 9223372036854775807 → (f x).length ≤ 21) : ∀ (l : List Int), okL l → (l.flatMap f).length ≤ 21 * l.length
  | [], _ => by simp
  | x :: l, h => by
    have h1 := h x (List.mem_cons_self ..)
    have h2 := hf x h1.1 h1.2
    have h3 := flatI_len hf l fun y hy => h y (List.mem_cons_of_mem _ hy)
    rw [List.flatMap_cons, List.length_append, List.length_cons]
    omega
theorem okL.take {l : List Int} (h : okL l) (i : Nat) : okL (l.take i) := fun x hx => h x (List.mem_of_mem_take hx)
theorem lvl1_len (x : Int) (h : -9223372036854775808 ≤ x) (h' : x ≤ 9223372036854775807) : (lvl1 x).length ≤ 21 := by
  have := itoa_len h h'
  unfold lvl1
  split <;> simp <;> omega
theorem ord1_len (x : Int) (h : -9223372036854775808 ≤ x) (h' : x ≤ 9223372036854775807) : (ord1 x).length ≤ 21 := by
  have := itoa_len h h'
  unfold ord1
  simp
  omega
theorem basV_len {b : Int} (h : -9223372036854775808 ≤ b) (h' : b ≤ 9223372036854775807) : (basV b).length ≤ 25 := by
  have := itoa_len h h'
  unfold basV
  split
  · simp
  · split
    · simp
    · split
      · simp
      · simp
        omega
def okV (v : VD) : Prop := okL v.2.2.2.2.2.1 ∧ okL v.2.2.2.2.2.2.1 ∧ (-9223372036854775808 ≤ v.1 ∧ v.1 ≤ 9223372036854775807) ∧ (-128 ≤ v.2.1 ∧ v.2.1 ≤ 127) ∧ (-9223372036854775808 ≤ v.2.2.2.1 ∧ v.2.2.2.1 ≤ 9223372036854775807) ∧ (-128 ≤ v.2.2.2.2.1 ∧ v.2.2.2.2.1 ≤ 127)
theorem wr_in (x : Int) : -9223372036854775808 ≤ wr .i64 x ∧ wr .i64 x ≤ 9223372036854775807 := by
  unfold wr
  simp [IntKind.wrap, IntKind.bits, IntKind.signed]
  omega
theorem headV_len {v : VD} (h : okV v) : (headV v).length ≤ 60 := by
  obtain ⟨_, _, _, h1, _⟩ := h
  have h2 := basV_len (b := v.2.1) (by omega) (by omega)
  have h3 := wr_in (v.1 + 1)
  have h4 := itoa_len h3.1 h3.2
  simp only [headV, List.length_append, List.length_cons, List.length_nil]
  omega
theorem lineV_len {v : VD} (h : okV v) : (lineV v).length ≤ 150 + 21 * v.2.2.2.2.2.1.length + 21 * v.2.2.2.2.2.2.1.length := by
  have h0 := headV_len h
  obtain ⟨a1, a2, _, _, a3, a4⟩ := h
  have h1 := itoa_len a3.1 a3.2
  have h2 := itoa_len (n := v.2.2.2.2.1) (by omega) (by omega)
  have h3 := flatI_len lvl1_len _ a1
  have h4 := flatI_len ord1_len _ a2
  unfold lineV lvlsV ordV
  split <;> simp only [List.length_append, List.length_cons, List.length_nil] <;> omega
theorem lineV_ne (v : VD) : lineV v ≠ [] := by unfold lineV headV; simp

/-- The number that is told of a case's place. -/
theorem wr_at (a : Int) : wr .i64 (wr .u64 (wr .u64 a + 1)) = wr .i64 (a + 1) := by
  unfold wr
  simp [IntKind.wrap, IntKind.bits, IntKind.signed]

/-- The digits, as the document's answer lays them: the last one first. -/
theorem dig_step {u : Nat} (h : 9 < u) : Lib.decDigits u = Lib.decDigits (u / 10) ++ [UInt8.ofNat (48 + u % 10)] := by rw [Lib.decDigits, dif_neg (by omega)]
theorem dig_end {u : Nat} (h : ¬ 9 < u) : Lib.decDigits u = [UInt8.ofNat (48 + u)] := by rw [Lib.decDigits, dif_pos (by omega)]

end Go.Proofs.YtdlbfilfkpflpaaGreatDoor.Sx

/-! Facts of the program's types, written by a program. -/
namespace Go.Proofs.YtdlbfilfkpflpaaGreatDoor.Sx
set_option linter.unusedSimpArgs false

theorem tfA0 : aggI Tryz.prog 0 = (some (false, 1)) := by kernel_rfl
theorem tfM0 : mkI Tryz.prog 0 = true := by kernel_rfl
theorem tfA1 : aggI Tryz.prog 1 = (some (false, 1)) := by kernel_rfl
theorem tfZ1 : zeroI Tryz.prog 1 = (some ((.val .nilFunc) :: [])) := by kernel_rfl
theorem tfX1 : isFn Tryz.prog 1 = true := by kernel_rfl
theorem tfM1 : mkI Tryz.prog 1 = true := by kernel_rfl
theorem tfA2 : aggI Tryz.prog 2 = (some (false, 1)) := by kernel_rfl
theorem tfZ2 : zeroI Tryz.prog 2 = (some ((.int .i64 (0 : Int)) :: [])) := by kernel_rfl
theorem tfM2 : mkI Tryz.prog 2 = true := by kernel_rfl
theorem tfU2 : Program.underlying Tryz.prog 2 = (some (.int .i64)) := by kernel_rfl
theorem tfA3 : aggI Tryz.prog 3 = (some (false, 1)) := by kernel_rfl
theorem tfZ3 : zeroI Tryz.prog 3 = (some ((.int .i64 (0 : Int)) :: [])) := by kernel_rfl
theorem tfM3 : mkI Tryz.prog 3 = true := by kernel_rfl
theorem tfU3 : Program.underlying Tryz.prog 3 = (some (.int .i64)) := by kernel_rfl
theorem tfA4 : aggI Tryz.prog 4 = (some (false, 1)) := by kernel_rfl
theorem tfZ4 : zeroI Tryz.prog 4 = (some ((.bool false) :: [])) := by kernel_rfl
theorem tfB4 : isBool Tryz.prog 4 = true := by kernel_rfl
theorem tfM4 : mkI Tryz.prog 4 = true := by kernel_rfl
theorem tfA5 : aggI Tryz.prog 5 = (some (false, 1)) := by kernel_rfl
theorem tfZ5 : zeroI Tryz.prog 5 = (some ((.int .u8 (0 : Int)) :: [])) := by kernel_rfl
theorem tfM5 : mkI Tryz.prog 5 = true := by kernel_rfl
theorem tfU5 : Program.underlying Tryz.prog 5 = (some (.int .u8)) := by kernel_rfl
theorem tfA6 : aggI Tryz.prog 6 = (some (false, 1)) := by kernel_rfl
theorem tfZ6 : zeroI Tryz.prog 6 = (some ((.int .u8 (0 : Int)) :: [])) := by kernel_rfl
theorem tfM6 : mkI Tryz.prog 6 = true := by kernel_rfl
theorem tfU6 : Program.underlying Tryz.prog 6 = (some (.int .u8)) := by kernel_rfl
theorem tfA7 : aggI Tryz.prog 7 = (some (true, 4)) := by kernel_rfl
theorem tfZ7 : zeroI Tryz.prog 7 = (some ((.int .i64 (0 : Int)) :: ((.int .i64 (0 : Int)) :: ((.bool false) :: ((.int .u8 (0 : Int)) :: []))))) := by kernel_rfl
theorem tfP7 : placesI Tryz.prog 7 = (some ((0, 1) :: ((1, 1) :: ((2, 1) :: ((3, 1) :: []))))) := by kernel_rfl
theorem tfM7 : mkI Tryz.prog 7 = true := by kernel_rfl
theorem tfF7x0 : fldI Tryz.prog 7 0 = (some 0) := by kernel_rfl
theorem tfG7x0 : fieldI Tryz.prog 7 0 = (some (false, (0, 1))) := by kernel_rfl
theorem tfF7x1 : fldI Tryz.prog 7 1 = (some 1) := by kernel_rfl
theorem tfG7x1 : fieldI Tryz.prog 7 1 = (some (false, (1, 1))) := by kernel_rfl
theorem tfF7x2 : fldI Tryz.prog 7 2 = (some 2) := by kernel_rfl
theorem tfG7x2 : fieldI Tryz.prog 7 2 = (some (false, (2, 1))) := by kernel_rfl
theorem tfF7x3 : fldI Tryz.prog 7 3 = (some 3) := by kernel_rfl
theorem tfG7x3 : fieldI Tryz.prog 7 3 = (some (false, (3, 1))) := by kernel_rfl
theorem tfA8 : aggI Tryz.prog 8 = (some (true, 4)) := by kernel_rfl
theorem tfZ8 : zeroI Tryz.prog 8 = (some ((.int .i64 (0 : Int)) :: ((.int .i64 (0 : Int)) :: ((.bool false) :: ((.int .u8 (0 : Int)) :: []))))) := by kernel_rfl
theorem tfP8 : placesI Tryz.prog 8 = (some ((0, 1) :: ((1, 1) :: ((2, 1) :: ((3, 1) :: []))))) := by kernel_rfl
theorem tfM8 : mkI Tryz.prog 8 = true := by kernel_rfl
theorem tfF8x0 : fldI Tryz.prog 8 0 = (some 0) := by kernel_rfl
theorem tfG8x0 : fieldI Tryz.prog 8 0 = (some (false, (0, 1))) := by kernel_rfl
theorem tfF8x1 : fldI Tryz.prog 8 1 = (some 1) := by kernel_rfl
theorem tfG8x1 : fieldI Tryz.prog 8 1 = (some (false, (1, 1))) := by kernel_rfl
theorem tfF8x2 : fldI Tryz.prog 8 2 = (some 2) := by kernel_rfl
theorem tfG8x2 : fieldI Tryz.prog 8 2 = (some (false, (2, 1))) := by kernel_rfl
theorem tfF8x3 : fldI Tryz.prog 8 3 = (some 3) := by kernel_rfl
theorem tfG8x3 : fieldI Tryz.prog 8 3 = (some (false, (3, 1))) := by kernel_rfl
theorem tfA9 : aggI Tryz.prog 9 = (some (false, 1)) := by kernel_rfl
theorem tfZ9 : zeroI Tryz.prog 9 = (some ((.str []) :: [])) := by kernel_rfl
theorem tfS9 : isStr Tryz.prog 9 = true := by kernel_rfl
theorem tfM9 : mkI Tryz.prog 9 = true := by kernel_rfl
theorem tfU9 : Program.underlying Tryz.prog 9 = (some .string) := by kernel_rfl
theorem tfA10 : aggI Tryz.prog 10 = (some (false, 1)) := by kernel_rfl
theorem tfZ10 : zeroI Tryz.prog 10 = (some ((.str []) :: [])) := by kernel_rfl
theorem tfS10 : isStr Tryz.prog 10 = true := by kernel_rfl
theorem tfM10 : mkI Tryz.prog 10 = true := by kernel_rfl
theorem tfU10 : Program.underlying Tryz.prog 10 = (some .string) := by kernel_rfl
theorem tfA11 : aggI Tryz.prog 11 = (some (false, 1)) := by kernel_rfl
theorem tfZ11 : zeroI Tryz.prog 11 = (some ((.str []) :: [])) := by kernel_rfl
theorem tfS11 : isStr Tryz.prog 11 = true := by kernel_rfl
theorem tfM11 : mkI Tryz.prog 11 = true := by kernel_rfl
theorem tfU11 : Program.underlying Tryz.prog 11 = (some .string) := by kernel_rfl
theorem tfA12 : aggI Tryz.prog 12 = (some (false, 1)) := by kernel_rfl
theorem tfZ12 : zeroI Tryz.prog 12 = (some ((.int .u64 (0 : Int)) :: [])) := by kernel_rfl
theorem tfM12 : mkI Tryz.prog 12 = true := by kernel_rfl
theorem tfU12 : Program.underlying Tryz.prog 12 = (some (.int .u64)) := by kernel_rfl
theorem tfA13 : aggI Tryz.prog 13 = (some (true, 2)) := by kernel_rfl
theorem tfZ13 : zeroI Tryz.prog 13 = (some ((.str []) :: ((.int .u64 (0 : Int)) :: []))) := by kernel_rfl
theorem tfP13 : placesI Tryz.prog 13 = (some ((0, 1) :: ((1, 1) :: []))) := by kernel_rfl
theorem tfM13 : mkI Tryz.prog 13 = true := by kernel_rfl
theorem tfF13x0 : fldI Tryz.prog 13 0 = (some 0) := by kernel_rfl
theorem tfG13x0 : fieldI Tryz.prog 13 0 = (some (false, (0, 1))) := by kernel_rfl
theorem tfF13x1 : fldI Tryz.prog 13 1 = (some 1) := by kernel_rfl
theorem tfG13x1 : fieldI Tryz.prog 13 1 = (some (false, (1, 1))) := by kernel_rfl
theorem tfA14 : aggI Tryz.prog 14 = (some (true, 2)) := by kernel_rfl
theorem tfZ14 : zeroI Tryz.prog 14 = (some ((.str []) :: ((.int .u64 (0 : Int)) :: []))) := by kernel_rfl
theorem tfP14 : placesI Tryz.prog 14 = (some ((0, 1) :: ((1, 1) :: []))) := by kernel_rfl
theorem tfM14 : mkI Tryz.prog 14 = true := by kernel_rfl
theorem tfF14x0 : fldI Tryz.prog 14 0 = (some 0) := by kernel_rfl
theorem tfG14x0 : fieldI Tryz.prog 14 0 = (some (false, (0, 1))) := by kernel_rfl
theorem tfF14x1 : fldI Tryz.prog 14 1 = (some 1) := by kernel_rfl
theorem tfG14x1 : fieldI Tryz.prog 14 1 = (some (false, (1, 1))) := by kernel_rfl
theorem tfA15 : aggI Tryz.prog 15 = (some (false, 1)) := by kernel_rfl
theorem tfZ15 : zeroI Tryz.prog 15 = (some ((.val (.pointer none)) :: [])) := by kernel_rfl
theorem tfQ15 : isPtr Tryz.prog 15 = true := by kernel_rfl
theorem tfM15 : mkI Tryz.prog 15 = true := by kernel_rfl
theorem tfA16 : aggI Tryz.prog 16 = (some (false, 1)) := by kernel_rfl
theorem tfZ16 : zeroI Tryz.prog 16 = (some ((.val (.pointer none)) :: [])) := by kernel_rfl
theorem tfQ16 : isPtr Tryz.prog 16 = true := by kernel_rfl
theorem tfM16 : mkI Tryz.prog 16 = true := by kernel_rfl
theorem tfA17 : aggI Tryz.prog 17 = (some (false, 1)) := by kernel_rfl
theorem tfZ17 : zeroI Tryz.prog 17 = (some ((.val (.pointer none)) :: [])) := by kernel_rfl
theorem tfQ17 : isPtr Tryz.prog 17 = true := by kernel_rfl
theorem tfM17 : mkI Tryz.prog 17 = true := by kernel_rfl
theorem tfA18 : aggI Tryz.prog 18 = (some (true, 1)) := by kernel_rfl
theorem tfZ18 : zeroI Tryz.prog 18 = (some ((.val (.pointer none)) :: [])) := by kernel_rfl
theorem tfP18 : placesI Tryz.prog 18 = (some ((0, 1) :: [])) := by kernel_rfl
theorem tfM18 : mkI Tryz.prog 18 = true := by kernel_rfl
theorem tfF18x0 : fldI Tryz.prog 18 0 = (some 0) := by kernel_rfl
theorem tfG18x0 : fieldI Tryz.prog 18 0 = (some (false, (0, 1))) := by kernel_rfl
theorem tfA19 : aggI Tryz.prog 19 = (some (true, 1)) := by kernel_rfl
theorem tfZ19 : zeroI Tryz.prog 19 = (some ((.val (.pointer none)) :: [])) := by kernel_rfl
theorem tfP19 : placesI Tryz.prog 19 = (some ((0, 1) :: [])) := by kernel_rfl
theorem tfM19 : mkI Tryz.prog 19 = true := by kernel_rfl
theorem tfF19x0 : fldI Tryz.prog 19 0 = (some 0) := by kernel_rfl
theorem tfG19x0 : fieldI Tryz.prog 19 0 = (some (false, (0, 1))) := by kernel_rfl
theorem tfA20 : aggI Tryz.prog 20 = (some (false, 1)) := by kernel_rfl
theorem tfZ20 : zeroI Tryz.prog 20 = (some ((.val .nilIface) :: [])) := by kernel_rfl
theorem tfI20 : isIf Tryz.prog 20 = true := by kernel_rfl
theorem tfA21 : aggI Tryz.prog 21 = (some (false, 1)) := by kernel_rfl
theorem tfZ21 : zeroI Tryz.prog 21 = (some ((.int .i32 (0 : Int)) :: [])) := by kernel_rfl
theorem tfM21 : mkI Tryz.prog 21 = true := by kernel_rfl
theorem tfU21 : Program.underlying Tryz.prog 21 = (some (.int .i32)) := by kernel_rfl
theorem tfE22 : elemI Tryz.prog 22 = (some ((.pair (.int .i64) (.pair (.int .i8) (.pair .bool (.pair (.int .i64) (.pair (.int .i8) (.pair (.slice 1 (.int .i8)) (.pair (.slice 8 (.int .i64)) .unit))))))), 80)) := by kernel_rfl
theorem tfA22 : aggI Tryz.prog 22 = (some (false, 1)) := by kernel_rfl
theorem tfZ22 : zeroI Tryz.prog 22 = (some (.nils :: [])) := by kernel_rfl
theorem tfM22 : mkI Tryz.prog 22 = true := by kernel_rfl
theorem tfA23 : aggI Tryz.prog 23 = (some (false, 1)) := by kernel_rfl
theorem tfZ23 : zeroI Tryz.prog 23 = (some ((.val .nilFunc) :: [])) := by kernel_rfl
theorem tfX23 : isFn Tryz.prog 23 = true := by kernel_rfl
theorem tfM23 : mkI Tryz.prog 23 = true := by kernel_rfl
theorem tfA24 : aggI Tryz.prog 24 = (some (true, 4)) := by kernel_rfl
theorem tfZ24 : zeroI Tryz.prog 24 = (some ((.int .i64 (0 : Int)) :: ((.int .i64 (0 : Int)) :: ((.int .i64 (0 : Int)) :: ((.int .i64 (0 : Int)) :: []))))) := by kernel_rfl
theorem tfP24 : placesI Tryz.prog 24 = (some ((0, 1) :: ((1, 1) :: ((2, 1) :: ((3, 1) :: []))))) := by kernel_rfl
theorem tfM24 : mkI Tryz.prog 24 = true := by kernel_rfl
theorem tfF24x0 : fldI Tryz.prog 24 0 = (some 0) := by kernel_rfl
theorem tfG24x0 : fieldI Tryz.prog 24 0 = (some (false, (0, 1))) := by kernel_rfl
theorem tfF24x1 : fldI Tryz.prog 24 1 = (some 1) := by kernel_rfl
theorem tfG24x1 : fieldI Tryz.prog 24 1 = (some (false, (1, 1))) := by kernel_rfl
theorem tfF24x2 : fldI Tryz.prog 24 2 = (some 2) := by kernel_rfl
theorem tfG24x2 : fieldI Tryz.prog 24 2 = (some (false, (2, 1))) := by kernel_rfl
theorem tfF24x3 : fldI Tryz.prog 24 3 = (some 3) := by kernel_rfl
theorem tfG24x3 : fieldI Tryz.prog 24 3 = (some (false, (3, 1))) := by kernel_rfl
theorem tfA25 : aggI Tryz.prog 25 = (some (true, 4)) := by kernel_rfl
theorem tfZ25 : zeroI Tryz.prog 25 = (some ((.int .i64 (0 : Int)) :: ((.int .i64 (0 : Int)) :: ((.int .i64 (0 : Int)) :: ((.int .i64 (0 : Int)) :: []))))) := by kernel_rfl
theorem tfP25 : placesI Tryz.prog 25 = (some ((0, 1) :: ((1, 1) :: ((2, 1) :: ((3, 1) :: []))))) := by kernel_rfl
theorem tfM25 : mkI Tryz.prog 25 = true := by kernel_rfl
theorem tfF25x0 : fldI Tryz.prog 25 0 = (some 0) := by kernel_rfl
theorem tfG25x0 : fieldI Tryz.prog 25 0 = (some (false, (0, 1))) := by kernel_rfl
theorem tfF25x1 : fldI Tryz.prog 25 1 = (some 1) := by kernel_rfl
theorem tfG25x1 : fieldI Tryz.prog 25 1 = (some (false, (1, 1))) := by kernel_rfl
theorem tfF25x2 : fldI Tryz.prog 25 2 = (some 2) := by kernel_rfl
theorem tfG25x2 : fieldI Tryz.prog 25 2 = (some (false, (2, 1))) := by kernel_rfl
theorem tfF25x3 : fldI Tryz.prog 25 3 = (some 3) := by kernel_rfl
theorem tfG25x3 : fieldI Tryz.prog 25 3 = (some (false, (3, 1))) := by kernel_rfl
theorem tfA26 : aggI Tryz.prog 26 = (some (false, 1)) := by kernel_rfl
theorem tfZ26 : zeroI Tryz.prog 26 = (some ((.val .nilFunc) :: [])) := by kernel_rfl
theorem tfX26 : isFn Tryz.prog 26 = true := by kernel_rfl
theorem tfM26 : mkI Tryz.prog 26 = true := by kernel_rfl
theorem tfA27 : aggI Tryz.prog 27 = (some (false, 1)) := by kernel_rfl
theorem tfZ27 : zeroI Tryz.prog 27 = (some ((.val .nilFunc) :: [])) := by kernel_rfl
theorem tfX27 : isFn Tryz.prog 27 = true := by kernel_rfl
theorem tfM27 : mkI Tryz.prog 27 = true := by kernel_rfl
theorem tfA28 : aggI Tryz.prog 28 = (some (false, 1)) := by kernel_rfl
theorem tfZ28 : zeroI Tryz.prog 28 = (some ((.val .nilFunc) :: [])) := by kernel_rfl
theorem tfX28 : isFn Tryz.prog 28 = true := by kernel_rfl
theorem tfM28 : mkI Tryz.prog 28 = true := by kernel_rfl
theorem tfA29 : aggI Tryz.prog 29 = (some (false, 1)) := by kernel_rfl
theorem tfZ29 : zeroI Tryz.prog 29 = (some ((.val .nilFunc) :: [])) := by kernel_rfl
theorem tfX29 : isFn Tryz.prog 29 = true := by kernel_rfl
theorem tfM29 : mkI Tryz.prog 29 = true := by kernel_rfl
theorem tfA30 : aggI Tryz.prog 30 = (some (false, 1)) := by kernel_rfl
theorem tfZ30 : zeroI Tryz.prog 30 = (some ((.val .nilFunc) :: [])) := by kernel_rfl
theorem tfX30 : isFn Tryz.prog 30 = true := by kernel_rfl
theorem tfM30 : mkI Tryz.prog 30 = true := by kernel_rfl
theorem tfA31 : aggI Tryz.prog 31 = (some (false, 1)) := by kernel_rfl
theorem tfZ31 : zeroI Tryz.prog 31 = (some ((.val .nilFunc) :: [])) := by kernel_rfl
theorem tfX31 : isFn Tryz.prog 31 = true := by kernel_rfl
theorem tfM31 : mkI Tryz.prog 31 = true := by kernel_rfl
theorem tfA32 : aggI Tryz.prog 32 = (some (false, 1)) := by kernel_rfl
theorem tfZ32 : zeroI Tryz.prog 32 = (some ((.val .nilFunc) :: [])) := by kernel_rfl
theorem tfX32 : isFn Tryz.prog 32 = true := by kernel_rfl
theorem tfM32 : mkI Tryz.prog 32 = true := by kernel_rfl
theorem tfA33 : aggI Tryz.prog 33 = (some (false, 1)) := by kernel_rfl
theorem tfZ33 : zeroI Tryz.prog 33 = (some ((.val .nilFunc) :: [])) := by kernel_rfl
theorem tfX33 : isFn Tryz.prog 33 = true := by kernel_rfl
theorem tfM33 : mkI Tryz.prog 33 = true := by kernel_rfl
theorem tfE34 : elemI Tryz.prog 34 = (some ((.int .u8), 1)) := by kernel_rfl
theorem tfA34 : aggI Tryz.prog 34 = (some (false, 1)) := by kernel_rfl
theorem tfZ34 : zeroI Tryz.prog 34 = (some (.nils :: [])) := by kernel_rfl
theorem tfM34 : mkI Tryz.prog 34 = true := by kernel_rfl
theorem tfE35 : elemI Tryz.prog 35 = (some ((.int .i8), 1)) := by kernel_rfl
theorem tfA35 : aggI Tryz.prog 35 = (some (false, 1)) := by kernel_rfl
theorem tfZ35 : zeroI Tryz.prog 35 = (some (.nils :: [])) := by kernel_rfl
theorem tfM35 : mkI Tryz.prog 35 = true := by kernel_rfl
theorem tfE36 : elemI Tryz.prog 36 = (some ((.int .i64), 8)) := by kernel_rfl
theorem tfA36 : aggI Tryz.prog 36 = (some (false, 1)) := by kernel_rfl
theorem tfZ36 : zeroI Tryz.prog 36 = (some (.nils :: [])) := by kernel_rfl
theorem tfM36 : mkI Tryz.prog 36 = true := by kernel_rfl
theorem tfA37 : aggI Tryz.prog 37 = (some (true, 5)) := by kernel_rfl
theorem tfZ37 : zeroI Tryz.prog 37 = (some ((.int .i64 (0 : Int)) :: (.nils :: ((.int .u8 (0 : Int)) :: (.nils :: (.nils :: [])))))) := by kernel_rfl
theorem tfP37 : placesI Tryz.prog 37 = (some ((0, 1) :: ((1, 1) :: ((2, 1) :: ((3, 1) :: ((4, 1) :: [])))))) := by kernel_rfl
theorem tfM37 : mkI Tryz.prog 37 = true := by kernel_rfl
theorem tfF37x0 : fldI Tryz.prog 37 0 = (some 0) := by kernel_rfl
theorem tfG37x0 : fieldI Tryz.prog 37 0 = (some (false, (0, 1))) := by kernel_rfl
theorem tfF37x1 : fldI Tryz.prog 37 1 = (some 1) := by kernel_rfl
theorem tfG37x1 : fieldI Tryz.prog 37 1 = (some (false, (1, 1))) := by kernel_rfl
theorem tfF37x2 : fldI Tryz.prog 37 2 = (some 2) := by kernel_rfl
theorem tfG37x2 : fieldI Tryz.prog 37 2 = (some (false, (2, 1))) := by kernel_rfl
theorem tfF37x3 : fldI Tryz.prog 37 3 = (some 3) := by kernel_rfl
theorem tfG37x3 : fieldI Tryz.prog 37 3 = (some (false, (3, 1))) := by kernel_rfl
theorem tfF37x4 : fldI Tryz.prog 37 4 = (some 4) := by kernel_rfl
theorem tfG37x4 : fieldI Tryz.prog 37 4 = (some (false, (4, 1))) := by kernel_rfl
theorem tfA38 : aggI Tryz.prog 38 = (some (true, 5)) := by kernel_rfl
theorem tfZ38 : zeroI Tryz.prog 38 = (some ((.int .i64 (0 : Int)) :: (.nils :: ((.int .u8 (0 : Int)) :: (.nils :: (.nils :: [])))))) := by kernel_rfl
theorem tfP38 : placesI Tryz.prog 38 = (some ((0, 1) :: ((1, 1) :: ((2, 1) :: ((3, 1) :: ((4, 1) :: [])))))) := by kernel_rfl
theorem tfM38 : mkI Tryz.prog 38 = true := by kernel_rfl
theorem tfF38x0 : fldI Tryz.prog 38 0 = (some 0) := by kernel_rfl
theorem tfG38x0 : fieldI Tryz.prog 38 0 = (some (false, (0, 1))) := by kernel_rfl
theorem tfF38x1 : fldI Tryz.prog 38 1 = (some 1) := by kernel_rfl
theorem tfG38x1 : fieldI Tryz.prog 38 1 = (some (false, (1, 1))) := by kernel_rfl
theorem tfF38x2 : fldI Tryz.prog 38 2 = (some 2) := by kernel_rfl
theorem tfG38x2 : fieldI Tryz.prog 38 2 = (some (false, (2, 1))) := by kernel_rfl
theorem tfF38x3 : fldI Tryz.prog 38 3 = (some 3) := by kernel_rfl
theorem tfG38x3 : fieldI Tryz.prog 38 3 = (some (false, (3, 1))) := by kernel_rfl
theorem tfF38x4 : fldI Tryz.prog 38 4 = (some 4) := by kernel_rfl
theorem tfG38x4 : fieldI Tryz.prog 38 4 = (some (false, (4, 1))) := by kernel_rfl
theorem tfA39 : aggI Tryz.prog 39 = (some (false, 1)) := by kernel_rfl
theorem tfZ39 : zeroI Tryz.prog 39 = (some ((.val .nilFunc) :: [])) := by kernel_rfl
theorem tfX39 : isFn Tryz.prog 39 = true := by kernel_rfl
theorem tfM39 : mkI Tryz.prog 39 = true := by kernel_rfl
theorem tfA40 : aggI Tryz.prog 40 = (some (false, 1)) := by kernel_rfl
theorem tfZ40 : zeroI Tryz.prog 40 = (some ((.int .i8 (0 : Int)) :: [])) := by kernel_rfl
theorem tfM40 : mkI Tryz.prog 40 = true := by kernel_rfl
theorem tfU40 : Program.underlying Tryz.prog 40 = (some (.int .i8)) := by kernel_rfl
theorem tfA41 : aggI Tryz.prog 41 = (some (false, 1)) := by kernel_rfl
theorem tfZ41 : zeroI Tryz.prog 41 = (some ((.int .i8 (0 : Int)) :: [])) := by kernel_rfl
theorem tfM41 : mkI Tryz.prog 41 = true := by kernel_rfl
theorem tfU41 : Program.underlying Tryz.prog 41 = (some (.int .i8)) := by kernel_rfl
theorem tfA42 : aggI Tryz.prog 42 = (some (false, 1)) := by kernel_rfl
theorem tfZ42 : zeroI Tryz.prog 42 = (some ((.int .i64 (0 : Int)) :: [])) := by kernel_rfl
theorem tfM42 : mkI Tryz.prog 42 = true := by kernel_rfl
theorem tfU42 : Program.underlying Tryz.prog 42 = (some (.int .i64)) := by kernel_rfl
theorem tfA43 : aggI Tryz.prog 43 = (some (false, 1)) := by kernel_rfl
theorem tfZ43 : zeroI Tryz.prog 43 = (some ((.int .i8 (0 : Int)) :: [])) := by kernel_rfl
theorem tfM43 : mkI Tryz.prog 43 = true := by kernel_rfl
theorem tfU43 : Program.underlying Tryz.prog 43 = (some (.int .i8)) := by kernel_rfl
theorem tfA44 : aggI Tryz.prog 44 = (some (true, 7)) := by kernel_rfl
theorem tfZ44 : zeroI Tryz.prog 44 = (some ((.int .i64 (0 : Int)) :: ((.int .i8 (0 : Int)) :: ((.bool false) :: ((.int .i64 (0 : Int)) :: ((.int .i8 (0 : Int)) :: (.nils :: (.nils :: [])))))))) := by kernel_rfl
theorem tfP44 : placesI Tryz.prog 44 = (some ((0, 1) :: ((1, 1) :: ((2, 1) :: ((3, 1) :: ((4, 1) :: ((5, 1) :: ((6, 1) :: [])))))))) := by kernel_rfl
theorem tfM44 : mkI Tryz.prog 44 = true := by kernel_rfl
theorem tfF44x0 : fldI Tryz.prog 44 0 = (some 0) := by kernel_rfl
theorem tfG44x0 : fieldI Tryz.prog 44 0 = (some (false, (0, 1))) := by kernel_rfl
theorem tfF44x1 : fldI Tryz.prog 44 1 = (some 1) := by kernel_rfl
theorem tfG44x1 : fieldI Tryz.prog 44 1 = (some (false, (1, 1))) := by kernel_rfl
theorem tfF44x2 : fldI Tryz.prog 44 2 = (some 2) := by kernel_rfl
theorem tfG44x2 : fieldI Tryz.prog 44 2 = (some (false, (2, 1))) := by kernel_rfl
theorem tfF44x3 : fldI Tryz.prog 44 3 = (some 3) := by kernel_rfl
theorem tfG44x3 : fieldI Tryz.prog 44 3 = (some (false, (3, 1))) := by kernel_rfl
theorem tfF44x4 : fldI Tryz.prog 44 4 = (some 4) := by kernel_rfl
theorem tfG44x4 : fieldI Tryz.prog 44 4 = (some (false, (4, 1))) := by kernel_rfl
theorem tfF44x5 : fldI Tryz.prog 44 5 = (some 5) := by kernel_rfl
theorem tfG44x5 : fieldI Tryz.prog 44 5 = (some (false, (5, 1))) := by kernel_rfl
theorem tfF44x6 : fldI Tryz.prog 44 6 = (some 6) := by kernel_rfl
theorem tfG44x6 : fieldI Tryz.prog 44 6 = (some (false, (6, 1))) := by kernel_rfl
theorem tfA45 : aggI Tryz.prog 45 = (some (true, 7)) := by kernel_rfl
theorem tfZ45 : zeroI Tryz.prog 45 = (some ((.int .i64 (0 : Int)) :: ((.int .i8 (0 : Int)) :: ((.bool false) :: ((.int .i64 (0 : Int)) :: ((.int .i8 (0 : Int)) :: (.nils :: (.nils :: [])))))))) := by kernel_rfl
theorem tfP45 : placesI Tryz.prog 45 = (some ((0, 1) :: ((1, 1) :: ((2, 1) :: ((3, 1) :: ((4, 1) :: ((5, 1) :: ((6, 1) :: [])))))))) := by kernel_rfl
theorem tfM45 : mkI Tryz.prog 45 = true := by kernel_rfl
theorem tfF45x0 : fldI Tryz.prog 45 0 = (some 0) := by kernel_rfl
theorem tfG45x0 : fieldI Tryz.prog 45 0 = (some (false, (0, 1))) := by kernel_rfl
theorem tfF45x1 : fldI Tryz.prog 45 1 = (some 1) := by kernel_rfl
theorem tfG45x1 : fieldI Tryz.prog 45 1 = (some (false, (1, 1))) := by kernel_rfl
theorem tfF45x2 : fldI Tryz.prog 45 2 = (some 2) := by kernel_rfl
theorem tfG45x2 : fieldI Tryz.prog 45 2 = (some (false, (2, 1))) := by kernel_rfl
theorem tfF45x3 : fldI Tryz.prog 45 3 = (some 3) := by kernel_rfl
theorem tfG45x3 : fieldI Tryz.prog 45 3 = (some (false, (3, 1))) := by kernel_rfl
theorem tfF45x4 : fldI Tryz.prog 45 4 = (some 4) := by kernel_rfl
theorem tfG45x4 : fieldI Tryz.prog 45 4 = (some (false, (4, 1))) := by kernel_rfl
theorem tfF45x5 : fldI Tryz.prog 45 5 = (some 5) := by kernel_rfl
theorem tfG45x5 : fieldI Tryz.prog 45 5 = (some (false, (5, 1))) := by kernel_rfl
theorem tfF45x6 : fldI Tryz.prog 45 6 = (some 6) := by kernel_rfl
theorem tfG45x6 : fieldI Tryz.prog 45 6 = (some (false, (6, 1))) := by kernel_rfl
theorem tfA46 : aggI Tryz.prog 46 = (some (false, 1)) := by kernel_rfl
theorem tfZ46 : zeroI Tryz.prog 46 = (some ((.val (.pointer none)) :: [])) := by kernel_rfl
theorem tfQ46 : isPtr Tryz.prog 46 = true := by kernel_rfl
theorem tfM46 : mkI Tryz.prog 46 = true := by kernel_rfl
theorem tfE47 : elemI Tryz.prog 47 = (some ((.int .u8), 1)) := by kernel_rfl
theorem tfA47 : aggI Tryz.prog 47 = (some (false, 1)) := by kernel_rfl
theorem tfZ47 : zeroI Tryz.prog 47 = (some (.nils :: [])) := by kernel_rfl
theorem tfM47 : mkI Tryz.prog 47 = true := by kernel_rfl
theorem tfA48 : aggI Tryz.prog 48 = (some (true, 2)) := by kernel_rfl
theorem tfZ48 : zeroI Tryz.prog 48 = (some ((.val (.pointer none)) :: (.nils :: []))) := by kernel_rfl
theorem tfP48 : placesI Tryz.prog 48 = (some ((0, 1) :: ((1, 1) :: []))) := by kernel_rfl
theorem tfM48 : mkI Tryz.prog 48 = true := by kernel_rfl
theorem tfF48x0 : fldI Tryz.prog 48 0 = (some 0) := by kernel_rfl
theorem tfG48x0 : fieldI Tryz.prog 48 0 = (some (false, (0, 1))) := by kernel_rfl
theorem tfF48x1 : fldI Tryz.prog 48 1 = (some 1) := by kernel_rfl
theorem tfG48x1 : fieldI Tryz.prog 48 1 = (some (false, (1, 1))) := by kernel_rfl
theorem tfA49 : aggI Tryz.prog 49 = (some (true, 2)) := by kernel_rfl
theorem tfZ49 : zeroI Tryz.prog 49 = (some ((.val (.pointer none)) :: (.nils :: []))) := by kernel_rfl
theorem tfP49 : placesI Tryz.prog 49 = (some ((0, 1) :: ((1, 1) :: []))) := by kernel_rfl
theorem tfM49 : mkI Tryz.prog 49 = true := by kernel_rfl
theorem tfF49x0 : fldI Tryz.prog 49 0 = (some 0) := by kernel_rfl
theorem tfG49x0 : fieldI Tryz.prog 49 0 = (some (false, (0, 1))) := by kernel_rfl
theorem tfF49x1 : fldI Tryz.prog 49 1 = (some 1) := by kernel_rfl
theorem tfG49x1 : fieldI Tryz.prog 49 1 = (some (false, (1, 1))) := by kernel_rfl
theorem tfA50 : aggI Tryz.prog 50 = (some (false, 1)) := by kernel_rfl
theorem tfZ50 : zeroI Tryz.prog 50 = (some ((.val .nilIface) :: [])) := by kernel_rfl
theorem tfI50 : isIf Tryz.prog 50 = true := by kernel_rfl
theorem tfA51 : aggI Tryz.prog 51 = (some (false, 1)) := by kernel_rfl
theorem tfZ51 : zeroI Tryz.prog 51 = (some ((.val .nilIface) :: [])) := by kernel_rfl
theorem tfI51 : isIf Tryz.prog 51 = true := by kernel_rfl
theorem tfA52 : aggI Tryz.prog 52 = (some (false, 1)) := by kernel_rfl
theorem tfM52 : mkI Tryz.prog 52 = true := by kernel_rfl
theorem tfA53 : aggI Tryz.prog 53 = (some (false, 1)) := by kernel_rfl
theorem tfZ53 : zeroI Tryz.prog 53 = (some ((.val .nilFunc) :: [])) := by kernel_rfl
theorem tfX53 : isFn Tryz.prog 53 = true := by kernel_rfl
theorem tfM53 : mkI Tryz.prog 53 = true := by kernel_rfl
theorem tfA54 : aggI Tryz.prog 54 = (some (false, 1)) := by kernel_rfl
theorem tfZ54 : zeroI Tryz.prog 54 = (some ((.val .nilFunc) :: [])) := by kernel_rfl
theorem tfX54 : isFn Tryz.prog 54 = true := by kernel_rfl
theorem tfM54 : mkI Tryz.prog 54 = true := by kernel_rfl
theorem tfA55 : aggI Tryz.prog 55 = (some (true, 2)) := by kernel_rfl
theorem tfZ55 : zeroI Tryz.prog 55 = (some ((.int .i64 (0 : Int)) :: ((.str []) :: []))) := by kernel_rfl
theorem tfP55 : placesI Tryz.prog 55 = (some ((0, 1) :: ((1, 1) :: []))) := by kernel_rfl
theorem tfM55 : mkI Tryz.prog 55 = true := by kernel_rfl
theorem tfF55x0 : fldI Tryz.prog 55 0 = (some 0) := by kernel_rfl
theorem tfG55x0 : fieldI Tryz.prog 55 0 = (some (false, (0, 1))) := by kernel_rfl
theorem tfF55x1 : fldI Tryz.prog 55 1 = (some 1) := by kernel_rfl
theorem tfG55x1 : fieldI Tryz.prog 55 1 = (some (false, (1, 1))) := by kernel_rfl
theorem tfE56 : elemI Tryz.prog 56 = (some ((.pair (.int .i64) (.pair .str .unit)), 24)) := by kernel_rfl
theorem tfA56 : aggI Tryz.prog 56 = (some (false, 1)) := by kernel_rfl
theorem tfZ56 : zeroI Tryz.prog 56 = (some (.nils :: [])) := by kernel_rfl
theorem tfM56 : mkI Tryz.prog 56 = true := by kernel_rfl
theorem tfA57 : aggI Tryz.prog 57 = (some (false, 1)) := by kernel_rfl
theorem tfZ57 : zeroI Tryz.prog 57 = (some ((.val .nilFunc) :: [])) := by kernel_rfl
theorem tfX57 : isFn Tryz.prog 57 = true := by kernel_rfl
theorem tfM57 : mkI Tryz.prog 57 = true := by kernel_rfl
theorem tfA58 : aggI Tryz.prog 58 = (some (false, 1)) := by kernel_rfl
theorem tfZ58 : zeroI Tryz.prog 58 = (some ((.val .nilFunc) :: [])) := by kernel_rfl
theorem tfX58 : isFn Tryz.prog 58 = true := by kernel_rfl
theorem tfM58 : mkI Tryz.prog 58 = true := by kernel_rfl
theorem tfA59 : aggI Tryz.prog 59 = (some (false, 1)) := by kernel_rfl
theorem tfZ59 : zeroI Tryz.prog 59 = (some ((.int .u64 (0 : Int)) :: [])) := by kernel_rfl
theorem tfM59 : mkI Tryz.prog 59 = true := by kernel_rfl
theorem tfU59 : Program.underlying Tryz.prog 59 = (some (.int .u64)) := by kernel_rfl
theorem tfE60 : elemI Tryz.prog 60 = (some ((.pair (.int .i64) (.pair (.slice 1 (.int .u8)) (.pair (.int .u8) (.pair (.slice 1 (.int .i8)) (.pair (.slice 8 (.int .i64)) .unit))))), 88)) := by kernel_rfl
theorem tfA60 : aggI Tryz.prog 60 = (some (false, 1)) := by kernel_rfl
theorem tfZ60 : zeroI Tryz.prog 60 = (some (.nils :: [])) := by kernel_rfl
theorem tfM60 : mkI Tryz.prog 60 = true := by kernel_rfl
theorem tfA61 : aggI Tryz.prog 61 = (some (false, 1)) := by kernel_rfl
theorem tfZ61 : zeroI Tryz.prog 61 = (some ((.val .nilFunc) :: [])) := by kernel_rfl
theorem tfX61 : isFn Tryz.prog 61 = true := by kernel_rfl
theorem tfM61 : mkI Tryz.prog 61 = true := by kernel_rfl
theorem tfA62 : aggI Tryz.prog 62 = (some (false, 1)) := by kernel_rfl
theorem tfZ62 : zeroI Tryz.prog 62 = (some ((.val .nilFunc) :: [])) := by kernel_rfl
theorem tfX62 : isFn Tryz.prog 62 = true := by kernel_rfl
theorem tfM62 : mkI Tryz.prog 62 = true := by kernel_rfl
theorem tfE63 : elemI Tryz.prog 63 = (some ((.int .i8), 1)) := by kernel_rfl
theorem tfA63 : aggI Tryz.prog 63 = (some (false, 1)) := by kernel_rfl
theorem tfZ63 : zeroI Tryz.prog 63 = (some (.nils :: [])) := by kernel_rfl
theorem tfM63 : mkI Tryz.prog 63 = true := by kernel_rfl
theorem tfA64 : aggI Tryz.prog 64 = (some (false, 1)) := by kernel_rfl
theorem tfZ64 : zeroI Tryz.prog 64 = (some ((.val .nilFunc) :: [])) := by kernel_rfl
theorem tfX64 : isFn Tryz.prog 64 = true := by kernel_rfl
theorem tfM64 : mkI Tryz.prog 64 = true := by kernel_rfl
theorem tfA65 : aggI Tryz.prog 65 = (some (false, 1)) := by kernel_rfl
theorem tfZ65 : zeroI Tryz.prog 65 = (some ((.val .nilFunc) :: [])) := by kernel_rfl
theorem tfX65 : isFn Tryz.prog 65 = true := by kernel_rfl
theorem tfM65 : mkI Tryz.prog 65 = true := by kernel_rfl
theorem tfA66 : aggI Tryz.prog 66 = (some (false, 1)) := by kernel_rfl
theorem tfZ66 : zeroI Tryz.prog 66 = (some ((.val .nilFunc) :: [])) := by kernel_rfl
theorem tfX66 : isFn Tryz.prog 66 = true := by kernel_rfl
theorem tfM66 : mkI Tryz.prog 66 = true := by kernel_rfl
theorem tfA67 : aggI Tryz.prog 67 = (some (false, 1)) := by kernel_rfl
theorem tfZ67 : zeroI Tryz.prog 67 = (some ((.int .u8 (0 : Int)) :: [])) := by kernel_rfl
theorem tfM67 : mkI Tryz.prog 67 = true := by kernel_rfl
theorem tfU67 : Program.underlying Tryz.prog 67 = (some (.int .u8)) := by kernel_rfl
theorem tfA68 : aggI Tryz.prog 68 = (some (false, 1)) := by kernel_rfl
theorem tfZ68 : zeroI Tryz.prog 68 = (some ((.val .nilFunc) :: [])) := by kernel_rfl
theorem tfX68 : isFn Tryz.prog 68 = true := by kernel_rfl
theorem tfM68 : mkI Tryz.prog 68 = true := by kernel_rfl
theorem tfA69 : aggI Tryz.prog 69 = (some (false, 1)) := by kernel_rfl
theorem tfZ69 : zeroI Tryz.prog 69 = (some ((.val (.pointer none)) :: [])) := by kernel_rfl
theorem tfQ69 : isPtr Tryz.prog 69 = true := by kernel_rfl
theorem tfM69 : mkI Tryz.prog 69 = true := by kernel_rfl
theorem tfA70 : aggI Tryz.prog 70 = (some (false, 1)) := by kernel_rfl
theorem tfZ70 : zeroI Tryz.prog 70 = (some ((.val .nilFunc) :: [])) := by kernel_rfl
theorem tfX70 : isFn Tryz.prog 70 = true := by kernel_rfl
theorem tfM70 : mkI Tryz.prog 70 = true := by kernel_rfl
theorem tfA71 : aggI Tryz.prog 71 = (some (false, 1)) := by kernel_rfl
theorem tfZ71 : zeroI Tryz.prog 71 = (some ((.val (.map none)) :: [])) := by kernel_rfl
theorem tfM71 : mkI Tryz.prog 71 = true := by kernel_rfl
theorem tfA72 : aggI Tryz.prog 72 = (some (false, 1)) := by kernel_rfl
theorem tfZ72 : zeroI Tryz.prog 72 = (some ((.val .nilFunc) :: [])) := by kernel_rfl
theorem tfX72 : isFn Tryz.prog 72 = true := by kernel_rfl
theorem tfM72 : mkI Tryz.prog 72 = true := by kernel_rfl
theorem tfA73 : aggI Tryz.prog 73 = (some (false, 1)) := by kernel_rfl
theorem tfM73 : mkI Tryz.prog 73 = true := by kernel_rfl
theorem tfA74 : aggI Tryz.prog 74 = (some (false, 1)) := by kernel_rfl
theorem tfZ74 : zeroI Tryz.prog 74 = (some ((.val .nilFunc) :: [])) := by kernel_rfl
theorem tfX74 : isFn Tryz.prog 74 = true := by kernel_rfl
theorem tfM74 : mkI Tryz.prog 74 = true := by kernel_rfl
theorem tfA75 : aggI Tryz.prog 75 = (some (false, 1)) := by kernel_rfl
theorem tfZ75 : zeroI Tryz.prog 75 = (some ((.val .nilFunc) :: [])) := by kernel_rfl
theorem tfX75 : isFn Tryz.prog 75 = true := by kernel_rfl
theorem tfM75 : mkI Tryz.prog 75 = true := by kernel_rfl
theorem tfA76 : aggI Tryz.prog 76 = (some (false, 1)) := by kernel_rfl
theorem tfZ76 : zeroI Tryz.prog 76 = (some ((.val .nilFunc) :: [])) := by kernel_rfl
theorem tfX76 : isFn Tryz.prog 76 = true := by kernel_rfl
theorem tfM76 : mkI Tryz.prog 76 = true := by kernel_rfl
theorem tfA77 : aggI Tryz.prog 77 = (some (false, 1)) := by kernel_rfl
theorem tfZ77 : zeroI Tryz.prog 77 = (some ((.val (.pointer none)) :: [])) := by kernel_rfl
theorem tfM77 : mkI Tryz.prog 77 = true := by kernel_rfl
theorem tfA78 : aggI Tryz.prog 78 = (some (false, 1)) := by kernel_rfl
theorem tfZ78 : zeroI Tryz.prog 78 = (some ((.val .nilFunc) :: [])) := by kernel_rfl
theorem tfX78 : isFn Tryz.prog 78 = true := by kernel_rfl
theorem tfM78 : mkI Tryz.prog 78 = true := by kernel_rfl
theorem tfA79 : aggI Tryz.prog 79 = (some (false, 1)) := by kernel_rfl
theorem tfZ79 : zeroI Tryz.prog 79 = (some ((.val .nilFunc) :: [])) := by kernel_rfl
theorem tfX79 : isFn Tryz.prog 79 = true := by kernel_rfl
theorem tfM79 : mkI Tryz.prog 79 = true := by kernel_rfl
theorem tfA80 : aggI Tryz.prog 80 = (some (false, 1)) := by kernel_rfl
theorem tfM80 : mkI Tryz.prog 80 = true := by kernel_rfl
theorem tfA81 : aggI Tryz.prog 81 = (some (false, 1)) := by kernel_rfl
theorem tfZ81 : zeroI Tryz.prog 81 = (some ((.val .nilFunc) :: [])) := by kernel_rfl
theorem tfX81 : isFn Tryz.prog 81 = true := by kernel_rfl
theorem tfM81 : mkI Tryz.prog 81 = true := by kernel_rfl
theorem tfA82 : aggI Tryz.prog 82 = (some (true, 3)) := by kernel_rfl
theorem tfZ82 : zeroI Tryz.prog 82 = (some ((.int .i8 (0 : Int)) :: (.nils :: (.nils :: [])))) := by kernel_rfl
theorem tfP82 : placesI Tryz.prog 82 = (some ((0, 1) :: ((1, 1) :: ((2, 1) :: [])))) := by kernel_rfl
theorem tfM82 : mkI Tryz.prog 82 = true := by kernel_rfl
theorem tfF82x0 : fldI Tryz.prog 82 0 = (some 0) := by kernel_rfl
theorem tfG82x0 : fieldI Tryz.prog 82 0 = (some (false, (0, 1))) := by kernel_rfl
theorem tfF82x1 : fldI Tryz.prog 82 1 = (some 1) := by kernel_rfl
theorem tfG82x1 : fieldI Tryz.prog 82 1 = (some (false, (1, 1))) := by kernel_rfl
theorem tfF82x2 : fldI Tryz.prog 82 2 = (some 2) := by kernel_rfl
theorem tfG82x2 : fieldI Tryz.prog 82 2 = (some (false, (2, 1))) := by kernel_rfl
theorem tfA83 : aggI Tryz.prog 83 = (some (true, 3)) := by kernel_rfl
theorem tfZ83 : zeroI Tryz.prog 83 = (some ((.int .i8 (0 : Int)) :: (.nils :: (.nils :: [])))) := by kernel_rfl
theorem tfP83 : placesI Tryz.prog 83 = (some ((0, 1) :: ((1, 1) :: ((2, 1) :: [])))) := by kernel_rfl
theorem tfM83 : mkI Tryz.prog 83 = true := by kernel_rfl
theorem tfF83x0 : fldI Tryz.prog 83 0 = (some 0) := by kernel_rfl
theorem tfG83x0 : fieldI Tryz.prog 83 0 = (some (false, (0, 1))) := by kernel_rfl
theorem tfF83x1 : fldI Tryz.prog 83 1 = (some 1) := by kernel_rfl
theorem tfG83x1 : fieldI Tryz.prog 83 1 = (some (false, (1, 1))) := by kernel_rfl
theorem tfF83x2 : fldI Tryz.prog 83 2 = (some 2) := by kernel_rfl
theorem tfG83x2 : fieldI Tryz.prog 83 2 = (some (false, (2, 1))) := by kernel_rfl
theorem tfA84 : aggI Tryz.prog 84 = (some (false, 1)) := by kernel_rfl
theorem tfM84 : mkI Tryz.prog 84 = true := by kernel_rfl
theorem tfA85 : aggI Tryz.prog 85 = (some (false, 1)) := by kernel_rfl
theorem tfZ85 : zeroI Tryz.prog 85 = (some ((.val .nilFunc) :: [])) := by kernel_rfl
theorem tfX85 : isFn Tryz.prog 85 = true := by kernel_rfl
theorem tfM85 : mkI Tryz.prog 85 = true := by kernel_rfl
theorem tfA86 : aggI Tryz.prog 86 = (some (true, 24)) := by kernel_rfl
theorem tfZ86 : zeroI Tryz.prog 86 = (some ((.int .u8 (0 : Int)) :: ((.int .u8 (0 : Int)) :: ((.int .u8 (0 : Int)) :: ((.int .u8 (0 : Int)) :: ((.int .u8 (0 : Int)) :: ((.int .u8 (0 : Int)) :: ((.int .u8 (0 : Int)) :: ((.int .u8 (0 : Int)) :: ((.int .u8 (0 : Int)) :: ((.int .u8 (0 : Int)) :: ((.int .u8 (0 : Int)) :: ((.int .u8 (0 : Int)) :: ((.int .u8 (0 : Int)) :: ((.int .u8 (0 : Int)) :: ((.int .u8 (0 : Int)) :: ((.int .u8 (0 : Int)) :: ((.int .u8 (0 : Int)) :: ((.int .u8 (0 : Int)) :: ((.int .u8 (0 : Int)) :: ((.int .u8 (0 : Int)) :: ((.int .u8 (0 : Int)) :: ((.int .u8 (0 : Int)) :: ((.int .u8 (0 : Int)) :: ((.int .u8 (0 : Int)) :: []))))))))))))))))))))))))) := by kernel_rfl
theorem tfM86 : mkI Tryz.prog 86 = true := by kernel_rfl
theorem tfR86 : arrI Tryz.prog 86 = (some (24, 1)) := by kernel_rfl
theorem tfA87 : aggI Tryz.prog 87 = (some (false, 1)) := by kernel_rfl
theorem tfZ87 : zeroI Tryz.prog 87 = (some ((.val .nilFunc) :: [])) := by kernel_rfl
theorem tfX87 : isFn Tryz.prog 87 = true := by kernel_rfl
theorem tfM87 : mkI Tryz.prog 87 = true := by kernel_rfl
theorem tfA88 : aggI Tryz.prog 88 = (some (false, 1)) := by kernel_rfl
theorem tfZ88 : zeroI Tryz.prog 88 = (some ((.val .nilFunc) :: [])) := by kernel_rfl
theorem tfX88 : isFn Tryz.prog 88 = true := by kernel_rfl
theorem tfM88 : mkI Tryz.prog 88 = true := by kernel_rfl
theorem tfA89 : aggI Tryz.prog 89 = (some (false, 1)) := by kernel_rfl
theorem tfM89 : mkI Tryz.prog 89 = true := by kernel_rfl
theorem tfA90 : aggI Tryz.prog 90 = (some (false, 1)) := by kernel_rfl
theorem tfZ90 : zeroI Tryz.prog 90 = (some ((.val .nilFunc) :: [])) := by kernel_rfl
theorem tfX90 : isFn Tryz.prog 90 = true := by kernel_rfl
theorem tfM90 : mkI Tryz.prog 90 = true := by kernel_rfl
theorem tfA91 : aggI Tryz.prog 91 = (some (false, 1)) := by kernel_rfl
theorem tfM91 : mkI Tryz.prog 91 = true := by kernel_rfl
theorem tfA92 : aggI Tryz.prog 92 = (some (false, 1)) := by kernel_rfl
theorem tfZ92 : zeroI Tryz.prog 92 = (some ((.val .nilFunc) :: [])) := by kernel_rfl
theorem tfX92 : isFn Tryz.prog 92 = true := by kernel_rfl
theorem tfM92 : mkI Tryz.prog 92 = true := by kernel_rfl
theorem tfA93 : aggI Tryz.prog 93 = (some (false, 1)) := by kernel_rfl
theorem tfM93 : mkI Tryz.prog 93 = true := by kernel_rfl
theorem tfA94 : aggI Tryz.prog 94 = (some (false, 1)) := by kernel_rfl
theorem tfZ94 : zeroI Tryz.prog 94 = (some ((.val .nilFunc) :: [])) := by kernel_rfl
theorem tfX94 : isFn Tryz.prog 94 = true := by kernel_rfl
theorem tfM94 : mkI Tryz.prog 94 = true := by kernel_rfl
theorem tfA95 : aggI Tryz.prog 95 = (some (false, 1)) := by kernel_rfl
theorem tfZ95 : zeroI Tryz.prog 95 = (some ((.val .nilFunc) :: [])) := by kernel_rfl
theorem tfX95 : isFn Tryz.prog 95 = true := by kernel_rfl
theorem tfM95 : mkI Tryz.prog 95 = true := by kernel_rfl
theorem tfA96 : aggI Tryz.prog 96 = (some (false, 1)) := by kernel_rfl
theorem tfZ96 : zeroI Tryz.prog 96 = (some ((.val .nilFunc) :: [])) := by kernel_rfl
theorem tfX96 : isFn Tryz.prog 96 = true := by kernel_rfl
theorem tfM96 : mkI Tryz.prog 96 = true := by kernel_rfl
theorem tfA97 : aggI Tryz.prog 97 = (some (false, 1)) := by kernel_rfl
theorem tfZ97 : zeroI Tryz.prog 97 = (some ((.val .nilFunc) :: [])) := by kernel_rfl
theorem tfX97 : isFn Tryz.prog 97 = true := by kernel_rfl
theorem tfM97 : mkI Tryz.prog 97 = true := by kernel_rfl
theorem tfA98 : aggI Tryz.prog 98 = (some (false, 1)) := by kernel_rfl
theorem tfZ98 : zeroI Tryz.prog 98 = (some ((.val .nilFunc) :: [])) := by kernel_rfl
theorem tfX98 : isFn Tryz.prog 98 = true := by kernel_rfl
theorem tfM98 : mkI Tryz.prog 98 = true := by kernel_rfl
theorem tfA99 : aggI Tryz.prog 99 = (some (false, 1)) := by kernel_rfl
theorem tfZ99 : zeroI Tryz.prog 99 = (some ((.val .nilFunc) :: [])) := by kernel_rfl
theorem tfX99 : isFn Tryz.prog 99 = true := by kernel_rfl
theorem tfM99 : mkI Tryz.prog 99 = true := by kernel_rfl
theorem tfE100 : elemI Tryz.prog 100 = (some (.opq, 8)) := by kernel_rfl
theorem tfA100 : aggI Tryz.prog 100 = (some (false, 1)) := by kernel_rfl
theorem tfZ100 : zeroI Tryz.prog 100 = (some (.nils :: [])) := by kernel_rfl
theorem tfM100 : mkI Tryz.prog 100 = true := by kernel_rfl
theorem tfA101 : aggI Tryz.prog 101 = (some (false, 1)) := by kernel_rfl
theorem tfZ101 : zeroI Tryz.prog 101 = (some ((.val .nilFunc) :: [])) := by kernel_rfl
theorem tfX101 : isFn Tryz.prog 101 = true := by kernel_rfl
theorem tfM101 : mkI Tryz.prog 101 = true := by kernel_rfl
theorem tfA102 : aggI Tryz.prog 102 = (some (false, 1)) := by kernel_rfl
theorem tfZ102 : zeroI Tryz.prog 102 = (some ((.val .nilFunc) :: [])) := by kernel_rfl
theorem tfX102 : isFn Tryz.prog 102 = true := by kernel_rfl
theorem tfM102 : mkI Tryz.prog 102 = true := by kernel_rfl
theorem tfA103 : aggI Tryz.prog 103 = (some (false, 1)) := by kernel_rfl
theorem tfZ103 : zeroI Tryz.prog 103 = (some ((.val .nilFunc) :: [])) := by kernel_rfl
theorem tfX103 : isFn Tryz.prog 103 = true := by kernel_rfl
theorem tfM103 : mkI Tryz.prog 103 = true := by kernel_rfl
theorem tfA104 : aggI Tryz.prog 104 = (some (false, 1)) := by kernel_rfl
theorem tfZ104 : zeroI Tryz.prog 104 = (some ((.val .nilFunc) :: [])) := by kernel_rfl
theorem tfX104 : isFn Tryz.prog 104 = true := by kernel_rfl
theorem tfM104 : mkI Tryz.prog 104 = true := by kernel_rfl
theorem tfA105 : aggI Tryz.prog 105 = (some (true, 20)) := by kernel_rfl
theorem tfZ105 : zeroI Tryz.prog 105 = (some ((.int .u64 (0 : Int)) :: ((.int .u64 (0 : Int)) :: ((.int .u64 (0 : Int)) :: ((.int .u64 (0 : Int)) :: ((.int .u64 (0 : Int)) :: ((.int .u64 (0 : Int)) :: ((.int .u64 (0 : Int)) :: ((.int .u64 (0 : Int)) :: ((.int .u64 (0 : Int)) :: ((.int .u64 (0 : Int)) :: ((.int .u64 (0 : Int)) :: ((.int .u64 (0 : Int)) :: ((.int .u64 (0 : Int)) :: ((.int .u64 (0 : Int)) :: ((.int .u64 (0 : Int)) :: ((.int .u64 (0 : Int)) :: ((.int .u64 (0 : Int)) :: ((.int .u64 (0 : Int)) :: ((.int .u64 (0 : Int)) :: ((.int .u64 (0 : Int)) :: []))))))))))))))))))))) := by kernel_rfl
theorem tfM105 : mkI Tryz.prog 105 = true := by kernel_rfl
theorem tfR105 : arrI Tryz.prog 105 = (some (20, 1)) := by kernel_rfl
theorem tfA106 : aggI Tryz.prog 106 = (some (false, 1)) := by kernel_rfl
theorem tfZ106 : zeroI Tryz.prog 106 = (some ((.int .u32 (0 : Int)) :: [])) := by kernel_rfl
theorem tfM106 : mkI Tryz.prog 106 = true := by kernel_rfl
theorem tfU106 : Program.underlying Tryz.prog 106 = (some (.int .u32)) := by kernel_rfl
theorem tfA107 : aggI Tryz.prog 107 = (some (true, 65)) := by kernel_rfl
theorem tfZ107 : zeroI Tryz.prog 107 = (some ((.int .u8 (0 : Int)) :: ((.int .u8 (0 : Int)) :: ((.int .u8 (0 : Int)) :: ((.int .u8 (0 : Int)) :: ((.int .u8 (0 : Int)) :: ((.int .u8 (0 : Int)) :: ((.int .u8 (0 : Int)) :: ((.int .u8 (0 : Int)) :: ((.int .u8 (0 : Int)) :: ((.int .u8 (0 : Int)) :: ((.int .u8 (0 : Int)) :: ((.int .u8 (0 : Int)) :: ((.int .u8 (0 : Int)) :: ((.int .u8 (0 : Int)) :: ((.int .u8 (0 : Int)) :: ((.int .u8 (0 : Int)) :: ((.int .u8 (0 : Int)) :: ((.int .u8 (0 : Int)) :: ((.int .u8 (0 : Int)) :: ((.int .u8 (0 : Int)) :: ((.int .u8 (0 : Int)) :: ((.int .u8 (0 : Int)) :: ((.int .u8 (0 : Int)) :: ((.int .u8 (0 : Int)) :: ((.int .u8 (0 : Int)) :: ((.int .u8 (0 : Int)) :: ((.int .u8 (0 : Int)) :: ((.int .u8 (0 : Int)) :: ((.int .u8 (0 : Int)) :: ((.int .u8 (0 : Int)) :: ((.int .u8 (0 : Int)) :: ((.int .u8 (0 : Int)) :: ((.int .u8 (0 : Int)) :: ((.int .u8 (0 : Int)) :: ((.int .u8 (0 : Int)) :: ((.int .u8 (0 : Int)) :: ((.int .u8 (0 : Int)) :: ((.int .u8 (0 : Int)) :: ((.int .u8 (0 : Int)) :: ((.int .u8 (0 : Int)) :: ((.int .u8 (0 : Int)) :: ((.int .u8 (0 : Int)) :: ((.int .u8 (0 : Int)) :: ((.int .u8 (0 : Int)) :: ((.int .u8 (0 : Int)) :: ((.int .u8 (0 : Int)) :: ((.int .u8 (0 : Int)) :: ((.int .u8 (0 : Int)) :: ((.int .u8 (0 : Int)) :: ((.int .u8 (0 : Int)) :: ((.int .u8 (0 : Int)) :: ((.int .u8 (0 : Int)) :: ((.int .u8 (0 : Int)) :: ((.int .u8 (0 : Int)) :: ((.int .u8 (0 : Int)) :: ((.int .u8 (0 : Int)) :: ((.int .u8 (0 : Int)) :: ((.int .u8 (0 : Int)) :: ((.int .u8 (0 : Int)) :: ((.int .u8 (0 : Int)) :: ((.int .u8 (0 : Int)) :: ((.int .u8 (0 : Int)) :: ((.int .u8 (0 : Int)) :: ((.int .u8 (0 : Int)) :: ((.int .u8 (0 : Int)) :: [])))))))))))))))))))))))))))))))))))))))))))))))))))))))))))))))))) := by kernel_rfl
theorem tfM107 : mkI Tryz.prog 107 = true := by kernel_rfl
theorem tfR107 : arrI Tryz.prog 107 = (some (65, 1)) := by kernel_rfl
theorem tfA108 : aggI Tryz.prog 108 = (some (false, 1)) := by kernel_rfl
theorem tfZ108 : zeroI Tryz.prog 108 = (some ((.val .nilFunc) :: [])) := by kernel_rfl
theorem tfX108 : isFn Tryz.prog 108 = true := by kernel_rfl
theorem tfM108 : mkI Tryz.prog 108 = true := by kernel_rfl
theorem tfA109 : aggI Tryz.prog 109 = (some (false, 1)) := by kernel_rfl
theorem tfZ109 : zeroI Tryz.prog 109 = (some ((.int .u64 (0 : Int)) :: [])) := by kernel_rfl
theorem tfM109 : mkI Tryz.prog 109 = true := by kernel_rfl
theorem tfU109 : Program.underlying Tryz.prog 109 = (some (.int .u64)) := by kernel_rfl
theorem tfA110 : aggI Tryz.prog 110 = (some (false, 1)) := by kernel_rfl
theorem tfZ110 : zeroI Tryz.prog 110 = (some ((.val .nilFunc) :: [])) := by kernel_rfl
theorem tfX110 : isFn Tryz.prog 110 = true := by kernel_rfl
theorem tfM110 : mkI Tryz.prog 110 = true := by kernel_rfl
theorem tfA111 : aggI Tryz.prog 111 = (some (false, 1)) := by kernel_rfl
theorem tfZ111 : zeroI Tryz.prog 111 = (some ((.val .nilFunc) :: [])) := by kernel_rfl
theorem tfX111 : isFn Tryz.prog 111 = true := by kernel_rfl
theorem tfM111 : mkI Tryz.prog 111 = true := by kernel_rfl
theorem tfA112 : aggI Tryz.prog 112 = (some (true, 2)) := by kernel_rfl
theorem tfZ112 : zeroI Tryz.prog 112 = (some ((.int .i64 (0 : Int)) :: ((.int .i64 (0 : Int)) :: []))) := by kernel_rfl
theorem tfP112 : placesI Tryz.prog 112 = (some ((0, 1) :: ((1, 1) :: []))) := by kernel_rfl
theorem tfM112 : mkI Tryz.prog 112 = true := by kernel_rfl
theorem tfF112x0 : fldI Tryz.prog 112 0 = (some 0) := by kernel_rfl
theorem tfG112x0 : fieldI Tryz.prog 112 0 = (some (false, (0, 1))) := by kernel_rfl
theorem tfF112x1 : fldI Tryz.prog 112 1 = (some 1) := by kernel_rfl
theorem tfG112x1 : fieldI Tryz.prog 112 1 = (some (false, (1, 1))) := by kernel_rfl
theorem tfA113 : aggI Tryz.prog 113 = (some (true, 2)) := by kernel_rfl
theorem tfZ113 : zeroI Tryz.prog 113 = (some ((.int .i64 (0 : Int)) :: ((.int .i64 (0 : Int)) :: []))) := by kernel_rfl
theorem tfP113 : placesI Tryz.prog 113 = (some ((0, 1) :: ((1, 1) :: []))) := by kernel_rfl
theorem tfM113 : mkI Tryz.prog 113 = true := by kernel_rfl
theorem tfF113x0 : fldI Tryz.prog 113 0 = (some 0) := by kernel_rfl
theorem tfG113x0 : fieldI Tryz.prog 113 0 = (some (false, (0, 1))) := by kernel_rfl
theorem tfF113x1 : fldI Tryz.prog 113 1 = (some 1) := by kernel_rfl
theorem tfG113x1 : fieldI Tryz.prog 113 1 = (some (false, (1, 1))) := by kernel_rfl
theorem tfA114 : aggI Tryz.prog 114 = (some (false, 1)) := by kernel_rfl
theorem tfZ114 : zeroI Tryz.prog 114 = (some ((.val .nilFunc) :: [])) := by kernel_rfl
theorem tfX114 : isFn Tryz.prog 114 = true := by kernel_rfl
theorem tfM114 : mkI Tryz.prog 114 = true := by kernel_rfl
theorem tfA115 : aggI Tryz.prog 115 = (some (false, 1)) := by kernel_rfl
theorem tfZ115 : zeroI Tryz.prog 115 = (some ((.val .nilFunc) :: [])) := by kernel_rfl
theorem tfX115 : isFn Tryz.prog 115 = true := by kernel_rfl
theorem tfM115 : mkI Tryz.prog 115 = true := by kernel_rfl
theorem tfE116 : elemI Tryz.prog 116 = (some ((.int .i32), 4)) := by kernel_rfl
theorem tfA116 : aggI Tryz.prog 116 = (some (false, 1)) := by kernel_rfl
theorem tfZ116 : zeroI Tryz.prog 116 = (some (.nils :: [])) := by kernel_rfl
theorem tfM116 : mkI Tryz.prog 116 = true := by kernel_rfl
theorem tfA117 : aggI Tryz.prog 117 = (some (false, 1)) := by kernel_rfl
theorem tfM117 : mkI Tryz.prog 117 = true := by kernel_rfl
theorem tfA118 : aggI Tryz.prog 118 = (some (false, 1)) := by kernel_rfl
theorem tfZ118 : zeroI Tryz.prog 118 = (some ((.val .nilFunc) :: [])) := by kernel_rfl
theorem tfX118 : isFn Tryz.prog 118 = true := by kernel_rfl
theorem tfM118 : mkI Tryz.prog 118 = true := by kernel_rfl
theorem tfA119 : aggI Tryz.prog 119 = (some (true, 3)) := by kernel_rfl
theorem tfZ119 : zeroI Tryz.prog 119 = (some (.nils :: (.nils :: (.nils :: [])))) := by kernel_rfl
theorem tfP119 : placesI Tryz.prog 119 = (some ((0, 1) :: ((1, 1) :: ((2, 1) :: [])))) := by kernel_rfl
theorem tfM119 : mkI Tryz.prog 119 = true := by kernel_rfl
theorem tfF119x0 : fldI Tryz.prog 119 0 = (some 0) := by kernel_rfl
theorem tfG119x0 : fieldI Tryz.prog 119 0 = (some (false, (0, 1))) := by kernel_rfl
theorem tfF119x1 : fldI Tryz.prog 119 1 = (some 1) := by kernel_rfl
theorem tfG119x1 : fieldI Tryz.prog 119 1 = (some (false, (1, 1))) := by kernel_rfl
theorem tfF119x2 : fldI Tryz.prog 119 2 = (some 2) := by kernel_rfl
theorem tfG119x2 : fieldI Tryz.prog 119 2 = (some (false, (2, 1))) := by kernel_rfl
theorem tfA120 : aggI Tryz.prog 120 = (some (true, 3)) := by kernel_rfl
theorem tfZ120 : zeroI Tryz.prog 120 = (some (.nils :: (.nils :: (.nils :: [])))) := by kernel_rfl
theorem tfP120 : placesI Tryz.prog 120 = (some ((0, 1) :: ((1, 1) :: ((2, 1) :: [])))) := by kernel_rfl
theorem tfM120 : mkI Tryz.prog 120 = true := by kernel_rfl
theorem tfF120x0 : fldI Tryz.prog 120 0 = (some 0) := by kernel_rfl
theorem tfG120x0 : fieldI Tryz.prog 120 0 = (some (false, (0, 1))) := by kernel_rfl
theorem tfF120x1 : fldI Tryz.prog 120 1 = (some 1) := by kernel_rfl
theorem tfG120x1 : fieldI Tryz.prog 120 1 = (some (false, (1, 1))) := by kernel_rfl
theorem tfF120x2 : fldI Tryz.prog 120 2 = (some 2) := by kernel_rfl
theorem tfG120x2 : fieldI Tryz.prog 120 2 = (some (false, (2, 1))) := by kernel_rfl
theorem tfA121 : aggI Tryz.prog 121 = (some (false, 1)) := by kernel_rfl
theorem tfM121 : mkI Tryz.prog 121 = true := by kernel_rfl
theorem tfA122 : aggI Tryz.prog 122 = (some (false, 1)) := by kernel_rfl
theorem tfZ122 : zeroI Tryz.prog 122 = (some ((.val .nilFunc) :: [])) := by kernel_rfl
theorem tfX122 : isFn Tryz.prog 122 = true := by kernel_rfl
theorem tfM122 : mkI Tryz.prog 122 = true := by kernel_rfl
theorem tfE123 : elemI Tryz.prog 123 = (some ((.pair (.slice 8 (.int .i64)) (.pair (.slice 1 (.int .u8)) (.pair (.int .i8) (.pair (.int .u8) (.pair (.int .u8) .unit))))), 56)) := by kernel_rfl
theorem tfA123 : aggI Tryz.prog 123 = (some (false, 1)) := by kernel_rfl
theorem tfZ123 : zeroI Tryz.prog 123 = (some (.nils :: [])) := by kernel_rfl
theorem tfM123 : mkI Tryz.prog 123 = true := by kernel_rfl
theorem tfA124 : aggI Tryz.prog 124 = (some (false, 1)) := by kernel_rfl
theorem tfM124 : mkI Tryz.prog 124 = true := by kernel_rfl
theorem tfA125 : aggI Tryz.prog 125 = (some (false, 1)) := by kernel_rfl
theorem tfZ125 : zeroI Tryz.prog 125 = (some ((.val .nilFunc) :: [])) := by kernel_rfl
theorem tfX125 : isFn Tryz.prog 125 = true := by kernel_rfl
theorem tfM125 : mkI Tryz.prog 125 = true := by kernel_rfl
theorem tfA126 : aggI Tryz.prog 126 = (some (true, 5)) := by kernel_rfl
theorem tfZ126 : zeroI Tryz.prog 126 = (some (.nils :: (.nils :: ((.int .i8 (0 : Int)) :: ((.int .u8 (0 : Int)) :: ((.int .u8 (0 : Int)) :: [])))))) := by kernel_rfl
theorem tfP126 : placesI Tryz.prog 126 = (some ((0, 1) :: ((1, 1) :: ((2, 1) :: ((3, 1) :: ((4, 1) :: [])))))) := by kernel_rfl
theorem tfM126 : mkI Tryz.prog 126 = true := by kernel_rfl
theorem tfF126x0 : fldI Tryz.prog 126 0 = (some 0) := by kernel_rfl
theorem tfG126x0 : fieldI Tryz.prog 126 0 = (some (false, (0, 1))) := by kernel_rfl
theorem tfF126x1 : fldI Tryz.prog 126 1 = (some 1) := by kernel_rfl
theorem tfG126x1 : fieldI Tryz.prog 126 1 = (some (false, (1, 1))) := by kernel_rfl
theorem tfF126x2 : fldI Tryz.prog 126 2 = (some 2) := by kernel_rfl
theorem tfG126x2 : fieldI Tryz.prog 126 2 = (some (false, (2, 1))) := by kernel_rfl
theorem tfF126x3 : fldI Tryz.prog 126 3 = (some 3) := by kernel_rfl
theorem tfG126x3 : fieldI Tryz.prog 126 3 = (some (false, (3, 1))) := by kernel_rfl
theorem tfF126x4 : fldI Tryz.prog 126 4 = (some 4) := by kernel_rfl
theorem tfG126x4 : fieldI Tryz.prog 126 4 = (some (false, (4, 1))) := by kernel_rfl
theorem tfA127 : aggI Tryz.prog 127 = (some (true, 5)) := by kernel_rfl
theorem tfZ127 : zeroI Tryz.prog 127 = (some (.nils :: (.nils :: ((.int .i8 (0 : Int)) :: ((.int .u8 (0 : Int)) :: ((.int .u8 (0 : Int)) :: [])))))) := by kernel_rfl
theorem tfP127 : placesI Tryz.prog 127 = (some ((0, 1) :: ((1, 1) :: ((2, 1) :: ((3, 1) :: ((4, 1) :: [])))))) := by kernel_rfl
theorem tfM127 : mkI Tryz.prog 127 = true := by kernel_rfl
theorem tfF127x0 : fldI Tryz.prog 127 0 = (some 0) := by kernel_rfl
theorem tfG127x0 : fieldI Tryz.prog 127 0 = (some (false, (0, 1))) := by kernel_rfl
theorem tfF127x1 : fldI Tryz.prog 127 1 = (some 1) := by kernel_rfl
theorem tfG127x1 : fieldI Tryz.prog 127 1 = (some (false, (1, 1))) := by kernel_rfl
theorem tfF127x2 : fldI Tryz.prog 127 2 = (some 2) := by kernel_rfl
theorem tfG127x2 : fieldI Tryz.prog 127 2 = (some (false, (2, 1))) := by kernel_rfl
theorem tfF127x3 : fldI Tryz.prog 127 3 = (some 3) := by kernel_rfl
theorem tfG127x3 : fieldI Tryz.prog 127 3 = (some (false, (3, 1))) := by kernel_rfl
theorem tfF127x4 : fldI Tryz.prog 127 4 = (some 4) := by kernel_rfl
theorem tfG127x4 : fieldI Tryz.prog 127 4 = (some (false, (4, 1))) := by kernel_rfl
theorem tfA128 : aggI Tryz.prog 128 = (some (false, 1)) := by kernel_rfl
theorem tfZ128 : zeroI Tryz.prog 128 = (some ((.val .nilFunc) :: [])) := by kernel_rfl
theorem tfX128 : isFn Tryz.prog 128 = true := by kernel_rfl
theorem tfM128 : mkI Tryz.prog 128 = true := by kernel_rfl
theorem tfA129 : aggI Tryz.prog 129 = (some (false, 1)) := by kernel_rfl
theorem tfM129 : mkI Tryz.prog 129 = true := by kernel_rfl
theorem tfA130 : aggI Tryz.prog 130 = (some (false, 1)) := by kernel_rfl
theorem tfZ130 : zeroI Tryz.prog 130 = (some ((.val .nilFunc) :: [])) := by kernel_rfl
theorem tfX130 : isFn Tryz.prog 130 = true := by kernel_rfl
theorem tfM130 : mkI Tryz.prog 130 = true := by kernel_rfl
theorem tfE131 : elemI Tryz.prog 131 = (some (.opq, 8)) := by kernel_rfl
theorem tfA131 : aggI Tryz.prog 131 = (some (false, 1)) := by kernel_rfl
theorem tfZ131 : zeroI Tryz.prog 131 = (some (.nils :: [])) := by kernel_rfl
theorem tfM131 : mkI Tryz.prog 131 = true := by kernel_rfl
theorem tfA132 : aggI Tryz.prog 132 = (some (false, 1)) := by kernel_rfl
theorem tfZ132 : zeroI Tryz.prog 132 = (some ((.val .nilFunc) :: [])) := by kernel_rfl
theorem tfX132 : isFn Tryz.prog 132 = true := by kernel_rfl
theorem tfM132 : mkI Tryz.prog 132 = true := by kernel_rfl
theorem tfA133 : aggI Tryz.prog 133 = (some (false, 1)) := by kernel_rfl
theorem tfZ133 : zeroI Tryz.prog 133 = (some ((.val .nilFunc) :: [])) := by kernel_rfl
theorem tfX133 : isFn Tryz.prog 133 = true := by kernel_rfl
theorem tfM133 : mkI Tryz.prog 133 = true := by kernel_rfl
theorem tfA134 : aggI Tryz.prog 134 = (some (false, 1)) := by kernel_rfl
theorem tfZ134 : zeroI Tryz.prog 134 = (some ((.val .nilFunc) :: [])) := by kernel_rfl
theorem tfX134 : isFn Tryz.prog 134 = true := by kernel_rfl
theorem tfM134 : mkI Tryz.prog 134 = true := by kernel_rfl
theorem tfA135 : aggI Tryz.prog 135 = (some (false, 1)) := by kernel_rfl
theorem tfM135 : mkI Tryz.prog 135 = true := by kernel_rfl
theorem tfA136 : aggI Tryz.prog 136 = (some (false, 1)) := by kernel_rfl
theorem tfZ136 : zeroI Tryz.prog 136 = (some ((.val .nilFunc) :: [])) := by kernel_rfl
theorem tfX136 : isFn Tryz.prog 136 = true := by kernel_rfl
theorem tfM136 : mkI Tryz.prog 136 = true := by kernel_rfl
theorem tfA137 : aggI Tryz.prog 137 = (some (false, 1)) := by kernel_rfl
theorem tfZ137 : zeroI Tryz.prog 137 = (some ((.val .nilFunc) :: [])) := by kernel_rfl
theorem tfX137 : isFn Tryz.prog 137 = true := by kernel_rfl
theorem tfM137 : mkI Tryz.prog 137 = true := by kernel_rfl
theorem tfA138 : aggI Tryz.prog 138 = (some (false, 1)) := by kernel_rfl
theorem tfZ138 : zeroI Tryz.prog 138 = (some ((.val .nilFunc) :: [])) := by kernel_rfl
theorem tfX138 : isFn Tryz.prog 138 = true := by kernel_rfl
theorem tfM138 : mkI Tryz.prog 138 = true := by kernel_rfl
theorem tfA139 : aggI Tryz.prog 139 = (some (false, 1)) := by kernel_rfl
theorem tfZ139 : zeroI Tryz.prog 139 = (some ((.val .nilFunc) :: [])) := by kernel_rfl
theorem tfX139 : isFn Tryz.prog 139 = true := by kernel_rfl
theorem tfM139 : mkI Tryz.prog 139 = true := by kernel_rfl
theorem tfA140 : aggI Tryz.prog 140 = (some (false, 1)) := by kernel_rfl
theorem tfZ140 : zeroI Tryz.prog 140 = (some ((.val .nilFunc) :: [])) := by kernel_rfl
theorem tfX140 : isFn Tryz.prog 140 = true := by kernel_rfl
theorem tfM140 : mkI Tryz.prog 140 = true := by kernel_rfl
theorem tfA141 : aggI Tryz.prog 141 = (some (false, 1)) := by kernel_rfl
theorem tfZ141 : zeroI Tryz.prog 141 = (some ((.val .nilFunc) :: [])) := by kernel_rfl
theorem tfX141 : isFn Tryz.prog 141 = true := by kernel_rfl
theorem tfM141 : mkI Tryz.prog 141 = true := by kernel_rfl
theorem tfA142 : aggI Tryz.prog 142 = (some (false, 1)) := by kernel_rfl
theorem tfZ142 : zeroI Tryz.prog 142 = (some ((.val .nilFunc) :: [])) := by kernel_rfl
theorem tfX142 : isFn Tryz.prog 142 = true := by kernel_rfl
theorem tfM142 : mkI Tryz.prog 142 = true := by kernel_rfl
theorem tfA143 : aggI Tryz.prog 143 = (some (false, 1)) := by kernel_rfl
theorem tfZ143 : zeroI Tryz.prog 143 = (some ((.val .nilFunc) :: [])) := by kernel_rfl
theorem tfX143 : isFn Tryz.prog 143 = true := by kernel_rfl
theorem tfM143 : mkI Tryz.prog 143 = true := by kernel_rfl
theorem tfA144 : aggI Tryz.prog 144 = (some (false, 1)) := by kernel_rfl
theorem tfM144 : mkI Tryz.prog 144 = true := by kernel_rfl
theorem tfA145 : aggI Tryz.prog 145 = (some (false, 1)) := by kernel_rfl
theorem tfZ145 : zeroI Tryz.prog 145 = (some ((.val .nilFunc) :: [])) := by kernel_rfl
theorem tfX145 : isFn Tryz.prog 145 = true := by kernel_rfl
theorem tfM145 : mkI Tryz.prog 145 = true := by kernel_rfl
theorem tfA146 : aggI Tryz.prog 146 = (some (false, 1)) := by kernel_rfl
theorem tfZ146 : zeroI Tryz.prog 146 = (some ((.val (.pointer none)) :: [])) := by kernel_rfl
theorem tfQ146 : isPtr Tryz.prog 146 = true := by kernel_rfl
theorem tfM146 : mkI Tryz.prog 146 = true := by kernel_rfl
theorem tfA147 : aggI Tryz.prog 147 = (some (false, 1)) := by kernel_rfl
theorem tfM147 : mkI Tryz.prog 147 = true := by kernel_rfl
theorem tfA148 : aggI Tryz.prog 148 = (some (false, 1)) := by kernel_rfl
theorem tfZ148 : zeroI Tryz.prog 148 = (some ((.val .nilFunc) :: [])) := by kernel_rfl
theorem tfX148 : isFn Tryz.prog 148 = true := by kernel_rfl
theorem tfM148 : mkI Tryz.prog 148 = true := by kernel_rfl
theorem tfA149 : aggI Tryz.prog 149 = (some (false, 1)) := by kernel_rfl
theorem tfZ149 : zeroI Tryz.prog 149 = (some ((.val .nilFunc) :: [])) := by kernel_rfl
theorem tfX149 : isFn Tryz.prog 149 = true := by kernel_rfl
theorem tfM149 : mkI Tryz.prog 149 = true := by kernel_rfl
theorem tfA150 : aggI Tryz.prog 150 = (some (false, 1)) := by kernel_rfl
theorem tfZ150 : zeroI Tryz.prog 150 = (some ((.val .nilFunc) :: [])) := by kernel_rfl
theorem tfX150 : isFn Tryz.prog 150 = true := by kernel_rfl
theorem tfM150 : mkI Tryz.prog 150 = true := by kernel_rfl
theorem tfA151 : aggI Tryz.prog 151 = (some (false, 1)) := by kernel_rfl
theorem tfZ151 : zeroI Tryz.prog 151 = (some ((.val .nilFunc) :: [])) := by kernel_rfl
theorem tfX151 : isFn Tryz.prog 151 = true := by kernel_rfl
theorem tfM151 : mkI Tryz.prog 151 = true := by kernel_rfl
theorem tfA152 : aggI Tryz.prog 152 = (some (false, 1)) := by kernel_rfl
theorem tfZ152 : zeroI Tryz.prog 152 = (some ((.val .nilFunc) :: [])) := by kernel_rfl
theorem tfX152 : isFn Tryz.prog 152 = true := by kernel_rfl
theorem tfM152 : mkI Tryz.prog 152 = true := by kernel_rfl
theorem tfA153 : aggI Tryz.prog 153 = (some (false, 1)) := by kernel_rfl
theorem tfZ153 : zeroI Tryz.prog 153 = (some ((.val .nilFunc) :: [])) := by kernel_rfl
theorem tfX153 : isFn Tryz.prog 153 = true := by kernel_rfl
theorem tfM153 : mkI Tryz.prog 153 = true := by kernel_rfl
theorem tfA154 : aggI Tryz.prog 154 = (some (true, 2)) := by kernel_rfl
theorem tfZ154 : zeroI Tryz.prog 154 = (some ((.int .i8 (0 : Int)) :: ((.int .u8 (0 : Int)) :: []))) := by kernel_rfl
theorem tfP154 : placesI Tryz.prog 154 = (some ((0, 1) :: ((1, 1) :: []))) := by kernel_rfl
theorem tfM154 : mkI Tryz.prog 154 = true := by kernel_rfl
theorem tfF154x0 : fldI Tryz.prog 154 0 = (some 0) := by kernel_rfl
theorem tfG154x0 : fieldI Tryz.prog 154 0 = (some (false, (0, 1))) := by kernel_rfl
theorem tfF154x1 : fldI Tryz.prog 154 1 = (some 1) := by kernel_rfl
theorem tfG154x1 : fieldI Tryz.prog 154 1 = (some (false, (1, 1))) := by kernel_rfl
theorem tfA155 : aggI Tryz.prog 155 = (some (true, 2)) := by kernel_rfl
theorem tfZ155 : zeroI Tryz.prog 155 = (some ((.int .i8 (0 : Int)) :: ((.int .u8 (0 : Int)) :: []))) := by kernel_rfl
theorem tfP155 : placesI Tryz.prog 155 = (some ((0, 1) :: ((1, 1) :: []))) := by kernel_rfl
theorem tfM155 : mkI Tryz.prog 155 = true := by kernel_rfl
theorem tfF155x0 : fldI Tryz.prog 155 0 = (some 0) := by kernel_rfl
theorem tfG155x0 : fieldI Tryz.prog 155 0 = (some (false, (0, 1))) := by kernel_rfl
theorem tfF155x1 : fldI Tryz.prog 155 1 = (some 1) := by kernel_rfl
theorem tfG155x1 : fieldI Tryz.prog 155 1 = (some (false, (1, 1))) := by kernel_rfl
theorem tfA156 : aggI Tryz.prog 156 = (some (false, 1)) := by kernel_rfl
theorem tfZ156 : zeroI Tryz.prog 156 = (some ((.val (.pointer none)) :: [])) := by kernel_rfl
theorem tfQ156 : isPtr Tryz.prog 156 = true := by kernel_rfl
theorem tfM156 : mkI Tryz.prog 156 = true := by kernel_rfl
theorem tfA157 : aggI Tryz.prog 157 = (some (true, 7)) := by kernel_rfl
theorem tfZ157 : zeroI Tryz.prog 157 = (some (.nils :: (.nils :: (.nils :: ((.int .i8 (0 : Int)) :: (.nils :: (.nils :: (.nils :: [])))))))) := by kernel_rfl
theorem tfP157 : placesI Tryz.prog 157 = (some ((0, 1) :: ((1, 1) :: ((2, 1) :: ((3, 1) :: ((4, 1) :: ((5, 1) :: ((6, 1) :: [])))))))) := by kernel_rfl
theorem tfM157 : mkI Tryz.prog 157 = true := by kernel_rfl
theorem tfF157x0 : fldI Tryz.prog 157 0 = (some 0) := by kernel_rfl
theorem tfG157x0 : fieldI Tryz.prog 157 0 = (some (false, (0, 1))) := by kernel_rfl
theorem tfF157x1 : fldI Tryz.prog 157 1 = (some 1) := by kernel_rfl
theorem tfG157x1 : fieldI Tryz.prog 157 1 = (some (false, (1, 1))) := by kernel_rfl
theorem tfF157x2 : fldI Tryz.prog 157 2 = (some 2) := by kernel_rfl
theorem tfG157x2 : fieldI Tryz.prog 157 2 = (some (false, (2, 1))) := by kernel_rfl
theorem tfF157x3 : fldI Tryz.prog 157 3 = (some 3) := by kernel_rfl
theorem tfG157x3 : fieldI Tryz.prog 157 3 = (some (false, (3, 1))) := by kernel_rfl
theorem tfF157x4 : fldI Tryz.prog 157 4 = (some 4) := by kernel_rfl
theorem tfG157x4 : fieldI Tryz.prog 157 4 = (some (false, (4, 1))) := by kernel_rfl
theorem tfF157x5 : fldI Tryz.prog 157 5 = (some 5) := by kernel_rfl
theorem tfG157x5 : fieldI Tryz.prog 157 5 = (some (false, (5, 1))) := by kernel_rfl
theorem tfF157x6 : fldI Tryz.prog 157 6 = (some 6) := by kernel_rfl
theorem tfG157x6 : fieldI Tryz.prog 157 6 = (some (false, (6, 1))) := by kernel_rfl
theorem tfA158 : aggI Tryz.prog 158 = (some (true, 7)) := by kernel_rfl
theorem tfZ158 : zeroI Tryz.prog 158 = (some (.nils :: (.nils :: (.nils :: ((.int .i8 (0 : Int)) :: (.nils :: (.nils :: (.nils :: [])))))))) := by kernel_rfl
theorem tfP158 : placesI Tryz.prog 158 = (some ((0, 1) :: ((1, 1) :: ((2, 1) :: ((3, 1) :: ((4, 1) :: ((5, 1) :: ((6, 1) :: [])))))))) := by kernel_rfl
theorem tfM158 : mkI Tryz.prog 158 = true := by kernel_rfl
theorem tfF158x0 : fldI Tryz.prog 158 0 = (some 0) := by kernel_rfl
theorem tfG158x0 : fieldI Tryz.prog 158 0 = (some (false, (0, 1))) := by kernel_rfl
theorem tfF158x1 : fldI Tryz.prog 158 1 = (some 1) := by kernel_rfl
theorem tfG158x1 : fieldI Tryz.prog 158 1 = (some (false, (1, 1))) := by kernel_rfl
theorem tfF158x2 : fldI Tryz.prog 158 2 = (some 2) := by kernel_rfl
theorem tfG158x2 : fieldI Tryz.prog 158 2 = (some (false, (2, 1))) := by kernel_rfl
theorem tfF158x3 : fldI Tryz.prog 158 3 = (some 3) := by kernel_rfl
theorem tfG158x3 : fieldI Tryz.prog 158 3 = (some (false, (3, 1))) := by kernel_rfl
theorem tfF158x4 : fldI Tryz.prog 158 4 = (some 4) := by kernel_rfl
theorem tfG158x4 : fieldI Tryz.prog 158 4 = (some (false, (4, 1))) := by kernel_rfl
theorem tfF158x5 : fldI Tryz.prog 158 5 = (some 5) := by kernel_rfl
theorem tfG158x5 : fieldI Tryz.prog 158 5 = (some (false, (5, 1))) := by kernel_rfl
theorem tfF158x6 : fldI Tryz.prog 158 6 = (some 6) := by kernel_rfl
theorem tfG158x6 : fieldI Tryz.prog 158 6 = (some (false, (6, 1))) := by kernel_rfl
theorem tfE159 : elemI Tryz.prog 159 = (some ((.pair (.int .i64) (.pair (.int .i64) (.pair (.int .i8) .unit))), 24)) := by kernel_rfl
theorem tfA159 : aggI Tryz.prog 159 = (some (false, 1)) := by kernel_rfl
theorem tfZ159 : zeroI Tryz.prog 159 = (some (.nils :: [])) := by kernel_rfl
theorem tfM159 : mkI Tryz.prog 159 = true := by kernel_rfl
theorem tfA160 : aggI Tryz.prog 160 = (some (false, 1)) := by kernel_rfl
theorem tfZ160 : zeroI Tryz.prog 160 = (some ((.val .nilFunc) :: [])) := by kernel_rfl
theorem tfX160 : isFn Tryz.prog 160 = true := by kernel_rfl
theorem tfM160 : mkI Tryz.prog 160 = true := by kernel_rfl
theorem tfA161 : aggI Tryz.prog 161 = (some (false, 1)) := by kernel_rfl
theorem tfZ161 : zeroI Tryz.prog 161 = (some ((.val .nilFunc) :: [])) := by kernel_rfl
theorem tfX161 : isFn Tryz.prog 161 = true := by kernel_rfl
theorem tfM161 : mkI Tryz.prog 161 = true := by kernel_rfl
theorem tfA162 : aggI Tryz.prog 162 = (some (false, 1)) := by kernel_rfl
theorem tfZ162 : zeroI Tryz.prog 162 = (some ((.val .nilFunc) :: [])) := by kernel_rfl
theorem tfX162 : isFn Tryz.prog 162 = true := by kernel_rfl
theorem tfM162 : mkI Tryz.prog 162 = true := by kernel_rfl
theorem tfA163 : aggI Tryz.prog 163 = (some (true, 3)) := by kernel_rfl
theorem tfZ163 : zeroI Tryz.prog 163 = (some ((.int .i64 (0 : Int)) :: ((.int .i64 (0 : Int)) :: ((.int .i8 (0 : Int)) :: [])))) := by kernel_rfl
theorem tfP163 : placesI Tryz.prog 163 = (some ((0, 1) :: ((1, 1) :: ((2, 1) :: [])))) := by kernel_rfl
theorem tfM163 : mkI Tryz.prog 163 = true := by kernel_rfl
theorem tfF163x0 : fldI Tryz.prog 163 0 = (some 0) := by kernel_rfl
theorem tfG163x0 : fieldI Tryz.prog 163 0 = (some (false, (0, 1))) := by kernel_rfl
theorem tfF163x1 : fldI Tryz.prog 163 1 = (some 1) := by kernel_rfl
theorem tfG163x1 : fieldI Tryz.prog 163 1 = (some (false, (1, 1))) := by kernel_rfl
theorem tfF163x2 : fldI Tryz.prog 163 2 = (some 2) := by kernel_rfl
theorem tfG163x2 : fieldI Tryz.prog 163 2 = (some (false, (2, 1))) := by kernel_rfl
theorem tfA164 : aggI Tryz.prog 164 = (some (true, 3)) := by kernel_rfl
theorem tfZ164 : zeroI Tryz.prog 164 = (some ((.int .i64 (0 : Int)) :: ((.int .i64 (0 : Int)) :: ((.int .i8 (0 : Int)) :: [])))) := by kernel_rfl
theorem tfP164 : placesI Tryz.prog 164 = (some ((0, 1) :: ((1, 1) :: ((2, 1) :: [])))) := by kernel_rfl
theorem tfM164 : mkI Tryz.prog 164 = true := by kernel_rfl
theorem tfF164x0 : fldI Tryz.prog 164 0 = (some 0) := by kernel_rfl
theorem tfG164x0 : fieldI Tryz.prog 164 0 = (some (false, (0, 1))) := by kernel_rfl
theorem tfF164x1 : fldI Tryz.prog 164 1 = (some 1) := by kernel_rfl
theorem tfG164x1 : fieldI Tryz.prog 164 1 = (some (false, (1, 1))) := by kernel_rfl
theorem tfF164x2 : fldI Tryz.prog 164 2 = (some 2) := by kernel_rfl
theorem tfG164x2 : fieldI Tryz.prog 164 2 = (some (false, (2, 1))) := by kernel_rfl
theorem tfE165 : elemI Tryz.prog 165 = (some (.bool, 1)) := by kernel_rfl
theorem tfA165 : aggI Tryz.prog 165 = (some (false, 1)) := by kernel_rfl
theorem tfZ165 : zeroI Tryz.prog 165 = (some (.nils :: [])) := by kernel_rfl
theorem tfM165 : mkI Tryz.prog 165 = true := by kernel_rfl
theorem tfA166 : aggI Tryz.prog 166 = (some (false, 1)) := by kernel_rfl
theorem tfM166 : mkI Tryz.prog 166 = true := by kernel_rfl
theorem tfA167 : aggI Tryz.prog 167 = (some (false, 1)) := by kernel_rfl
theorem tfZ167 : zeroI Tryz.prog 167 = (some ((.val .nilFunc) :: [])) := by kernel_rfl
theorem tfX167 : isFn Tryz.prog 167 = true := by kernel_rfl
theorem tfM167 : mkI Tryz.prog 167 = true := by kernel_rfl
theorem tfA168 : aggI Tryz.prog 168 = (some (false, 1)) := by kernel_rfl
theorem tfM168 : mkI Tryz.prog 168 = true := by kernel_rfl
theorem tfA169 : aggI Tryz.prog 169 = (some (false, 1)) := by kernel_rfl
theorem tfZ169 : zeroI Tryz.prog 169 = (some ((.val .nilFunc) :: [])) := by kernel_rfl
theorem tfX169 : isFn Tryz.prog 169 = true := by kernel_rfl
theorem tfM169 : mkI Tryz.prog 169 = true := by kernel_rfl
theorem tfA170 : aggI Tryz.prog 170 = (some (false, 1)) := by kernel_rfl
theorem tfZ170 : zeroI Tryz.prog 170 = (some ((.val .nilFunc) :: [])) := by kernel_rfl
theorem tfX170 : isFn Tryz.prog 170 = true := by kernel_rfl
theorem tfM170 : mkI Tryz.prog 170 = true := by kernel_rfl
theorem tfA171 : aggI Tryz.prog 171 = (some (false, 1)) := by kernel_rfl
theorem tfZ171 : zeroI Tryz.prog 171 = (some ((.val (.pointer none)) :: [])) := by kernel_rfl
theorem tfQ171 : isPtr Tryz.prog 171 = true := by kernel_rfl
theorem tfM171 : mkI Tryz.prog 171 = true := by kernel_rfl
theorem tfA172 : aggI Tryz.prog 172 = (some (true, 2)) := by kernel_rfl
theorem tfZ172 : zeroI Tryz.prog 172 = (some (.nils :: ((.int .u8 (0 : Int)) :: []))) := by kernel_rfl
theorem tfP172 : placesI Tryz.prog 172 = (some ((0, 1) :: ((1, 1) :: []))) := by kernel_rfl
theorem tfM172 : mkI Tryz.prog 172 = true := by kernel_rfl
theorem tfF172x0 : fldI Tryz.prog 172 0 = (some 0) := by kernel_rfl
theorem tfG172x0 : fieldI Tryz.prog 172 0 = (some (false, (0, 1))) := by kernel_rfl
theorem tfF172x1 : fldI Tryz.prog 172 1 = (some 1) := by kernel_rfl
theorem tfG172x1 : fieldI Tryz.prog 172 1 = (some (false, (1, 1))) := by kernel_rfl
theorem tfA173 : aggI Tryz.prog 173 = (some (true, 2)) := by kernel_rfl
theorem tfZ173 : zeroI Tryz.prog 173 = (some (.nils :: ((.int .u8 (0 : Int)) :: []))) := by kernel_rfl
theorem tfP173 : placesI Tryz.prog 173 = (some ((0, 1) :: ((1, 1) :: []))) := by kernel_rfl
theorem tfM173 : mkI Tryz.prog 173 = true := by kernel_rfl
theorem tfF173x0 : fldI Tryz.prog 173 0 = (some 0) := by kernel_rfl
theorem tfG173x0 : fieldI Tryz.prog 173 0 = (some (false, (0, 1))) := by kernel_rfl
theorem tfF173x1 : fldI Tryz.prog 173 1 = (some 1) := by kernel_rfl
theorem tfG173x1 : fieldI Tryz.prog 173 1 = (some (false, (1, 1))) := by kernel_rfl
theorem tfA174 : aggI Tryz.prog 174 = (some (false, 1)) := by kernel_rfl
theorem tfZ174 : zeroI Tryz.prog 174 = (some ((.val .nilFunc) :: [])) := by kernel_rfl
theorem tfX174 : isFn Tryz.prog 174 = true := by kernel_rfl
theorem tfM174 : mkI Tryz.prog 174 = true := by kernel_rfl
theorem tfA175 : aggI Tryz.prog 175 = (some (true, 32)) := by kernel_rfl
theorem tfZ175 : zeroI Tryz.prog 175 = (some ((.int .u8 (0 : Int)) :: ((.int .u8 (0 : Int)) :: ((.int .u8 (0 : Int)) :: ((.int .u8 (0 : Int)) :: ((.int .u8 (0 : Int)) :: ((.int .u8 (0 : Int)) :: ((.int .u8 (0 : Int)) :: ((.int .u8 (0 : Int)) :: ((.int .u8 (0 : Int)) :: ((.int .u8 (0 : Int)) :: ((.int .u8 (0 : Int)) :: ((.int .u8 (0 : Int)) :: ((.int .u8 (0 : Int)) :: ((.int .u8 (0 : Int)) :: ((.int .u8 (0 : Int)) :: ((.int .u8 (0 : Int)) :: ((.int .u8 (0 : Int)) :: ((.int .u8 (0 : Int)) :: ((.int .u8 (0 : Int)) :: ((.int .u8 (0 : Int)) :: ((.int .u8 (0 : Int)) :: ((.int .u8 (0 : Int)) :: ((.int .u8 (0 : Int)) :: ((.int .u8 (0 : Int)) :: ((.int .u8 (0 : Int)) :: ((.int .u8 (0 : Int)) :: ((.int .u8 (0 : Int)) :: ((.int .u8 (0 : Int)) :: ((.int .u8 (0 : Int)) :: ((.int .u8 (0 : Int)) :: ((.int .u8 (0 : Int)) :: ((.int .u8 (0 : Int)) :: []))))))))))))))))))))))))))))))))) := by kernel_rfl
theorem tfM175 : mkI Tryz.prog 175 = true := by kernel_rfl
theorem tfR175 : arrI Tryz.prog 175 = (some (32, 1)) := by kernel_rfl
theorem tfA176 : aggI Tryz.prog 176 = (some (true, 64)) := by kernel_rfl
theorem tfZ176 : zeroI Tryz.prog 176 = (some ((.int .u8 (0 : Int)) :: ((.int .u8 (0 : Int)) :: ((.int .u8 (0 : Int)) :: ((.int .u8 (0 : Int)) :: ((.int .u8 (0 : Int)) :: ((.int .u8 (0 : Int)) :: ((.int .u8 (0 : Int)) :: ((.int .u8 (0 : Int)) :: ((.int .u8 (0 : Int)) :: ((.int .u8 (0 : Int)) :: ((.int .u8 (0 : Int)) :: ((.int .u8 (0 : Int)) :: ((.int .u8 (0 : Int)) :: ((.int .u8 (0 : Int)) :: ((.int .u8 (0 : Int)) :: ((.int .u8 (0 : Int)) :: ((.int .u8 (0 : Int)) :: ((.int .u8 (0 : Int)) :: ((.int .u8 (0 : Int)) :: ((.int .u8 (0 : Int)) :: ((.int .u8 (0 : Int)) :: ((.int .u8 (0 : Int)) :: ((.int .u8 (0 : Int)) :: ((.int .u8 (0 : Int)) :: ((.int .u8 (0 : Int)) :: ((.int .u8 (0 : Int)) :: ((.int .u8 (0 : Int)) :: ((.int .u8 (0 : Int)) :: ((.int .u8 (0 : Int)) :: ((.int .u8 (0 : Int)) :: ((.int .u8 (0 : Int)) :: ((.int .u8 (0 : Int)) :: ((.int .u8 (0 : Int)) :: ((.int .u8 (0 : Int)) :: ((.int .u8 (0 : Int)) :: ((.int .u8 (0 : Int)) :: ((.int .u8 (0 : Int)) :: ((.int .u8 (0 : Int)) :: ((.int .u8 (0 : Int)) :: ((.int .u8 (0 : Int)) :: ((.int .u8 (0 : Int)) :: ((.int .u8 (0 : Int)) :: ((.int .u8 (0 : Int)) :: ((.int .u8 (0 : Int)) :: ((.int .u8 (0 : Int)) :: ((.int .u8 (0 : Int)) :: ((.int .u8 (0 : Int)) :: ((.int .u8 (0 : Int)) :: ((.int .u8 (0 : Int)) :: ((.int .u8 (0 : Int)) :: ((.int .u8 (0 : Int)) :: ((.int .u8 (0 : Int)) :: ((.int .u8 (0 : Int)) :: ((.int .u8 (0 : Int)) :: ((.int .u8 (0 : Int)) :: ((.int .u8 (0 : Int)) :: ((.int .u8 (0 : Int)) :: ((.int .u8 (0 : Int)) :: ((.int .u8 (0 : Int)) :: ((.int .u8 (0 : Int)) :: ((.int .u8 (0 : Int)) :: ((.int .u8 (0 : Int)) :: ((.int .u8 (0 : Int)) :: ((.int .u8 (0 : Int)) :: []))))))))))))))))))))))))))))))))))))))))))))))))))))))))))))))))) := by kernel_rfl
theorem tfM176 : mkI Tryz.prog 176 = true := by kernel_rfl
theorem tfR176 : arrI Tryz.prog 176 = (some (64, 1)) := by kernel_rfl
theorem tfA177 : aggI Tryz.prog 177 = (some (true, 3)) := by kernel_rfl
theorem tfZ177 : zeroI Tryz.prog 177 = (some ((.int .i8 (0 : Int)) :: ((.int .u8 (0 : Int)) :: ((.bool false) :: [])))) := by kernel_rfl
theorem tfP177 : placesI Tryz.prog 177 = (some ((0, 1) :: ((1, 1) :: ((2, 1) :: [])))) := by kernel_rfl
theorem tfM177 : mkI Tryz.prog 177 = true := by kernel_rfl
theorem tfF177x0 : fldI Tryz.prog 177 0 = (some 0) := by kernel_rfl
theorem tfG177x0 : fieldI Tryz.prog 177 0 = (some (false, (0, 1))) := by kernel_rfl
theorem tfF177x1 : fldI Tryz.prog 177 1 = (some 1) := by kernel_rfl
theorem tfG177x1 : fieldI Tryz.prog 177 1 = (some (false, (1, 1))) := by kernel_rfl
theorem tfF177x2 : fldI Tryz.prog 177 2 = (some 2) := by kernel_rfl
theorem tfG177x2 : fieldI Tryz.prog 177 2 = (some (false, (2, 1))) := by kernel_rfl
theorem tfA178 : aggI Tryz.prog 178 = (some (true, 3)) := by kernel_rfl
theorem tfZ178 : zeroI Tryz.prog 178 = (some ((.int .i8 (0 : Int)) :: ((.int .u8 (0 : Int)) :: ((.bool false) :: [])))) := by kernel_rfl
theorem tfP178 : placesI Tryz.prog 178 = (some ((0, 1) :: ((1, 1) :: ((2, 1) :: [])))) := by kernel_rfl
theorem tfM178 : mkI Tryz.prog 178 = true := by kernel_rfl
theorem tfF178x0 : fldI Tryz.prog 178 0 = (some 0) := by kernel_rfl
theorem tfG178x0 : fieldI Tryz.prog 178 0 = (some (false, (0, 1))) := by kernel_rfl
theorem tfF178x1 : fldI Tryz.prog 178 1 = (some 1) := by kernel_rfl
theorem tfG178x1 : fieldI Tryz.prog 178 1 = (some (false, (1, 1))) := by kernel_rfl
theorem tfF178x2 : fldI Tryz.prog 178 2 = (some 2) := by kernel_rfl
theorem tfG178x2 : fieldI Tryz.prog 178 2 = (some (false, (2, 1))) := by kernel_rfl
theorem tfE179 : elemI Tryz.prog 179 = (some ((.pair (.int .i8) (.pair (.int .u8) (.pair .bool .unit))), 3)) := by kernel_rfl
theorem tfA179 : aggI Tryz.prog 179 = (some (false, 1)) := by kernel_rfl
theorem tfZ179 : zeroI Tryz.prog 179 = (some (.nils :: [])) := by kernel_rfl
theorem tfM179 : mkI Tryz.prog 179 = true := by kernel_rfl
theorem tfA180 : aggI Tryz.prog 180 = (some (true, 4)) := by kernel_rfl
theorem tfZ180 : zeroI Tryz.prog 180 = (some (.nils :: ((.int .i64 (0 : Int)) :: ((.int .i64 (0 : Int)) :: ((.int .i64 (0 : Int)) :: []))))) := by kernel_rfl
theorem tfP180 : placesI Tryz.prog 180 = (some ((0, 1) :: ((1, 1) :: ((2, 1) :: ((3, 1) :: []))))) := by kernel_rfl
theorem tfM180 : mkI Tryz.prog 180 = true := by kernel_rfl
theorem tfF180x0 : fldI Tryz.prog 180 0 = (some 0) := by kernel_rfl
theorem tfG180x0 : fieldI Tryz.prog 180 0 = (some (false, (0, 1))) := by kernel_rfl
theorem tfF180x1 : fldI Tryz.prog 180 1 = (some 1) := by kernel_rfl
theorem tfG180x1 : fieldI Tryz.prog 180 1 = (some (false, (1, 1))) := by kernel_rfl
theorem tfF180x2 : fldI Tryz.prog 180 2 = (some 2) := by kernel_rfl
theorem tfG180x2 : fieldI Tryz.prog 180 2 = (some (false, (2, 1))) := by kernel_rfl
theorem tfF180x3 : fldI Tryz.prog 180 3 = (some 3) := by kernel_rfl
theorem tfG180x3 : fieldI Tryz.prog 180 3 = (some (false, (3, 1))) := by kernel_rfl
theorem tfA181 : aggI Tryz.prog 181 = (some (true, 4)) := by kernel_rfl
theorem tfZ181 : zeroI Tryz.prog 181 = (some (.nils :: ((.int .i64 (0 : Int)) :: ((.int .i64 (0 : Int)) :: ((.int .i64 (0 : Int)) :: []))))) := by kernel_rfl
theorem tfP181 : placesI Tryz.prog 181 = (some ((0, 1) :: ((1, 1) :: ((2, 1) :: ((3, 1) :: []))))) := by kernel_rfl
theorem tfM181 : mkI Tryz.prog 181 = true := by kernel_rfl
theorem tfF181x0 : fldI Tryz.prog 181 0 = (some 0) := by kernel_rfl
theorem tfG181x0 : fieldI Tryz.prog 181 0 = (some (false, (0, 1))) := by kernel_rfl
theorem tfF181x1 : fldI Tryz.prog 181 1 = (some 1) := by kernel_rfl
theorem tfG181x1 : fieldI Tryz.prog 181 1 = (some (false, (1, 1))) := by kernel_rfl
theorem tfF181x2 : fldI Tryz.prog 181 2 = (some 2) := by kernel_rfl
theorem tfG181x2 : fieldI Tryz.prog 181 2 = (some (false, (2, 1))) := by kernel_rfl
theorem tfF181x3 : fldI Tryz.prog 181 3 = (some 3) := by kernel_rfl
theorem tfG181x3 : fieldI Tryz.prog 181 3 = (some (false, (3, 1))) := by kernel_rfl
theorem tfA182 : aggI Tryz.prog 182 = (some (false, 1)) := by kernel_rfl
theorem tfZ182 : zeroI Tryz.prog 182 = (some ((.val .nilFunc) :: [])) := by kernel_rfl
theorem tfX182 : isFn Tryz.prog 182 = true := by kernel_rfl
theorem tfM182 : mkI Tryz.prog 182 = true := by kernel_rfl
theorem tfA183 : aggI Tryz.prog 183 = (some (false, 1)) := by kernel_rfl
theorem tfM183 : mkI Tryz.prog 183 = true := by kernel_rfl
theorem tfA184 : aggI Tryz.prog 184 = (some (false, 1)) := by kernel_rfl
theorem tfZ184 : zeroI Tryz.prog 184 = (some ((.val .nilFunc) :: [])) := by kernel_rfl
theorem tfX184 : isFn Tryz.prog 184 = true := by kernel_rfl
theorem tfM184 : mkI Tryz.prog 184 = true := by kernel_rfl
theorem tfA185 : aggI Tryz.prog 185 = (some (false, 1)) := by kernel_rfl
theorem tfZ185 : zeroI Tryz.prog 185 = (some ((.val .nilFunc) :: [])) := by kernel_rfl
theorem tfX185 : isFn Tryz.prog 185 = true := by kernel_rfl
theorem tfM185 : mkI Tryz.prog 185 = true := by kernel_rfl
theorem tfA186 : aggI Tryz.prog 186 = (some (false, 1)) := by kernel_rfl
theorem tfZ186 : zeroI Tryz.prog 186 = (some ((.val .nilFunc) :: [])) := by kernel_rfl
theorem tfX186 : isFn Tryz.prog 186 = true := by kernel_rfl
theorem tfM186 : mkI Tryz.prog 186 = true := by kernel_rfl
theorem tfA187 : aggI Tryz.prog 187 = (some (false, 1)) := by kernel_rfl
theorem tfZ187 : zeroI Tryz.prog 187 = (some ((.val .nilFunc) :: [])) := by kernel_rfl
theorem tfX187 : isFn Tryz.prog 187 = true := by kernel_rfl
theorem tfM187 : mkI Tryz.prog 187 = true := by kernel_rfl
theorem tfA188 : aggI Tryz.prog 188 = (some (false, 1)) := by kernel_rfl
theorem tfZ188 : zeroI Tryz.prog 188 = (some ((.val .nilFunc) :: [])) := by kernel_rfl
theorem tfX188 : isFn Tryz.prog 188 = true := by kernel_rfl
theorem tfM188 : mkI Tryz.prog 188 = true := by kernel_rfl
theorem tfA189 : aggI Tryz.prog 189 = (some (false, 1)) := by kernel_rfl
theorem tfZ189 : zeroI Tryz.prog 189 = (some ((.val .nilFunc) :: [])) := by kernel_rfl
theorem tfX189 : isFn Tryz.prog 189 = true := by kernel_rfl
theorem tfM189 : mkI Tryz.prog 189 = true := by kernel_rfl
theorem tfA190 : aggI Tryz.prog 190 = (some (false, 1)) := by kernel_rfl
theorem tfZ190 : zeroI Tryz.prog 190 = (some ((.val .nilFunc) :: [])) := by kernel_rfl
theorem tfX190 : isFn Tryz.prog 190 = true := by kernel_rfl
theorem tfM190 : mkI Tryz.prog 190 = true := by kernel_rfl
theorem tfA191 : aggI Tryz.prog 191 = (some (false, 1)) := by kernel_rfl
theorem tfZ191 : zeroI Tryz.prog 191 = (some ((.val .nilFunc) :: [])) := by kernel_rfl
theorem tfX191 : isFn Tryz.prog 191 = true := by kernel_rfl
theorem tfM191 : mkI Tryz.prog 191 = true := by kernel_rfl
theorem tfA192 : aggI Tryz.prog 192 = (some (true, 4)) := by kernel_rfl
theorem tfZ192 : zeroI Tryz.prog 192 = (some ((.val (.pointer none)) :: ((.val (.pointer none)) :: ((.val (.pointer none)) :: ((.str []) :: []))))) := by kernel_rfl
theorem tfP192 : placesI Tryz.prog 192 = (some ((0, 1) :: ((1, 1) :: ((2, 1) :: ((3, 1) :: []))))) := by kernel_rfl
theorem tfM192 : mkI Tryz.prog 192 = true := by kernel_rfl
theorem tfF192x0 : fldI Tryz.prog 192 0 = (some 0) := by kernel_rfl
theorem tfG192x0 : fieldI Tryz.prog 192 0 = (some (false, (0, 1))) := by kernel_rfl
theorem tfF192x1 : fldI Tryz.prog 192 1 = (some 1) := by kernel_rfl
theorem tfG192x1 : fieldI Tryz.prog 192 1 = (some (false, (1, 1))) := by kernel_rfl
theorem tfF192x2 : fldI Tryz.prog 192 2 = (some 2) := by kernel_rfl
theorem tfG192x2 : fieldI Tryz.prog 192 2 = (some (false, (2, 1))) := by kernel_rfl
theorem tfF192x3 : fldI Tryz.prog 192 3 = (some 3) := by kernel_rfl
theorem tfG192x3 : fieldI Tryz.prog 192 3 = (some (false, (3, 1))) := by kernel_rfl
theorem tfA193 : aggI Tryz.prog 193 = (some (true, 4)) := by kernel_rfl
theorem tfZ193 : zeroI Tryz.prog 193 = (some ((.val (.pointer none)) :: ((.val (.pointer none)) :: ((.val (.pointer none)) :: ((.str []) :: []))))) := by kernel_rfl
theorem tfP193 : placesI Tryz.prog 193 = (some ((0, 1) :: ((1, 1) :: ((2, 1) :: ((3, 1) :: []))))) := by kernel_rfl
theorem tfM193 : mkI Tryz.prog 193 = true := by kernel_rfl
theorem tfF193x0 : fldI Tryz.prog 193 0 = (some 0) := by kernel_rfl
theorem tfG193x0 : fieldI Tryz.prog 193 0 = (some (false, (0, 1))) := by kernel_rfl
theorem tfF193x1 : fldI Tryz.prog 193 1 = (some 1) := by kernel_rfl
theorem tfG193x1 : fieldI Tryz.prog 193 1 = (some (false, (1, 1))) := by kernel_rfl
theorem tfF193x2 : fldI Tryz.prog 193 2 = (some 2) := by kernel_rfl
theorem tfG193x2 : fieldI Tryz.prog 193 2 = (some (false, (2, 1))) := by kernel_rfl
theorem tfF193x3 : fldI Tryz.prog 193 3 = (some 3) := by kernel_rfl
theorem tfG193x3 : fieldI Tryz.prog 193 3 = (some (false, (3, 1))) := by kernel_rfl
theorem tfA194 : aggI Tryz.prog 194 = (some (true, 0)) := by kernel_rfl
theorem tfZ194 : zeroI Tryz.prog 194 = (some []) := by kernel_rfl
theorem tfM194 : mkI Tryz.prog 194 = true := by kernel_rfl
theorem tfR194 : arrI Tryz.prog 194 = (some (0, 1)) := by kernel_rfl
theorem tfA195 : aggI Tryz.prog 195 = (some (true, 0)) := by kernel_rfl
theorem tfZ195 : zeroI Tryz.prog 195 = (some []) := by kernel_rfl
theorem tfP195 : placesI Tryz.prog 195 = (some ((0, 0) :: [])) := by kernel_rfl
theorem tfM195 : mkI Tryz.prog 195 = true := by kernel_rfl
theorem tfG195x0 : fieldI Tryz.prog 195 0 = (some (true, (0, 0))) := by kernel_rfl
theorem tfA196 : aggI Tryz.prog 196 = (some (true, 0)) := by kernel_rfl
theorem tfZ196 : zeroI Tryz.prog 196 = (some []) := by kernel_rfl
theorem tfP196 : placesI Tryz.prog 196 = (some ((0, 0) :: [])) := by kernel_rfl
theorem tfM196 : mkI Tryz.prog 196 = true := by kernel_rfl
theorem tfG196x0 : fieldI Tryz.prog 196 0 = (some (true, (0, 0))) := by kernel_rfl
theorem tfA197 : aggI Tryz.prog 197 = (some (false, 1)) := by kernel_rfl
theorem tfZ197 : zeroI Tryz.prog 197 = (some ((.val .nilFunc) :: [])) := by kernel_rfl
theorem tfX197 : isFn Tryz.prog 197 = true := by kernel_rfl
theorem tfM197 : mkI Tryz.prog 197 = true := by kernel_rfl
theorem tfA198 : aggI Tryz.prog 198 = (some (false, 1)) := by kernel_rfl
theorem tfZ198 : zeroI Tryz.prog 198 = (some ((.int .u8 (0 : Int)) :: [])) := by kernel_rfl
theorem tfM198 : mkI Tryz.prog 198 = true := by kernel_rfl
theorem tfU198 : Program.underlying Tryz.prog 198 = (some (.int .u8)) := by kernel_rfl
theorem tfA199 : aggI Tryz.prog 199 = (some (false, 1)) := by kernel_rfl
theorem tfZ199 : zeroI Tryz.prog 199 = (some ((.int .u8 (0 : Int)) :: [])) := by kernel_rfl
theorem tfM199 : mkI Tryz.prog 199 = true := by kernel_rfl
theorem tfU199 : Program.underlying Tryz.prog 199 = (some (.int .u8)) := by kernel_rfl
theorem tfA200 : aggI Tryz.prog 200 = (some (false, 1)) := by kernel_rfl
theorem tfZ200 : zeroI Tryz.prog 200 = (some ((.val .nilFunc) :: [])) := by kernel_rfl
theorem tfX200 : isFn Tryz.prog 200 = true := by kernel_rfl
theorem tfM200 : mkI Tryz.prog 200 = true := by kernel_rfl
theorem tfA201 : aggI Tryz.prog 201 = (some (false, 1)) := by kernel_rfl
theorem tfZ201 : zeroI Tryz.prog 201 = (some ((.int .i32 (0 : Int)) :: [])) := by kernel_rfl
theorem tfM201 : mkI Tryz.prog 201 = true := by kernel_rfl
theorem tfU201 : Program.underlying Tryz.prog 201 = (some (.int .i32)) := by kernel_rfl
theorem tfA202 : aggI Tryz.prog 202 = (some (false, 1)) := by kernel_rfl
theorem tfZ202 : zeroI Tryz.prog 202 = (some ((.int .i32 (0 : Int)) :: [])) := by kernel_rfl
theorem tfM202 : mkI Tryz.prog 202 = true := by kernel_rfl
theorem tfU202 : Program.underlying Tryz.prog 202 = (some (.int .i32)) := by kernel_rfl
theorem tfA203 : aggI Tryz.prog 203 = (some (true, 11)) := by kernel_rfl
theorem tfZ203 : zeroI Tryz.prog 203 = (some ((.int .u64 (0 : Int)) :: ((.int .u64 (0 : Int)) :: ((.int .u32 (0 : Int)) :: ((.int .u8 (0 : Int)) :: ((.int .u8 (0 : Int)) :: ((.int .u8 (0 : Int)) :: ((.int .u8 (0 : Int)) :: ((.val .nilFunc) :: ((.val (.pointer none)) :: ((.int .i32 (0 : Int)) :: ((.int .i32 (0 : Int)) :: [])))))))))))) := by kernel_rfl
theorem tfP203 : placesI Tryz.prog 203 = (some ((0, 1) :: ((1, 1) :: ((2, 1) :: ((3, 1) :: ((4, 1) :: ((5, 1) :: ((6, 1) :: ((7, 1) :: ((8, 1) :: ((9, 1) :: ((10, 1) :: [])))))))))))) := by kernel_rfl
theorem tfM203 : mkI Tryz.prog 203 = true := by kernel_rfl
theorem tfF203x0 : fldI Tryz.prog 203 0 = (some 0) := by kernel_rfl
theorem tfG203x0 : fieldI Tryz.prog 203 0 = (some (false, (0, 1))) := by kernel_rfl
theorem tfF203x1 : fldI Tryz.prog 203 1 = (some 1) := by kernel_rfl
theorem tfG203x1 : fieldI Tryz.prog 203 1 = (some (false, (1, 1))) := by kernel_rfl
theorem tfF203x2 : fldI Tryz.prog 203 2 = (some 2) := by kernel_rfl
theorem tfG203x2 : fieldI Tryz.prog 203 2 = (some (false, (2, 1))) := by kernel_rfl
theorem tfF203x3 : fldI Tryz.prog 203 3 = (some 3) := by kernel_rfl
theorem tfG203x3 : fieldI Tryz.prog 203 3 = (some (false, (3, 1))) := by kernel_rfl
theorem tfF203x4 : fldI Tryz.prog 203 4 = (some 4) := by kernel_rfl
theorem tfG203x4 : fieldI Tryz.prog 203 4 = (some (false, (4, 1))) := by kernel_rfl
theorem tfF203x5 : fldI Tryz.prog 203 5 = (some 5) := by kernel_rfl
theorem tfG203x5 : fieldI Tryz.prog 203 5 = (some (false, (5, 1))) := by kernel_rfl
theorem tfF203x6 : fldI Tryz.prog 203 6 = (some 6) := by kernel_rfl
theorem tfG203x6 : fieldI Tryz.prog 203 6 = (some (false, (6, 1))) := by kernel_rfl
theorem tfF203x7 : fldI Tryz.prog 203 7 = (some 7) := by kernel_rfl
theorem tfG203x7 : fieldI Tryz.prog 203 7 = (some (false, (7, 1))) := by kernel_rfl
theorem tfF203x8 : fldI Tryz.prog 203 8 = (some 8) := by kernel_rfl
theorem tfG203x8 : fieldI Tryz.prog 203 8 = (some (false, (8, 1))) := by kernel_rfl
theorem tfF203x9 : fldI Tryz.prog 203 9 = (some 9) := by kernel_rfl
theorem tfG203x9 : fieldI Tryz.prog 203 9 = (some (false, (9, 1))) := by kernel_rfl
theorem tfF203x10 : fldI Tryz.prog 203 10 = (some 10) := by kernel_rfl
theorem tfG203x10 : fieldI Tryz.prog 203 10 = (some (false, (10, 1))) := by kernel_rfl
theorem tfA204 : aggI Tryz.prog 204 = (some (true, 11)) := by kernel_rfl
theorem tfZ204 : zeroI Tryz.prog 204 = (some ((.int .u64 (0 : Int)) :: ((.int .u64 (0 : Int)) :: ((.int .u32 (0 : Int)) :: ((.int .u8 (0 : Int)) :: ((.int .u8 (0 : Int)) :: ((.int .u8 (0 : Int)) :: ((.int .u8 (0 : Int)) :: ((.val .nilFunc) :: ((.val (.pointer none)) :: ((.int .i32 (0 : Int)) :: ((.int .i32 (0 : Int)) :: [])))))))))))) := by kernel_rfl
theorem tfP204 : placesI Tryz.prog 204 = (some ((0, 1) :: ((1, 1) :: ((2, 1) :: ((3, 1) :: ((4, 1) :: ((5, 1) :: ((6, 1) :: ((7, 1) :: ((8, 1) :: ((9, 1) :: ((10, 1) :: [])))))))))))) := by kernel_rfl
theorem tfM204 : mkI Tryz.prog 204 = true := by kernel_rfl
theorem tfF204x0 : fldI Tryz.prog 204 0 = (some 0) := by kernel_rfl
theorem tfG204x0 : fieldI Tryz.prog 204 0 = (some (false, (0, 1))) := by kernel_rfl
theorem tfF204x1 : fldI Tryz.prog 204 1 = (some 1) := by kernel_rfl
theorem tfG204x1 : fieldI Tryz.prog 204 1 = (some (false, (1, 1))) := by kernel_rfl
theorem tfF204x2 : fldI Tryz.prog 204 2 = (some 2) := by kernel_rfl
theorem tfG204x2 : fieldI Tryz.prog 204 2 = (some (false, (2, 1))) := by kernel_rfl
theorem tfF204x3 : fldI Tryz.prog 204 3 = (some 3) := by kernel_rfl
theorem tfG204x3 : fieldI Tryz.prog 204 3 = (some (false, (3, 1))) := by kernel_rfl
theorem tfF204x4 : fldI Tryz.prog 204 4 = (some 4) := by kernel_rfl
theorem tfG204x4 : fieldI Tryz.prog 204 4 = (some (false, (4, 1))) := by kernel_rfl
theorem tfF204x5 : fldI Tryz.prog 204 5 = (some 5) := by kernel_rfl
theorem tfG204x5 : fieldI Tryz.prog 204 5 = (some (false, (5, 1))) := by kernel_rfl
theorem tfF204x6 : fldI Tryz.prog 204 6 = (some 6) := by kernel_rfl
theorem tfG204x6 : fieldI Tryz.prog 204 6 = (some (false, (6, 1))) := by kernel_rfl
theorem tfF204x7 : fldI Tryz.prog 204 7 = (some 7) := by kernel_rfl
theorem tfG204x7 : fieldI Tryz.prog 204 7 = (some (false, (7, 1))) := by kernel_rfl
theorem tfF204x8 : fldI Tryz.prog 204 8 = (some 8) := by kernel_rfl
theorem tfG204x8 : fieldI Tryz.prog 204 8 = (some (false, (8, 1))) := by kernel_rfl
theorem tfF204x9 : fldI Tryz.prog 204 9 = (some 9) := by kernel_rfl
theorem tfG204x9 : fieldI Tryz.prog 204 9 = (some (false, (9, 1))) := by kernel_rfl
theorem tfF204x10 : fldI Tryz.prog 204 10 = (some 10) := by kernel_rfl
theorem tfG204x10 : fieldI Tryz.prog 204 10 = (some (false, (10, 1))) := by kernel_rfl

attribute [go_sem] tfA0 tfM0 tfA1 tfZ1 tfX1 tfM1 tfA2 tfZ2 tfM2 tfU2 tfA3 tfZ3 tfM3 tfU3 tfA4 tfZ4 tfB4 tfM4 tfA5 tfZ5
attribute [go_sem] tfM5 tfU5 tfA6 tfZ6 tfM6 tfU6 tfA7 tfZ7 tfP7 tfM7 tfF7x0 tfG7x0 tfF7x1 tfG7x1 tfF7x2 tfG7x2 tfF7x3 tfG7x3 tfA8 tfZ8
attribute [go_sem] tfP8 tfM8 tfF8x0 tfG8x0 tfF8x1 tfG8x1 tfF8x2 tfG8x2 tfF8x3 tfG8x3 tfA9 tfZ9 tfS9 tfM9 tfU9 tfA10 tfZ10 tfS10 tfM10 tfU10
attribute [go_sem] tfA11 tfZ11 tfS11 tfM11 tfU11 tfA12 tfZ12 tfM12 tfU12 tfA13 tfZ13 tfP13 tfM13 tfF13x0 tfG13x0 tfF13x1 tfG13x1 tfA14 tfZ14 tfP14
attribute [go_sem] tfM14 tfF14x0 tfG14x0 tfF14x1 tfG14x1 tfA15 tfZ15 tfQ15 tfM15 tfA16 tfZ16 tfQ16 tfM16 tfA17 tfZ17 tfQ17 tfM17 tfA18 tfZ18 tfP18
attribute [go_sem] tfM18 tfF18x0 tfG18x0 tfA19 tfZ19 tfP19 tfM19 tfF19x0 tfG19x0 tfA20 tfZ20 tfI20 tfA21 tfZ21 tfM21 tfU21 tfE22 tfA22 tfZ22 tfM22
attribute [go_sem] tfA23 tfZ23 tfX23 tfM23 tfA24 tfZ24 tfP24 tfM24 tfF24x0 tfG24x0 tfF24x1 tfG24x1 tfF24x2 tfG24x2 tfF24x3 tfG24x3 tfA25 tfZ25 tfP25 tfM25
attribute [go_sem] tfF25x0 tfG25x0 tfF25x1 tfG25x1 tfF25x2 tfG25x2 tfF25x3 tfG25x3 tfA26 tfZ26 tfX26 tfM26 tfA27 tfZ27 tfX27 tfM27 tfA28 tfZ28 tfX28 tfM28
attribute [go_sem] tfA29 tfZ29 tfX29 tfM29 tfA30 tfZ30 tfX30 tfM30 tfA31 tfZ31 tfX31 tfM31 tfA32 tfZ32 tfX32 tfM32 tfA33 tfZ33 tfX33 tfM33
attribute [go_sem] tfE34 tfA34 tfZ34 tfM34 tfE35 tfA35 tfZ35 tfM35 tfE36 tfA36 tfZ36 tfM36 tfA37 tfZ37 tfP37 tfM37 tfF37x0 tfG37x0 tfF37x1 tfG37x1
attribute [go_sem] tfF37x2 tfG37x2 tfF37x3 tfG37x3 tfF37x4 tfG37x4 tfA38 tfZ38 tfP38 tfM38 tfF38x0 tfG38x0 tfF38x1 tfG38x1 tfF38x2 tfG38x2 tfF38x3 tfG38x3 tfF38x4 tfG38x4
attribute [go_sem] tfA39 tfZ39 tfX39 tfM39 tfA40 tfZ40 tfM40 tfU40 tfA41 tfZ41 tfM41 tfU41 tfA42 tfZ42 tfM42 tfU42 tfA43 tfZ43 tfM43 tfU43
attribute [go_sem] tfA44 tfZ44 tfP44 tfM44 tfF44x0 tfG44x0 tfF44x1 tfG44x1 tfF44x2 tfG44x2 tfF44x3 tfG44x3 tfF44x4 tfG44x4 tfF44x5 tfG44x5 tfF44x6 tfG44x6 tfA45 tfZ45
attribute [go_sem] tfP45 tfM45 tfF45x0 tfG45x0 tfF45x1 tfG45x1 tfF45x2 tfG45x2 tfF45x3 tfG45x3 tfF45x4 tfG45x4 tfF45x5 tfG45x5 tfF45x6 tfG45x6 tfA46 tfZ46 tfQ46 tfM46
attribute [go_sem] tfE47 tfA47 tfZ47 tfM47 tfA48 tfZ48 tfP48 tfM48 tfF48x0 tfG48x0 tfF48x1 tfG48x1 tfA49 tfZ49 tfP49 tfM49 tfF49x0 tfG49x0 tfF49x1 tfG49x1
attribute [go_sem] tfA50 tfZ50 tfI50 tfA51 tfZ51 tfI51 tfA52 tfM52 tfA53 tfZ53 tfX53 tfM53 tfA54 tfZ54 tfX54 tfM54 tfA55 tfZ55 tfP55 tfM55
attribute [go_sem] tfF55x0 tfG55x0 tfF55x1 tfG55x1 tfE56 tfA56 tfZ56 tfM56 tfA57 tfZ57 tfX57 tfM57 tfA58 tfZ58 tfX58 tfM58 tfA59 tfZ59 tfM59 tfU59
attribute [go_sem] tfE60 tfA60 tfZ60 tfM60 tfA61 tfZ61 tfX61 tfM61 tfA62 tfZ62 tfX62 tfM62 tfE63 tfA63 tfZ63 tfM63 tfA64 tfZ64 tfX64 tfM64
attribute [go_sem] tfA65 tfZ65 tfX65 tfM65 tfA66 tfZ66 tfX66 tfM66 tfA67 tfZ67 tfM67 tfU67 tfA68 tfZ68 tfX68 tfM68 tfA69 tfZ69 tfQ69 tfM69
attribute [go_sem] tfA70 tfZ70 tfX70 tfM70 tfA71 tfZ71 tfM71 tfA72 tfZ72 tfX72 tfM72 tfA73 tfM73 tfA74 tfZ74 tfX74 tfM74 tfA75 tfZ75 tfX75
attribute [go_sem] tfM75 tfA76 tfZ76 tfX76 tfM76 tfA77 tfZ77 tfM77 tfA78 tfZ78 tfX78 tfM78 tfA79 tfZ79 tfX79 tfM79 tfA80 tfM80 tfA81 tfZ81
attribute [go_sem] tfX81 tfM81 tfA82 tfZ82 tfP82 tfM82 tfF82x0 tfG82x0 tfF82x1 tfG82x1 tfF82x2 tfG82x2 tfA83 tfZ83 tfP83 tfM83 tfF83x0 tfG83x0 tfF83x1 tfG83x1
attribute [go_sem] tfF83x2 tfG83x2 tfA84 tfM84 tfA85 tfZ85 tfX85 tfM85 tfA86 tfZ86 tfM86 tfR86 tfA87 tfZ87 tfX87 tfM87 tfA88 tfZ88 tfX88 tfM88
attribute [go_sem] tfA89 tfM89 tfA90 tfZ90 tfX90 tfM90 tfA91 tfM91 tfA92 tfZ92 tfX92 tfM92 tfA93 tfM93 tfA94 tfZ94 tfX94 tfM94 tfA95 tfZ95
attribute [go_sem] tfX95 tfM95 tfA96 tfZ96 tfX96 tfM96 tfA97 tfZ97 tfX97 tfM97 tfA98 tfZ98 tfX98 tfM98 tfA99 tfZ99 tfX99 tfM99 tfE100 tfA100
attribute [go_sem] tfZ100 tfM100 tfA101 tfZ101 tfX101 tfM101 tfA102 tfZ102 tfX102 tfM102 tfA103 tfZ103 tfX103 tfM103 tfA104 tfZ104 tfX104 tfM104 tfA105 tfZ105
attribute [go_sem] tfM105 tfR105 tfA106 tfZ106 tfM106 tfU106 tfA107 tfZ107 tfM107 tfR107 tfA108 tfZ108 tfX108 tfM108 tfA109 tfZ109 tfM109 tfU109 tfA110 tfZ110
attribute [go_sem] tfX110 tfM110 tfA111 tfZ111 tfX111 tfM111 tfA112 tfZ112 tfP112 tfM112 tfF112x0 tfG112x0 tfF112x1 tfG112x1 tfA113 tfZ113 tfP113 tfM113 tfF113x0 tfG113x0
attribute [go_sem] tfF113x1 tfG113x1 tfA114 tfZ114 tfX114 tfM114 tfA115 tfZ115 tfX115 tfM115 tfE116 tfA116 tfZ116 tfM116 tfA117 tfM117 tfA118 tfZ118 tfX118 tfM118
attribute [go_sem] tfA119 tfZ119 tfP119 tfM119 tfF119x0 tfG119x0 tfF119x1 tfG119x1 tfF119x2 tfG119x2 tfA120 tfZ120 tfP120 tfM120 tfF120x0 tfG120x0 tfF120x1 tfG120x1 tfF120x2 tfG120x2
attribute [go_sem] tfA121 tfM121 tfA122 tfZ122 tfX122 tfM122 tfE123 tfA123 tfZ123 tfM123 tfA124 tfM124 tfA125 tfZ125 tfX125 tfM125 tfA126 tfZ126 tfP126 tfM126
attribute [go_sem] tfF126x0 tfG126x0 tfF126x1 tfG126x1 tfF126x2 tfG126x2 tfF126x3 tfG126x3 tfF126x4 tfG126x4 tfA127 tfZ127 tfP127 tfM127 tfF127x0 tfG127x0 tfF127x1 tfG127x1 tfF127x2 tfG127x2
attribute [go_sem] tfF127x3 tfG127x3 tfF127x4 tfG127x4 tfA128 tfZ128 tfX128 tfM128 tfA129 tfM129 tfA130 tfZ130 tfX130 tfM130 tfE131 tfA131 tfZ131 tfM131 tfA132 tfZ132
attribute [go_sem] tfX132 tfM132 tfA133 tfZ133 tfX133 tfM133 tfA134 tfZ134 tfX134 tfM134 tfA135 tfM135 tfA136 tfZ136 tfX136 tfM136 tfA137 tfZ137 tfX137 tfM137
attribute [go_sem] tfA138 tfZ138 tfX138 tfM138 tfA139 tfZ139 tfX139 tfM139 tfA140 tfZ140 tfX140 tfM140 tfA141 tfZ141 tfX141 tfM141 tfA142 tfZ142 tfX142 tfM142
attribute [go_sem] tfA143 tfZ143 tfX143 tfM143 tfA144 tfM144 tfA145 tfZ145 tfX145 tfM145 tfA146 tfZ146 tfQ146 tfM146 tfA147 tfM147 tfA148 tfZ148 tfX148 tfM148
attribute [go_sem] tfA149 tfZ149 tfX149 tfM149 tfA150 tfZ150 tfX150 tfM150 tfA151 tfZ151 tfX151 tfM151 tfA152 tfZ152 tfX152 tfM152 tfA153 tfZ153 tfX153 tfM153
attribute [go_sem] tfA154 tfZ154 tfP154 tfM154 tfF154x0 tfG154x0 tfF154x1 tfG154x1 tfA155 tfZ155 tfP155 tfM155 tfF155x0 tfG155x0 tfF155x1 tfG155x1 tfA156 tfZ156 tfQ156 tfM156
attribute [go_sem] tfA157 tfZ157 tfP157 tfM157 tfF157x0 tfG157x0 tfF157x1 tfG157x1 tfF157x2 tfG157x2 tfF157x3 tfG157x3 tfF157x4 tfG157x4 tfF157x5 tfG157x5 tfF157x6 tfG157x6 tfA158 tfZ158
attribute [go_sem] tfP158 tfM158 tfF158x0 tfG158x0 tfF158x1 tfG158x1 tfF158x2 tfG158x2 tfF158x3 tfG158x3 tfF158x4 tfG158x4 tfF158x5 tfG158x5 tfF158x6 tfG158x6 tfE159 tfA159 tfZ159 tfM159
attribute [go_sem] tfA160 tfZ160 tfX160 tfM160 tfA161 tfZ161 tfX161 tfM161 tfA162 tfZ162 tfX162 tfM162 tfA163 tfZ163 tfP163 tfM163 tfF163x0 tfG163x0 tfF163x1 tfG163x1
attribute [go_sem] tfF163x2 tfG163x2 tfA164 tfZ164 tfP164 tfM164 tfF164x0 tfG164x0 tfF164x1 tfG164x1 tfF164x2 tfG164x2 tfE165 tfA165 tfZ165 tfM165 tfA166 tfM166 tfA167 tfZ167
attribute [go_sem] tfX167 tfM167 tfA168 tfM168 tfA169 tfZ169 tfX169 tfM169 tfA170 tfZ170 tfX170 tfM170 tfA171 tfZ171 tfQ171 tfM171 tfA172 tfZ172 tfP172 tfM172
attribute [go_sem] tfF172x0 tfG172x0 tfF172x1 tfG172x1 tfA173 tfZ173 tfP173 tfM173 tfF173x0 tfG173x0 tfF173x1 tfG173x1 tfA174 tfZ174 tfX174 tfM174 tfA175 tfZ175 tfM175 tfR175
attribute [go_sem] tfA176 tfZ176 tfM176 tfR176 tfA177 tfZ177 tfP177 tfM177 tfF177x0 tfG177x0 tfF177x1 tfG177x1 tfF177x2 tfG177x2 tfA178 tfZ178 tfP178 tfM178 tfF178x0 tfG178x0
attribute [go_sem] tfF178x1 tfG178x1 tfF178x2 tfG178x2 tfE179 tfA179 tfZ179 tfM179 tfA180 tfZ180 tfP180 tfM180 tfF180x0 tfG180x0 tfF180x1 tfG180x1 tfF180x2 tfG180x2 tfF180x3 tfG180x3
attribute [go_sem] tfA181 tfZ181 tfP181 tfM181 tfF181x0 tfG181x0 tfF181x1 tfG181x1 tfF181x2 tfG181x2 tfF181x3 tfG181x3 tfA182 tfZ182 tfX182 tfM182 tfA183 tfM183 tfA184 tfZ184
attribute [go_sem] tfX184 tfM184 tfA185 tfZ185 tfX185 tfM185 tfA186 tfZ186 tfX186 tfM186 tfA187 tfZ187 tfX187 tfM187 tfA188 tfZ188 tfX188 tfM188 tfA189 tfZ189
attribute [go_sem] tfX189 tfM189 tfA190 tfZ190 tfX190 tfM190 tfA191 tfZ191 tfX191 tfM191 tfA192 tfZ192 tfP192 tfM192 tfF192x0 tfG192x0 tfF192x1 tfG192x1 tfF192x2 tfG192x2
attribute [go_sem] tfF192x3 tfG192x3 tfA193 tfZ193 tfP193 tfM193 tfF193x0 tfG193x0 tfF193x1 tfG193x1 tfF193x2 tfG193x2 tfF193x3 tfG193x3 tfA194 tfZ194 tfM194 tfR194 tfA195 tfZ195
attribute [go_sem] tfP195 tfM195 tfG195x0 tfA196 tfZ196 tfP196 tfM196 tfG196x0 tfA197 tfZ197 tfX197 tfM197 tfA198 tfZ198 tfM198 tfU198 tfA199 tfZ199 tfM199 tfU199
attribute [go_sem] tfA200 tfZ200 tfX200 tfM200 tfA201 tfZ201 tfM201 tfU201 tfA202 tfZ202 tfM202 tfU202 tfA203 tfZ203 tfP203 tfM203 tfF203x0 tfG203x0 tfF203x1 tfG203x1
attribute [go_sem] tfF203x2 tfG203x2 tfF203x3 tfG203x3 tfF203x4 tfG203x4 tfF203x5 tfG203x5 tfF203x6 tfG203x6 tfF203x7 tfG203x7 tfF203x8 tfG203x8 tfF203x9 tfG203x9 tfF203x10 tfG203x10 tfA204 tfZ204
attribute [go_sem] tfP204 tfM204 tfF204x0 tfG204x0 tfF204x1 tfG204x1 tfF204x2 tfG204x2 tfF204x3 tfG204x3 tfF204x4 tfG204x4 tfF204x5 tfG204x5 tfF204x6 tfG204x6 tfF204x7 tfG204x7 tfF204x8 tfG204x8
attribute [go_sem] tfF204x9 tfG204x9 tfF204x10 tfG204x10

end Go.Proofs.YtdlbfilfkpflpaaGreatDoor.Sx

/-! DERIVED: THE SHELF's CONTRACTS AT THIS DUMP, IN PLAIN WORDS (tools/lay-plain.mjs out of 'TryzShelf.lean', which tools/lay-shelf.mjs wrote): THE SAME DECLARATIONS UNDER THE SAME NAMES: 'import', 'namespace', 'open', 'def', 'theorem' AND NOTHING ELSE: no command of the shelf's: FOR A HAND-IN. Each laying: the table of numbers ('.._ren') and one theorem, a field a fact of the dump's own or the kernel's comparison; each contract: ONE APPLICATION. -/
namespace Go.Proofs
open Go.Shelf
def Tryz.laysM171_ren : Go.Shelf.Ren := ⟨fun | 171 => 14 | 243 => 24 | 246 => 31 | 283 => 36 | 284 => 37 | 285 => 38 | 286 => 39 | 129 => 51 | 317 => 50 | 318 => 52 | 319 => 53 | 320 => 54 | 337 => 69 | 338 => 70 | n => n, fun | 3 => 3 | 9 => 9 | 2 => 2 | 4 => 4 | 171 => 86 | 0 => 0 | 53 => 59 | 37 => 47 | 5 => 5 | 173 => 89 | 212 => 105 | 51 => 106 | 20 => 20 | 213 => 107 | 46 => 109 | 232 => 175 | 233 => 176 | n => n, fun | 17 => 0 | 18 => 1 | 19 => 2 | n => n⟩
theorem Tryz.laysM171 : Go.Proofs.LaysM.n171 Tryz.prog Tryz.laysM171_ren := {
  mixed := by kernel_rfl
  f129 := Tryz.func51.trans (congrArg some (by kernel_rfl))
  f171 := Tryz.func14.trans (congrArg some (by kernel_rfl))
  f243 := Tryz.func24.trans (congrArg some (by kernel_rfl))
  f246 := Tryz.func31.trans (congrArg some (by kernel_rfl))
  f283 := Tryz.func36.trans (congrArg some (by kernel_rfl))
  f284 := Tryz.func37.trans (congrArg some (by kernel_rfl))
  f285 := Tryz.func38.trans (congrArg some (by kernel_rfl))
  f286 := Tryz.func39.trans (congrArg some (by kernel_rfl))
  f317 := Tryz.func50.trans (congrArg some (by kernel_rfl))
  f318 := Tryz.func52.trans (congrArg some (by kernel_rfl))
  f319 := Tryz.func53.trans (congrArg some (by kernel_rfl))
  f320 := Tryz.func54.trans (congrArg some (by kernel_rfl))
  f337 := Tryz.func69.trans (congrArg some (by kernel_rfl))
  f338 := Tryz.func70.trans (congrArg some (by kernel_rfl))
  t0 := Tryz.underlying0
  a0 := Tryz.isAgg0
  z0 := Tryz.sizeOf0
  v0 := Tryz.zeroValue0
  t2 := Tryz.underlying2
  a2 := Tryz.isAgg2
  z2 := Tryz.sizeOf2
  v2 := Tryz.zeroValue2
  t3 := Tryz.underlying3
  a3 := Tryz.isAgg3
  z3 := Tryz.sizeOf3
  v3 := Tryz.zeroValue3
  t4 := Tryz.underlying4
  a4 := Tryz.isAgg4
  z4 := Tryz.sizeOf4
  v4 := Tryz.zeroValue4
  t5 := Tryz.underlying5
  a5 := Tryz.isAgg5
  z5 := Tryz.sizeOf5
  v5 := Tryz.zeroValue5
  t9 := Tryz.underlying9
  a9 := Tryz.isAgg9
  z9 := Tryz.sizeOf9
  v9 := Tryz.zeroValue9
  t20 := Tryz.underlying20
  a20 := Tryz.isAgg20
  z20 := Tryz.sizeOf20
  v20 := Tryz.zeroValue20
  t37 := Tryz.underlying47
  a37 := Tryz.isAgg47
  z37 := Tryz.sizeOf47
  v37 := Tryz.zeroValue47
  t46 := Tryz.underlying109
  a46 := Tryz.isAgg109
  z46 := Tryz.sizeOf109
  v46 := Tryz.zeroValue109
  t51 := Tryz.underlying106
  a51 := Tryz.isAgg106
  z51 := Tryz.sizeOf106
  v51 := Tryz.zeroValue106
  t53 := Tryz.underlying59
  a53 := Tryz.isAgg59
  z53 := Tryz.sizeOf59
  v53 := Tryz.zeroValue59
  t171 := Tryz.underlying86
  a171 := Tryz.isAgg86
  z171 := Tryz.sizeOf86
  v171 := Tryz.zeroValue86
  t173 := Tryz.underlying89
  a173 := Tryz.isAgg89
  z173 := Tryz.sizeOf89
  v173 := Tryz.zeroValue89
  t212 := Tryz.underlying105
  a212 := Tryz.isAgg105
  z212 := Tryz.sizeOf105
  v212 := Tryz.zeroValue105
  t213 := Tryz.underlying107
  a213 := Tryz.isAgg107
  z213 := Tryz.sizeOf107
  t232 := Tryz.underlying175
  a232 := Tryz.isAgg175
  z232 := Tryz.sizeOf175
  v232 := Tryz.zeroValue175
  t233 := Tryz.underlying176
  a233 := Tryz.isAgg176
  z233 := Tryz.sizeOf176
  v233 := Tryz.zeroValue176
  g17 := by kernel_rfl
  g18 := by kernel_rfl
  g19 := by kernel_rfl
  i0 := by kernel_rfl
  i2 := by kernel_rfl
  i3 := by kernel_rfl
  i4 := by kernel_rfl
  i5 := by kernel_rfl
  i9 := by kernel_rfl
  i20 := by kernel_rfl
  i37 := by kernel_rfl
  i46 := by kernel_rfl
  i51 := by kernel_rfl
  i53 := by kernel_rfl
  i171 := by kernel_rfl
  i173 := by kernel_rfl
  i212 := by kernel_rfl
  i232 := by kernel_rfl
  i233 := by kernel_rfl
  m17 := by kernel_rfl
  m18 := by kernel_rfl
  m19 := by kernel_rfl }
open Go.RowKit Go.Sort Go.Lib in
/-- strconv.Itoa: "Itoa is equivalent to FormatInt(int64(i), 10).": i's DECIMAL NUMERAL ('Lib.itoa': a '-' where i is negative, then the digits), FOR EVERY int. The world behind the call: the world before it, new blocks behind the heap (the library's 'var a [24]byte'), draws. (LAID: no walk: one application.) -/
theorem Tryz.strconv_Itoa (n : Int) (h0 : -9223372036854775808 ≤ n) (h1 : n ≤ 9223372036854775807) (w : World) (htab : Lib.TabIs Tryz.prog w "internal/strconv.uint64pow10" .u64 Lib.pow10Tab) :
    Calls Tryz.prog 14 #[.int .i64 n] w fun e w' => e = .returned (.string ⟨(Lib.itoa n).toArray⟩) ∧ ∃ k os, w' = grow (w.drewN k) os := Any.strconv_Itoa Tryz.laysM171 n h0 h1 w htab
end Go.Proofs

/-! Contracts: strconv.Itoa, the document's number. -/
namespace Go.Proofs.YtdlbfilfkpflpaaGreatDoor.Sx
attribute [local irreducible] OkQ Ok
set_option linter.unusedSimpArgs false
set_option linter.unusedVariables false
set_option maxRecDepth 8000

theorem i64_in {n : Int} (h : IntKind.i64.has n) : -9223372036854775808 ≤ n ∧ n ≤ 9223372036854775807 := by
  simpa [IntKind.has, IntKind.min, IntKind.max, IntKind.signed, IntKind.bits] using h
theorem i8_in {n : Int} (h : IntKind.i8.has n) : -128 ≤ n ∧ n ≤ 127 := by
  simpa [IntKind.has, IntKind.min, IntKind.max, IntKind.signed, IntKind.bits] using h

def strItoa : Con := ⟨14, [(false, .int .i64)], [(false, .str)], fun _ => True, fun x => (Lib.itoa x.1, ()), true⟩
theorem strItoa_ok : strItoa.Ok Tryz.prog := by
  refine con_below (enters_fn Tryz.func14 rfl (by decide)) fun S w vs x hg hr hwf _ => ?_
  obtain ⟨(n : Int), ⟨⟩⟩ := x
  obtain ⟨v1, rfl, h1⟩ := args1 hr
  obtain ⟨e1, hn⟩ := h1
  cases e1
  have hn' : -9223372036854775808 ≤ n ∧ n ≤ 9223372036854775807 := i64_in hn
  have hl := itoa_len hn'.1 hn'.2
  have htab : Lib.TabIs Tryz.prog w "internal/strconv.uint64pow10" .u64 Lib.pow10Tab := by
    obtain ⟨T, fz, e⟩ := hg
    unfold Lib.TabIs World.var?
    rw [show Tryz.prog.globalNamed "internal/strconv.uint64pow10" = some 0 by kernel_rfl]
    simp [e]
  have hle : (Lib.itoa n).length ≤ 140737488355328 := by omega
  exact ⟨_, (Tryz.strconv_Itoa n hn'.1 hn'.2 w htab).mono (by rintro e w' ⟨rfl, k, os, rfl⟩; exact ⟨rfl, Lib.below_grow _ w (Nat.le_refl _) k os⟩), ⟨hle, trivial⟩, fun E w => ⟨rfl, hle⟩⟩

theorem wr_u64 {n : Int} (h : 0 ≤ n) (h' : n ≤ 18446744073709551615) : wr .u64 n = n := by unfold wr; simp [IntKind.wrap, IntKind.bits, IntKind.signed]; omega
theorem digB (u : Nat) : bsL [wr .u8 (wr .u64 (48 + (u : Int).tmod 10))] = [UInt8.ofNat (48 + u % 10)] := by
  have e : (u : Int).tmod 10 = ((u % 10 : Nat) : Int) := by rw [Int.tmod_eq_emod_of_nonneg (by omega)]; rfl
  rw [e, wr_u64 (by omega) (by omega), wr_u8 (by omega) (by omega)]
  simp only [bsL, List.map_cons, List.map_nil]
  congr 2
theorem digE {u : Nat} (h : ¬ 9 < u) : bsL [wr .u8 (wr .u64 (48 + (u : Int)))] = [UInt8.ofNat (48 + u)] := by
  rw [wr_u64 (by omega) (by omega), wr_u8 (by omega) (by omega)]
  simp only [bsL, List.map_cons, List.map_nil]
  congr 2
theorem absU {n : Int} (h : -9223372036854775808 ≤ n) (h' : n < 0) : wr .u64 (-(wr .u64 n)) = (n.natAbs : Int) := by
  unfold wr
  simp [IntKind.wrap, IntKind.bits, IntKind.signed]
  omega

theorem digStep {N u : Nat} {s : List UInt8} (h : Lib.decDigits N = Lib.decDigits u ++ s) (hu : (9 : Int) < (u : Int)) (hle : u ≤ N) (hN : N ≤ 9223372036854775808) :
    ∃ y : Nat × List UInt8, (Lib.decDigits N = Lib.decDigits y.1 ++ y.2 ∧ y.1 ≤ N) ∧ y.1 < u ∧ wr .u64 ((u : Int).tdiv 10) = (y.1 : Int) ∧ UInt8.ofNat (48 + u % 10) :: s = y.2 := by
  have hu' : 9 < u := by omega
  refine ⟨(u / 10, UInt8.ofNat (48 + u % 10) :: s), ⟨?_, by show u / 10 ≤ N; omega⟩, by show u / 10 < u; omega, ?_, rfl⟩
  · rw [h, dig_step hu', List.append_assoc]; rfl
  · have e : (u : Int).tdiv 10 = ((u / 10 : Nat) : Int) := by rw [Int.tdiv_eq_ediv_of_nonneg (by omega)]; rfl
    rw [e, wr_u64 (by omega) (by omega)]

/-- A number in digits, as the document lays it. -/
def refNumber : Con := ⟨16, [(false, .int .i64)], [(false, .str)], fun _ => True, fun x => (Lib.itoa x.1, ()), false⟩
set_option maxHeartbeats 1000000 in
theorem refNumber_ok : refNumber.Ok Tryz.prog := by
  refine con_q Tryz.func16 rfl (by decide) (fun x hx hp => run_ok (Cs := []) (stp := []) (inl := []) (unr := false) nil_ok 0 _ _ _ _ ?_) (by decide)
  obtain ⟨(n : Int), ⟨⟩⟩ := x
  have hn : -9223372036854775808 ≤ n ∧ n ≤ 9223372036854775807 := i64_in hx.1
  have hl := itoa_len hn.1 hn.2
  clear hx hp
  by_cases h0 : n < 0
  · have d0 : decide (n < 0) = true := decide_eq_true h0
    have hu := absU hn.1 h0
    have hD : Lib.itoa n = 45 :: Lib.decDigits n.natAbs := by rw [Lib.itoa, if_pos h0]
    refine run_ok (Cs := []) (stp := []) (inl := []) (unr := false) nil_ok 400 _ _ _ _ ?_
    simp (maxSteps := 4000000) only [go_sem, reduceIte, reduceCtorEq, Int.reduceEq, Nat.reduceEqDiff, Nat.reduceBEq, Int.reduceLE, Int.reduceLT, Int.reduceNeg, Nat.reduceAdd, Nat.reduceSub, Nat.reduceMul, Nat.reduceLeDiff, Int.reduceToNat, Int.reduceAdd, Int.reduceSub, Int.reduceMul, Tryz.f16, refNumber, d0, hu]
    refine OkQ.loop (α := Nat × List UInt8) [1, 2, 3, 4, 5, 6, 7, 8, 9, 10, 11, 12, 13, 14, 15, 16, 17, 18, 19, 20, 21, 22, 23, 24, 25, 26, 27, 28, 29, 30, 31, 32, 33, 34] (fun p => [(3, .s (.int .u64 (p.1 : Int))), (4, .s (.str p.2))]) (fun _ => []) (fun p => Lib.decDigits n.natAbs = Lib.decDigits p.1 ++ p.2 ∧ p.1 ≤ n.natAbs) (fun p => p.1) (n.natAbs, []) ⟨by simp, Nat.le_refl _⟩ ?_ fun p hp => ?_
    · simp (maxSteps := 4000000) only [go_sem, reduceIte, reduceCtorEq, Int.reduceEq, Nat.reduceEqDiff, Nat.reduceBEq, Int.reduceLE, Int.reduceLT, Int.reduceNeg, Nat.reduceAdd, Nat.reduceSub, Nat.reduceMul, Nat.reduceLeDiff, Int.reduceToNat, Int.reduceAdd, Int.reduceSub, Int.reduceMul]
    · obtain ⟨u, s⟩ := p
      obtain ⟨hs, hle⟩ := hp
      have hs : Lib.decDigits n.natAbs = Lib.decDigits u ++ s := hs
      have hle : u ≤ n.natAbs := hle
      have hsl : s.length ≤ 20 := by
        have := congrArg List.length hs
        rw [hD] at hl
        simp at this hl
        omega
      refine run_ok (Cs := []) (stp := []) (inl := []) (unr := false) nil_ok 400 _ _ _ _ ?_
      simp (maxSteps := 4000000) only [go_sem, reduceIte, reduceCtorEq, Int.reduceEq, Nat.reduceEqDiff, Nat.reduceBEq, Int.reduceLE, Int.reduceLT, Int.reduceNeg, Nat.reduceAdd, Nat.reduceSub, Nat.reduceMul, Nat.reduceLeDiff, Int.reduceToNat, Int.reduceAdd, Int.reduceSub, Int.reduceMul, d0, digB]
      (repeat' (first | (apply And.intro) | (intro _) | (show staB _ _ = true; kernel_rfl) | (show dynB _ _ = true; kernel_rfl) | (show dynP _ _ _ = true; kernel_rfl)))
      all_goals first
        | omega
        | exact digStep hs ‹_› hle (by omega)
        | (have hd : ¬ 9 < u := by omega
           have e := digE hd
           simp only [e, List.length_cons, List.length_nil]
           omega)
        | (have hd : ¬ 9 < u := by omega
           rw [digE hd, hD, hs, dig_end hd])
        | fail
  · have d0 : decide (n < 0) = false := decide_eq_false h0
    have hu : wr .u64 n = (n.toNat : Int) := by rw [wr_u64 (by omega) (by omega)]; omega
    have hD : Lib.itoa n = Lib.decDigits n.toNat := by rw [Lib.itoa, if_neg h0]
    refine run_ok (Cs := []) (stp := []) (inl := []) (unr := false) nil_ok 400 _ _ _ _ ?_
    simp (maxSteps := 4000000) only [go_sem, reduceIte, reduceCtorEq, Int.reduceEq, Nat.reduceEqDiff, Nat.reduceBEq, Int.reduceLE, Int.reduceLT, Int.reduceNeg, Nat.reduceAdd, Nat.reduceSub, Nat.reduceMul, Nat.reduceLeDiff, Int.reduceToNat, Int.reduceAdd, Int.reduceSub, Int.reduceMul, Tryz.f16, refNumber, d0, hu]
    refine OkQ.loop (α := Nat × List UInt8) [1, 2, 3, 4, 5, 6, 7, 8, 9, 10, 11, 12, 13, 14, 15, 16, 17, 18, 19, 20, 21, 22, 23, 24, 25, 26, 27, 28, 29, 30, 31, 32, 33, 34] (fun p => [(3, .s (.int .u64 (p.1 : Int))), (4, .s (.str p.2))]) (fun _ => []) (fun p => Lib.decDigits n.toNat = Lib.decDigits p.1 ++ p.2 ∧ p.1 ≤ n.toNat) (fun p => p.1) (n.toNat, []) ⟨by simp, Nat.le_refl _⟩ ?_ fun p hp => ?_
    · simp (maxSteps := 4000000) only [go_sem, reduceIte, reduceCtorEq, Int.reduceEq, Nat.reduceEqDiff, Nat.reduceBEq, Int.reduceLE, Int.reduceLT, Int.reduceNeg, Nat.reduceAdd, Nat.reduceSub, Nat.reduceMul, Nat.reduceLeDiff, Int.reduceToNat, Int.reduceAdd, Int.reduceSub, Int.reduceMul]
    · obtain ⟨u, s⟩ := p
      obtain ⟨hs, hle⟩ := hp
      have hs : Lib.decDigits n.toNat = Lib.decDigits u ++ s := hs
      have hle : u ≤ n.toNat := hle
      have hsl : s.length ≤ 20 := by
        have := congrArg List.length hs
        rw [hD] at hl
        simp at this hl
        omega
      refine run_ok (Cs := []) (stp := []) (inl := []) (unr := false) nil_ok 400 _ _ _ _ ?_
      simp (maxSteps := 4000000) only [go_sem, reduceIte, reduceCtorEq, Int.reduceEq, Nat.reduceEqDiff, Nat.reduceBEq, Int.reduceLE, Int.reduceLT, Int.reduceNeg, Nat.reduceAdd, Nat.reduceSub, Nat.reduceMul, Nat.reduceLeDiff, Int.reduceToNat, Int.reduceAdd, Int.reduceSub, Int.reduceMul, d0, digB]
      (repeat' (first | (apply And.intro) | (intro _) | (show staB _ _ = true; kernel_rfl) | (show dynB _ _ = true; kernel_rfl) | (show dynP _ _ _ = true; kernel_rfl)))
      all_goals first
        | omega
        | exact digStep hs ‹_› hle (by omega)
        | (have hd : ¬ 9 < u := by omega
           have e := digE hd
           simp only [e, List.length_cons, List.length_nil]
           omega)
        | (have hd : ¬ 9 < u := by omega
           rw [digE hd, hD, hs, dig_end hd])
        | fail

end Go.Proofs.YtdlbfilfkpflpaaGreatDoor.Sx

/-! Contracts: a base's name; verdicts counted, twice. -/
namespace Go.Proofs.YtdlbfilfkpflpaaGreatDoor.Sx
attribute [local irreducible] OkQ Ok
set_option linter.unusedSimpArgs false
set_option linter.unusedVariables false
set_option maxRecDepth 8000

abbrev tV : Ty := .pair (.int .i64) (.pair (.int .i8) (.pair .bool (.pair (.int .i64) (.pair (.int .i8) (.pair (.slice 1 (.int .i8)) (.pair (.slice 8 (.int .i64)) .unit))))))
abbrev tVs : Ty := .slice 80 tV
abbrev tTally : Ty := .pair (.int .i64) (.pair (.int .i64) (.pair (.int .i64) (.pair (.int .i64) .unit)))
def tallyV (l : List VD) : Int × Int × Int × Int × Unit := (cntA l, cntP l, cntF l, cntR l, ())

def jBased : Con := ⟨23, [(false, .int .i8)], [(false, .str)], fun _ => True, fun x => (basV x.1, ()), true⟩
theorem jBased_ok : jBased.Ok Tryz.prog := by
  refine con_q Tryz.func23 rfl (by decide) (fun x hx hp => run_ok (Cs := [strItoa]) (stp := []) (inl := []) (unr := false) (cons_ok strItoa_ok nil_ok) 400 _ _ _ _ ?_) (by decide)
  obtain ⟨(b : Int), ⟨⟩⟩ := x
  have hb : -128 ≤ b ∧ b ≤ 127 := i8_in hx.1
  have hw : wr .i64 b = b := wr_i64 (by omega) (by omega)
  have hl := itoa_len (n := b) (by omega) (by omega)
  clear hx hp
  simp (maxSteps := 4000000) only [go_sem, reduceIte, reduceCtorEq, Int.reduceEq, Nat.reduceEqDiff, Nat.reduceBEq, Int.reduceLE, Int.reduceLT, Int.reduceNeg, Nat.reduceAdd, Nat.reduceSub, Nat.reduceMul, Nat.reduceLeDiff, Int.reduceToNat, Int.reduceAdd, Int.reduceSub, Int.reduceMul, Tryz.f23, jBased, hw, strItoa]
  (repeat' (first | (apply And.intro) | (intro _) | (show staB _ _ = true; kernel_rfl) | (show dynB _ _ = true; kernel_rfl) | (show dynP _ _ _ = true; kernel_rfl)))
  all_goals first
    | omega
    | (simp [basV, *]; done)
    | fail

theorem cnt_next {xs : List VD} {i : Nat} (h : (i : Int) < (xs.length : Int)) (hz : xs.length * 80 ≤ 140737488355328) {f : VD → Bool} {b : Bool} (hb : f (xs.getD i vZ) = b) :
    (((xs.take (i + 1)).countP f : Nat) : Int) = if b = true then wr .i64 (((xs.take i).countP f : Int) + 1) else ((xs.take i).countP f : Int) := by
  have hle : (xs.take i).countP f ≤ i := Nat.le_trans List.countP_le_length (by simp; omega)
  rw [count_take (d := vZ) (by omega), hb]
  cases b
  · simp
  · simp only [if_true]
    rw [wr_i64 (by omega) (by omega)]
/-- What a verdict adds to the counts. -/
theorem cnt_refu {xs : List VD} {i : Nat} (h : (i : Int) < (xs.length : Int)) (hz : xs.length * 80 ≤ 140737488355328) (hc : ¬ (xs.getD i vZ).2.2.2.1 = 0) :
    cntP (xs.take i) = cntP (xs.take (i + 1)) ∧ cntF (xs.take i) = cntF (xs.take (i + 1)) ∧ wr .i64 (cntR (xs.take i) + 1) = cntR (xs.take (i + 1)) :=
  ⟨(cnt_next h hz (f := passB) (b := false) (by simp only [passB, hc]; simp)).symm, (cnt_next h hz (f := failB) (b := false) (by simp only [failB, hc]; simp)).symm, (cnt_next h hz (f := refuB) (b := true) (by simp only [refuB, hc]; simp)).symm⟩
theorem cnt_pass {xs : List VD} {i : Nat} (h : (i : Int) < (xs.length : Int)) (hz : xs.length * 80 ≤ 140737488355328) (hc : (xs.getD i vZ).2.2.2.1 = 0) (hp : (xs.getD i vZ).2.2.1 = true) :
    wr .i64 (cntP (xs.take i) + 1) = cntP (xs.take (i + 1)) ∧ cntF (xs.take i) = cntF (xs.take (i + 1)) ∧ cntR (xs.take i) = cntR (xs.take (i + 1)) :=
  ⟨(cnt_next h hz (f := passB) (b := true) (by simp only [passB, hc, hp]; simp)).symm, (cnt_next h hz (f := failB) (b := false) (by simp only [failB, hc, hp]; simp)).symm, (cnt_next h hz (f := refuB) (b := false) (by simp only [refuB, hc]; simp)).symm⟩
theorem cnt_fail {xs : List VD} {i : Nat} (h : (i : Int) < (xs.length : Int)) (hz : xs.length * 80 ≤ 140737488355328) (hc : (xs.getD i vZ).2.2.2.1 = 0) (hp : (xs.getD i vZ).2.2.1 = false) :
    cntP (xs.take i) = cntP (xs.take (i + 1)) ∧ wr .i64 (cntF (xs.take i) + 1) = cntF (xs.take (i + 1)) ∧ cntR (xs.take i) = cntR (xs.take (i + 1)) :=
  ⟨(cnt_next h hz (f := passB) (b := false) (by simp only [passB, hc, hp]; simp)).symm, (cnt_next h hz (f := failB) (b := true) (by simp only [failB, hc, hp]; simp)).symm, (cnt_next h hz (f := refuB) (b := false) (by simp only [refuB, hc]; simp)).symm⟩

theorem wr_i {n : Nat} (h : n ≤ 140737488355328) : wr .i64 ((n : Int) + 1) = ((n + 1 : Nat) : Int) := by rw [wr_i64 (by omega) (by omega)]; simp
noncomputable def jCount : Con := ⟨6, [(false, tVs)], [(true, tTally)], fun _ => True, fun x => (tallyV x.1, ()), false⟩
set_option maxHeartbeats 1000000 in
theorem jCount_ok : jCount.Ok Tryz.prog := by
  refine con_q Tryz.func6 rfl (by decide) (fun x hx hp => run_ok (Cs := []) (stp := []) (inl := []) (unr := false) nil_ok 400 _ _ _ _ ?_) (by decide)
  obtain ⟨(xs : List VD), ⟨⟩⟩ := x
  have hsz : xs.length * 80 ≤ 140737488355328 := hx.1.1
  clear hx hp
  simp (maxSteps := 4000000) only [go_sem, reduceIte, reduceCtorEq, Int.reduceEq, Nat.reduceEqDiff, Nat.reduceBEq, Int.reduceLE, Int.reduceLT, Int.reduceNeg, Nat.reduceAdd, Nat.reduceSub, Nat.reduceMul, Nat.reduceLeDiff, Int.reduceToNat, Int.reduceAdd, Int.reduceSub, Int.reduceMul, Tryz.f6, jCount]
  (repeat' (first | (apply And.intro) | (intro _) | (show staB _ _ = true; kernel_rfl) | (show dynB _ _ = true; kernel_rfl) | (show dynP _ _ _ = true; kernel_rfl)))
  refine OkQ.loop (α := Nat) [0, 1, 4, 5, 6, 7, 8, 11, 12, 13, 14, 15, 16, 17, 18, 19, 20, 21, 22, 23, 24, 25, 26, 27, 28, 29, 30, 31, 32, 33, 34, 35] (fun i => [(11, .s (.int .i64 (i : Int)))]) (fun i => [(1, .box 25 [.int .i64 (xs.length : Int), .int .i64 (cntP (xs.take i)), .int .i64 (cntF (xs.take i)), .int .i64 (cntR (xs.take i))])]) (fun i => i ≤ xs.length) (fun i => xs.length - i) 0 (Nat.zero_le _) ?_ fun i hi => ?_
  · simp (maxSteps := 4000000) only [go_sem, reduceIte, reduceCtorEq, Int.reduceEq, Nat.reduceEqDiff, Nat.reduceBEq, Int.reduceLE, Int.reduceLT, Int.reduceNeg, Nat.reduceAdd, Nat.reduceSub, Nat.reduceMul, Nat.reduceLeDiff, Int.reduceToNat, Int.reduceAdd, Int.reduceSub, Int.reduceMul]
    first
      | exact ⟨rfl, rfl, rfl, rfl⟩
      | exact ⟨rfl, rfl, rfl, rfl, rfl⟩
  · refine run_ok (Cs := []) (stp := []) (inl := []) (unr := false) nil_ok 400 _ _ _ _ ?_
    simp (maxSteps := 4000000) only [go_sem, reduceIte, reduceCtorEq, Int.reduceEq, Nat.reduceEqDiff, Nat.reduceBEq, Int.reduceLE, Int.reduceLT, Int.reduceNeg, Nat.reduceAdd, Nat.reduceSub, Nat.reduceMul, Nat.reduceLeDiff, Int.reduceToNat, Int.reduceAdd, Int.reduceSub, Int.reduceMul, Tryz.f6, jCount]
    (repeat' (first | (apply And.intro) | (intro _) | (show staB _ _ = true; kernel_rfl) | (show dynB _ _ = true; kernel_rfl) | (show dynP _ _ _ = true; kernel_rfl)))
    all_goals first
      | omega
      | (obtain ⟨k1, k2, k3⟩ := cnt_refu ‹_› hsz ‹_›
         exact ⟨i + 1, by omega, by omega, wr_i (by omega), k1, k2, k3⟩)
      | (obtain ⟨k1, k2, k3⟩ := cnt_pass ‹_› hsz ‹_› ‹_›
         exact ⟨i + 1, by omega, by omega, wr_i (by omega), k1, k2, k3⟩)
      | (obtain ⟨k1, k2, k3⟩ := cnt_fail ‹_› hsz ‹_› ‹_›
         exact ⟨i + 1, by omega, by omega, wr_i (by omega), k1, k2, k3⟩)
      | (have e : i = xs.length := by omega
         subst e
         simp [tallyV, cntA]
         done)
      | fail
noncomputable def rCount : Con := ⟨7, [(false, tVs)], [(true, tTally)], fun _ => True, fun x => (tallyV x.1, ()), false⟩
set_option maxHeartbeats 1000000 in
theorem rCount_ok : rCount.Ok Tryz.prog := by
  refine con_q Tryz.func7 rfl (by decide) (fun x hx hp => run_ok (Cs := []) (stp := []) (inl := []) (unr := false) nil_ok 400 _ _ _ _ ?_) (by decide)
  obtain ⟨(xs : List VD), ⟨⟩⟩ := x
  have hsz : xs.length * 80 ≤ 140737488355328 := hx.1.1
  clear hx hp
  simp (maxSteps := 4000000) only [go_sem, reduceIte, reduceCtorEq, Int.reduceEq, Nat.reduceEqDiff, Nat.reduceBEq, Int.reduceLE, Int.reduceLT, Int.reduceNeg, Nat.reduceAdd, Nat.reduceSub, Nat.reduceMul, Nat.reduceLeDiff, Int.reduceToNat, Int.reduceAdd, Int.reduceSub, Int.reduceMul, Tryz.f7, rCount]
  (repeat' (first | (apply And.intro) | (intro _) | (show staB _ _ = true; kernel_rfl) | (show dynB _ _ = true; kernel_rfl) | (show dynP _ _ _ = true; kernel_rfl)))
  refine OkQ.loop (α := Nat) [1, 4, 5, 6, 7, 8, 9, 10, 11, 12, 13, 14, 15, 16, 17, 18, 19, 20, 21, 22, 23, 24, 25, 26, 27, 28, 29, 30, 31, 32, 33, 34, 35, 36, 37, 38, 39, 40] (fun i => [(4, .s (.int .i64 (i : Int)))]) (fun i => [(1, .box 25 [.int .i64 (i : Int), .int .i64 (cntP (xs.take i)), .int .i64 (cntF (xs.take i)), .int .i64 (cntR (xs.take i))])]) (fun i => i ≤ xs.length) (fun i => xs.length - i) 0 (Nat.zero_le _) ?_ fun i hi => ?_
  · simp (maxSteps := 4000000) only [go_sem, reduceIte, reduceCtorEq, Int.reduceEq, Nat.reduceEqDiff, Nat.reduceBEq, Int.reduceLE, Int.reduceLT, Int.reduceNeg, Nat.reduceAdd, Nat.reduceSub, Nat.reduceMul, Nat.reduceLeDiff, Int.reduceToNat, Int.reduceAdd, Int.reduceSub, Int.reduceMul]
    first
      | exact ⟨rfl, rfl, rfl, rfl⟩
      | exact ⟨rfl, rfl, rfl, rfl, rfl⟩
  · refine run_ok (Cs := []) (stp := []) (inl := []) (unr := false) nil_ok 400 _ _ _ _ ?_
    simp (maxSteps := 4000000) only [go_sem, reduceIte, reduceCtorEq, Int.reduceEq, Nat.reduceEqDiff, Nat.reduceBEq, Int.reduceLE, Int.reduceLT, Int.reduceNeg, Nat.reduceAdd, Nat.reduceSub, Nat.reduceMul, Nat.reduceLeDiff, Int.reduceToNat, Int.reduceAdd, Int.reduceSub, Int.reduceMul, Tryz.f7, rCount]
    (repeat' (first | (apply And.intro) | (intro _) | (show staB _ _ = true; kernel_rfl) | (show dynB _ _ = true; kernel_rfl) | (show dynP _ _ _ = true; kernel_rfl)))
    all_goals first
      | omega
      | (obtain ⟨k1, k2, k3⟩ := cnt_refu ‹_› hsz ‹_›
         exact ⟨i + 1, by omega, by omega, wr_i (by omega), wr_i (by omega), k1, k2, k3⟩)
      | (obtain ⟨k1, k2, k3⟩ := cnt_pass ‹_› hsz ‹_› ‹_›
         exact ⟨i + 1, by omega, by omega, wr_i (by omega), wr_i (by omega), k1, k2, k3⟩)
      | (obtain ⟨k1, k2, k3⟩ := cnt_fail ‹_› hsz ‹_› ‹_›
         exact ⟨i + 1, by omega, by omega, wr_i (by omega), wr_i (by omega), k1, k2, k3⟩)
      | (have e : i = xs.length := by omega
         subst e
         simp [tallyV, cntA]
         done)
      | fail

end Go.Proofs.YtdlbfilfkpflpaaGreatDoor.Sx

/-! Contract: a line of a report. -/
namespace Go.Proofs.YtdlbfilfkpflpaaGreatDoor.Sx
attribute [local irreducible] OkQ Ok
set_option linter.unusedSimpArgs false
set_option linter.unusedVariables false
set_option maxRecDepth 8000

def smallV (v : VD) : Prop := v.2.2.2.2.2.1.length ≤ 1048576 ∧ v.2.2.2.2.2.2.1.length ≤ 1048576
theorem okV_of {v : VD} (h : tV.wf v) : okV v := by
  obtain ⟨(h1 : IntKind.i64.has v.1), (h2 : IntKind.i8.has v.2.1), _, (h4 : IntKind.i64.has v.2.2.2.1), (h5 : IntKind.i8.has v.2.2.2.2.1), ⟨_, (h6 : ∀ x ∈ v.2.2.2.2.2.1, IntKind.i8.has x)⟩, ⟨_, (h7 : ∀ x ∈ v.2.2.2.2.2.2.1, IntKind.i64.has x)⟩, _⟩ := h
  exact ⟨fun x hx => by have := i8_in (h6 x hx); omega, fun x hx => i64_in (h7 x hx), i64_in h1, i8_in h2, i64_in h4, i8_in h5⟩
theorem okL_at {l : List Int} (h : okL l) (i : Nat) : -9223372036854775808 ≤ l.getD i 0 ∧ l.getD i 0 ≤ 9223372036854775807 := by
  rcases Nat.lt_or_ge i l.length with hi | hi
  · rw [List.getD_eq_getElem?_getD, List.getElem?_eq_getElem hi]
    exact h _ (List.getElem_mem _)
  · rw [List.getD_eq_getElem?_getD, List.getElem?_eq_none hi]
    simp

/-- A verdict's line ahead of its levels; ahead of its order. -/
def lineA (v : VD) : List UInt8 := headV v ++ ([58, 32, 108, 101, 118, 101, 108, 32] ++ (Lib.itoa v.2.2.2.2.1 ++ [44, 32, 108, 101, 118, 101, 108, 115]))
def lineB (v : VD) : List UInt8 := lineA v ++ (lvlsV v.2.2.2.2.2.1 ++ [44, 32, 111, 114, 100, 101, 114])
theorem lineA_len {v : VD} (h : okV v) : (lineA v).length ≤ 120 := by
  have h0 := headV_len h
  obtain ⟨_, _, _, _, _, a4⟩ := h
  have h2 := itoa_len (n := v.2.2.2.2.1) (by omega) (by omega)
  simp only [lineA, List.length_append, List.length_cons, List.length_nil]
  omega
theorem lineV_B {v : VD} (h : v.2.2.2.1 = 0) : lineV v = lineB v ++ (ordV v.2.2.2.2.2.2.1 ++ [10]) := by
  unfold lineV lineB lineA
  rw [if_neg (by simp [h])]
  simp only [List.append_assoc]
theorem lvls_next {l : List Int} {i : Nat} (h : i < l.length) : lvlsV (l.take (i + 1)) = lvlsV (l.take i) ++ lvl1 (l.getD i 0) := flat_take h
theorem ord_next {l : List Int} {i : Nat} (h : i < l.length) : ordV (l.take (i + 1)) = ordV (l.take i) ++ ord1 (l.getD i 0) := flat_take h
theorem lvls_len {l : List Int} (h : okL l) (i : Nat) : (lvlsV (l.take i)).length ≤ 21 * l.length := by
  have := flatI_len lvl1_len _ (h.take i)
  have h2 : (l.take i).length ≤ l.length := by simp; omega
  unfold lvlsV
  omega
theorem ord_len {l : List Int} (h : okL l) (i : Nat) : (ordV (l.take i)).length ≤ 21 * l.length := by
  have := flatI_len ord1_len _ (h.take i)
  have h2 : (l.take i).length ≤ l.length := by simp; omega
  unfold ordV
  omega

def jLine : Con := ⟨13, [(true, tV)], [(false, .str)], fun x => smallV x.1, fun x => (lineV x.1, ()), false⟩
set_option maxHeartbeats 2000000 in
theorem jLine_ok : jLine.Ok Tryz.prog := by
  refine con_q Tryz.func13 rfl (by decide) (fun x hx hp => run_ok (Cs := [strItoa, jBased]) (stp := []) (inl := []) (unr := false) (cons_ok strItoa_ok (cons_ok jBased_ok nil_ok)) 0 _ _ _ _ ?_) (by decide)
  obtain ⟨⟨(a : Int), (b : Int), (p : Bool), (c : Int), (l : Int), (ls : List Int), (os : List Int), ⟨⟩⟩, ⟨⟩⟩ := x
  have hok : okV (a, b, p, c, l, ls, os, ()) := okV_of hx.1
  have hok0 := hok
  obtain ⟨(k1 : okL ls), (k2 : okL os), (k3 : -9223372036854775808 ≤ a ∧ a ≤ 9223372036854775807), (k4 : -128 ≤ b ∧ b ≤ 127), (k5 : -9223372036854775808 ≤ c ∧ c ≤ 9223372036854775807), (k6 : -128 ≤ l ∧ l ≤ 127)⟩ := hok0
  obtain ⟨(hn1 : ls.length ≤ 1048576), (hn2 : os.length ≤ 1048576)⟩ := hp
  have i1 := itoa_len (wr_in (a + 1)).1 (wr_in (a + 1)).2
  have i2 := basV_len (b := b) (by omega) (by omega)
  have i3 := itoa_len k5.1 k5.2
  have i4 := itoa_len (n := l) (by omega) (by omega)
  have hw : wr .i64 l = l := wr_i64 (by omega) (by omega)
  clear hx
  by_cases hc : c = 0
  · have d1 : decide (c = 0) = true := decide_eq_true hc
    refine run_ok (Cs := [strItoa, jBased]) (stp := []) (inl := []) (unr := false) (cons_ok strItoa_ok (cons_ok jBased_ok nil_ok)) 400 _ _ _ _ ?_
    simp (maxSteps := 4000000) only [go_sem, reduceIte, reduceCtorEq, Int.reduceEq, Nat.reduceEqDiff, Nat.reduceBEq, Int.reduceLE, Int.reduceLT, Int.reduceNeg, Nat.reduceAdd, Nat.reduceSub, Nat.reduceMul, Nat.reduceLeDiff, Int.reduceToNat, Int.reduceAdd, Int.reduceSub, Int.reduceMul, Tryz.f13, jLine, d1, hw, strItoa, jBased]
    (repeat' (first | (apply And.intro) | (intro _) | (show staB _ _ = true; kernel_rfl) | (show dynB _ _ = true; kernel_rfl) | (show dynP _ _ _ = true; kernel_rfl)))
    all_goals try omega
    have j1 := lineA_len hok
    have j2 := lvls_len k1 ls.length
    rw [List.take_length] at j2
    have hlb : (lineB (a, b, p, c, l, ls, os, ())).length ≤ 30000000 := by
      unfold lineB
      simp only [List.length_append, List.length_cons, List.length_nil]
      omega
    refine OkQ.loop (α := Nat) [0, 2, 3, 4, 5, 6, 7, 8, 9, 10, 11, 12, 13, 14, 15, 16, 17, 18, 19, 20, 21, 22, 23, 24, 25, 26, 27, 28, 29, 30, 31, 32, 33, 34, 35, 36, 37, 40, 41, 42, 43, 44, 45, 46, 47, 48, 49, 50, 51, 52, 53, 54, 55, 56, 57, 58, 59, 60, 61, 62, 63, 64, 65, 66, 67, 68, 69, 70, 71] (fun i => [(3, .s (.str (lineA (a, b, p, c, l, ls, os, ()) ++ lvlsV (ls.take i)))), (40, .s (.int .i64 (i : Int)))]) (fun _ => []) (fun i => i ≤ ls.length) (fun i => ls.length - i) 0 (Nat.zero_le _) ?_ fun i hi => ?_
    · simp (maxSteps := 4000000) only [go_sem, reduceIte, reduceCtorEq, Int.reduceEq, Nat.reduceEqDiff, Nat.reduceBEq, Int.reduceLE, Int.reduceLT, Int.reduceNeg, Nat.reduceAdd, Nat.reduceSub, Nat.reduceMul, Nat.reduceLeDiff, Int.reduceToNat, Int.reduceAdd, Int.reduceSub, Int.reduceMul, strItoa, jBased]
      simp [lineA, headV, lvlsV]
    · have j3 := lvls_len k1 i
      have j4 := okL_at k1 i
      have j5 := itoa_len j4.1 j4.2
      have hw2 : wr .i64 (ls.getD i 0) = ls.getD i 0 := wr_i64 j4.1 j4.2
      have hstep : (i : Int) < (ls.length : Int) → lineA (a, b, p, c, l, ls, os, ()) ++ (lvlsV (ls.take i) ++ lvl1 (ls.getD i 0)) = lineA (a, b, p, c, l, ls, os, ()) ++ lvlsV (ls.take (i + 1)) := fun h => by rw [lvls_next (by omega)]
      generalize hA : lineA (a, b, p, c, l, ls, os, ()) = A at *
      refine run_ok (Cs := [strItoa, jBased]) (stp := []) (inl := []) (unr := false) (cons_ok strItoa_ok (cons_ok jBased_ok nil_ok)) 400 _ _ _ _ ?_
      simp (maxSteps := 4000000) only [go_sem, reduceIte, reduceCtorEq, Int.reduceEq, Nat.reduceEqDiff, Nat.reduceBEq, Int.reduceLE, Int.reduceLT, Int.reduceNeg, Nat.reduceAdd, Nat.reduceSub, Nat.reduceMul, Nat.reduceLeDiff, Int.reduceToNat, Int.reduceAdd, Int.reduceSub, Int.reduceMul, Tryz.f13, jLine, hw2, strItoa, jBased]
      (repeat' (first | (apply And.intro) | (intro _) | (show staB _ _ = true; kernel_rfl) | (show dynB _ _ = true; kernel_rfl) | (show dynP _ _ _ = true; kernel_rfl)))
      all_goals try omega
      · rename_i h1 h2
        refine ⟨i + 1, by omega, by omega, ?_, wr_i (by omega)⟩
        rw [← hstep h1, lvl1, if_pos h2, List.append_assoc]
      · rename_i h1 h2 _
        refine ⟨i + 1, by omega, by omega, ?_, wr_i (by omega)⟩
        rw [← hstep h1, lvl1, if_neg h2, List.append_assoc]
        rfl
      all_goals try (have e : i = ls.length := by omega
                     subst e
                     simp only [List.take_length]
                     omega)
      have e : i = ls.length := by omega
      subst e
      refine OkQ.loop (α := Nat) [0, 1, 2, 3, 4, 5, 6, 7, 8, 9, 10, 11, 12, 13, 14, 15, 16, 17, 18, 19, 20, 21, 22, 23, 24, 25, 26, 27, 28, 29, 30, 31, 32, 33, 34, 35, 36, 37, 38, 39, 40, 41, 42, 43, 44, 45, 46, 47, 48, 49, 50, 51, 52, 53, 54, 55, 56, 57, 60, 61, 62, 63, 64, 65, 66, 67, 68, 69, 70, 71] (fun i => [(3, .s (.str (lineB (a, b, p, c, l, ls, os, ()) ++ ordV (os.take i)))), (60, .s (.int .i64 (i : Int)))]) (fun _ => []) (fun i => i ≤ os.length) (fun i => os.length - i) 0 (Nat.zero_le _) ?_ fun i hi => ?_
      · simp (maxSteps := 4000000) only [go_sem, reduceIte, reduceCtorEq, Int.reduceEq, Nat.reduceEqDiff, Nat.reduceBEq, Int.reduceLE, Int.reduceLT, Int.reduceNeg, Nat.reduceAdd, Nat.reduceSub, Nat.reduceMul, Nat.reduceLeDiff, Int.reduceToNat, Int.reduceAdd, Int.reduceSub, Int.reduceMul, strItoa, jBased]
        rw [← hA]
        simp [lineB, ordV]
      · have j3 := ord_len k2 i
        have j4 := okL_at k2 i
        have j5 := itoa_len j4.1 j4.2
        have hstep : (i : Int) < (os.length : Int) → lineB (a, b, p, c, l, ls, os, ()) ++ (ordV (os.take i) ++ ord1 (os.getD i 0)) = lineB (a, b, p, c, l, ls, os, ()) ++ ordV (os.take (i + 1)) := fun h => by rw [ord_next (by omega)]
        have hend : lineV (a, b, p, c, l, ls, os, ()) = lineB (a, b, p, c, l, ls, os, ()) ++ (ordV os ++ [10]) := lineV_B hc
        generalize hB : lineB (a, b, p, c, l, ls, os, ()) = B at *
        refine run_ok (Cs := [strItoa, jBased]) (stp := []) (inl := []) (unr := false) (cons_ok strItoa_ok (cons_ok jBased_ok nil_ok)) 400 _ _ _ _ ?_
        simp (maxSteps := 4000000) only [go_sem, reduceIte, reduceCtorEq, Int.reduceEq, Nat.reduceEqDiff, Nat.reduceBEq, Int.reduceLE, Int.reduceLT, Int.reduceNeg, Nat.reduceAdd, Nat.reduceSub, Nat.reduceMul, Nat.reduceLeDiff, Int.reduceToNat, Int.reduceAdd, Int.reduceSub, Int.reduceMul, Tryz.f13, jLine, strItoa, jBased]
        (repeat' (first | (apply And.intro) | (intro _) | (show staB _ _ = true; kernel_rfl) | (show dynB _ _ = true; kernel_rfl) | (show dynP _ _ _ = true; kernel_rfl)))
        all_goals try omega
        · rename_i h1 _
          refine ⟨i + 1, by omega, by omega, ?_, wr_i (by omega)⟩
          rw [← hstep h1, ord1, List.append_assoc]
          rfl
        · have e : i = os.length := by omega
          subst e
          show _ = lineV (a, b, p, c, l, ls, os, ())
          rw [hend, List.take_length, List.append_assoc]
        all_goals fail
  · have d1 : decide (c = 0) = false := decide_eq_false hc
    refine run_ok (Cs := [strItoa, jBased]) (stp := []) (inl := []) (unr := false) (cons_ok strItoa_ok (cons_ok jBased_ok nil_ok)) 400 _ _ _ _ ?_
    simp (maxSteps := 4000000) only [go_sem, reduceIte, reduceCtorEq, Int.reduceEq, Nat.reduceEqDiff, Nat.reduceBEq, Int.reduceLE, Int.reduceLT, Int.reduceNeg, Nat.reduceAdd, Nat.reduceSub, Nat.reduceMul, Nat.reduceLeDiff, Int.reduceToNat, Int.reduceAdd, Int.reduceSub, Int.reduceMul, Tryz.f13, jLine, d1, strItoa, jBased]
    (repeat' (first | (apply And.intro) | (intro _) | (show staB _ _ = true; kernel_rfl) | (show dynB _ _ = true; kernel_rfl) | (show dynP _ _ _ = true; kernel_rfl)))
    all_goals first
      | omega
      | (simp [lineV, headV, hc]; done)
      | fail

end Go.Proofs.YtdlbfilfkpflpaaGreatDoor.Sx

/-! Contract: judge.Report. -/
namespace Go.Proofs.YtdlbfilfkpflpaaGreatDoor.Sx
attribute [local irreducible] OkQ Ok
set_option linter.unusedSimpArgs false
set_option linter.unusedVariables false
theorem bIJe15 : bodyI Tryz.prog 15 = bodyF Tryz.f15 := by kernel_rfl
theorem nEJe15 : isEsc Tryz.prog 15 = false := by kernel_rfl
theorem bIJe12 : bodyI Tryz.prog 12 = bodyF Tryz.f12 := by kernel_rfl
theorem nEJe12 : isEsc Tryz.prog 12 = false := by kernel_rfl
theorem bIJe22 : bodyI Tryz.prog 22 = bodyF Tryz.f22 := by kernel_rfl
theorem nEJe22 : isEsc Tryz.prog 22 = false := by kernel_rfl
set_option maxRecDepth 8000

theorem vEta (v : VD) : (v.1, v.2.1, v.2.2.1, v.2.2.2.1, v.2.2.2.2.1, v.2.2.2.2.2.1, v.2.2.2.2.2.2.1, ()) = v := rfl
theorem elB : elemI Tryz.prog 46 = none := by kernel_rfl
theorem elU : elemI Tryz.prog 77 = none := by kernel_rfl
theorem oneP : (Value.pointer none).oneCell' = true := rfl
theorem yToB : yTo Tryz.prog 46 77 = true := by kernel_rfl
theorem yToU : yTo Tryz.prog 77 46 = false := by kernel_rfl
theorem yFromU : yFrom Tryz.prog 77 46 49 2 = true := by kernel_rfl
theorem yEqB : yEq Tryz.prog 46 = true := by kernel_rfl
theorem yElB : yEl Tryz.prog 47 = some 5 := by kernel_rfl
theorem elTB : elT Tryz.prog 47 = some 5 := by kernel_rfl
theorem yRowB : yRow Tryz.prog 69 5 = true := by kernel_rfl
theorem escB : isEsc Tryz.prog 30 = true := by kernel_rfl

def okS (v : VD) : Prop := okV v ∧ smallV v
theorem okS_z : okS vZ := by
  refine ⟨⟨fun x hx => by simp [vZ] at hx, fun x hx => by simp [vZ] at hx, by simp [vZ], by simp [vZ], by simp [vZ], by simp [vZ]⟩, by simp [smallV, vZ]⟩
theorem okS_at {l : List VD} (h : ∀ v ∈ l, okS v) (i : Nat) : okS (l.getD i vZ) := by
  rcases Nat.lt_or_ge i l.length with hi | hi
  · rw [List.getD_eq_getElem?_getD, List.getElem?_eq_getElem hi]
    exact h _ (List.getElem_mem _)
  · rw [List.getD_eq_getElem?_getD, List.getElem?_eq_none hi]
    exact okS_z
theorem told_len {v : VD} (h : okS v) : (toldV v).length ≤ 50000000 := by
  have := lineV_len h.1
  obtain ⟨h1, h2⟩ := h.2
  unfold toldV
  split
  · simp
  · omega
theorem reps_len : ∀ (l : List VD), (∀ v ∈ l, okS v) → (repsV l).length ≤ 50000000 * l.length
  | [], _ => by simp [repsV]
  | v :: l, h => by
    have h1 := told_len (h v (List.mem_cons_self ..))
    have h2 := reps_len l fun w hw => h w (List.mem_cons_of_mem _ hw)
    simp only [repsV, List.flatMap_cons, List.length_append, List.length_cons] at h2 ⊢
    omega
theorem reps_next {l : List VD} {i : Nat} (h : (i : Int) < (l.length : Int)) : repsV (l.take (i + 1)) = repsV (l.take i) ++ toldV (l.getD i vZ) := flat_take (by omega)
theorem told_yes {v : VD} (h : ¬ (v.2.2.2.1 = 0 ∧ v.2.2.1 = true)) : toldV v = lineV v := by
  unfold toldV passB
  rw [if_neg (by simpa using h)]
theorem told_no {v : VD} (h : v.2.2.2.1 = 0) (h' : v.2.2.1 = true) : toldV v = [] := by
  unfold toldV passB
  rw [if_pos (by simp [h, h'])]

/-- What stands behind the lines, piece by piece. -/
abbrev ND := Int × List UInt8 × Unit
def pieces (l : List VD) : List ND := [(cntP l, [32, 111, 102, 32], ()), (cntA l, [32, 112, 97, 115, 115, 101, 100, 44, 32], ()), (cntF l, [32, 102, 97, 105, 108, 101, 100, 44, 32], ()), (cntR l, [32, 114, 101, 102, 117, 115, 101, 100, 10], ())]
def piece1 (p : ND) : List UInt8 := Lib.itoa p.1 ++ p.2.1
def footTo (l : List VD) (j : Nat) : List UInt8 := ((pieces l).take j).flatMap piece1
theorem footTo_all (l : List VD) : footTo l 4 = footV l := by simp [footTo, pieces, piece1, footV]

theorem itoa_ne (n : Int) : Lib.itoa n ≠ [] := by
  unfold Lib.itoa
  split
  · simp
  · intro h
    have := congrArg List.length h
    rw [Lib.decDigits_length] at this
    have := Lib.nDigits_pos n.toNat
    simp_all
theorem piecesE (l : List VD) : ([((tallyV l).2.1, [32, 111, 102, 32], ()), ((tallyV l).1, [32, 112, 97, 115, 115, 101, 100, 44, 32], ()), ((tallyV l).2.2.1, [32, 102, 97, 105, 108, 101, 100, 44, 32], ()), ((tallyV l).2.2.2.1, [32, 114, 101, 102, 117, 115, 101, 100, 10], ())] : List ND) = pieces l := rfl
theorem piecesLen (l : List VD) : (pieces l).length = 4 := rfl
theorem foot_next (l : List VD) {j : Nat} (h : j < 4) : footTo l (j + 1) = footTo l j ++ piece1 ((pieces l).getD j (0, [], ())) := flat_take h
theorem cnt_in (f : VD → Bool) {l : List VD} (h : l.length ≤ 2000) : -9223372036854775808 ≤ ((l.countP f : Nat) : Int) ∧ ((l.countP f : Nat) : Int) ≤ 9223372036854775807 := by
  have := List.countP_le_length (p := f) (l := l)
  omega
theorem piece_len {l : List VD} (h : l.length ≤ 2000) (j : Nat) : (Lib.itoa ((pieces l).getD j (0, [], ())).1).length ≤ 20 ∧ ((pieces l).getD j (0, [], ())).2.1.length ≤ 20 := by
  match j with
  | 0 => exact ⟨itoa_len (cnt_in passB h).1 (cnt_in passB h).2, by simp [pieces]⟩
  | 1 => exact ⟨itoa_len (n := (l.length : Int)) (by omega) (by omega), by simp [pieces]⟩
  | 2 => exact ⟨itoa_len (cnt_in failB h).1 (cnt_in failB h).2, by simp [pieces]⟩
  | 3 => exact ⟨itoa_len (cnt_in refuB h).1 (cnt_in refuB h).2, by simp [pieces]⟩
  | j + 4 => exact ⟨by simp only [pieces, List.getD_eq_getElem?_getD]; exact itoa_len (n := 0) (by omega) (by omega), by simp [pieces]⟩
theorem foot_len {l : List VD} (h : l.length ≤ 2000) : ∀ j, (footTo l j).length ≤ 40 * j
  | 0 => by simp [footTo]
  | j + 1 => by
    have ih := foot_len h j
    rcases Nat.lt_or_ge j 4 with hj | hj
    · have := piece_len h j
      rw [foot_next l hj, List.length_append, piece1, List.length_append]
      omega
    · have e : footTo l (j + 1) = footTo l j := by
        unfold footTo
        rw [List.take_of_length_le (by rw [piecesLen]; omega), List.take_of_length_le (by rw [piecesLen]; omega)]
      rw [e]
      omega
theorem rep_foot (l : List VD) : repsV l ++ footTo l 4 = repV l := by rw [footTo_all]; rfl
theorem foot4_ne (l : List VD) : repsV l ++ footTo l 4 ≠ [] := by
  rw [footTo_all, footV]
  simp [itoa_ne]
theorem line_le {v : VD} (h : okS v) : (lineV v).length ≤ 50000000 := by
  have := lineV_len h.1
  obtain ⟨h1, h2⟩ := h.2
  omega

noncomputable def jReport : Con := ⟨8, [(false, tVs)], [(false, .str)], fun x => (x.1 : List VD).length ≤ 2000 ∧ ∀ v ∈ (x.1 : List VD), okS v, fun x => (repV x.1, ()), false⟩
set_option maxHeartbeats 4000000 in
theorem jReport_ok : jReport.Ok Tryz.prog := by
  refine con_q Tryz.func8 rfl (by decide) (fun x hx hp => run_ok (Cs := [strItoa, jLine, jCount]) (stp := [12]) (inl := [12, 22, 15]) (unr := false) (cons_ok strItoa_ok (cons_ok jLine_ok (cons_ok jCount_ok nil_ok))) 400 _ _ _ _ ?_) (by decide)
  obtain ⟨(xs : List VD), ⟨⟩⟩ := x
  have hn : xs.length ≤ 2000 := hp.1
  have hs : ∀ v ∈ xs, okS v := hp.2
  clear hx hp
  simp (maxSteps := 4000000) only [go_sem, reduceIte, reduceCtorEq, Int.reduceEq, Nat.reduceEqDiff, Nat.reduceBEq, Int.reduceLE, Int.reduceLT, Int.reduceNeg, Nat.reduceAdd, Nat.reduceSub, Nat.reduceMul, Nat.reduceLeDiff, Int.reduceToNat, Int.reduceAdd, Int.reduceSub, Int.reduceMul, Tryz.f8, jReport, oneP, strItoa, jLine, jCount]
  (repeat' (first | (apply And.intro) | (intro _) | (show staB _ _ = true; kernel_rfl) | (show dynB _ _ = true; kernel_rfl) | (show dynP _ _ _ = true; kernel_rfl)))
  refine OkQ.reset [] [] [] 2 ?_ ?_
  · simp (maxSteps := 4000000) only [go_sem, reduceIte, reduceCtorEq, Int.reduceEq, Nat.reduceEqDiff, Nat.reduceBEq, Int.reduceLE, Int.reduceLT, Int.reduceNeg, Nat.reduceAdd, Nat.reduceSub, Nat.reduceMul, Nat.reduceLeDiff, Int.reduceToNat, Int.reduceAdd, Int.reduceSub, Int.reduceMul, strItoa, jLine, jCount]
  refine OkQ.loopK (α := Nat) [1, 2, 4, 5, 6, 7, 8, 11, 12, 13, 14, 15, 16, 17, 18, 19, 20, 21, 22, 23, 24, 25, 26, 27, 28, 29, 30, 31, 32, 33, 34, 35, 36, 37, 38, 39, 40, 41, 42, 43, 44, 45, 46, 47, 48, 49, 50, 51, 52, 53, 54, 55] (fun i => [(11, .s (.int .i64 (i : Int)))]) (fun i => bldH 49 5 (repsV (xs.take i))) (fun i => i ≤ xs.length) (fun i => xs.length - i) 0 (Nat.zero_le _) ?_ fun i hi => ?_
  · rw [bldH_nil (by simp [repsV])]
    simp (maxSteps := 4000000) only [go_sem, reduceIte, reduceCtorEq, Int.reduceEq, Nat.reduceEqDiff, Nat.reduceBEq, Int.reduceLE, Int.reduceLT, Int.reduceNeg, Nat.reduceAdd, Nat.reduceSub, Nat.reduceMul, Nat.reduceLeDiff, Int.reduceToNat, Int.reduceAdd, Int.reduceSub, Int.reduceMul, strItoa, jLine, jCount]
    rfl
  · have hl := reps_len (xs.take i) fun v hv => hs v (List.mem_of_mem_take hv)
    have hv := okS_at hs i
    have hll := line_le hv
    have hne := lineV_ne (xs.getD i vZ)
    have htl : (xs.take i).length ≤ 2000 := by simp; omega
    have hle : (repsV (xs.take i)).length ≤ 100000000000 := by omega
    have hyes : (i : Int) < (xs.length : Int) → (¬ (xs.getD i vZ).2.2.2.1 = 0 ∨ (xs.getD i vZ).2.2.1 = false) → repsV (xs.take (i + 1)) = repsV (xs.take i) ++ lineV (xs.getD i vZ) := fun h1 h2 => by
      rw [reps_next h1, told_yes]
      rintro ⟨h3, h4⟩
      rcases h2 with h2 | h2
      · exact h2 h3
      · rw [h4] at h2; cases h2
    have hno : (i : Int) < (xs.length : Int) → ((xs.getD i vZ).2.2.2.1 = 0 ∧ (xs.getD i vZ).2.2.1 = true) → repsV (xs.take (i + 1)) = repsV (xs.take i) := fun h1 h2 => by
      rw [reps_next h1, told_no h2.1 h2.2, List.append_nil]
    clear hl htl
    by_cases hB : repsV (xs.take i) = []
    · rw [bldH_nil hB]
      refine run_ok (Cs := [strItoa, jLine, jCount]) (stp := [12]) (inl := [12, 22, 15]) (unr := false) (cons_ok strItoa_ok (cons_ok jLine_ok (cons_ok jCount_ok nil_ok))) 400 _ _ _ _ ?_
      simp (maxSteps := 4000000) only [go_sem, reduceIte, reduceCtorEq, Int.reduceEq, Nat.reduceEqDiff, Nat.reduceBEq, Int.reduceLE, Int.reduceLT, Int.reduceNeg, Nat.reduceAdd, Nat.reduceSub, Nat.reduceMul, Nat.reduceLeDiff, Int.reduceToNat, Int.reduceAdd, Int.reduceSub, Int.reduceMul, jReport, Tryz.f8, Option.isNone_none, Option.isNone_some, vEta, elB, elU, oneP, yToB, yToU, yFromU, yEqB, yElB, elTB, yRowB, escB, piecesE, piecesLen, bIJe12, nEJe12, Tryz.f12, bIJe22, nEJe22, Tryz.f22, bIJe15, nEJe15, Tryz.f15, strItoa, jLine, jCount]
      (repeat' (first | (apply And.intro) | (intro _) | (show staB _ _ = true; kernel_rfl) | (show dynB _ _ = true; kernel_rfl) | (show dynP _ _ _ = true; kernel_rfl)))
      all_goals first
        | omega
        | exact hv.2.1
        | exact hv.2.2
        | (rename_i h
           exact hne h)
        | exact Nat.le_trans hll (by decide)
        | skip
      · rename_i h1 h2 _
        refine backK.mk (i + 1) (by omega) (by omega) ?_
        rw [hyes h1 h2, hB, List.nil_append, bldH_ne hne]
        simp (maxSteps := 4000000) only [go_sem, reduceIte, reduceCtorEq, Int.reduceEq, Nat.reduceEqDiff, Nat.reduceBEq, Int.reduceLE, Int.reduceLT, Int.reduceNeg, Nat.reduceAdd, Nat.reduceSub, Nat.reduceMul, Nat.reduceLeDiff, Int.reduceToNat, Int.reduceAdd, Int.reduceSub, Int.reduceMul, strItoa, jLine, jCount]
        exact ⟨wr_i (by omega), rfl, rfl⟩
      · rename_i h1 h2
        refine backK.mk (i + 1) (by omega) (by omega) ?_
        rw [hno h1 h2, bldH_nil hB]
        simp (maxSteps := 4000000) only [go_sem, reduceIte, reduceCtorEq, Int.reduceEq, Nat.reduceEqDiff, Nat.reduceBEq, Int.reduceLE, Int.reduceLT, Int.reduceNeg, Nat.reduceAdd, Nat.reduceSub, Nat.reduceMul, Nat.reduceLeDiff, Int.reduceToNat, Int.reduceAdd, Int.reduceSub, Int.reduceMul, strItoa, jLine, jCount]
        exact wr_i (by omega)
      have e : i = xs.length := by omega
      subst e
      rw [List.take_length] at hB hle
      refine OkQ.loopK (α := Nat) [0, 1, 2, 4, 5, 6, 7, 8, 9, 10, 11, 12, 13, 14, 15, 16, 17, 18, 19, 20, 21, 22, 23, 24, 25, 26, 27, 28, 29, 30, 31, 32, 33, 34, 35, 36, 37, 38, 39, 40, 43, 44, 45, 46, 47, 48, 49, 50, 51, 52, 53, 54, 55] (fun j => [(43, .s (.int .i64 (j : Int)))]) (fun j => bldH 49 5 (repsV xs ++ footTo xs j)) (fun j => j ≤ 4) (fun j => 4 - j) 0 (Nat.zero_le _) ?_ fun j hj => ?_
      · rw [bldH_nil (by rw [hB]; simp [footTo])]
        simp (maxSteps := 4000000) only [go_sem, reduceIte, reduceCtorEq, Int.reduceEq, Nat.reduceEqDiff, Nat.reduceBEq, Int.reduceLE, Int.reduceLT, Int.reduceNeg, Nat.reduceAdd, Nat.reduceSub, Nat.reduceMul, Nat.reduceLeDiff, Int.reduceToNat, Int.reduceAdd, Int.reduceSub, Int.reduceMul, strItoa, jLine, jCount]
        try rfl
      · have hpl := piece_len hn j
        have hfl := foot_len hn j
        have hnext : (j : Int) < ((4 : Nat) : Int) → repsV xs ++ footTo xs (j + 1) = (repsV xs ++ footTo xs j) ++ (Lib.itoa ((pieces xs).getD j (0, [], ())).1 ++ ((pieces xs).getD j (0, [], ())).2.1) := fun h => by
          rw [foot_next xs (by omega), ← List.append_assoc]
          rfl
        have hPl : (repsV xs ++ footTo xs j).length ≤ 100000001000 := by
          rw [List.length_append]
          omega
        have hend : ¬ (j : Int) < ((4 : Nat) : Int) → repsV xs ++ footTo xs j = repV xs ∧ repsV xs ++ footTo xs j ≠ [] := fun h => by
          have e : j = 4 := by omega
          subst e
          exact ⟨rep_foot xs, foot4_ne xs⟩
        have hpne : Lib.itoa ((pieces xs).getD j (0, [], ())).1 ++ ((pieces xs).getD j (0, [], ())).2.1 ≠ [] := by simp [itoa_ne]
        clear hfl hyes hno hne hll hv
        by_cases hC : repsV xs ++ footTo xs j = []
        · rw [bldH_nil hC]
          refine run_ok (Cs := [strItoa, jLine, jCount]) (stp := [12]) (inl := [12, 22, 15]) (unr := false) (cons_ok strItoa_ok (cons_ok jLine_ok (cons_ok jCount_ok nil_ok))) 400 _ _ _ _ ?_
          simp (maxSteps := 4000000) only [go_sem, reduceIte, reduceCtorEq, Int.reduceEq, Nat.reduceEqDiff, Nat.reduceBEq, Int.reduceLE, Int.reduceLT, Int.reduceNeg, Nat.reduceAdd, Nat.reduceSub, Nat.reduceMul, Nat.reduceLeDiff, Int.reduceToNat, Int.reduceAdd, Int.reduceSub, Int.reduceMul, jReport, Tryz.f8, Option.isNone_none, Option.isNone_some, vEta, elB, elU, oneP, yToB, yToU, yFromU, yEqB, yElB, elTB, yRowB, escB, piecesE, piecesLen, bIJe12, nEJe12, Tryz.f12, bIJe22, nEJe22, Tryz.f22, bIJe15, nEJe15, Tryz.f15, strItoa, jLine, jCount]
          (repeat' (first | (apply And.intro) | (intro _) | (show staB _ _ = true; kernel_rfl) | (show dynB _ _ = true; kernel_rfl) | (show dynP _ _ _ = true; kernel_rfl)))
          all_goals try omega
          · rename_i h1
            have hnx := hnext h1
            rw [hC, List.nil_append] at hnx
            generalize (pieces xs).getD j (0, [], ()) = p at *
            refine OkQ.tail (Cs := [strItoa, jLine, jCount]) (cons_ok strItoa_ok (cons_ok jLine_ok (cons_ok jCount_ok nil_ok))) (by kernel_rfl) (by kernel_rfl) ?_
            simp (maxSteps := 4000000) only [go_sem, reduceIte, reduceCtorEq, Int.reduceEq, Nat.reduceEqDiff, Nat.reduceBEq, Int.reduceLE, Int.reduceLT, Int.reduceNeg, Nat.reduceAdd, Nat.reduceSub, Nat.reduceMul, Nat.reduceLeDiff, Int.reduceToNat, Int.reduceAdd, Int.reduceSub, Int.reduceMul, jReport, List.dropLast, List.size_toArray, Tryz.f8, Option.isNone_none, Option.isNone_some, vEta, elB, elU, oneP, yToB, yToU, yFromU, yEqB, yElB, elTB, yRowB, escB, piecesE, piecesLen, bIJe12, nEJe12, Tryz.f12, bIJe22, nEJe22, Tryz.f22, bIJe15, nEJe15, Tryz.f15, strItoa, jLine, jCount]
            (repeat' (first | (apply And.intro) | (intro _) | (show staB _ _ = true; kernel_rfl) | (show dynB _ _ = true; kernel_rfl) | (show dynP _ _ _ = true; kernel_rfl)))
            all_goals try omega
            all_goals try (simp only [List.length_append]; omega)
            refine run_ok (Cs := [strItoa, jLine, jCount]) (stp := [12]) (inl := [12, 22, 15]) (unr := false) (cons_ok strItoa_ok (cons_ok jLine_ok (cons_ok jCount_ok nil_ok))) 400 _ _ _ _ ?_
            simp (maxSteps := 4000000) only [go_sem, reduceIte, reduceCtorEq, Int.reduceEq, Nat.reduceEqDiff, Nat.reduceBEq, Int.reduceLE, Int.reduceLT, Int.reduceNeg, Nat.reduceAdd, Nat.reduceSub, Nat.reduceMul, Nat.reduceLeDiff, Int.reduceToNat, Int.reduceAdd, Int.reduceSub, Int.reduceMul, jReport, Tryz.f8, Option.isNone_none, Option.isNone_some, vEta, elB, elU, oneP, yToB, yToU, yFromU, yEqB, yElB, elTB, yRowB, escB, piecesE, piecesLen, bIJe12, nEJe12, Tryz.f12, bIJe22, nEJe22, Tryz.f22, bIJe15, nEJe15, Tryz.f15, strItoa, jLine, jCount]
            (repeat' (first | (apply And.intro) | (intro _) | (show staB _ _ = true; kernel_rfl) | (show dynB _ _ = true; kernel_rfl) | (show dynP _ _ _ = true; kernel_rfl)))
            all_goals try omega
            all_goals try (simp only [List.length_append]; omega)
            all_goals try (rename_i h; exact hpne h)
            all_goals try contradiction
            refine backK.mk (j + 1) (by omega) (by omega) ?_
            rw [hnx, bldH_ne hpne]
            simp (maxSteps := 4000000) only [go_sem, reduceIte, reduceCtorEq, Int.reduceEq, Nat.reduceEqDiff, Nat.reduceBEq, Int.reduceLE, Int.reduceLT, Int.reduceNeg, Nat.reduceAdd, Nat.reduceSub, Nat.reduceMul, Nat.reduceLeDiff, Int.reduceToNat, Int.reduceAdd, Int.reduceSub, Int.reduceMul, strItoa, jLine, jCount]
            first | exact wr_i (by omega) | exact ⟨wr_i (by omega), by simp, by simp⟩
          · exact absurd hC (hend ‹_›).2
        · rw [bldH_ne hC]
          generalize hP : repsV xs ++ footTo xs j = B at *
          refine run_ok (Cs := [strItoa, jLine, jCount]) (stp := [12]) (inl := [12, 22, 15]) (unr := false) (cons_ok strItoa_ok (cons_ok jLine_ok (cons_ok jCount_ok nil_ok))) 400 _ _ _ _ ?_
          simp (maxSteps := 4000000) only [go_sem, reduceIte, reduceCtorEq, Int.reduceEq, Nat.reduceEqDiff, Nat.reduceBEq, Int.reduceLE, Int.reduceLT, Int.reduceNeg, Nat.reduceAdd, Nat.reduceSub, Nat.reduceMul, Nat.reduceLeDiff, Int.reduceToNat, Int.reduceAdd, Int.reduceSub, Int.reduceMul, jReport, Tryz.f8, Option.isNone_none, Option.isNone_some, vEta, elB, elU, oneP, yToB, yToU, yFromU, yEqB, yElB, elTB, yRowB, escB, piecesE, piecesLen, bIJe12, nEJe12, Tryz.f12, bIJe22, nEJe22, Tryz.f22, bIJe15, nEJe15, Tryz.f15, strItoa, jLine, jCount]
          (repeat' (first | (apply And.intro) | (intro _) | (show staB _ _ = true; kernel_rfl) | (show dynB _ _ = true; kernel_rfl) | (show dynP _ _ _ = true; kernel_rfl)))
          all_goals try omega
          · rename_i h1
            have hnx := hnext h1
            generalize (pieces xs).getD j (0, [], ()) = p at *
            refine OkQ.tail (Cs := [strItoa, jLine, jCount]) (cons_ok strItoa_ok (cons_ok jLine_ok (cons_ok jCount_ok nil_ok))) (by kernel_rfl) (by kernel_rfl) ?_
            simp (maxSteps := 4000000) only [go_sem, reduceIte, reduceCtorEq, Int.reduceEq, Nat.reduceEqDiff, Nat.reduceBEq, Int.reduceLE, Int.reduceLT, Int.reduceNeg, Nat.reduceAdd, Nat.reduceSub, Nat.reduceMul, Nat.reduceLeDiff, Int.reduceToNat, Int.reduceAdd, Int.reduceSub, Int.reduceMul, jReport, List.dropLast, List.size_toArray, Tryz.f8, Option.isNone_none, Option.isNone_some, vEta, elB, elU, oneP, yToB, yToU, yFromU, yEqB, yElB, elTB, yRowB, escB, piecesE, piecesLen, bIJe12, nEJe12, Tryz.f12, bIJe22, nEJe22, Tryz.f22, bIJe15, nEJe15, Tryz.f15, strItoa, jLine, jCount]
            (repeat' (first | (apply And.intro) | (intro _) | (show staB _ _ = true; kernel_rfl) | (show dynB _ _ = true; kernel_rfl) | (show dynP _ _ _ = true; kernel_rfl)))
            all_goals try omega
            all_goals try (simp only [List.length_append]; omega)
            refine run_ok (Cs := [strItoa, jLine, jCount]) (stp := [12]) (inl := [12, 22, 15]) (unr := false) (cons_ok strItoa_ok (cons_ok jLine_ok (cons_ok jCount_ok nil_ok))) 400 _ _ _ _ ?_
            simp (maxSteps := 4000000) only [go_sem, reduceIte, reduceCtorEq, Int.reduceEq, Nat.reduceEqDiff, Nat.reduceBEq, Int.reduceLE, Int.reduceLT, Int.reduceNeg, Nat.reduceAdd, Nat.reduceSub, Nat.reduceMul, Nat.reduceLeDiff, Int.reduceToNat, Int.reduceAdd, Int.reduceSub, Int.reduceMul, jReport, Tryz.f8, Option.isNone_none, Option.isNone_some, vEta, elB, elU, oneP, yToB, yToU, yFromU, yEqB, yElB, elTB, yRowB, escB, piecesE, piecesLen, bIJe12, nEJe12, Tryz.f12, bIJe22, nEJe22, Tryz.f22, bIJe15, nEJe15, Tryz.f15, strItoa, jLine, jCount]
            (repeat' (first | (apply And.intro) | (intro _) | (show staB _ _ = true; kernel_rfl) | (show dynB _ _ = true; kernel_rfl) | (show dynP _ _ _ = true; kernel_rfl)))
            all_goals try omega
            all_goals try (simp only [List.length_append]; omega)
            all_goals try (rename_i h; exact hpne h)
            all_goals try contradiction
            refine backK.mk (j + 1) (by omega) (by omega) ?_
            rw [hnx, bldH_ne (by simp [hC])]
            simp (maxSteps := 4000000) only [go_sem, reduceIte, reduceCtorEq, Int.reduceEq, Nat.reduceEqDiff, Nat.reduceBEq, Int.reduceLE, Int.reduceLT, Int.reduceNeg, Nat.reduceAdd, Nat.reduceSub, Nat.reduceMul, Nat.reduceLeDiff, Int.reduceToNat, Int.reduceAdd, Int.reduceSub, Int.reduceMul, strItoa, jLine, jCount]
            first | exact wr_i (by omega) | exact ⟨wr_i (by omega), by simp, by simp⟩
          all_goals first
            | exact List.length_pos_iff.2 hC
            | exact (hend ‹_›).1
            | fail
    · rw [bldH_ne hB]
      refine run_ok (Cs := [strItoa, jLine, jCount]) (stp := [12]) (inl := [12, 22, 15]) (unr := false) (cons_ok strItoa_ok (cons_ok jLine_ok (cons_ok jCount_ok nil_ok))) 400 _ _ _ _ ?_
      simp (maxSteps := 4000000) only [go_sem, reduceIte, reduceCtorEq, Int.reduceEq, Nat.reduceEqDiff, Nat.reduceBEq, Int.reduceLE, Int.reduceLT, Int.reduceNeg, Nat.reduceAdd, Nat.reduceSub, Nat.reduceMul, Nat.reduceLeDiff, Int.reduceToNat, Int.reduceAdd, Int.reduceSub, Int.reduceMul, jReport, Tryz.f8, Option.isNone_none, Option.isNone_some, vEta, elB, elU, oneP, yToB, yToU, yFromU, yEqB, yElB, elTB, yRowB, escB, piecesE, piecesLen, bIJe12, nEJe12, Tryz.f12, bIJe22, nEJe22, Tryz.f22, bIJe15, nEJe15, Tryz.f15, strItoa, jLine, jCount]
      (repeat' (first | (apply And.intro) | (intro _) | (show staB _ _ = true; kernel_rfl) | (show dynB _ _ = true; kernel_rfl) | (show dynP _ _ _ = true; kernel_rfl)))
      all_goals first
        | omega
        | exact hv.2.1
        | exact hv.2.2
        | (rename_i h
           exact hne h)
        | exact Nat.le_trans hll (by decide)
        | (refine Nat.le_trans (Nat.add_le_add hle hll) (by decide))
        | skip
      · rename_i h1 h2 _
        refine backK.mk (i + 1) (by omega) (by omega) ?_
        rw [hyes h1 h2, bldH_ne (by simp [hB])]
        simp (maxSteps := 4000000) only [go_sem, reduceIte, reduceCtorEq, Int.reduceEq, Nat.reduceEqDiff, Nat.reduceBEq, Int.reduceLE, Int.reduceLT, Int.reduceNeg, Nat.reduceAdd, Nat.reduceSub, Nat.reduceMul, Nat.reduceLeDiff, Int.reduceToNat, Int.reduceAdd, Int.reduceSub, Int.reduceMul, strItoa, jLine, jCount]
        exact ⟨wr_i (by omega), by simp [vZ], rfl⟩
      · rename_i h1 h2
        refine backK.mk (i + 1) (by omega) (by omega) ?_
        rw [hno h1 h2, bldH_ne hB]
        simp (maxSteps := 4000000) only [go_sem, reduceIte, reduceCtorEq, Int.reduceEq, Nat.reduceEqDiff, Nat.reduceBEq, Int.reduceLE, Int.reduceLT, Int.reduceNeg, Nat.reduceAdd, Nat.reduceSub, Nat.reduceMul, Nat.reduceLeDiff, Int.reduceToNat, Int.reduceAdd, Int.reduceSub, Int.reduceMul, strItoa, jLine, jCount]
        exact wr_i (by omega)
      have e : i = xs.length := by omega
      subst e
      rw [List.take_length] at hB hle
      refine OkQ.loopK (α := Nat) [0, 1, 2, 4, 5, 6, 7, 8, 9, 10, 11, 12, 13, 14, 15, 16, 17, 18, 19, 20, 21, 22, 23, 24, 25, 26, 27, 28, 29, 30, 31, 32, 33, 34, 35, 36, 37, 38, 39, 40, 43, 44, 45, 46, 47, 48, 49, 50, 51, 52, 53, 54, 55] (fun j => [(43, .s (.int .i64 (j : Int)))]) (fun j => bldH 49 5 (repsV xs ++ footTo xs j)) (fun j => j ≤ 4) (fun j => 4 - j) 0 (Nat.zero_le _) ?_ fun j hj => ?_
      · rw [bldH_ne (by simp [footTo, hB])]
        simp (maxSteps := 4000000) only [go_sem, reduceIte, reduceCtorEq, Int.reduceEq, Nat.reduceEqDiff, Nat.reduceBEq, Int.reduceLE, Int.reduceLT, Int.reduceNeg, Nat.reduceAdd, Nat.reduceSub, Nat.reduceMul, Nat.reduceLeDiff, Int.reduceToNat, Int.reduceAdd, Int.reduceSub, Int.reduceMul, strItoa, jLine, jCount]
        simp [footTo]
      · have hpl := piece_len hn j
        have hfl := foot_len hn j
        have hnext : (j : Int) < ((4 : Nat) : Int) → repsV xs ++ footTo xs (j + 1) = (repsV xs ++ footTo xs j) ++ (Lib.itoa ((pieces xs).getD j (0, [], ())).1 ++ ((pieces xs).getD j (0, [], ())).2.1) := fun h => by
          rw [foot_next xs (by omega), ← List.append_assoc]
          rfl
        have hPl : (repsV xs ++ footTo xs j).length ≤ 100000001000 := by
          rw [List.length_append]
          omega
        have hend : ¬ (j : Int) < ((4 : Nat) : Int) → repsV xs ++ footTo xs j = repV xs ∧ repsV xs ++ footTo xs j ≠ [] := fun h => by
          have e : j = 4 := by omega
          subst e
          exact ⟨rep_foot xs, foot4_ne xs⟩
        have hpne : Lib.itoa ((pieces xs).getD j (0, [], ())).1 ++ ((pieces xs).getD j (0, [], ())).2.1 ≠ [] := by simp [itoa_ne]
        clear hfl hyes hno hne hll hv
        by_cases hC : repsV xs ++ footTo xs j = []
        · rw [bldH_nil hC]
          refine run_ok (Cs := [strItoa, jLine, jCount]) (stp := [12]) (inl := [12, 22, 15]) (unr := false) (cons_ok strItoa_ok (cons_ok jLine_ok (cons_ok jCount_ok nil_ok))) 400 _ _ _ _ ?_
          simp (maxSteps := 4000000) only [go_sem, reduceIte, reduceCtorEq, Int.reduceEq, Nat.reduceEqDiff, Nat.reduceBEq, Int.reduceLE, Int.reduceLT, Int.reduceNeg, Nat.reduceAdd, Nat.reduceSub, Nat.reduceMul, Nat.reduceLeDiff, Int.reduceToNat, Int.reduceAdd, Int.reduceSub, Int.reduceMul, jReport, Tryz.f8, Option.isNone_none, Option.isNone_some, vEta, elB, elU, oneP, yToB, yToU, yFromU, yEqB, yElB, elTB, yRowB, escB, piecesE, piecesLen, bIJe12, nEJe12, Tryz.f12, bIJe22, nEJe22, Tryz.f22, bIJe15, nEJe15, Tryz.f15, strItoa, jLine, jCount]
          (repeat' (first | (apply And.intro) | (intro _) | (show staB _ _ = true; kernel_rfl) | (show dynB _ _ = true; kernel_rfl) | (show dynP _ _ _ = true; kernel_rfl)))
          all_goals try omega
          · rename_i h1
            have hnx := hnext h1
            rw [hC, List.nil_append] at hnx
            generalize (pieces xs).getD j (0, [], ()) = p at *
            refine OkQ.tail (Cs := [strItoa, jLine, jCount]) (cons_ok strItoa_ok (cons_ok jLine_ok (cons_ok jCount_ok nil_ok))) (by kernel_rfl) (by kernel_rfl) ?_
            simp (maxSteps := 4000000) only [go_sem, reduceIte, reduceCtorEq, Int.reduceEq, Nat.reduceEqDiff, Nat.reduceBEq, Int.reduceLE, Int.reduceLT, Int.reduceNeg, Nat.reduceAdd, Nat.reduceSub, Nat.reduceMul, Nat.reduceLeDiff, Int.reduceToNat, Int.reduceAdd, Int.reduceSub, Int.reduceMul, jReport, List.dropLast, List.size_toArray, Tryz.f8, Option.isNone_none, Option.isNone_some, vEta, elB, elU, oneP, yToB, yToU, yFromU, yEqB, yElB, elTB, yRowB, escB, piecesE, piecesLen, bIJe12, nEJe12, Tryz.f12, bIJe22, nEJe22, Tryz.f22, bIJe15, nEJe15, Tryz.f15, strItoa, jLine, jCount]
            (repeat' (first | (apply And.intro) | (intro _) | (show staB _ _ = true; kernel_rfl) | (show dynB _ _ = true; kernel_rfl) | (show dynP _ _ _ = true; kernel_rfl)))
            all_goals try omega
            all_goals try (simp only [List.length_append]; omega)
            refine run_ok (Cs := [strItoa, jLine, jCount]) (stp := [12]) (inl := [12, 22, 15]) (unr := false) (cons_ok strItoa_ok (cons_ok jLine_ok (cons_ok jCount_ok nil_ok))) 400 _ _ _ _ ?_
            simp (maxSteps := 4000000) only [go_sem, reduceIte, reduceCtorEq, Int.reduceEq, Nat.reduceEqDiff, Nat.reduceBEq, Int.reduceLE, Int.reduceLT, Int.reduceNeg, Nat.reduceAdd, Nat.reduceSub, Nat.reduceMul, Nat.reduceLeDiff, Int.reduceToNat, Int.reduceAdd, Int.reduceSub, Int.reduceMul, jReport, Tryz.f8, Option.isNone_none, Option.isNone_some, vEta, elB, elU, oneP, yToB, yToU, yFromU, yEqB, yElB, elTB, yRowB, escB, piecesE, piecesLen, bIJe12, nEJe12, Tryz.f12, bIJe22, nEJe22, Tryz.f22, bIJe15, nEJe15, Tryz.f15, strItoa, jLine, jCount]
            (repeat' (first | (apply And.intro) | (intro _) | (show staB _ _ = true; kernel_rfl) | (show dynB _ _ = true; kernel_rfl) | (show dynP _ _ _ = true; kernel_rfl)))
            all_goals try omega
            all_goals try (simp only [List.length_append]; omega)
            all_goals try (rename_i h; exact hpne h)
            all_goals try contradiction
            refine backK.mk (j + 1) (by omega) (by omega) ?_
            rw [hnx, bldH_ne hpne]
            simp (maxSteps := 4000000) only [go_sem, reduceIte, reduceCtorEq, Int.reduceEq, Nat.reduceEqDiff, Nat.reduceBEq, Int.reduceLE, Int.reduceLT, Int.reduceNeg, Nat.reduceAdd, Nat.reduceSub, Nat.reduceMul, Nat.reduceLeDiff, Int.reduceToNat, Int.reduceAdd, Int.reduceSub, Int.reduceMul, strItoa, jLine, jCount]
            first | exact wr_i (by omega) | exact ⟨wr_i (by omega), by simp, by simp⟩
          · exact absurd hC (hend ‹_›).2
        · rw [bldH_ne hC]
          generalize hP : repsV xs ++ footTo xs j = B at *
          refine run_ok (Cs := [strItoa, jLine, jCount]) (stp := [12]) (inl := [12, 22, 15]) (unr := false) (cons_ok strItoa_ok (cons_ok jLine_ok (cons_ok jCount_ok nil_ok))) 400 _ _ _ _ ?_
          simp (maxSteps := 4000000) only [go_sem, reduceIte, reduceCtorEq, Int.reduceEq, Nat.reduceEqDiff, Nat.reduceBEq, Int.reduceLE, Int.reduceLT, Int.reduceNeg, Nat.reduceAdd, Nat.reduceSub, Nat.reduceMul, Nat.reduceLeDiff, Int.reduceToNat, Int.reduceAdd, Int.reduceSub, Int.reduceMul, jReport, Tryz.f8, Option.isNone_none, Option.isNone_some, vEta, elB, elU, oneP, yToB, yToU, yFromU, yEqB, yElB, elTB, yRowB, escB, piecesE, piecesLen, bIJe12, nEJe12, Tryz.f12, bIJe22, nEJe22, Tryz.f22, bIJe15, nEJe15, Tryz.f15, strItoa, jLine, jCount]
          (repeat' (first | (apply And.intro) | (intro _) | (show staB _ _ = true; kernel_rfl) | (show dynB _ _ = true; kernel_rfl) | (show dynP _ _ _ = true; kernel_rfl)))
          all_goals try omega
          · rename_i h1
            have hnx := hnext h1
            generalize (pieces xs).getD j (0, [], ()) = p at *
            refine OkQ.tail (Cs := [strItoa, jLine, jCount]) (cons_ok strItoa_ok (cons_ok jLine_ok (cons_ok jCount_ok nil_ok))) (by kernel_rfl) (by kernel_rfl) ?_
            simp (maxSteps := 4000000) only [go_sem, reduceIte, reduceCtorEq, Int.reduceEq, Nat.reduceEqDiff, Nat.reduceBEq, Int.reduceLE, Int.reduceLT, Int.reduceNeg, Nat.reduceAdd, Nat.reduceSub, Nat.reduceMul, Nat.reduceLeDiff, Int.reduceToNat, Int.reduceAdd, Int.reduceSub, Int.reduceMul, jReport, List.dropLast, List.size_toArray, Tryz.f8, Option.isNone_none, Option.isNone_some, vEta, elB, elU, oneP, yToB, yToU, yFromU, yEqB, yElB, elTB, yRowB, escB, piecesE, piecesLen, bIJe12, nEJe12, Tryz.f12, bIJe22, nEJe22, Tryz.f22, bIJe15, nEJe15, Tryz.f15, strItoa, jLine, jCount]
            (repeat' (first | (apply And.intro) | (intro _) | (show staB _ _ = true; kernel_rfl) | (show dynB _ _ = true; kernel_rfl) | (show dynP _ _ _ = true; kernel_rfl)))
            all_goals try omega
            all_goals try (simp only [List.length_append]; omega)
            refine run_ok (Cs := [strItoa, jLine, jCount]) (stp := [12]) (inl := [12, 22, 15]) (unr := false) (cons_ok strItoa_ok (cons_ok jLine_ok (cons_ok jCount_ok nil_ok))) 400 _ _ _ _ ?_
            simp (maxSteps := 4000000) only [go_sem, reduceIte, reduceCtorEq, Int.reduceEq, Nat.reduceEqDiff, Nat.reduceBEq, Int.reduceLE, Int.reduceLT, Int.reduceNeg, Nat.reduceAdd, Nat.reduceSub, Nat.reduceMul, Nat.reduceLeDiff, Int.reduceToNat, Int.reduceAdd, Int.reduceSub, Int.reduceMul, jReport, Tryz.f8, Option.isNone_none, Option.isNone_some, vEta, elB, elU, oneP, yToB, yToU, yFromU, yEqB, yElB, elTB, yRowB, escB, piecesE, piecesLen, bIJe12, nEJe12, Tryz.f12, bIJe22, nEJe22, Tryz.f22, bIJe15, nEJe15, Tryz.f15, strItoa, jLine, jCount]
            (repeat' (first | (apply And.intro) | (intro _) | (show staB _ _ = true; kernel_rfl) | (show dynB _ _ = true; kernel_rfl) | (show dynP _ _ _ = true; kernel_rfl)))
            all_goals try omega
            all_goals try (simp only [List.length_append]; omega)
            all_goals try (rename_i h; exact hpne h)
            all_goals try contradiction
            refine backK.mk (j + 1) (by omega) (by omega) ?_
            rw [hnx, bldH_ne (by simp [hC])]
            simp (maxSteps := 4000000) only [go_sem, reduceIte, reduceCtorEq, Int.reduceEq, Nat.reduceEqDiff, Nat.reduceBEq, Int.reduceLE, Int.reduceLT, Int.reduceNeg, Nat.reduceAdd, Nat.reduceSub, Nat.reduceMul, Nat.reduceLeDiff, Int.reduceToNat, Int.reduceAdd, Int.reduceSub, Int.reduceMul, strItoa, jLine, jCount]
            first | exact wr_i (by omega) | exact ⟨wr_i (by omega), by simp, by simp⟩
          all_goals first
            | exact List.length_pos_iff.2 hC
            | exact (hend ‹_›).1
            | fail

end Go.Proofs.YtdlbfilfkpflpaaGreatDoor.Sx
