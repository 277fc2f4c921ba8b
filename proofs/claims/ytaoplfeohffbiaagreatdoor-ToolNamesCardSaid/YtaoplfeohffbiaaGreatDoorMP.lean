/- A part of the proof. -/
import Derived.Test.YtaoplfeohffbiaaGreatDoorK2
import Derived.SizedLaws
import Derived.Carry
import Derived.ProofKit
import Derived.OpenShut
import Derived.ChangeSame
import Derived.KernelRfl
import Derived.Deep.CondSized
import Derived.Test.YtaoplfeohffbiaaGreatDoorRows
import Derived.LaidHandle
import Derived.LaidLaws
import Derived.Lay
import Derived.Stop.LaidErr
import Derived.Test.YtaoplfeohffbiaaGreatDoorProg
import Derived.LaidOnce
import Derived.SevenTiedAt

/-! Out of a reading of the form's own, a reading of the symbolic run's; a law's row out of its contract. -/
namespace Go.Proofs.YtaoplfeohffbiaaGreatDoor.Sx
set_option linter.unusedSimpArgs false
set_option linter.unusedVariables false
set_option linter.unusedSectionVars false
noncomputable section
open Go.ChangeShapes Go.WideShapes Go.ChangeAt Go.RowKit

/-- The fields lie one behind the other. -/
def offsB (P : Program) : List Field → Nat → Nat → Bool
  | [], o, n => o == n
  | f :: r, o, n => (f.offset == o) && offsB P r (o + P.cellsOf f.type) n

def tyChk (P : Program) : Nat → TypeId → Bool
  | 0, _ => false
  | d + 1, t =>
    match P.underlying t with
    | some (.slice e) => tyChk P d e && Nat.ble 1 (P.cellsOf e) && (P.cellsOf t == 1)
    | some (.struct fs) => offsB P fs.toList 0 (P.cellsOf t) && fs.toList.all fun f => tyChk P d f.type
    | _ => P.cellsOf t == 1

/-- How many values and letters a datum holds. -/
def Ty.bulk : (t : Ty) → t.den → Nat
  | .str, s => s.length + 1
  | .pair a b, x => a.bulk x.1 + b.bulk x.2
  | .slice _ e, xs => (xs.map e.bulk).sum
  | .int _, _ => 1
  | .bool, _ => 1
  | .unit, _ => 0
  | .opq, _ => 0

section
variable {H : Type} {enc : TypeId × Value → H} {P : Program} {W : World} {sp : Nat → Bool}

theorem bulk_sum {e : Ty} : ∀ (ys : List e.den) (ds : List (DataW H)), ys.length = ds.length → (∀ (j : Nat) y d, ys[j]? = some y → ds[j]? = some d → e.bulk y ≤ Rows.uptoBulk d) → (ys.map e.bulk).sum ≤ Rows.uptoBulkAll ds
  | [], [], _, _ => by simp
  | y :: ys, d :: ds, hl, h => by
    have h1 := bulk_sum ys ds (by simpa using hl) fun j y d a b => h (j + 1) y d (by simpa using a) (by simpa using b)
    have h2 := h 0 y d rfl rfl
    simp only [List.map_cons, List.sum_cons, Rows.uptoBulkAll]
    omega
  | [], _ :: _, hl, _ => by simp at hl
  | _ :: _, [], hl, _ => by simp at hl

theorem mapM_at {α β : Type} {f : α → Option β} : ∀ {l : List α} {r : List β}, l.mapM f = some r → r.length = l.length ∧ ∀ (i : Nat) (h : i < l.length), ∃ y, f l[i] = some y ∧ r[i]? = some y
  | [], r, h => by simp at h; subst h; exact ⟨rfl, fun i h => by simp at h⟩
  | a :: l, r, h => by
    rw [List.mapM_cons] at h
    cases ha : f a with
    | none => rw [ha] at h; cases h
    | some b =>
      rw [ha] at h
      cases hl : l.mapM f with
      | none => rw [hl] at h; cases h
      | some r' =>
        rw [hl] at h
        cases h
        obtain ⟨h1, h2⟩ := mapM_at hl
        refine ⟨by simp [h1], fun i hi => ?_⟩
        cases i with
        | zero => exact ⟨b, ha, rfl⟩
        | succ i =>
          obtain ⟨y, k1, k2⟩ := h2 i (by simpa using hi)
          exact ⟨y, k1, by simpa using k2⟩

theorem weightsAll_at {e : TypeId} : ∀ {l : List (DataW H)} {d : DataW H}, d ∈ l → ∀ n ∈ d.weights P e, n ∈ DataW.weightsAll P e l
  | x :: l, d, hd, n, hn => by
    simp only [DataW.weightsAll, List.mem_append]
    rcases List.mem_cons.1 hd with rfl | hd
    · exact .inl hn
    · exact .inr (weightsAll_at hd n hn)

theorem tyN : ∀ (d : Nat) (t : TypeId) (ty : Ty), tyOf P d t = some ty → tyChk P d t = true → ty.n = P.cellsOf t
  | 0, _, _, h, _ => by cases h
  | d + 1, t, ty, h, hc => by
    unfold tyOf at h
    unfold tyChk at hc
    split at h
    · rename_i k hu; rw [hu] at hc; cases h; exact (beq_iff_eq.1 hc).symm
    · rename_i hu; rw [hu] at hc; cases h; exact (beq_iff_eq.1 hc).symm
    · rename_i hu; rw [hu] at hc; cases h; exact (beq_iff_eq.1 hc).symm
    · rename_i e hu
      rw [hu] at hc
      simp only [Bool.and_eq_true] at hc
      split at h
      · cases h; exact (beq_iff_eq.1 hc.2).symm
      · cases h
    · rename_i fs hu
      rw [hu] at hc
      simp only [Bool.and_eq_true, List.all_eq_true] at hc
      obtain ⟨h1, h2⟩ := hc
      have key : ∀ (l : List Field) (o N : Nat) (ty : Ty), (∀ f ∈ l, tyChk P d f.type = true) → offsB P l o N = true →
          l.foldr (fun f acc => match tyOf P d f.type, acc with | some a, some b => some (.pair a b) | _, _ => none) (some Ty.unit) = some ty → o + ty.n = N := by
        intro l
        induction l with
        | nil => intro o N ty _ ho ht; cases ht; simpa [offsB, Ty.n] using ho
        | cons f l ih =>
          intro o N ty hall ho ht
          simp only [List.foldr_cons] at ht
          split at ht
          · rename_i a b ha hb
            cases ht
            simp only [offsB, Bool.and_eq_true] at ho
            have := ih _ _ b (fun g hg => hall g (List.mem_cons_of_mem _ hg)) ho.2 hb
            have := tyN d f.type a ha (hall f (List.mem_cons_self))
            simp only [Ty.n]; omega
          · cases ht
      have := key fs.toList 0 _ ty h2 h1 h
      omega
    · cases h
    · cases h
    · cases h
    · rename_i u hn1 hn2 hn3 hn4 hn5 hn6 hn7 hn8 hu
      rw [hu] at hc
      cases h
      have hc' : (P.cellsOf t == 1) = true := by
        revert hc
        cases u <;> first | exact fun h => h | exact absurd rfl (hn4 _) | exact absurd rfl (hn5 _) | exact absurd hu (hn4 _) | exact absurd hu (hn5 _)
      exact (beq_iff_eq.1 hc').symm
    · cases h

theorem cells_at {base : Nat} {a : Addr} {n : Nat} {us : List Value} (h : W.cells? base a n = some us) : us.length = n ∧ ∀ i, i < n → ∃ u, us[i]? = some u ∧ W.cell? (a.add i) = some u := by
  unfold World.cells? at h
  split at h
  · obtain ⟨h1, h2⟩ := mapM_at h
    refine ⟨by simpa using h1, fun i hi => ?_⟩
    obtain ⟨y, k1, k2⟩ := h2 i (by simpa using hi)
    exact ⟨y, k2, by simpa using k1⟩
  · cases h

theorem spot_none {a : Addr} {u : Value} (h : W.cell? a = some u) : a.spot = none := by
  unfold World.cell? at h
  split at h
  · split at h
    · cases h
    · rename_i hs; simpa using hs
  · cases h

theorem trod_fields {n fuel : Nat} {cs : List Value} (ih : ∀ (t : TypeId) (ty : Ty), tyOf P n t = some ty → tyChk P n t = true → ∀ (cs : List Value) (x : DataW H × List MemPlace),
      DataW.trod enc P W 0 sp true fuel t cs = some x → (∀ k ∈ x.1.weights P t, k ≤ reachBytes) → ∃ y, Rd (fun _ => False) W ty cs y ∧ ty.small y ∧ ty.bulk y ≤ Rows.uptoBulk x.1) :
    ∀ (l : List Field) (o : Nat) (ty : Ty) (xs : List (DataW H × List MemPlace)), (∀ f ∈ l, tyChk P n f.type = true) → offsB P l o cs.length = true →
      l.foldr (fun f acc => match tyOf P n f.type, acc with | some a, some b => some (.pair a b) | _, _ => none) (some Ty.unit) = some ty →
      (∀ (i : Nat) (f : Field), l[i]? = some f → DataW.trod enc P W 0 sp true fuel f.type ((cs.drop f.offset).take (P.cellsOf f.type)) = xs[i]?) → xs.length = l.length →
      (∀ k ∈ DataW.weightsEach P (l.map (·.type)) (xs.map (·.1)), k ≤ reachBytes) → ∃ y, Rd (fun _ => False) W ty (cs.drop o) y ∧ ty.small y ∧ ty.bulk y ≤ Rows.uptoBulkAll (xs.map (·.1))
  | [], o, ty, xs, _, ho, ht, _, _, _ => by
    cases ht
    refine ⟨(), ?_, trivial, Nat.zero_le _⟩
    show cs.drop o = []
    simp only [offsB, beq_iff_eq] at ho
    simp [ho]
  | f :: l, o, ty, [], _, _, _, _, hl, _ => by simp at hl
  | f :: l, o, ty, x :: xs, hall, ho, ht, hx, hl, hw => by
    simp only [List.foldr_cons] at ht
    split at ht
    · rename_i a b ha hb
      cases ht
      simp only [offsB, Bool.and_eq_true, beq_iff_eq] at ho
      obtain ⟨rfl, ho⟩ := ho
      obtain ⟨y1, h1, s1, t1⟩ := ih f.type a ha (hall f (List.mem_cons_self)) _ x (hx 0 f rfl) (fun k hk => hw k (by simp only [List.map_cons, DataW.weightsEach, List.mem_append]; exact .inl hk))
      obtain ⟨y2, h2, s2, t2⟩ := trod_fields ih l _ b xs (fun g hg => hall g (List.mem_cons_of_mem _ hg)) ho hb (fun i g hg => hx (i + 1) g (by simpa using hg)) (by simpa using hl)
        (fun k hk => hw k (by simp only [List.map_cons, DataW.weightsEach, List.mem_append]; exact .inr hk))
      refine ⟨(y1, y2), ⟨(cs.drop f.offset).take (P.cellsOf f.type), cs.drop (f.offset + P.cellsOf f.type), ?_, h1, h2⟩, ⟨s1, s2⟩, ?_⟩
      rotate_left
      · simp only [Ty.bulk, List.map_cons, Rows.uptoBulkAll]; omega
      rw [← List.drop_drop, List.take_append_drop]
    · cases ht

theorem trod_rd : ∀ (n : Nat) (t : TypeId) (ty : Ty), tyOf P n t = some ty → tyChk P n t = true → ∀ (fuel : Nat) (cs : List Value) (x : DataW H × List MemPlace),
    DataW.trod enc P W 0 sp true fuel t cs = some x → (∀ k ∈ x.1.weights P t, k ≤ reachBytes) → ∃ y, Rd (fun _ => False) W ty cs y ∧ ty.small y ∧ ty.bulk y ≤ Rows.uptoBulk x.1
  | 0, _, _, h, _, _, _, _, _, _ => by cases h
  | n + 1, t, ty, h, hc, fuel, cs, x, ht, hw => by
    unfold tyOf at h
    unfold tyChk at hc
    split at h
    · rename_i k hu
      cases h
      obtain ⟨m, rfl, hxe, hwf⟩ := DataW.trod_int hu ht
      refine ⟨m, ⟨rfl, ?_⟩, trivial, by subst hxe; simp [Ty.bulk, Rows.uptoBulk]⟩
      simp only [Lit.wf, Bool.and_eq_true, decide_eq_true_eq] at hwf
      exact hwf
    · rename_i hu
      cases h
      obtain ⟨b, rfl, hxe⟩ := DataW.trod_bool hu ht
      exact ⟨b, rfl, trivial, by subst hxe; simp [Ty.bulk, Rows.uptoBulk]⟩
    · rename_i hu
      cases h
      obtain ⟨s, rfl, rfl, _⟩ := DataW.trod_string hu ht
      have h1 := hw s.data.toList.length (by simp [DataW.weights])
      unfold reachBytes at h1
      exact ⟨s.data.toList, ⟨by simp, by omega⟩, h1, by simp [Ty.bulk, Rows.uptoBulk]⟩
    · rename_i e hu
      rw [hu] at hc
      simp only [Bool.and_eq_true] at hc
      obtain ⟨⟨hc1, hc2⟩, _⟩ := hc
      have hc2 := Nat.le_of_ble_eq_true hc2
      split at h
      · rename_i i ety hi hety
        cases h
        have hbytes : P.bytesOf e = i.bytes := by simp [Program.bytesOf, hi]
        have hn := tyN n e ety hety hc1
        rcases DataW.trod_slice hu ht with ⟨rfl, _⟩ | ⟨a, len, cap, elems, rest, m, _, rfl, rfl, _, hle, _, hlen, hel, _⟩
        · exact ⟨[], ⟨by simp, .inl ⟨none, 0, rfl, rfl⟩⟩, by simp [Ty.small], by simp [Ty.bulk]⟩
        · have hz := hw ((elems.length + rest.length) * i.bytes) (by simp [DataW.weights, hu, hbytes])
          have hsz' : len * i.bytes ≤ 140737488351232 := by
            have := Nat.mul_le_mul_right i.bytes (Nat.le_add_right elems.length rest.length)
            rw [hlen] at this hz
            unfold reachBytes at hz; omega
          have hsz : len * i.bytes ≤ 140737488355328 := by omega
          have each : ∀ j, j < len → ∃ (y : ety.den) (us : List Value), us.length = ety.n ∧ (∀ q u, us[q]? = some u → W.cell? ((a.add (j * ety.n)).add q) = some u) ∧ Rd (fun _ => False) W ety us y ∧ ety.small y ∧ ∀ d, elems[j]? = some d → ety.bulk y ≤ Rows.uptoBulk d.1 := by
            intro j hj
            have h1 := hel j hj
            have hj' : j < elems.length := by omega
            rw [List.getElem?_eq_getElem hj'] at h1
            rw [Option.bind_eq_some_iff] at h1
            obtain ⟨us, hus, htr⟩ := h1
            obtain ⟨k1, k2⟩ := cells_at hus
            obtain ⟨y, hy, hys, hyb⟩ := trod_rd n e ety hety hc1 m us _ htr (fun k hk => hw k (by
              simp only [DataW.weights, hu, List.mem_cons, List.mem_append]
              exact .inr (.inl (weightsAll_at (List.mem_map.2 ⟨_, List.getElem_mem hj', rfl⟩) k hk))))
            refine ⟨y, us, by rw [hn, k1], fun q u hq => ?_, hy, hys, fun d hd => by rw [List.getElem?_eq_getElem hj'] at hd; cases hd; exact hyb⟩
            have hql : q < P.cellsOf e := by
              have := (List.getElem?_eq_some_iff.1 hq).1
              omega
            obtain ⟨u', g1, g2⟩ := k2 q hql
            rw [hq] at g1
            cases g1
            rw [hn]; exact g2
          rcases Nat.eq_zero_or_pos len with h0 | h0
          · subst h0
            exact ⟨[], ⟨by simp, .inl ⟨some a, cap, rfl, rfl⟩⟩, by simp [Ty.small], by simp [Ty.bulk]⟩
          · have hspot : a.spot = none ∧ a.block < W.heap.size := by
              obtain ⟨y, us, g1, g2, _⟩ := each 0 h0
              have : 0 < us.length := by omega
              have := g2 0 _ (List.getElem?_eq_getElem this)
              have e0 : (a.add (0 * ety.n)).add 0 = a := by simp [Addr.add]
              rw [e0] at this
              refine ⟨spot_none this, ?_⟩
              obtain ⟨ab, ao, asp⟩ := a
              have e1 := spot_none this
              dsimp only at e1; subst e1
              exact cell_lt this
            obtain ⟨b, off, spt⟩ := a
            obtain ⟨hsp0, hlt⟩ := hspot
            dsimp only at hsp0 hlt
            subst hsp0
            have hex : ∀ j : Fin len, ∃ y : ety.den, ∃ us : List Value, us.length = ety.n ∧ (∀ q u, us[q]? = some u → W.cell? ⟨b, off + j.1 * ety.n + q, none⟩ = some u) ∧ Rd (fun _ => False) W ety us y ∧ ety.small y ∧ ∀ d, elems[j.1]? = some d → ety.bulk y ≤ Rows.uptoBulk d.1 := by
              intro j
              obtain ⟨y, us, g1, g2, g3⟩ := each j.1 j.2
              refine ⟨y, us, g1, fun q u hq => ?_, g3⟩
              have := g2 q u hq
              have e1 : ((⟨b, off, none⟩ : Addr).add (j.1 * ety.n)).add q = ⟨b, off + j.1 * ety.n + q, none⟩ := by
                unfold Addr.add
                by_cases hz1 : j.1 * ety.n = 0 <;> by_cases hz2 : q = 0 <;> simp [hz1, hz2]
              rwa [e1] at this
            refine ⟨List.ofFn fun j => Classical.choose (hex j), ⟨by simpa using hsz, .inr ⟨b, off, cap, by simp, by simpa using hle, ?_, fun h => h, hlt, fun j hj => ?_⟩⟩, ⟨by simpa using hsz', fun y hy => ?_⟩, ?_⟩
            · intro hnil
              have := congrArg List.length hnil
              simp at this; omega
            · have hj' : j < len := by simpa using hj
              obtain ⟨us, g1, g2, g3, _, _⟩ := Classical.choose_spec (hex ⟨j, hj'⟩)
              refine ⟨us, g1, g2, ?_⟩
              simpa using g3
            · obtain ⟨j, rfl⟩ := List.mem_ofFn.1 hy
              obtain ⟨_, _, _, _, g4, _⟩ := Classical.choose_spec (hex j)
              exact g4
            · have key := bulk_sum (H := H) (e := ety) (List.ofFn fun j => Classical.choose (hex j)) (elems.map (·.1)) (by simp [hlen]) fun j y d h1 h2 => by
                rw [List.getElem?_ofFn] at h1
                split at h1
                · rename_i hj
                  cases h1
                  obtain ⟨_, _, _, _, _, g5⟩ := Classical.choose_spec (hex ⟨j, hj⟩)
                  rw [List.getElem?_map, Option.map_eq_some_iff] at h2
                  obtain ⟨d', h3, rfl⟩ := h2
                  exact g5 d' h3
                · cases h1
              simp only [Ty.bulk, Rows.uptoBulk]
              exact Nat.le_trans key (by omega)
      · cases h
    · rename_i fs hu
      rw [hu] at hc
      simp only [Bool.and_eq_true, List.all_eq_true] at hc
      obtain ⟨h1, h2⟩ := hc
      obtain ⟨xs, m, _, rfl, hcl, hxl, hx⟩ := DataW.trod_struct hu ht
      obtain ⟨y, hy, hys, hyb⟩ := trod_fields (n := n) (fuel := m) (cs := cs) (fun t ty a1 a2 cs x a3 a4 => trod_rd n t ty a1 a2 m cs x a3 a4) fs.toList 0 ty xs h2 (by rw [hcl]; exact h1) h
        (fun i f hf => hx i f (by simpa using hf)) (by simpa using hxl) (fun k hk => hw k (by simpa [DataW.weights, hu] using hk))
      exact ⟨y, by simpa using hy, hys, by simp only [Rows.uptoBulk]; omega⟩
    · cases h
    · cases h
    · cases h
    · rename_i u hn1 hn2 hn3 hn4 hn5 hn6 hn7 hn8 hu
      cases h
      cases fuel with
      | zero => simp [DataW.trod] at ht
      | succ m =>
        unfold DataW.trod at ht
        rw [hu] at ht
        have key : ∃ v, cs = [v] ∧ v.oneCell' = true := by
          split at ht <;> first
            | exact ⟨_, rfl, rfl⟩
            | (simp only [Option.some.injEq] at *; simp_all; done)
            | (exfalso; simp_all; done)
            | cases ht
        obtain ⟨v, rfl, hv⟩ := key
        exact ⟨v, ⟨rfl, hv⟩, trivial, Nat.zero_le _⟩
    · cases h

/-! ### A law's row out of its contract -/
def aggB (P : Program) (t : TypeId) : Bool := match P.underlying t with
  | some (.struct _) => true
  | some (.array _ _) => true
  | _ => false

/-- The parameters' types are those of the contract. -/
def ParOk (P : Program) : List TypeId → List (Bool × Ty) → Prop
  | [], [] => True
  | t :: ts, (b, ty) :: al => (tyOf P 20 t = some ty ∧ tyChk P 20 t = true ∧ aggB P t = b ∧ P.readableRec t = true ∧ decide (t < P.types.size) = true) ∧ ParOk P ts al
  | _, _ => False

theorem okWide_agg {w : World} {r : Reach} {b : Nat} {t : TypeId} {v : Value} (ht : aggB P t = true) (h : Value.okWide P w r b t v) : ∃ cs : List Value, v = .agg cs.toArray ∧ v.cells.toList = cs := by
  unfold aggB at ht
  unfold Value.okWide at h
  split at ht
  · rename_i hu
    rw [hu] at h
    obtain ⟨cs, rfl, _⟩ := h
    exact ⟨cs.toList, by simp, rfl⟩
  · rename_i hu
    rw [hu] at h
    obtain ⟨cs, rfl, _⟩ := h
    exact ⟨cs.toList, by simp, rfl⟩
  · cases ht

theorem okWide_one {w : World} {r : Reach} {b : Nat} {t : TypeId} {v : Value} (ht : aggB P t = false) (h : Value.okWide P w r b t v) : v.cells.toList = [v] := by
  unfold aggB at ht
  cases v with
  | agg cs =>
    exfalso
    unfold Value.okWide at h
    cases hu : P.underlying t with
    | none => rw [hu] at h; simp [Cell.okWide, Cell.ok, hu] at h
    | some u =>
      rw [hu] at h ht
      cases u <;> simp_all [Cell.okWide, Cell.ok]
  | _ => rfl

theorem args_rd {base : Nat} : ∀ (al : List (Bool × Ty)) (ts : List TypeId) (vs : List Value) (ds : List (DataW H)) (ps : List MemPlace), ParOk P ts al → DataW.TrodAll enc P W 0 sp true ts vs ds ps →
    (∀ (j : Nat) t v, ts[j]? = some t → vs[j]? = some v → Value.okWide P W .any base t v) → (∀ k ∈ DataW.weightsEach P ts ds, k ≤ reachBytes) → ∃ x, ArgsRd (fun _ => False) W al vs x ∧ (tyL al).small x ∧ (tyL al).bulk x ≤ Rows.uptoBulkAll ds
  | [], [], [], [], _, _, _, _, _ => ⟨(), trivial, trivial, Nat.zero_le _⟩
  | [], [], [], _ :: _, _, _, h, _, _ => h.elim
  | [], [], _ :: _, _, _, _, h, _, _ => by cases ‹List (DataW H)› <;> exact h.elim
  | [], _ :: _, _, _, _, h, _, _, _ => h.elim
  | _ :: _, [], _, _, _, h, _, _, _ => h.elim
  | (b, ty) :: al, t :: ts, v :: vs, d :: ds, ps, ⟨⟨h1, h2, h3, _⟩, hp⟩, ⟨p, q, hv, hr, _⟩, hok, hw => by
    obtain ⟨x, hx, hxs, hxb⟩ := args_rd al ts vs ds q hp hr (fun j t v a b => hok (j + 1) t v (by simpa using a) (by simpa using b)) (fun k hk => hw k (by simp only [DataW.weightsEach, List.mem_append]; exact .inr hk))
    obtain ⟨fuel, hf⟩ := hv
    obtain ⟨y, hy, hys, hyb⟩ := trod_rd 20 t ty h1 h2 fuel _ _ hf (fun k hk => hw k (by simp only [DataW.weightsEach, List.mem_append]; exact .inl hk))
    have ho := hok 0 t v rfl rfl
    refine ⟨(y, x), ⟨fun hb => ?_, fun hb => ?_, hx⟩, ⟨hys, hxs⟩, by dsimp only at hyb; simp only [tyL, Ty.bulk, Rows.uptoBulkAll]; omega⟩
    · subst hb
      obtain ⟨cs, e1, e2⟩ := okWide_agg h3 ho
      exact ⟨cs, e1, by rw [e2] at hy; exact hy⟩
    · subst hb
      rw [okWide_one h3 ho] at hy
      exact hy
  | _ :: _, _ :: _, [], _, _, _, h, _, _ => by cases ‹List (DataW H)› <;> exact h.elim
  | _ :: _, _ :: _, _ :: _, [], _, _, h, _, _ => h.elim

theorem args_back (hl : laidOutB P = true) {W' : World} (hb : Below W.heap.size W W') {sp' : Nat → Bool} : ∀ {al : List (Bool × Ty)} {ts : List TypeId} {vs : List Value} {ds : List (DataW H)} {ps : List MemPlace}, ParOk P ts al → DataW.TrodAll enc P W 0 (fun _ => true) true ts vs ds ps →
    (∀ x ∈ ps, x.block < W.heap.size) → (∀ x ∈ ps, sp' x.block = true) → DataW.TrodAll enc P W' 0 sp' true ts vs ds ps
  | [], [], [], [], _, _, h, _, _ => h
  | [], [], [], _ :: _, _, _, h, _, _ => h.elim
  | [], [], _ :: _, _, _, _, h, _, _ => by cases ‹List (DataW H)› <;> exact h.elim
  | [], _ :: _, _, _, _, h, _, _, _ => h.elim
  | _ :: _, [], _, _, _, h, _, _, _ => h.elim
  | (b, ty) :: al, t :: ts, v :: vs, d :: ds, ps, ⟨⟨_, _, _, h4, h5⟩, hp⟩, ⟨p, q, hv, hr, e⟩, hlt, hsp => by
    subst e
    exact ⟨p, q, WideElems.Trod_stays hl h4 (of_decide_eq_true h5) hv (fun x hx => hb.same (hlt x (List.mem_append_left _ hx))) (fun x hx => hsp x (List.mem_append_left _ hx)),
      args_back hl hb hp hr (fun x hx => hlt x (List.mem_append_right _ hx)) (fun x hx => hsp x (List.mem_append_right _ hx)), rfl⟩
  | _ :: _, _ :: _, [], _, _, _, h, _, _ => by cases ‹List (DataW H)› <;> exact h.elim
  | _ :: _, _ :: _, _ :: _, [], _, _, h, _, _ => h.elim

/-- A law's contract: true, whatever comes. -/
def lawCon (f : FuncId) (al : List (Bool × Ty)) : Con := ⟨f, al, [(false, .bool)], (tyL al).small, fun _ => (true, ()), false⟩

theorem law_post {f : Func} {s : ChangeSpec} {apart fresh handsOn again : Bool} {W' : World} {args : Array Value} {ds gs : List (DataW H)} {before : List MemPlace} {al : List (Bool × Ty)} {tb : TypeId} (hl : laidOutB P = true)
    (hvs : s.vars = []) (hs : ∀ ds : List (DataW H), ds.length = al.length → s.fn H ds = { results := [.lit (.bool true)], args := ds }) (hp : ParOk P f.params.toList al) (hr : f.resultTypes = #[tb]) (htb : P.underlying tb = some .bool)
    (hW : DataW.Whole enc P f.params.toList s.vars apart W args.toList ds gs before) (hb : Below W.heap.size W W') :
    s.post enc P f apart fresh handsOn again W args (.bool true) W' := by
  have hW0 := hW
  obtain ⟨p, q, hA, hV, rfl, hz, hn⟩ := hW
  rw [hvs] at hV
  obtain ⟨rfl, rfl⟩ := trodVars_none hV
  have hlen : ∀ (ts : List TypeId) (al : List (Bool × Ty)) (vs : List Value) (ds : List (DataW H)) (ps : List MemPlace), ParOk P ts al → DataW.TrodAll enc P W 0 (fun _ => true) true ts vs ds ps → ds.length = al.length := by
    intro ts
    induction ts with
    | nil => intro al vs ds ps h1 h2; cases al with
      | nil => cases vs <;> cases ds <;> first | rfl | exact h2.elim
      | cons _ _ => exact h1.elim
    | cons t ts ih => intro al vs ds ps h1 h2; cases al with
      | nil => exact h1.elim
      | cons a al => cases vs <;> cases ds <;> first | exact h2.elim | (obtain ⟨_, _, _, h2, _⟩ := h2; obtain ⟨_, h1⟩ := h1; simp [ih al _ _ _ h1 h2])
  have hds := hlen _ _ _ _ _ hp hA
  have hfn := hs ds hds
  have hlt : ∀ x ∈ p ++ [], x.block < W.heap.size := fun x hx => hW0.lt x hx
  simp only [List.append_nil] at hlt
  have hres : ∀ (b : Nat) (sp : Nat → Bool) (hd : Bool), DataW.TrodAll enc P W' b sp hd f.resultTypes.toList ((Value.bool true).resultList f.resultTypes.size) [.lit (.bool true)] [] := by
    intro b sp hd
    rw [hr]
    exact ⟨[], [], ⟨1, by simp [DataW.trod, htb, Value.cells]⟩, rfl, rfl⟩
  have hok : ∀ (j : Nat) (t : TypeId) (r : Value), f.resultTypes[j]? = some t → ((Value.bool true).resultList f.resultTypes.size)[j]? = some r → Value.okWide P W' .any 0 t r := by
    refine ok_one hr rfl ?_
    simp [Value.okWide, htb, Cell.okWide, Cell.ok]
  have hargs : ∀ sp' : Nat → Bool, (∀ x ∈ p, sp' x.block = true) → DataW.TrodAll enc P W' 0 sp' true f.params.toList args.toList ds p := fun sp' hsp => args_back hl hb hp hA hlt hsp
  have hold : ∀ x ∈ p, (fun b => decide (b < W.heap.size)) x.block = true := fun x hx => by simpa using hlt x hx
  have hvv : ∀ sp' : Nat → Bool, DataW.TrodVars enc P W' sp' s.vars ([] : List (DataW H)) [] := fun sp' => by rw [hvs]; exact rfl
  refine ⟨ds, [], p ++ [], [], p, [], hW0, ?_, ?_, ?_, World.keptBut_mono (fun x hx => ⟨hx, .inr (.inl (by simpa using hx))⟩) (hb.frame (· ∈ p ++ [])), fun _ => ⟨hok, ?_⟩⟩
  · rw [List.append_nil, hfn]; exact hres _ _ _
  · rw [List.append_nil, hfn]; exact hargs _ hold
  · rw [List.append_nil, hfn]; exact hvv _
  · refine ⟨_, _, ([] ++ p) ++ [], ⟨[] ++ p, [], trodAll_append (hargs _ (fun _ _ => rfl)) (hres _ _ _), hvv _, rfl, ?_, ?_⟩, ?_⟩
    · intro b off hx
      have hin : MemPlace.cell b off ∈ p := by simpa using hx
      rw [hb.frozen (hlt _ hin)]
      exact hz b off (by simpa using hin)
    · intro ha
      simpa using hn ha
    · intro x hx _
      simpa using hx

theorem law_lifted {C : Checked} {os : Os} {f : FuncId} {fn : Func} {s : ChangeSpec} {conds : List PathCond} {apart fresh handsOn again : Bool} {pl : List (Bool × Ty)} {tb : TypeId} (hgw : ∀ W : World, GW W) (hcon : (lawCon f pl).Ok C.prog)
    (hl : laidOutB C.prog = true) (hvs : s.vars = []) (hs : ∀ ds : List (DataW H), ds.length = pl.length → s.fn H ds = { results := [.lit (.bool true)], args := ds }) (hp : ParOk C.prog fn.params.toList pl)
    (hr : fn.resultTypes = #[tb]) (htb : C.prog.underlying tb = some .bool)
    (own : ownKnob C.prog.godebug = none) (started : os.Started) (noInit : C.prog.inits.idxOf? f = none) (hfn : C.prog.funcs[f]? = some fn)
    (witness : ∃ (w : World) (tape : Tape) (i : Input), w.os = os ∧ (w.forCall tape i).Shaped C.prog ∧ i.vars = [] ∧ Input.okWide C.prog (w.forCall tape i) .any w.heap.size f i ∧
      s.pre6 enc C.prog fn conds apart (w.forCall tape i).memory i.args ∧ Assume.holds {} C.prog (lone (Frame.enter C.prog f i.args .normal) [] (w.forCall tape i))) :
    ReturnsInHanded {} C os f .any (s.pre6 enc C.prog fn conds apart) (s.post enc C.prog fn apart fresh handsOn again) := by
  refine returnsInHanded_of_change_sized own started noInit hfn witness ?_
  intro W base args ds gs before hval hW _ hsz _
  obtain ⟨p, q, hA, hV, hbf, hz, hn⟩ := hW
  have hV' := hV
  rw [hvs] at hV'
  obtain ⟨rfl, rfl⟩ := trodVars_none hV'
  obtain ⟨x, hx, hxs, _⟩ := args_rd (base := base) pl fn.params.toList args.toList ds p hp hA (fun j t v a b => hval j t v (by simpa using a) (by simpa using b)) (fun k hk => by
    have := List.all_eq_true.1 hsz k
    have hvt : s.plain.varTypes C.prog = [] := by
      simp [DataSpec.varTypes, ChangeSpec.plain, hvs]
    rw [hvt] at this
    simpa using this (by simpa using hk))
  have hwf := hx.wf
  have := hcon.calls (fun _ => False) W args.toList x (fun _ h => h.elim) ⟨hgw W, fun _ _ h => h⟩ hx hwf hxs 0
  unfold Con.Post at this
  simp only [lawCon] at this
  rw [Array.toArray_toList] at this
  refine this.mono fun e W' hpost => ?_
  obtain ⟨v, rfl, hb, _, loc, hv, _⟩ := hpost
  have hv' : v = .bool true := hv
  subst hv'
  exact ⟨_, rfl, law_post hl hvs hs hp hr htb ⟨p, [], hA, hV, hbf, hz, hn⟩ hb⟩

/-- The contract of a law where what comes is small. -/
def lawConU (f : FuncId) (al : List (Bool × Ty)) : Con := ⟨f, al, [(false, .bool)], fun x => (tyL al).small x ∧ (tyL al).bulk x ≤ 1048576, fun _ => (true, ()), false⟩

theorem law_liftedU {C : Checked} {os : Os} {f : FuncId} {fn : Func} {s : ChangeSpec} {conds : List PathCond} {apart fresh handsOn again : Bool} {pl : List (Bool × Ty)} {tb : TypeId} {F : Stop.Interp} (hgw : ∀ W : World, GW W) (hcon : (lawConU f pl).Ok C.prog)
    (hl : laidOutB C.prog = true) (hvs : s.vars = []) (hs : ∀ ds : List (DataW H), ds.length = pl.length → s.fn H ds = { results := [.lit (.bool true)], args := ds }) (hp : ParOk C.prog fn.params.toList pl)
    (hr : fn.resultTypes = #[tb]) (htb : C.prog.underlying tb = some .bool)
    (own : ownKnob C.prog.godebug = none) (started : os.Started) (noInit : C.prog.inits.idxOf? f = none) (hfn : C.prog.funcs[f]? = some fn)
    (hsF : ((Rows.OpenSpec.upto s).at F) = s)
    (witness : ∃ (w : World) (tape : Tape) (i : Input), w.os = os ∧ (w.forCall tape i).Shaped C.prog ∧ i.vars = [] ∧ Input.okWide C.prog (w.forCall tape i) .any w.heap.size f i ∧
      (Rows.OpenSpec.upto s).pre6 enc C.prog fn conds apart (w.forCall tape i).memory i.args ∧ Assume.holds {} C.prog (lone (Frame.enter C.prog f i.args .normal) [] (w.forCall tape i))) :
    ReturnsInHanded {} C os f .any ((Rows.OpenSpec.upto s).pre6 enc C.prog fn conds apart) (((Rows.OpenSpec.upto s).at F).post enc C.prog fn apart fresh handsOn again) := by
  refine returnsInHanded_of_cond_sized (k := Rows.uptoSmall) rfl own started noInit hfn witness ?_
  intro W base args ds gs before hval hW _ hk hsz _
  rw [hsF]
  have hW : DataW.Whole enc C.prog fn.params.toList s.vars apart W args.toList ds gs before := hW
  obtain ⟨p, q, hA, hV, hbf, hz, hn⟩ := hW
  have hV' := hV
  rw [hvs] at hV'
  obtain ⟨rfl, rfl⟩ := trodVars_none hV'
  obtain ⟨x, hx, hxs, hxb⟩ := args_rd (base := base) pl fn.params.toList args.toList ds p hp hA (fun j t v a b => hval j t v (by simpa using a) (by simpa using b)) (fun k hk => by
    have := List.all_eq_true.1 hsz k
    have hvt : (Rows.OpenSpec.upto s).bare.plain.varTypes C.prog = [] := by
      simp [DataSpec.varTypes, OpenSpec.bare, ChangeSpec.plain, Rows.OpenSpec.upto, OpenSpec.ofChange, hvs]
    rw [hvt] at this
    simpa using this (by simpa using hk))
  have hwf := hx.wf
  have hb : Rows.uptoBulkAll (ds ++ []) ≤ 1048576 := of_decide_eq_true hk
  rw [List.append_nil] at hb
  have := hcon.calls (fun _ => False) W args.toList x (fun _ h => h.elim) ⟨hgw W, fun _ _ h => h⟩ hx hwf ⟨hxs, Nat.le_trans hxb hb⟩ 0
  unfold Con.Post at this
  simp only [lawConU] at this
  rw [Array.toArray_toList] at this
  refine this.mono fun e W' hpost => ?_
  obtain ⟨v, rfl, hb, _, loc, hv, _⟩ := hpost
  have hv' : v = .bool true := hv
  subst hv'
  exact ⟨_, rfl, law_post hl hvs hs hp hr htb ⟨p, [], hA, hV, hbf, hz, hn⟩ hb⟩

end
end
end Go.Proofs.YtaoplfeohffbiaaGreatDoor.Sx

/-! A law's row out of its contract, where the row lists package-level variables. -/
namespace Go.Proofs.YtaoplfeohffbiaaGreatDoor.Sx
set_option linter.unusedSimpArgs false
set_option linter.unusedVariables false
set_option linter.unusedSectionVars false
noncomputable section
open Go.ChangeShapes Go.WideShapes Go.ChangeAt Go.RowKit

theorem law_liftedX {H : Type} {enc : TypeId × Value → H} {C : Checked} {os : Os} {f : FuncId} {fn : Func} {s : ChangeSpec} {conds : List PathCond} {apart fresh handsOn again : Bool} {pl : List (Bool × Ty)} {tb : TypeId} {X : World → Array Value → Prop}
    (hX : ∀ (w w' : World) (args : Array Value), w.heap = w'.heap → X w args → X w' args) (hXG : ∀ (w : World) (args : Array Value), X w args → GW w) (hcon : (lawCon f pl).Ok C.prog)
    (hl : laidOutB C.prog = true) (hvs : s.vars = []) (hs : ∀ ds : List (DataW H), ds.length = pl.length → s.fn H ds = { results := [.lit (.bool true)], args := ds }) (hp : ParOk C.prog fn.params.toList pl)
    (hr : fn.resultTypes = #[tb]) (htb : C.prog.underlying tb = some .bool)
    (own : ownKnob C.prog.godebug = none) (started : os.Started) (noInit : C.prog.inits.idxOf? f = none) (hfn : C.prog.funcs[f]? = some fn)
    (witness : ∃ (w : World) (tape : Tape) (i : Input), w.os = os ∧ (w.forCall tape i).Shaped C.prog ∧ i.vars = [] ∧ Input.okWide C.prog (w.forCall tape i) .any w.heap.size f i ∧
      ((s.pre enc C.prog fn conds apart (w.forCall tape i).memory i.args ∧ X (w.forCall tape i).memory i.args) ∧ sizedMet enc C.prog fn (OpenSpec.ofChange s) apart (w.forCall tape i).memory i.args) ∧ Assume.holds {} C.prog (lone (Frame.enter C.prog f i.args .normal) [] (w.forCall tape i))) :
    ReturnsInHanded {} C os f .any (fun w args => (s.pre enc C.prog fn conds apart w args ∧ X w args) ∧ sizedMet enc C.prog fn (OpenSpec.ofChange s) apart w args) (s.post enc C.prog fn apart fresh handsOn again) := by
  refine returnsInHanded_of_change_and hX own started noInit hfn witness ?_
  intro W base args ds gs before hval hW _ hsz hXW _
  obtain ⟨p, q, hA, hV, hbf, hz, hn⟩ := hW
  have hV' := hV
  rw [hvs] at hV'
  obtain ⟨rfl, rfl⟩ := trodVars_none hV'
  obtain ⟨x, hx, hxs, _⟩ := args_rd (base := base) pl fn.params.toList args.toList ds p hp hA (fun j t v a b => hval j t v (by simpa using a) (by simpa using b)) (fun k hk => by
    have := List.all_eq_true.1 hsz k
    have hvt : s.plain.varTypes C.prog = [] := by
      simp [DataSpec.varTypes, ChangeSpec.plain, hvs]
    rw [hvt] at this
    simpa using this (by simpa using hk))
  have hwf := hx.wf
  have := hcon.calls (fun _ => False) W args.toList x (fun _ h => h.elim) ⟨hXG W _ hXW, fun _ _ h => h⟩ hx hwf hxs 0
  unfold Con.Post at this
  simp only [lawCon] at this
  rw [Array.toArray_toList] at this
  refine this.mono fun e W' hpost => ?_
  obtain ⟨v, rfl, hb, _, loc, hv, _⟩ := hpost
  have hv' : v = .bool true := hv
  subst hv'
  exact ⟨_, rfl, law_post hl hvs hs hp hr htb ⟨p, [], hA, hV, hbf, hz, hn⟩ hb⟩

end
end Go.Proofs.YtaoplfeohffbiaaGreatDoor.Sx

/-! The world in which a row's listed variables are laid. -/
namespace Go.Proofs.YtaoplfeohffbiaaGreatDoor.Sx
set_option linter.unusedSimpArgs false
set_option linter.unusedVariables false
set_option linter.unusedSectionVars false

theorem laidMet_layOver {P : Program} {w0 : World} {laid : List (String × DataW Unit)} (args : Array Value) (hf : w0.layFits P laid [] = true) (hi : w0.layIfaces P laid (w0.layVars P laid) = true) :
    laidMet P laid ((w0.layVars P laid).forCall (fun _ _ => 0) ⟨#[], args, []⟩).memory := by
  have e1 : (laid.filter fun x => (laid.map (·.1)).contains x.1) = laid := List.filter_eq_self.2 fun x hx => List.contains_iff_mem.2 (List.mem_map.2 ⟨x, hx, rfl⟩)
  have e2 : (laid.filter fun x => !(laid.map (·.1)).contains x.1) = [] := List.filter_eq_nil_iff.2 fun x hx => by rw [List.contains_iff_mem.2 (List.mem_map.2 ⟨x, hx, rfl⟩)]; simp
  have h : laidMet P laid (w0.layVars P laid) := laidMet_layVars (w0 := w0) (laid.map (·.1)) [] (by rw [e1]) (by rw [e1]; exact hf) (by rw [e1]; exact hi) (by rw [e2]; exact LaidIn.none)
  exact h.of_heap (by simp [World.memory, World.forCall, Input.heap])

end Go.Proofs.YtaoplfeohffbiaaGreatDoor.Sx

/-! The listed variables, a world. -/
namespace Go.Proofs.YtaoplfeohffbiaaGreatDoor.Sx
set_option linter.unusedSimpArgs false
set_option linter.unusedVariables false
set_option linter.unusedSectionVars false
attribute [local irreducible] OkQ Ok
open Go.RowKit
def laidL : List (String × DataW Unit) := [("unicode/utf8.first", Rows.laid_unicode_utf8_first), ("unicode/utf8.acceptRanges", Rows.laid_unicode_utf8_acceptRanges), ("internal/strconv.uint64pow10", Rows.laid_internal_strconv_uint64pow10), ("math/bits.deBruijn32tab", Rows.laid_math_bits_deBruijn32tab), ("math/bits.deBruijn64tab", Rows.laid_math_bits_deBruijn64tab), ("strconv.ErrSyntax", Rows.laid_strconv_ErrSyntax), ("strconv.ErrRange", Rows.laid_strconv_ErrRange), ("errors.errorType", Rows.laid_errors_errorType)]
def laidP : List (String × DataW Unit) := [("unicode/utf8.first", Rows.laid_unicode_utf8_first), ("unicode/utf8.acceptRanges", Rows.laid_unicode_utf8_acceptRanges), ("internal/strconv.uint64pow10", Rows.laid_internal_strconv_uint64pow10), ("math/bits.deBruijn32tab", Rows.laid_math_bits_deBruijn32tab), ("math/bits.deBruijn64tab", Rows.laid_math_bits_deBruijn64tab), ("strconv.ErrSyntax", Rows.laid_strconv_ErrSyntax), ("strconv.ErrRange", Rows.laid_strconv_ErrRange)]
noncomputable def laidW0 (os : Os) : World :=
  let w0 := World.holding Tryz.prog os ⟨#[], #[], []⟩
  { w0 with heap := w0.heap.modify 0 fun
      | .cells _ t frozen => .cells #[.iface 337 (.agg #[.pointer (some ⟨9, 53, none⟩)])] t frozen
      | o => o }
end Go.Proofs.YtaoplfeohffbiaaGreatDoor.Sx

/-! Xm -/
namespace Go.Proofs.YtaoplfeohffbiaaGreatDoor.Sx
set_option linter.unusedSimpArgs false
set_option linter.unusedVariables false
set_option linter.unusedSectionVars false

/-- Surely not the name of '*errors.errorString' (no other type's name is looked for). -/
def cheapT (P : Program) (u : TypeId) : Bool := match P.info? u with
  | none => true
  | some i => match i.desc with
    | .named n _ => !(n == "*errors.errorString")
    | .pointer e => match P.info? e with
      | none => true
      | some j => match j.desc with
        | .named m _ => !(m == "errors.errorString")
        | .bool => !(j.str == "errors.errorString")
        | .int _ => !(j.str == "errors.errorString")
        | .float _ => !(j.str == "errors.errorString")
        | .string => !(j.str == "errors.errorString")
        | _ => true
    | .bool => !(i.str == "*errors.errorString")
    | .int _ => !(i.str == "*errors.errorString")
    | .float _ => !(i.str == "*errors.errorString")
    | .string => !(i.str == "*errors.errorString")
    | _ => true
theorem star_inj {m : String} (h : "*" ++ m = "*errors.errorString") : m = "errors.errorString" := by
  have h2 : "*" ++ m = "*" ++ "errors.errorString" := h.trans (by decide +kernel)
  have h3 := congrArg String.toList h2
  rw [String.toList_append, String.toList_append] at h3
  exact String.toList_inj.1 (List.append_cancel_left h3)
theorem star_not {x : String} (h : "*" ++ x = "errors.errorString") : False := by
  have h1 := congrArg String.toList h
  have e1 : "*".toList = [Char.ofNat 42] := by decide +kernel
  have e2 : "errors.errorString".toList.head? = some (Char.ofNat 101) := by decide +kernel
  rw [String.toList_append, e1] at h1
  have h2 := congrArg List.head? h1
  rw [e2] at h2
  exact absurd (Option.some.inj h2) (by decide)
theorem cheapT_ok {P : Program} {u : TypeId} (h : cheapT P u = true) : (P.typeName? 3 u == some "*errors.errorString") = false := by
  unfold cheapT at h
  have key : P.typeName? 3 u ≠ some "*errors.errorString" := by
    intro hn
    unfold Program.typeName? at hn
    cases hi : P.info? u with
    | none => simp [hi] at hn
    | some i =>
      simp only [hi] at h hn
      split at hn
      · rename_i n t hd
        rw [hd] at h
        split at hn
        · cases hn
          simp at h
        · cases hn
      · rename_i e hd
        rw [hd] at h
        simp only at h
        obtain ⟨m, hm, hm2⟩ := Option.map_eq_some_iff.1 hn
        have hm3 := star_inj hm2
        subst hm3
        unfold Program.typeName? at hm
        cases hj : P.info? e with
        | none => simp [hj] at hm
        | some j =>
          simp only [hj] at h hm
          split at hm
          · rename_i n2 t2 hd2
            rw [hd2] at h
            split at hm
            · cases hm
              simp at h
            · cases hm
          · obtain ⟨x, _, hx⟩ := Option.map_eq_some_iff.1 hm
            exact star_not hx
          · rename_i hd2
            rw [hd2] at h
            split at hm
            · cases hm
            · simp only [Option.some.injEq] at hm; rw [hm] at h; simp at h
          · rename_i k hd2
            rw [hd2] at h
            split at hm
            · cases hm
            · simp only [Option.some.injEq] at hm; rw [hm] at h; simp at h
          · rename_i k hd2
            rw [hd2] at h
            split at hm
            · cases hm
            · simp only [Option.some.injEq] at hm; rw [hm] at h; simp at h
          · rename_i hd2
            rw [hd2] at h
            split at hm
            · cases hm
            · simp only [Option.some.injEq] at hm; rw [hm] at h; simp at h
          · cases hm
      · rename_i hd
        rw [hd] at h
        split at hn
        · cases hn
        · simp only [Option.some.injEq] at hn; rw [hn] at h; simp at h
      · rename_i k hd
        rw [hd] at h
        split at hn
        · cases hn
        · simp only [Option.some.injEq] at hn; rw [hn] at h; simp at h
      · rename_i k hd
        rw [hd] at h
        split at hn
        · cases hn
        · simp only [Option.some.injEq] at hn; rw [hn] at h; simp at h
      · rename_i hd
        rw [hd] at h
        split at hn
        · cases hn
        · simp only [Option.some.injEq] at hn; rw [hn] at h; simp at h
      · cases hn
  simpa using key

theorem find_at (p : Nat → Bool) : ∀ (l : List Nat) (k : Nat) (r : List Nat), (∀ i ∈ l, p i = false) → p k = true → (l ++ k :: r).find? p = some k
  | [], k, r, _, hk => by simp [List.find?, hk]
  | x :: l, k, r, h, hk => by
    have hx := h x (List.mem_cons_self ..)
    simp only [List.cons_append, List.find?, hx]
    exact find_at p l k r (fun i hi => h i (List.mem_cons_of_mem _ hi)) hk

end Go.Proofs.YtaoplfeohffbiaaGreatDoor.Sx

/-! The listed variables whose tie is shown (the pinned one apart). -/
namespace Go.Proofs.YtaoplfeohffbiaaGreatDoor.Tied
set_option linter.unusedSimpArgs false
set_option linter.unusedVariables false
set_option linter.unusedSectionVars false
open Go
set_option maxRecDepth 100000

def L1 : List (String × DataW Unit) := [("unicode/utf8.acceptRanges", Rows.laid_unicode_utf8_acceptRanges), ("internal/strconv.uint64pow10", Rows.laid_internal_strconv_uint64pow10), ("math/bits.deBruijn32tab", Rows.laid_math_bits_deBruijn32tab), ("math/bits.deBruijn64tab", Rows.laid_math_bits_deBruijn64tab), ("strconv.ErrSyntax", Rows.laid_strconv_ErrSyntax), ("strconv.ErrRange", Rows.laid_strconv_ErrRange), ("errors.errorType", Rows.laid_errors_errorType)]
def K1 : List LaidKind := [.data, .data, .data, .data, .sentinel, .sentinel, .handle]

end Go.Proofs.YtaoplfeohffbiaaGreatDoor.Tied

/-! What a function can come to, reckoned with a set of bits. -/
namespace Go.Proofs.YtaoplfeohffbiaaGreatDoor.Card
set_option linter.unusedSimpArgs false
set_option linter.unusedVariables false
set_option linter.unusedSectionVars false
open Go
set_option maxRecDepth 100000

def leads (P : Program) (f : FuncId) : List FuncId := (P.funcs[f]?).elim [] P.leadsTo
/-- By fuel; none: there was too little. -/
noncomputable def cloR (P : Program) (n : Nat) : List FuncId → Nat → List FuncId → Option (List FuncId) :=
  Nat.rec (motive := fun _ => List FuncId → Nat → List FuncId → Option (List FuncId)) (fun _ _ _ => none)
    (fun _ ih todo m seen => List.rec (motive := fun _ => Option (List FuncId)) (some seen.reverse)
      (fun f t _ => Bool.rec (motive := fun _ => Option (List FuncId)) (ih (leads P f ++ t) (m ||| 2 ^ f) (f :: seen)) (ih t m seen) (Nat.testBit m f)) todo) n
theorem cloR_nil {P : Program} {n m : Nat} {seen : List FuncId} : cloR P (n + 1) [] m seen = some seen.reverse := rfl
theorem cloR_cons {P : Program} {n m : Nat} {f : FuncId} {t seen : List FuncId} : cloR P (n + 1) (f :: t) m seen = if Nat.testBit m f = true then cloR P n t m seen else cloR P n (leads P f ++ t) (m ||| 2 ^ f) (f :: seen) := by
  show Bool.rec (motive := fun _ => Option (List FuncId)) (cloR P n (leads P f ++ t) (m ||| 2 ^ f) (f :: seen)) (cloR P n t m seen) (Nat.testBit m f) = _
  cases Nat.testBit m f <;> rfl
theorem cloR_ok {P : Program} : ∀ (n : Nat) (todo : List FuncId) (m : Nat) (seen r : List FuncId), (∀ i, Nat.testBit m i = seen.contains i) → cloR P n todo m seen = some r → ∀ k, n ≤ k → P.closureVia k todo seen = r
  | 0, _, _, _, _, _, h, _, _ => by cases h
  | n + 1, [], m, seen, r, _, h, k, hk => by
    rw [cloR_nil] at h
    obtain ⟨k, rfl⟩ : ∃ j, k = j + 1 := ⟨k - 1, by omega⟩
    unfold Program.closureVia
    exact Option.some.inj h
  | n + 1, f :: t, m, seen, r, hm, h, k, hk => by
    obtain ⟨k, rfl⟩ : ∃ j, k = j + 1 := ⟨k - 1, by omega⟩
    rw [cloR_cons] at h
    unfold Program.closureVia
    rw [hm f] at h
    split at h
    · rename_i hc
      rw [if_pos hc]
      exact cloR_ok n t m seen r hm h k (by omega)
    · rename_i hc
      rw [if_neg hc]
      refine cloR_ok n (leads P f ++ t) (m ||| 2 ^ f) (f :: seen) r (fun i => ?_) h k (by omega)
      rw [Nat.testBit_or, hm i, List.contains_cons, Nat.testBit_two_pow]
      by_cases e : f = i
      · subst e; simp
      · have : (i == f) = false := by simpa using fun h => e h.symm
        simp [e, this]
theorem closure_of {P : Program} {f : FuncId} {n : Nat} {r : List FuncId} (h : cloR P n [f] 0 [] = some r) (hn : Nat.ble n (1 + (P.funcs.toList.map fun g => (P.leadsTo g).length + 1).sum) = true) : P.closure f = r := by
  unfold Program.closure
  exact cloR_ok n [f] 0 [] r (fun i => by simp) h _ (Nat.le_of_ble_eq_true hn)

end Go.Proofs.YtaoplfeohffbiaaGreatDoor.Card

/-! The fuel that the model's walk over what a function can come to has. -/
namespace Go.Proofs.YtaoplfeohffbiaaGreatDoor.Card
set_option linter.unusedSimpArgs false
set_option linter.unusedVariables false
set_option linter.unusedSectionVars false
open Go

def fuelOf (P : Program) : Nat := 1 + (P.funcs.toList.map fun g => (P.leadsTo g).length + 1).sum
theorem closure_is {P : Program} {f : FuncId} {n : Nat} {r : List FuncId} (h : cloR P n [f] 0 [] = some r) (hn : Nat.ble n (fuelOf P) = true) : P.closure f = r := closure_of h hn

end Go.Proofs.YtaoplfeohffbiaaGreatDoor.Card

/-! Closed facts of the cards. -/
namespace Go.Proofs.YtaoplfeohffbiaaGreatDoor.Card
set_option linter.unusedSimpArgs false
set_option linter.unusedVariables false
set_option linter.unusedSectionVars false
open Go.ChangeShapes Go.WideShapes Go.ChangeAt Go.RowKit Go.Proofs.YtaoplfeohffbiaaGreatDoor.Sx
set_option maxRecDepth 100000

theorem joined_of {P : Program} {f : FuncId} {fn : Func} {s : ChangeSpec} {c : OpenClaim} (a1 : (c.wf (OpenSpec.ofChange s)) = true) (a2 : (laidOutB P) = true) (a3 : (mapsRowed P) = true) (a4 : (fn.params.all (P.readableRec ·)) = true) (a5 : (namedTie P c.named s.vars) = true) (a6 : ((c.stops == [])) = true) (a7 : ((P.stops == [])) = true) (a8 : ((c.knobs == [])) = true) (a9 : ((P.stopKnobs == [])) = true) (a10 : ((c.inPlace == P.inPlace f)) = true) (a11 : ((c.unfollowed == P.unfollowed f)) = true) (a12 : ((c.recurses == P.recurses f)) = true) (a13 : ((c.named == P.varsNamed f)) = true) (a14 : ((c.maps == (fn.params.toList ++ s.plain.varTypes P).any (P.mapsRec ·))) = true) (a15 : ((c.ifaces == (fn.params.toList ++ s.plain.varTypes P).any (P.ifacesRec ·))) = true) (a16 : ((c.mapsOut == P.mapsAmong fn.resultTypes.toList)) = true) (a17 : ((c.loops == (fn.params.toList ++ s.plain.varTypes P).any (P.loopsFrom ·))) = true) (a18 : ((c.wideKeys == (fn.params.toList ++ s.plain.varTypes P ++ fn.resultTypes.toList).any (P.wideKeysFrom ·))) = true) (a19 : (s.vars.all (P.varReadable ·)) = true) (a20 : (fn.resultTypes.all (fun t => P.readableRec t && decide (t < P.types.size))) = true) (a21 : ((c.ifacesOut == fn.resultTypes.toList.any (P.ifacesRec ·))) = true) (a22 : ((c.loopsOut == fn.resultTypes.toList.any (P.loopsFrom ·))) = true) (a23 : ((c.plainKeys == P.plainKeys)) = true) (a24 : (c.shortTexts.isNone) = true) (a25 : (P.stopsHeard) = true) (a26 : (P.mayEnter) = true) (a27 : ((c.lifted == P.liftsFinal)) = true) (a28 : ((P.make == some c.make)) = true) (a29 : (c.domain.isEmpty) = true) (a30 : ((c.kinds == [])) = true) (a31 : ((c.pinned == c.pinnedBy)) = true) (a32 : ((c.veiled == (fn.params.toList ++ s.plain.varTypes P ++ fn.resultTypes.toList).any (P.veiledRec ·))) = true) (a33 : (c.veiledFits P fn.params.toList (fn.params.toList ++ s.plain.varTypes P ++ fn.resultTypes.toList)) = true) : joinedFacts P f fn s c = true := by
  unfold joinedFacts
  rw [a1, a2, a3, a4, a5, a6, a7, a8, a9, a10, a11, a12, a13, a14, a15, a16, a17, a18, a19, a20, a21, a22, a23, a24, a25, a26, a27, a28, a29, if_pos rfl, a30, a31, a32, a33]
  rfl

end Go.Proofs.YtaoplfeohffbiaaGreatDoor.Card

/-! Closed facts of the cards. -/
namespace Go.Proofs.YtaoplfeohffbiaaGreatDoor.Card
set_option linter.unusedSimpArgs false
set_option linter.unusedVariables false
set_option linter.unusedSectionVars false
open Go.ChangeShapes Go.WideShapes Go.ChangeAt Go.RowKit Go.Proofs.YtaoplfeohffbiaaGreatDoor.Sx
set_option maxRecDepth 100000

theorem own : ownKnob Tryz.prog.godebug = none := by kernel_rfl
theorem tyBool : Tryz.checked.prog.underlying 4 = some TypeDesc.bool := by kernel_rfl

end Go.Proofs.YtaoplfeohffbiaaGreatDoor.Card
