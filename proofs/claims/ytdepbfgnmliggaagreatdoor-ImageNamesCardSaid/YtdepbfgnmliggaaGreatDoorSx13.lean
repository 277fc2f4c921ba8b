/- Steps: append at whatever owned slice; the literals of slices. -/
import Derived.Test.YtdepbfgnmliggaaGreatDoorSx12
namespace Go.Proofs.YtdepbfgnmliggaaGreatDoor.Sx
set_option linter.unusedSimpArgs false
set_option linter.unusedVariables false

section
variable {P : Program} {G : Ctx} {E : Env} {w : World} {hp : List (Nat × Ob)} {nx : Nat} {fr : List SV} {a : Act}
variable {d : Option Tmp} {ty : TypeId} {pos : String} {af : Array Edge} {gd : Option (Nat × Bool)}

theorem arr_parts {o lo hi : Nat} {z : Nat} {e : Ty} {xs : List e.den} {fz : Bool} (hm : ObOk E w o (.arr fz z e xs)) {b off : Nat} (hl : E.loc o = some (b, off)) (h2 : hi ≤ xs.length) {cs : Array Value} {T : TypeId} {fzz : Nat × Nat}
    (hh : w.heap[b]? = some (.cells cs T fzz)) :
    Parts E.owned w e ((cs.toList.drop (off + lo * e.n)).take ((hi - lo) * e.n)) ((xs.drop lo).take (hi - lo)) ∧ off + xs.length * e.n ≤ cs.size := by
  obtain ⟨_, hm⟩ := hm
  rw [hl] at hm
  obtain ⟨vs, T', fz', hh', _, hsz, hx⟩ := hm
  rw [hh] at hh'
  cases hh'
  have hlen : ((xs.drop lo).take (hi - lo)).length = hi - lo := by simp; omega
  refine ⟨⟨?_, fun i hi' => ?_⟩, hsz⟩
  · rw [hlen, List.length_take, List.length_drop, Array.length_toList]
    rcases Nat.le_total hi lo with hle | hle
    · have : hi - lo = 0 := by omega
      rw [this]; simp
    · have h3 := Nat.mul_le_mul_right e.n h2
      have h4 : hi * e.n = lo * e.n + (hi - lo) * e.n := by rw [← Nat.add_mul]; congr 1; omega
      omega
  · rw [hlen] at hi'
    have e1 : ((xs.drop lo).take (hi - lo))[i]'(by rw [hlen]; exact hi') = xs[lo + i]'(by omega) := by simp
    rw [e1]
    have e2 : ((((cs.toList.drop (off + lo * e.n)).take ((hi - lo) * e.n)).drop (i * e.n)).take e.n) = (cs.toList.drop (off + (lo + i) * e.n)).take e.n := by
      have h5 := Nat.mul_le_mul_right e.n (show i + 1 ≤ hi - lo from hi')
      rw [Nat.add_mul] at h5
      rw [List.drop_take, List.take_take, Nat.min_eq_left (by omega), List.drop_drop, Nat.add_mul, Nat.add_assoc]
    rw [e2]
    exact hx _ _

theorem cells_parts {o : Nat} (_ : o = o) {b p : Nat} {cs : Array Value} {T : TypeId} {fzz : Nat × Nat} (hh : w.heap[b]? = some (.cells cs T fzz)) (m : Nat) :
    ∀ j u, ((cs.toList.drop p).take m)[j]? = some u → w.cell? ((⟨b, p, none⟩ : Addr).add j) = some u := by
  intro j u hj
  rw [add_lit']
  by_cases h : j < m
  · rw [List.getElem?_take_of_lt h, List.getElem?_drop] at hj
    exact cell_of hh hj
  · rw [List.getElem?_eq_none (by simp; omega)] at hj
    cases hj

theorem run_appcall {t : TypeId} {s x : Operand} {v : Value} {w' : World} {vs vx : Value} (hs : a.eval s = vs) (hx : a.eval x = vx) (hr : (Builtin.append_ #[t, t] ty #[vs, vx]).run P w = .ok v w') :
    (execOp a.eval ⟨d, .call { callee := .builtin .append, args := #[s, x], argTypes := #[t, t] }, ty, pos, af, gd⟩).run P w = .ok (.value v) w' := by
  simp [execOp, resolve, invoke, builtin, hs, hx, hr]

/-- append where a new block is laid, whatever the slice was. -/
theorem run_app_grow {t : TypeId} {e : Ty} {z : Nat} (hI : elemI P t = some (e, z)) (tt : TypeId) {q : Option Addr} {n c m c' : Nat} {q' : Addr} {olds news : List Value}
    (ho : (q = none ∧ n = 0 ∧ c = 0) ∨ ∃ b, q = some b ∧ ∀ j u, olds[j]? = some u → w.cell? (b.add j) = some u) (hol : olds.length = n * e.n)
    (hl : news.length = m * e.n) (hc : ∀ j u, news[j]? = some u → w.cell? (q'.add j) = some u) (hm : 0 < m) (hg : c < n + m) (hz : (n + m) * z ≤ 140737488355328) :
    ∃ C cs T, (Builtin.append_ #[t, t] tt #[.slice q n c, .slice (some q') m c']).run P w = .ok (.slice (some ⟨w.heap.size, 0, none⟩) (n + m) C) (w.drew.alloc (.cells cs T)) ∧ n + m ≤ C ∧ cs.size = C * e.n ∧
      ∃ rest, cs.toList = (olds ++ news) ++ rest := by
  obtain ⟨el, inf, zv, hu, hi, hs, hb, hzv, hzs, hz0, hn0⟩ := elemI_run hI
  have h63 : n + m ≤ 140737488355328 := Nat.le_trans (Nat.le_mul_of_pos_right _ hz0) hz
  have hsize : ∀ (k old : Nat), k = n + m → (olds.toArray ++ news.toArray ++ Builtin.zeroCells zv.cells (grownCap w k old el - k)).size = grownCap w k old el * e.n := by
    intro k old hk
    have := grownCap_ge w k old el
    simp only [Array.size_append, List.size_toArray, size_zeroCells, hzs, hol, hl, ← Nat.add_mul]
    congr 1
    omega
  rcases ho with ⟨rfl, rfl, rfl⟩ | ⟨b, rfl, hob⟩
  · have h0 : olds = [] := List.eq_nil_of_length_eq_zero (by simpa using hol)
    subst h0
    have hr := run_append_nil (P := P) w t tt el inf zv hu hi hzv q' m c' news (by rw [hs]; exact hl) hc hm (by omega) (by rw [hb]; simp at hz; omega)
    refine ⟨_, _, _, by simpa using hr, by simpa using grownCap_ge w m 0 el, by simpa using hsize m 0 (by omega), ?_⟩
    exact ⟨(Builtin.zeroCells zv.cells (grownCap w m 0 el - m)).toList, by simp⟩
  · have hr := run_append_grow (P := P) w t tt el inf zv hu hi hzv b n c olds (by rw [hs]; exact hol) hob q' m c' news (by rw [hs]; exact hl) hc hg (by omega) (growslice_fits hg (by rw [hb]; exact hz))
    refine ⟨_, _, _, hr, grownCap_ge w (n + m) c el, hsize (n + m) c rfl, ?_⟩
    exact ⟨(Builtin.zeroCells zv.cells (grownCap w (n + m) c el - (n + m))).toList, by simp⟩

theorem land_append (h : Pre P G E w hp fr a) (hnx : ¬ E.born nx) {t : TypeId} {e : Ty} {z : Nat} (hI : elemI P t = some (e, z)) {s x : Operand} {S X : SV} (hs : SVok E w S (a.eval s)) (hx : SVok E w X (a.eval x))
    {xs ys : List e.den} {os : List Nat} (hS : sOwn (fo hp) z e S = some (xs, os)) (hX : sList (fo hp) z e X = some ys) (hz : (xs.length + ys.length) * z ≤ 140737488355328) {ow : Prop} :
    Land P G E w hp nx ⟨d, .call { callee := .builtin .append, args := #[s, x], argTypes := #[t, t] }, ty, pos, af, gd⟩ a
      ⟨ow, .s (.sub nx 0 (xs.length + ys.length)), freeze (fo hp) (ids X.cells) ++ (kill os ++ [(nx, .arr false z e (xs ++ ys))]), nx + 1, True⟩ := by
  have hlz : (xs ++ ys).length = xs.length + ys.length := List.length_append
  have hzz : (xs ++ ys).length * z ≤ 140737488355328 := by rw [hlz]; exact hz
  obtain ⟨⟨hrow⟩, _⟩ := row_of h hx hX
  -- the slice that is appended to
  have hform : (a.eval s = .slice none 0 0 ∧ xs = []) ∨
      (∃ o b off lo hi c cs T xs0, os = [o] ∧ E.ob o = .arr false z e xs0 ∧ E.loc o = some (b, off) ∧ ObOk E w o (.arr false z e xs0) ∧ xs = (xs0.drop lo).take (hi - lo) ∧ lo ≤ hi ∧ hi ≤ xs0.length ∧
        a.eval s = .slice (some ⟨b, off + lo * e.n, none⟩) (hi - lo) c ∧ xs0.length - lo ≤ c ∧ w.heap[b]? = some (.cells cs T (0, 0)) ∧ off + (lo + c) * e.n ≤ cs.size) ∨
      (∃ o b off q xs0, os = [o] ∧ E.ob o = .arr false z e xs0 ∧ E.loc o = some (b, off) ∧ a.eval s = .slice q 0 0 ∧ xs = []) := by
    unfold sOwn at hS
    split at hS
    · simp only [Option.some.injEq, Prod.mk.injEq] at hS
      obtain ⟨rfl, rfl⟩ := hS
      exact .inl ⟨hs, rfl⟩
    · rename_i o lo hi
      split at hS
      · rename_i z' e' xs0 ho
        split at hS
        · rename_i ys0 hy
          obtain ⟨e2, rfl⟩ := cast_some hy
          cases e2
          simp only [Option.some.injEq, Prod.mk.injEq] at hS
          obtain ⟨rfl, rfl⟩ := hS
          have hob : E.ob o = .arr false z e xs0 := (h.ob o).trans ho
          obtain ⟨hb, hs⟩ := hs
          rw [hob] at hs
          obtain ⟨h1, h2, h3⟩ := hs
          have hm := h.mem.hp o hb
          rw [hob] at hm
          cases hl : E.loc o with
          | none =>
            rw [hl] at h3
            obtain ⟨e1, rfl⟩ := h3
            exact .inl ⟨e1, by simp⟩
          | some q =>
            obtain ⟨b, off⟩ := q
            rw [hl] at h3
            rcases h3 with ⟨c, cs, T, fz, e1, h4, h5, h6⟩ | ⟨h4, q, e1⟩
            · obtain ⟨hm1, hm2⟩ := hm
              have hm2' := hm2
              rw [hl] at hm2'
              obtain ⟨vs, T', fz', g1, g2, _⟩ := hm2'
              rw [h5] at g1
              cases g1
              have := g2 rfl
              subst this
              exact .inr (.inl ⟨o, b, off, lo, hi, c, cs, T, xs0, rfl, hob, hl, ⟨hm1, hm2⟩, rfl, h1, h2, e1, h4, h5, h6⟩)
            · refine .inr (.inr ⟨o, b, off, q, xs0, rfl, hob, hl, e1, ?_⟩)
              have : hi - lo = 0 := by omega
              rw [this]; simp
        · cases hS
      · cases hS
    · cases hS
  rcases hrow with ⟨rfl, q', c', ex⟩ | ⟨hne, b', off', c', ex, hc', hlt', hx'⟩
  · -- nothing is appended
    rcases hform with ⟨es, rfl⟩ | ⟨o, b, off, lo, hi, c, cs, T, xs0, rfl, hob, hl, hm, rfl, h1, h2, es, h4, h5, h6⟩ | ⟨o, b, off, q, xs0, rfl, hob, hl, es, rfl⟩
    · have hr := run_appcall (d := d) (ty := ty) (pos := pos) (af := af) (gd := gd) es ex (run_app_none (w := w) hI ty none 0 0 (Nat.le_refl _) q' c')
      exact land_nothing h hnx hr (.inl rfl)
    · have hlen : ((xs0.drop lo).take (hi - lo)).length = hi - lo := by simp; omega
      have hr := run_appcall (d := d) (ty := ty) (pos := pos) (af := af) (gd := gd) es ex (run_app_none (w := w) hI ty (some ⟨b, off + lo * e.n, none⟩) (hi - lo) c (by omega) q' c')
      obtain ⟨hpts, hsz⟩ := arr_parts (lo := lo) (hi := hi) hm hl h2 h5
      have hle : off + lo * e.n ≤ cs.size := by have := h6; rw [Nat.add_mul] at this; omega
      have := land_stay (o := ⟨d, .call { callee := .builtin .append, args := #[s, x], argTypes := #[t, t] }, ty, pos, af, gd⟩) (l := ids X.cells) (ow := ow) h hnx (z := z) (zs := (xs0.drop lo).take (hi - lo) ++ []) (by simpa using hzz)
        (q := o) (b := b) (f0 := off) (f := off + lo * e.n) (by rw [hob]; rfl) hl h5 rfl (c := c) (w' := w) (setRow_self w b cs T (0, 0) h5).symm (by rw [List.append_nil, hlen]; exact hr)
        (vs := (cs.toList.drop (off + lo * e.n)).take ((hi - lo) * e.n)) (rest := (cs.toList.drop (off + lo * e.n)).drop ((hi - lo) * e.n)) (List.take_append_drop _ _).symm hle
        (by rw [List.append_nil, hlen]; omega) (by rw [Nat.add_mul] at h6; omega) (by rw [List.append_nil]; exact hpts)
      rw [hlz] at this
      exact this
    · have hr := run_appcall (d := d) (ty := ty) (pos := pos) (af := af) (gd := gd) es ex (run_app_none (w := w) hI ty q 0 0 (Nat.le_refl _) q' c')
      exact land_nothing h hnx hr (.inr ⟨o, q, b, off, rfl, by rw [hob]; rfl, by rw [hob]; rfl, hl, rfl⟩)
  · obtain ⟨news, hnl, hnc, hnr⟩ := flat hx'
    have hnc' : ∀ j u, news[j]? = some u → w.cell? ((⟨b', off', none⟩ : Addr).add j) = some u := fun j u hj => by rw [add_lit']; exact hnc j u hj
    have hnp : Parts E.owned w e news ys := ⟨hnl, hnr⟩
    have hpos : 0 < ys.length := List.length_pos_iff.2 hne
    have grow : ∀ (q : Option Addr) (c : Nat) (olds : List Value), a.eval s = .slice q xs.length c → ((q = none ∧ xs.length = 0 ∧ c = 0) ∨ ∃ b, q = some b ∧ ∀ j u, olds[j]? = some u → w.cell? (b.add j) = some u) →
        Parts E.owned w e olds xs → c < xs.length + ys.length →
        Land P G E w hp nx ⟨d, .call { callee := .builtin .append, args := #[s, x], argTypes := #[t, t] }, ty, pos, af, gd⟩ a
          ⟨ow, .s (.sub nx 0 (xs.length + ys.length)), freeze (fo hp) (ids X.cells) ++ (kill os ++ [(nx, .arr false z e (xs ++ ys))]), nx + 1, True⟩ := by
      intro q c olds es hq hpo hlt
      obtain ⟨C, cs, T, hr, hC, hCs, rest, hcs⟩ := run_app_grow (w := w) hI ty (c' := c') hq hpo.1 hnl hnc' hpos hlt hz
      have hr' := run_appcall (d := d) (ty := ty) (pos := pos) (af := af) (gd := gd) es ex hr
      have := land_grown (l := ids X.cells) (os := os) (ow := ow) h hnx hzz (by rw [hlz]; exact hr') hcs (by rw [hlz]; exact hC) hCs (hpo.append hnp)
      rw [hlz] at this
      exact this
    rcases hform with ⟨es, rfl⟩ | ⟨o, b, off, lo, hi, c, cs, T, xs0, rfl, hob, hl, hm, rfl, h1, h2, es, h4, h5, h6⟩ | ⟨o, b, off, q, xs0, rfl, hob, hl, es, rfl⟩
    · exact grow none 0 [] es (.inl ⟨rfl, rfl, rfl⟩) ⟨by simp, fun i hi => by simp at hi⟩ (by simpa using hpos)
    · have hlen : ((xs0.drop lo).take (hi - lo)).length = hi - lo := by simp; omega
      obtain ⟨hpts, hsz⟩ := arr_parts (lo := lo) (hi := hi) hm hl h2 h5
      by_cases hroom : (hi - lo) + ys.length ≤ c
      · have hcap : off + lo * e.n + c * e.n ≤ cs.size := by rw [Nat.add_mul] at h6; omega
        have hr := run_app_room (w := w) hI ty (c' := c') (q' := ⟨b', off', none⟩) h5 (p := off + lo * e.n) (n := hi - lo) (c := c) hnl hnc' hnp.one hroom hcap
        have hr' := run_appcall (d := d) (ty := ty) (pos := pos) (af := af) (gd := gd) es ex hr
        have hle2 := Nat.mul_le_mul_right e.n hroom
        rw [Nat.add_mul, ← hnl] at hle2
        have hfit : off + lo * e.n + (hi - lo) * e.n + news.length ≤ cs.toList.length := by
          have hcl : cs.toList.length = cs.size := by simp
          omega
        have hsz' : (splice cs.toList (off + lo * e.n + (hi - lo) * e.n) news).toArray.size = cs.size := by simp [splice_len hfit]
        have hsp : (splice cs.toList (off + lo * e.n + (hi - lo) * e.n) news).drop (off + lo * e.n) =
            ((cs.toList.drop (off + lo * e.n)).take ((hi - lo) * e.n) ++ news) ++ cs.toList.drop (off + lo * e.n + (hi - lo) * e.n + news.length) := by
          unfold splice
          rw [List.append_assoc, List.append_assoc, List.drop_append_of_le_length (by simp; omega), List.drop_take]
          congr 2
          omega
        have := land_stay (o := ⟨d, .call { callee := .builtin .append, args := #[s, x], argTypes := #[t, t] }, ty, pos, af, gd⟩) (l := ids X.cells) (ow := ow) h hnx (z := z) (zs := (xs0.drop lo).take (hi - lo) ++ ys) hzz
          (q := o) (b := b) (f0 := off) (f := off + lo * e.n) (by rw [hob]; rfl) hl h5 hsz' (c := c) rfl (by rw [hlz, hlen]; exact hr') hsp (by rw [hsz']; omega) (by rw [hlz, hlen]; exact hroom) (by rw [hsz']; exact hcap) (hpts.append hnp)
        rw [hlz] at this
        exact this
      · have hcell := cells_parts (o := o) rfl h5 (p := off + lo * e.n) ((hi - lo) * e.n)
        exact grow (some ⟨b, off + lo * e.n, none⟩) c _ (by rw [hlen]; exact es) (.inr ⟨_, rfl, hcell⟩) hpts (by rw [hlen]; omega)
    · refine grow q 0 [] es ?_ ⟨by simp, fun i hi => by simp at hi⟩ (by simpa using hpos)
      cases q with
      | none => exact .inl ⟨rfl, rfl, rfl⟩
      | some b0 => exact .inr ⟨b0, rfl, fun j u hj => by simp at hj⟩

end
end Go.Proofs.YtdepbfgnmliggaaGreatDoor.Sx
