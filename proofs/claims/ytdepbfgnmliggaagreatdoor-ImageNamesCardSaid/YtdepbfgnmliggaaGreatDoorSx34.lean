/- A law's row out of its contract, where the row lists package-level variables. -/
import Derived.Test.YtdepbfgnmliggaaGreatDoorSx28
import Derived.LaidHandle
import Derived.LaidLaws
namespace Go.Proofs.YtdepbfgnmliggaaGreatDoor.Sx
set_option linter.unusedSimpArgs false
set_option linter.unusedVariables false
open Go.ChangeShapes Go.WideShapes Go.ChangeAt Go.RowKit

theorem law_liftedX {H : Type} {enc : TypeId × Value → H} {C : Checked} {os : Os} {f : FuncId} {fn : Func} {s : ChangeSpec} {conds : List PathCond} {apart fresh handsOn again : Bool} {pl : List (Bool × Ty)} {tb : TypeId} {X : World → Array Value → Prop}
    (hX : ∀ (w w' : World) (args : Array Value), w.heap = w'.heap → X w args → X w' args) (hcon : (lawCon f pl).Ok C.prog)
    (hl : laidOutB C.prog = true) (hvs : s.vars = []) (hs : ∀ ds : List (DataW H), ds.length = pl.length → s.fn H ds = { results := [.lit (.bool true)], args := ds }) (hp : ParOk C.prog fn.params.toList pl)
    (hr : fn.resultTypes = #[tb]) (htb : C.prog.underlying tb = some .bool)
    (own : ownKnob C.prog.godebug = none) (started : os.Started) (noInit : C.prog.inits.idxOf? f = none) (hfn : C.prog.funcs[f]? = some fn)
    (witness : ∃ (w : World) (tape : Tape) (i : Input), w.os = os ∧ (w.forCall tape i).Shaped C.prog ∧ i.vars = [] ∧ Input.okWide C.prog (w.forCall tape i) .any w.heap.size f i ∧
      ((s.pre enc C.prog fn conds apart (w.forCall tape i).memory i.args ∧ X (w.forCall tape i).memory i.args) ∧ sizedMet enc C.prog fn (OpenSpec.ofChange s) apart (w.forCall tape i).memory i.args) ∧ Assume.holds {} C.prog (lone (Frame.enter C.prog f i.args .normal) [] (w.forCall tape i))) :
    ReturnsInHanded {} C os f .any (fun w args => (s.pre enc C.prog fn conds apart w args ∧ X w args) ∧ sizedMet enc C.prog fn (OpenSpec.ofChange s) apart w args) (s.post enc C.prog fn apart fresh handsOn again) := by
  refine returnsInHanded_of_change_and hX own started noInit hfn witness ?_
  intro W base args ds gs before hval hW _ hsz _ _
  obtain ⟨p, q, hA, hV, hbf, hz, hn⟩ := hW
  have hV' := hV
  rw [hvs] at hV'
  obtain ⟨rfl, rfl⟩ := trodVars_none hV'
  obtain ⟨x, hx, hxs, _⟩ := args_rd (base := base) pl fn.params.toList args.toList ds p hp hA (fun j t v a b => hval j t v (by simpa using a) (by simpa using b)) (fun k hk => by
    have := List.all_eq_true.1 hsz k
    have hvt : s.plain.varTypes C.prog = [] := by
      simp [DataSpec.varTypes, ChangeSpec.plain, hvs]
    rw [hvt] at this
    simpa using this (by simpa using hk))
  have hwf := hx.wf
  have := hcon.calls (fun _ => False) W args.toList x (fun _ h => h.elim) hx hwf hxs 0
  unfold Con.Post at this
  simp only [lawCon] at this
  rw [Array.toArray_toList] at this
  refine this.mono fun e W' hpost => ?_
  obtain ⟨v, rfl, hb, _, loc, hv, _⟩ := hpost
  have hv' : v = .bool true := hv
  subst hv'
  exact ⟨_, rfl, law_post hl hvs hs hp hr htb ⟨p, [], hA, hV, hbf, hz, hn⟩ hb⟩

end Go.Proofs.YtdepbfgnmliggaaGreatDoor.Sx
