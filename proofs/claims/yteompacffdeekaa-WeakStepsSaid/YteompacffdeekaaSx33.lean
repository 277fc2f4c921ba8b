/- A function held against nil. -/
import Derived.Test.YteompacffdeekaaSx31
namespace Go.Proofs.Yteompacffdeekaa.Sx
set_option linter.unusedSimpArgs false
set_option linter.unusedVariables false

def isFn (P : Program) (t : TypeId) : Bool := match P.underlying t with | some (.func _ _ _) => true | _ => false

theorem run_eql_fn {P : Program} (w : World) {t : TypeId} {g : Fn} {xs ys : Array Value} (h : isFn P t = true) : (binOp .eql t (.func g xs ys) .nilFunc).run P w = .ok (.bool false) w := by
  unfold isFn at h
  split at h
  · rename_i ps rs v hu
    have h : ∀ d : Nat, (Op.equalIn (d + 1) t (.func g xs ys) .nilFunc).run P w = .ok false w := fun d => by
      simp [Op.equalIn, run_underlying hu]
    simp only [binOp]
    simp [Op.equal, Op.maxDepth, h 9999]
  · cases h

/-- A FUNCTION HELD AGAINST NIL. -/
theorem OkQ.fnNil {P : Program} {kp : List Nat} {Q : St → Prop} {all l : List Oper} {o : Oper} {k : List It} {st : St} {t t' : TypeId} {x : Operand} {f : Nat} {caps : List (Nat × Nat)} (hop : o.op = .binOp .eql t x (.const .nilFunc) t') (hg : o.guard = none)
    (hu : isFn P t = true) (hx : pkV (ev st.fr x) = .s (.fn f caps)) (hk : pkP (ev st.fr x)) (h : OkQ P kp Q (.ops all l :: k) ⟨setD st.fr o.dst (.s (.bool false)), st.hp, st.nx⟩) : OkQ P kp Q (.ops all (o :: l) :: k) st := by
  intro G B hs hQ E a w hc
  have hx' := hc.pre.pk hk
  rw [hx] at hx'
  obtain ⟨cvs, e1, _⟩ := hx'
  refine wpListIn_plain hg fun K hK => op_in (fun c e => by rw [hop] at e; cases e) ?_
  have hrun : (execOp a.eval o).run P w = .ok (.value (.bool false)) w := by
    obtain ⟨d, op, ty, pos, af, gd⟩ := o
    simp only at hop
    subst hop
    have e2 : a.eval (.const .nilFunc) = .nilFunc := rfl
    simp [execOp, e1, e2, eqGuard, run_eql_fn w hu]
  unfold Oper.wp
  rw [hrun]
  exact hK _ _ (h G B hs hQ E _ w (hc.behind hc.pre.mem Evo.rfl' hc.pre.ob (fun i hi => .inl hi) (X := .s (.bool false)) rfl (Nat.le_refl _)))

end Go.Proofs.Yteompacffdeekaa.Sx
