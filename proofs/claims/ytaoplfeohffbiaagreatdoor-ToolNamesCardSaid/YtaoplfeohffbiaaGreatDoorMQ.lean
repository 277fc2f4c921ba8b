/- A part of the proof. -/
import Derived.Test.YtaoplfeohffbiaaGreatDoorMP
import Derived.Test.YtaoplfeohffbiaaGreatDoorMZc1
import Derived.Test.YtaoplfeohffbiaaGreatDoorMZc2
import Derived.Test.YtaoplfeohffbiaaGreatDoorMZc3
import Derived.KernelRfl
import Derived.Test.YtaoplfeohffbiaaGreatDoorMX
import Derived.Test.YtaoplfeohffbiaaGreatDoorRows
import Derived.Lib.LaidTab
import Derived.Stop.LaidErr
import Derived.Shelf.Vars
import Derived.Lib.LaidU8
import Derived.PinnedBridge

/-! Zc4 -/
namespace Go.Proofs.YtaoplfeohffbiaaGreatDoor.Sx
set_option linter.unusedSimpArgs false
set_option linter.unusedVariables false
set_option linter.unusedSectionVars false
set_option maxRecDepth 100000
theorem ck4 : (Tryz.prog.typeName? 3 860 == some "*errors.errorString") = true := by kernel_rfl
end Go.Proofs.YtaoplfeohffbiaaGreatDoor.Sx

/-! Xn -/
namespace Go.Proofs.YtaoplfeohffbiaaGreatDoor.Sx
set_option linter.unusedSimpArgs false
set_option linter.unusedVariables false
set_option linter.unusedSectionVars false
open Go.RowKit
set_option maxRecDepth 100000

theorem types_range : List.range Tryz.prog.types.size = (List.range' 0 300 ++ (List.range' 300 300 ++ List.range' 600 260)) ++ 860 :: List.range' 861 69 := by kernel_rfl
/-- The one type of that name. -/
theorem find0 : (List.range Tryz.prog.types.size).find? (fun u => Tryz.prog.typeName? 3 u == some "*errors.errorString") = some 860 := by
  rw [types_range]
  refine find_at _ _ _ _ (fun i hi => cheapT_ok ?_) ck4
  rcases List.mem_append.1 hi with hi | hi
  · exact List.all_eq_true.1 ck1 i hi
  · rcases List.mem_append.1 hi with hi | hi
    · exact List.all_eq_true.1 ck2 i hi
    · exact List.all_eq_true.1 ck3 i hi
theorem lay_err (n : Nat) (t : TypeId) (d : DataW Unit) {e : _} (ht : Tryz.prog.underlying t = some (.interface e)) {x : List Value × List Obj} {v : Value} (h1 : d.lay Tryz.prog 860 n = some x) (h2 : Lay.pack Tryz.prog 860 x.1 = some v) :
    (DataW.iface "*errors.errorString" d : DataW Unit).lay Tryz.prog t n = some ([.iface 860 v], x.2) := by
  unfold DataW.lay
  rw [find0, ht]
  simp only [h1, h2]

theorem sizeW (os : Os) : (laidW0 os).heap.size = 14 := by kernel_rfl

theorem lay_app {P : Program} : ∀ (l1 l2 : List (String × DataW Unit)) (n : Nat) (y z : List (Nat × List Value) × List Obj), Lay.layList P n l1 = some y → Lay.layList P (n + y.2.length) l2 = some z → Lay.layList P n (l1 ++ l2) = some (y.1 ++ z.1, y.2 ++ z.2)
  | [], l2, n, y, z, h1, h2 => by
    simp only [Lay.layList, Option.some.injEq] at h1
    subst h1
    simpa using h2
  | x :: l1, l2, n, y, z, h1, h2 => by
    simp only [Lay.layList] at h1
    simp only [List.cons_append, Lay.layList]
    split at h1
    · rename_i g hg
      split at h1
      · rename_i gl hgl
        split at h1
        · rename_i y1 hy1
          split at h1
          · rename_i z1 hz1
            simp only [Option.some.injEq] at h1
            subst h1
            have h3 := lay_app l1 l2 (n + y1.2.length) z1 z hz1 (by rw [Nat.add_assoc]; simpa using h2)
            simp only [hg, hgl, hy1, h3, List.cons_append, List.append_assoc]
          · cases h1
        · cases h1
      · cases h1
    · cases h1

theorem lay_two {P : Program} {n : Nat} {x1 x2 : String × DataW Unit} {g1 g2 : Nat} {gl1 gl2 : Global} {y1 y2 : List Value × List Obj} (a1 : P.globalNamed x1.1 = some g1) (a2 : P.globalNamed x2.1 = some g2) (b1 : P.globals[g1]? = some gl1) (b2 : P.globals[g2]? = some gl2)
    (c1 : x1.2.lay P gl1.type n = some y1) (c2 : x2.2.lay P gl2.type (n + y1.2.length) = some y2) : Lay.layList P n [x1, x2] = some ([(g1, y1.1), (g2, y2.1)], y1.2 ++ y2.2) := by
  simp only [Lay.layList, a1, a2, b1, b2, c1, c2, List.append_nil]
theorem layVars_of {P : Program} {w : World} {l : List (String × DataW Unit)} {n : Nat} {y : List (Nat × List Value) × List Obj} (hs : w.heap.size = n) (h : Lay.layList P n l = some y) : w.layVars P l = { w with heap := ⟨Lay.setRows w.heap.toList y.1 ++ y.2⟩ } := by
  unfold World.layVars
  rw [hs, h]
theorem layFits_of {P : Program} {w : World} {l : List (String × DataW Unit)} {n : Nat} {y : List (Nat × List Value) × List Obj} (hs : w.heap.size = n) (h : Lay.layList P n l = some y) (h1 : decide ((y.1.map (·.1)).Nodup) = true) (h2 : (y.1.all fun r => Lay.isRow w.heap.toList[r.1]?) = true) : w.layFits P l [] = true := by
  unfold World.layFits
  rw [hs, h]
  simp only [h1, Bool.true_and, List.all_nil, Bool.and_true, List.contains_nil, Bool.not_false]
  exact h2
theorem layIfs_of {P : Program} {w w' : World} {l : List (String × DataW Unit)} {n : Nat} {y : List (Nat × List Value) × List Obj} (hs : w.heap.size = n) (h : Lay.layList P n l = some y) (h1 : (y.1.all fun r => r.2.all (Lay.okV P w')) = true) (h2 : (y.2.all (Lay.okO P w')) = true) : w.layIfaces P l w' = true := by
  unfold World.layIfaces
  rw [hs, h]
  simp only [h1, h2, Bool.and_self]

def errD (l : List UInt8) : DataW Unit := .ptr (.agg [.lit (.string l)])
noncomputable def errY (l : List UInt8) (n : Nat) : List Value × List Obj := ((errD l).lay Tryz.prog 860 n).getD ([], [])
noncomputable def errV (l : List UInt8) (n : Nat) : Value := (Lay.pack Tryz.prog 860 (errY l n).1).getD undef
def lS : List UInt8 := [105, 110, 118, 97, 108, 105, 100, 32, 115, 121, 110, 116, 97, 120]
def lR : List UInt8 := [118, 97, 108, 117, 101, 32, 111, 117, 116, 32, 111, 102, 32, 114, 97, 110, 103, 101]
noncomputable def YE : List (Nat × List Value) × List Obj := ([(5, [.iface 860 (errV lS 14)]), (6, [.iface 860 (errV lR 15)])], (errY lS 14).2 ++ (errY lR 15).2)

end Go.Proofs.YtaoplfeohffbiaaGreatDoor.Sx

/-! Xo -/
namespace Go.Proofs.YtaoplfeohffbiaaGreatDoor.Sx
set_option linter.unusedSimpArgs false
set_option linter.unusedVariables false
set_option linter.unusedSectionVars false
open Go.RowKit
set_option maxRecDepth 100000

noncomputable def Y5 : List (Nat × List Value) × List Obj := (Lay.layList Tryz.prog 14 (laidP.take 5)).getD ([], [])
theorem y5_some : (Lay.layList Tryz.prog 14 (laidP.take 5)).isSome = true := by kernel_rfl
theorem y5 : Lay.layList Tryz.prog 14 (laidP.take 5) = some Y5 := by
  obtain ⟨y, hy⟩ := Option.isSome_iff_exists.1 y5_some
  unfold Y5
  rw [hy]
  rfl
theorem y5_none : Y5.2 = [] := by kernel_rfl


end Go.Proofs.YtaoplfeohffbiaaGreatDoor.Sx

/-! Xp -/
namespace Go.Proofs.YtaoplfeohffbiaaGreatDoor.Sx
set_option linter.unusedSimpArgs false
set_option linter.unusedVariables false
set_option linter.unusedSectionVars false
open Go.RowKit
set_option maxRecDepth 100000

theorem err_ty : ∃ e, Tryz.prog.underlying 53 = some (.interface e) := ⟨_, rfl⟩
theorem errS1 : (errD lS).lay Tryz.prog 860 14 = some (errY lS 14) := by kernel_rfl
theorem errS2 : Lay.pack Tryz.prog 860 (errY lS 14).1 = some (errV lS 14) := by kernel_rfl
theorem errR1 : (errD lR).lay Tryz.prog 860 15 = some (errY lR 15) := by kernel_rfl
theorem errR2 : Lay.pack Tryz.prog 860 (errY lR 15).1 = some (errV lR 15) := by kernel_rfl
theorem errSl : (errY lS 14).2.length = 1 := by kernel_rfl
theorem err_gn : Tryz.prog.globalNamed "strconv.ErrSyntax" = some 5 ∧ Tryz.prog.globalNamed "strconv.ErrRange" = some 6 := ⟨by kernel_rfl, by kernel_rfl⟩
theorem err_gt : (Tryz.prog.globals[5]?).map (·.type) = some 53 ∧ (Tryz.prog.globals[6]?).map (·.type) = some 53 := ⟨by kernel_rfl, by kernel_rfl⟩

end Go.Proofs.YtaoplfeohffbiaaGreatDoor.Sx

/-! Xq -/
namespace Go.Proofs.YtaoplfeohffbiaaGreatDoor.Sx
set_option linter.unusedSimpArgs false
set_option linter.unusedVariables false
set_option linter.unusedSectionVars false
open Go.RowKit
set_option maxRecDepth 100000

theorem laidP_drop : laidP.drop 5 = [("strconv.ErrSyntax", .iface "*errors.errorString" (errD lS)), ("strconv.ErrRange", .iface "*errors.errorString" (errD lR))] := rfl
theorem yE : Lay.layList Tryz.prog 14 (laidP.drop 5) = some YE := by
  obtain ⟨e, he⟩ := err_ty
  have hS := lay_err 14 53 (errD lS) he errS1 errS2
  have hR := lay_err 15 53 (errD lR) he errR1 errR2
  obtain ⟨a5, h5, t5⟩ := Option.map_eq_some_iff.1 err_gt.1
  obtain ⟨a6, h6, t6⟩ := Option.map_eq_some_iff.1 err_gt.2
  rw [← t5] at hS
  rw [← t6] at hR
  have hR2 : (DataW.iface "*errors.errorString" (errD lR) : DataW Unit).lay Tryz.prog a6.type (14 + (errY lS 14).2.length) = some ([.iface 860 (errV lR 15)], (errY lR 15).2) := by
    rw [errSl]
    exact hR
  rw [laidP_drop]
  exact lay_two (x1 := ("strconv.ErrSyntax", .iface "*errors.errorString" (errD lS))) (x2 := ("strconv.ErrRange", .iface "*errors.errorString" (errD lR))) err_gn.1 err_gn.2 h5 h6 hS hR2
noncomputable def YY : List (Nat × List Value) × List Obj := (Y5.1 ++ YE.1, Y5.2 ++ YE.2)
theorem yY : Lay.layList Tryz.prog 14 laidP = some YY := by
  have h : laidP = laidP.take 5 ++ laidP.drop 5 := (List.take_append_drop 5 laidP).symm
  rw [h]
  exact lay_app _ _ 14 Y5 YE y5 (by rw [y5_none]; exact yE)

/-- A world that meets the condition: the settled one, the variables laid. -/
noncomputable def laidWorld (os : Os) : World := { laidW0 os with heap := ⟨Lay.setRows (laidW0 os).heap.toList YY.1 ++ YY.2⟩ }
theorem laidWorld_eq (os : Os) : (laidW0 os).layVars Tryz.prog laidP = laidWorld os := layVars_of (sizeW os) yY
theorem laidWorld_os (os : Os) : (laidWorld os).os = os := rfl

end Go.Proofs.YtaoplfeohffbiaaGreatDoor.Sx

/-! Xr -/
namespace Go.Proofs.YtaoplfeohffbiaaGreatDoor.Sx
set_option linter.unusedSimpArgs false
set_option linter.unusedVariables false
set_option linter.unusedSectionVars false
open Go.RowKit
set_option maxRecDepth 100000

theorem rows_nodup : decide ((YY.1.map (·.1)).Nodup) = true := by kernel_rfl
theorem rows_are (os : Os) : (YY.1.all fun r => Lay.isRow (laidW0 os).heap.toList[r.1]?) = true := by kernel_rfl
theorem laidW_fits (os : Os) : (laidW0 os).layFits Tryz.prog laidP [] = true := layFits_of (sizeW os) yY rows_nodup (rows_are os)

end Go.Proofs.YtaoplfeohffbiaaGreatDoor.Sx

/-! Xs -/
namespace Go.Proofs.YtaoplfeohffbiaaGreatDoor.Sx
set_option linter.unusedSimpArgs false
set_option linter.unusedVariables false
set_option linter.unusedSectionVars false
open Go.RowKit
set_option maxRecDepth 100000

theorem ifs_rows (os : Os) : (YY.1.all fun r => r.2.all (Lay.okV Tryz.prog (laidWorld os))) = true := by kernel_rfl
theorem ifs_objs (os : Os) : (YY.2.all (Lay.okO Tryz.prog (laidWorld os))) = true := by kernel_rfl
theorem laidW_ifs (os : Os) : (laidW0 os).layIfaces Tryz.prog laidP ((laidW0 os).layVars Tryz.prog laidP) = true := by
  rw [laidWorld_eq]
  exact layIfs_of (sizeW os) yY (ifs_rows os) (ifs_objs os)

end Go.Proofs.YtaoplfeohffbiaaGreatDoor.Sx

/-! The listed variables of the seat's rows: what they say of GW, and a world in which they are laid. -/
namespace Go.Proofs.YtaoplfeohffbiaaGreatDoor.Sx
set_option linter.unusedSimpArgs false
set_option linter.unusedVariables false
set_option linter.unusedSectionVars false
open Go.RowKit

theorem laid_plain {W : World} (h : laidMetH Tryz.prog laidL W) : laidMet Tryz.prog laidP W := (show laidMet Tryz.prog laidP W ∧ handlesMet Tryz.prog [("errors.errorType", Rows.laid_errors_errorType)] W from h).1
theorem laid_pow : (Rows.laid_internal_strconv_uint64pow10 : DataW Unit) = Lib.tabData .u64 Lib.pow10Tab := by rfl
theorem laid_gn : Tryz.prog.globalNamed "internal/strconv.uint64pow10" = some 4 := by kernel_rfl
theorem laid_GWpow {W : World} (h : laidMet Tryz.prog laidP W) : ∃ T fz, W.heap[4]? = some (.cells (Lib.pow10Tab.map fun z => Value.int .u64 z).toArray T fz) := by
  have h1 : laidMet Tryz.prog (("internal/strconv.uint64pow10", Rows.laid_internal_strconv_uint64pow10) :: [("math/bits.deBruijn32tab", Rows.laid_math_bits_deBruijn32tab), ("math/bits.deBruijn64tab", Rows.laid_math_bits_deBruijn64tab), ("strconv.ErrSyntax", Rows.laid_strconv_ErrSyntax), ("strconv.ErrRange", Rows.laid_strconv_ErrRange)]) W := h.tail.tail
  rw [laid_pow] at h1
  have ht := Lib.tabIs_of_head (g := 4) laid_gn (t := 697) (by kernel_rfl) (n := 20) (e := 332) (by kernel_rfl) (by kernel_rfl) (by kernel_rfl) (by kernel_rfl) h1
  unfold Lib.TabIs World.var? at ht
  rw [laid_gn] at ht
  simp only [Option.bind_some] at ht
  split at ht
  · rename_i cs T fz hh
    cases ht
    exact ⟨T, fz, hh⟩
  · cases ht
theorem laid_uf : (Rows.laid_unicode_utf8_first : DataW Unit) = Lib.firstData := Pinned.utf8First_eq
theorem laid_ua : (Rows.laid_unicode_utf8_acceptRanges : DataW Unit) = Lib.acceptData := by kernel_rfl
theorem laid_GWu {W : World} (h : laidMet Tryz.prog laidP W) : Lib.Utf8Tabs 2 3 W :=
  utf8Tabs_of_reads Tryz.lays260 ⟨by kernel_rfl, by kernel_rfl, by kernel_rfl, by kernel_rfl, by kernel_rfl, by kernel_rfl, by kernel_rfl⟩
    (by rw [← laid_uf]; exact Lib.laidMet.reads h (by simp [laidP])) (by rw [← laid_ua]; exact Lib.laidMet.reads h (by simp [laidP]))
/-- What the condition gives a walk. -/
theorem laid_GW {W : World} (h0 : laidMetH Tryz.prog laidL W) : GW W :=
  have hp := laid_plain h0
  { pow := laid_GWpow hp,
    uf := (laid_GWu hp).1,
    ua := (laid_GWu hp).2 }


end Go.Proofs.YtaoplfeohffbiaaGreatDoor.Sx

/-! The laid world meets the condition. -/
namespace Go.Proofs.YtaoplfeohffbiaaGreatDoor.Sx
set_option linter.unusedSimpArgs false
set_option linter.unusedVariables false
set_option linter.unusedSectionVars false
open Go.RowKit
set_option maxRecDepth 100000
theorem laidWorld_met (os : Os) (args : Array Value) : laidMetH Tryz.prog laidL ((laidWorld os).forCall (fun _ _ => 0) ⟨#[], args, []⟩).memory := by
  have h : laidMet Tryz.prog laidP (((laidW0 os).layVars Tryz.prog laidP).forCall (fun _ _ => 0) ⟨#[], args, []⟩).memory := laidMet_layOver args (laidW_fits os) (laidW_ifs os)
  rw [laidWorld_eq] at h
  exact laidMetH_of_parts (show laidMet Tryz.prog laidP _ from h) (by kernel_rfl)
end Go.Proofs.YtaoplfeohffbiaaGreatDoor.Sx

/-! Closed facts of the cards. -/
namespace Go.Proofs.YtaoplfeohffbiaaGreatDoor.Card
set_option linter.unusedSimpArgs false
set_option linter.unusedVariables false
set_option linter.unusedSectionVars false
open Go.ChangeShapes Go.WideShapes Go.ChangeAt Go.RowKit Go.Proofs.YtaoplfeohffbiaaGreatDoor.Sx
set_option maxRecDepth 100000

theorem heapRest (os : Os) (args : Array Value) : List.take ((begin Tryz.checked.prog (fun _ _ => 0) default).world.heap.size - Tryz.checked.prog.globals.size) (List.drop Tryz.checked.prog.globals.size ((laidWorld os).forCall (fun _ _ => 0) ⟨#[], args, []⟩).heap.toList) = List.drop Tryz.checked.prog.globals.size (begin Tryz.checked.prog (fun _ _ => 0) default).world.heap.toList := by kernel_rfl

end Go.Proofs.YtaoplfeohffbiaaGreatDoor.Card

/-! Closed facts of the cards. -/
namespace Go.Proofs.YtaoplfeohffbiaaGreatDoor.Card
set_option linter.unusedSimpArgs false
set_option linter.unusedVariables false
set_option linter.unusedSectionVars false
open Go.ChangeShapes Go.WideShapes Go.ChangeAt Go.RowKit Go.Proofs.YtaoplfeohffbiaaGreatDoor.Sx
set_option maxRecDepth 100000

theorem varsFit (os : Os) (args : Array Value) : World.variablesB Tryz.checked.prog ((laidWorld os).forCall (fun _ _ => 0) ⟨#[], args, []⟩) = true := by kernel_rfl

end Go.Proofs.YtaoplfeohffbiaaGreatDoor.Card
