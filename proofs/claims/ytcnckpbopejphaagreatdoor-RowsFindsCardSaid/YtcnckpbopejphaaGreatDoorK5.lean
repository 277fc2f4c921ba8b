/- 'furrowlaw06.RowsFinds': the law returns true, and the input reads as it did. Where the listed package-level variables hold what the program's text lays (the card ties them). -/
import Derived.Test.YtcnckpbopejphaaGreatDoorK2
import Derived.Test.YtcnckpbopejphaaGreatDoorRows
import Derived.Test.YtcnckpbopejphaaGreatDoorK3
import Derived.Test.YtcnckpbopejphaaGreatDoorK4
import Derived.Lay
import Derived.Test.YtcnckpbopejphaaGreatDoorTie
import Derived.Test.YtcnckpbopejphaaGreatDoorCards
import Derived.Test.YtcnckpbopejphaaGreatDoorK0
import Derived.Test.YtcnckpbopejphaaGreatDoorK1

/-! Facts of the program's types, written by a program. -/
namespace Go.Proofs.YtcnckpbopejphaaGreatDoor.Sx
set_option linter.unusedSimpArgs false

theorem tfA0 : aggI Tryz.prog 0 = (some (false, 1)) := by kernel_rfl
theorem tfM0 : mkI Tryz.prog 0 = true := by kernel_rfl
theorem tfA1 : aggI Tryz.prog 1 = (some (false, 1)) := by kernel_rfl
theorem tfZ1 : zeroI Tryz.prog 1 = (some ((.val .nilFunc) :: [])) := by kernel_rfl
theorem tfX1 : isFn Tryz.prog 1 = true := by kernel_rfl
theorem tfM1 : mkI Tryz.prog 1 = true := by kernel_rfl
theorem tfA2 : aggI Tryz.prog 2 = (some (false, 1)) := by kernel_rfl
theorem tfZ2 : zeroI Tryz.prog 2 = (some ((.int .i64 (0 : Int)) :: [])) := by kernel_rfl
theorem tfM2 : mkI Tryz.prog 2 = true := by kernel_rfl
theorem tfU2 : Program.underlying Tryz.prog 2 = (some (.int .i64)) := by kernel_rfl
theorem tfA3 : aggI Tryz.prog 3 = (some (false, 1)) := by kernel_rfl
theorem tfZ3 : zeroI Tryz.prog 3 = (some ((.int .i64 (0 : Int)) :: [])) := by kernel_rfl
theorem tfM3 : mkI Tryz.prog 3 = true := by kernel_rfl
theorem tfU3 : Program.underlying Tryz.prog 3 = (some (.int .i64)) := by kernel_rfl
theorem tfA4 : aggI Tryz.prog 4 = (some (false, 1)) := by kernel_rfl
theorem tfZ4 : zeroI Tryz.prog 4 = (some ((.bool false) :: [])) := by kernel_rfl
theorem tfB4 : isBool Tryz.prog 4 = true := by kernel_rfl
theorem tfM4 : mkI Tryz.prog 4 = true := by kernel_rfl
theorem tfA5 : aggI Tryz.prog 5 = (some (false, 1)) := by kernel_rfl
theorem tfZ5 : zeroI Tryz.prog 5 = (some ((.int .u8 (0 : Int)) :: [])) := by kernel_rfl
theorem tfM5 : mkI Tryz.prog 5 = true := by kernel_rfl
theorem tfU5 : Program.underlying Tryz.prog 5 = (some (.int .u8)) := by kernel_rfl
theorem tfA6 : aggI Tryz.prog 6 = (some (false, 1)) := by kernel_rfl
theorem tfZ6 : zeroI Tryz.prog 6 = (some ((.int .u8 (0 : Int)) :: [])) := by kernel_rfl
theorem tfM6 : mkI Tryz.prog 6 = true := by kernel_rfl
theorem tfU6 : Program.underlying Tryz.prog 6 = (some (.int .u8)) := by kernel_rfl
theorem tfA7 : aggI Tryz.prog 7 = (some (true, 4)) := by kernel_rfl
theorem tfZ7 : zeroI Tryz.prog 7 = (some ((.int .i64 (0 : Int)) :: ((.int .i64 (0 : Int)) :: ((.bool false) :: ((.int .u8 (0 : Int)) :: []))))) := by kernel_rfl
theorem tfP7 : placesI Tryz.prog 7 = (some ((0, 1) :: ((1, 1) :: ((2, 1) :: ((3, 1) :: []))))) := by kernel_rfl
theorem tfM7 : mkI Tryz.prog 7 = true := by kernel_rfl
theorem tfF7x0 : fldI Tryz.prog 7 0 = (some 0) := by kernel_rfl
theorem tfG7x0 : fieldI Tryz.prog 7 0 = (some (false, (0, 1))) := by kernel_rfl
theorem tfF7x1 : fldI Tryz.prog 7 1 = (some 1) := by kernel_rfl
theorem tfG7x1 : fieldI Tryz.prog 7 1 = (some (false, (1, 1))) := by kernel_rfl
theorem tfF7x2 : fldI Tryz.prog 7 2 = (some 2) := by kernel_rfl
theorem tfG7x2 : fieldI Tryz.prog 7 2 = (some (false, (2, 1))) := by kernel_rfl
theorem tfF7x3 : fldI Tryz.prog 7 3 = (some 3) := by kernel_rfl
theorem tfG7x3 : fieldI Tryz.prog 7 3 = (some (false, (3, 1))) := by kernel_rfl
theorem tfA8 : aggI Tryz.prog 8 = (some (true, 4)) := by kernel_rfl
theorem tfZ8 : zeroI Tryz.prog 8 = (some ((.int .i64 (0 : Int)) :: ((.int .i64 (0 : Int)) :: ((.bool false) :: ((.int .u8 (0 : Int)) :: []))))) := by kernel_rfl
theorem tfP8 : placesI Tryz.prog 8 = (some ((0, 1) :: ((1, 1) :: ((2, 1) :: ((3, 1) :: []))))) := by kernel_rfl
theorem tfM8 : mkI Tryz.prog 8 = true := by kernel_rfl
theorem tfF8x0 : fldI Tryz.prog 8 0 = (some 0) := by kernel_rfl
theorem tfG8x0 : fieldI Tryz.prog 8 0 = (some (false, (0, 1))) := by kernel_rfl
theorem tfF8x1 : fldI Tryz.prog 8 1 = (some 1) := by kernel_rfl
theorem tfG8x1 : fieldI Tryz.prog 8 1 = (some (false, (1, 1))) := by kernel_rfl
theorem tfF8x2 : fldI Tryz.prog 8 2 = (some 2) := by kernel_rfl
theorem tfG8x2 : fieldI Tryz.prog 8 2 = (some (false, (2, 1))) := by kernel_rfl
theorem tfF8x3 : fldI Tryz.prog 8 3 = (some 3) := by kernel_rfl
theorem tfG8x3 : fieldI Tryz.prog 8 3 = (some (false, (3, 1))) := by kernel_rfl
theorem tfA9 : aggI Tryz.prog 9 = (some (false, 1)) := by kernel_rfl
theorem tfZ9 : zeroI Tryz.prog 9 = (some ((.str []) :: [])) := by kernel_rfl
theorem tfS9 : isStr Tryz.prog 9 = true := by kernel_rfl
theorem tfM9 : mkI Tryz.prog 9 = true := by kernel_rfl
theorem tfU9 : Program.underlying Tryz.prog 9 = (some .string) := by kernel_rfl
theorem tfA10 : aggI Tryz.prog 10 = (some (false, 1)) := by kernel_rfl
theorem tfZ10 : zeroI Tryz.prog 10 = (some ((.str []) :: [])) := by kernel_rfl
theorem tfS10 : isStr Tryz.prog 10 = true := by kernel_rfl
theorem tfM10 : mkI Tryz.prog 10 = true := by kernel_rfl
theorem tfU10 : Program.underlying Tryz.prog 10 = (some .string) := by kernel_rfl
theorem tfA11 : aggI Tryz.prog 11 = (some (false, 1)) := by kernel_rfl
theorem tfZ11 : zeroI Tryz.prog 11 = (some ((.str []) :: [])) := by kernel_rfl
theorem tfS11 : isStr Tryz.prog 11 = true := by kernel_rfl
theorem tfM11 : mkI Tryz.prog 11 = true := by kernel_rfl
theorem tfU11 : Program.underlying Tryz.prog 11 = (some .string) := by kernel_rfl
theorem tfA12 : aggI Tryz.prog 12 = (some (false, 1)) := by kernel_rfl
theorem tfZ12 : zeroI Tryz.prog 12 = (some ((.int .u64 (0 : Int)) :: [])) := by kernel_rfl
theorem tfM12 : mkI Tryz.prog 12 = true := by kernel_rfl
theorem tfU12 : Program.underlying Tryz.prog 12 = (some (.int .u64)) := by kernel_rfl
theorem tfA13 : aggI Tryz.prog 13 = (some (true, 2)) := by kernel_rfl
theorem tfZ13 : zeroI Tryz.prog 13 = (some ((.str []) :: ((.int .u64 (0 : Int)) :: []))) := by kernel_rfl
theorem tfP13 : placesI Tryz.prog 13 = (some ((0, 1) :: ((1, 1) :: []))) := by kernel_rfl
theorem tfM13 : mkI Tryz.prog 13 = true := by kernel_rfl
theorem tfF13x0 : fldI Tryz.prog 13 0 = (some 0) := by kernel_rfl
theorem tfG13x0 : fieldI Tryz.prog 13 0 = (some (false, (0, 1))) := by kernel_rfl
theorem tfF13x1 : fldI Tryz.prog 13 1 = (some 1) := by kernel_rfl
theorem tfG13x1 : fieldI Tryz.prog 13 1 = (some (false, (1, 1))) := by kernel_rfl
theorem tfA14 : aggI Tryz.prog 14 = (some (true, 2)) := by kernel_rfl
theorem tfZ14 : zeroI Tryz.prog 14 = (some ((.str []) :: ((.int .u64 (0 : Int)) :: []))) := by kernel_rfl
theorem tfP14 : placesI Tryz.prog 14 = (some ((0, 1) :: ((1, 1) :: []))) := by kernel_rfl
theorem tfM14 : mkI Tryz.prog 14 = true := by kernel_rfl
theorem tfF14x0 : fldI Tryz.prog 14 0 = (some 0) := by kernel_rfl
theorem tfG14x0 : fieldI Tryz.prog 14 0 = (some (false, (0, 1))) := by kernel_rfl
theorem tfF14x1 : fldI Tryz.prog 14 1 = (some 1) := by kernel_rfl
theorem tfG14x1 : fieldI Tryz.prog 14 1 = (some (false, (1, 1))) := by kernel_rfl
theorem tfA15 : aggI Tryz.prog 15 = (some (false, 1)) := by kernel_rfl
theorem tfZ15 : zeroI Tryz.prog 15 = (some ((.val (.pointer none)) :: [])) := by kernel_rfl
theorem tfQ15 : isPtr Tryz.prog 15 = true := by kernel_rfl
theorem tfM15 : mkI Tryz.prog 15 = true := by kernel_rfl
theorem tfA16 : aggI Tryz.prog 16 = (some (false, 1)) := by kernel_rfl
theorem tfZ16 : zeroI Tryz.prog 16 = (some ((.val (.pointer none)) :: [])) := by kernel_rfl
theorem tfQ16 : isPtr Tryz.prog 16 = true := by kernel_rfl
theorem tfM16 : mkI Tryz.prog 16 = true := by kernel_rfl
theorem tfA17 : aggI Tryz.prog 17 = (some (false, 1)) := by kernel_rfl
theorem tfZ17 : zeroI Tryz.prog 17 = (some ((.val (.pointer none)) :: [])) := by kernel_rfl
theorem tfQ17 : isPtr Tryz.prog 17 = true := by kernel_rfl
theorem tfM17 : mkI Tryz.prog 17 = true := by kernel_rfl
theorem tfA18 : aggI Tryz.prog 18 = (some (true, 1)) := by kernel_rfl
theorem tfZ18 : zeroI Tryz.prog 18 = (some ((.val (.pointer none)) :: [])) := by kernel_rfl
theorem tfP18 : placesI Tryz.prog 18 = (some ((0, 1) :: [])) := by kernel_rfl
theorem tfM18 : mkI Tryz.prog 18 = true := by kernel_rfl
theorem tfF18x0 : fldI Tryz.prog 18 0 = (some 0) := by kernel_rfl
theorem tfG18x0 : fieldI Tryz.prog 18 0 = (some (false, (0, 1))) := by kernel_rfl
theorem tfA19 : aggI Tryz.prog 19 = (some (true, 1)) := by kernel_rfl
theorem tfZ19 : zeroI Tryz.prog 19 = (some ((.val (.pointer none)) :: [])) := by kernel_rfl
theorem tfP19 : placesI Tryz.prog 19 = (some ((0, 1) :: [])) := by kernel_rfl
theorem tfM19 : mkI Tryz.prog 19 = true := by kernel_rfl
theorem tfF19x0 : fldI Tryz.prog 19 0 = (some 0) := by kernel_rfl
theorem tfG19x0 : fieldI Tryz.prog 19 0 = (some (false, (0, 1))) := by kernel_rfl
theorem tfA20 : aggI Tryz.prog 20 = (some (false, 1)) := by kernel_rfl
theorem tfZ20 : zeroI Tryz.prog 20 = (some ((.val .nilIface) :: [])) := by kernel_rfl
theorem tfI20 : isIf Tryz.prog 20 = true := by kernel_rfl
theorem tfA21 : aggI Tryz.prog 21 = (some (false, 1)) := by kernel_rfl
theorem tfZ21 : zeroI Tryz.prog 21 = (some ((.int .i32 (0 : Int)) :: [])) := by kernel_rfl
theorem tfM21 : mkI Tryz.prog 21 = true := by kernel_rfl
theorem tfU21 : Program.underlying Tryz.prog 21 = (some (.int .i32)) := by kernel_rfl
theorem tfA22 : aggI Tryz.prog 22 = (some (false, 1)) := by kernel_rfl
theorem tfZ22 : zeroI Tryz.prog 22 = (some ((.int .u8 (0 : Int)) :: [])) := by kernel_rfl
theorem tfM22 : mkI Tryz.prog 22 = true := by kernel_rfl
theorem tfU22 : Program.underlying Tryz.prog 22 = (some (.int .u8)) := by kernel_rfl
theorem tfE23 : elemI Tryz.prog 23 = (some (.str, 16)) := by kernel_rfl
theorem tfA23 : aggI Tryz.prog 23 = (some (false, 1)) := by kernel_rfl
theorem tfZ23 : zeroI Tryz.prog 23 = (some (.nils :: [])) := by kernel_rfl
theorem tfM23 : mkI Tryz.prog 23 = true := by kernel_rfl
theorem tfA24 : aggI Tryz.prog 24 = (some (true, 5)) := by kernel_rfl
theorem tfZ24 : zeroI Tryz.prog 24 = (some ((.int .i64 (0 : Int)) :: ((.int .u8 (0 : Int)) :: ((.str []) :: (.nils :: ((.str []) :: [])))))) := by kernel_rfl
theorem tfP24 : placesI Tryz.prog 24 = (some ((0, 1) :: ((1, 1) :: ((2, 1) :: ((3, 1) :: ((4, 1) :: [])))))) := by kernel_rfl
theorem tfM24 : mkI Tryz.prog 24 = true := by kernel_rfl
theorem tfF24x0 : fldI Tryz.prog 24 0 = (some 0) := by kernel_rfl
theorem tfG24x0 : fieldI Tryz.prog 24 0 = (some (false, (0, 1))) := by kernel_rfl
theorem tfF24x1 : fldI Tryz.prog 24 1 = (some 1) := by kernel_rfl
theorem tfG24x1 : fieldI Tryz.prog 24 1 = (some (false, (1, 1))) := by kernel_rfl
theorem tfF24x2 : fldI Tryz.prog 24 2 = (some 2) := by kernel_rfl
theorem tfG24x2 : fieldI Tryz.prog 24 2 = (some (false, (2, 1))) := by kernel_rfl
theorem tfF24x3 : fldI Tryz.prog 24 3 = (some 3) := by kernel_rfl
theorem tfG24x3 : fieldI Tryz.prog 24 3 = (some (false, (3, 1))) := by kernel_rfl
theorem tfF24x4 : fldI Tryz.prog 24 4 = (some 4) := by kernel_rfl
theorem tfG24x4 : fieldI Tryz.prog 24 4 = (some (false, (4, 1))) := by kernel_rfl
theorem tfA25 : aggI Tryz.prog 25 = (some (true, 5)) := by kernel_rfl
theorem tfZ25 : zeroI Tryz.prog 25 = (some ((.int .i64 (0 : Int)) :: ((.int .u8 (0 : Int)) :: ((.str []) :: (.nils :: ((.str []) :: [])))))) := by kernel_rfl
theorem tfP25 : placesI Tryz.prog 25 = (some ((0, 1) :: ((1, 1) :: ((2, 1) :: ((3, 1) :: ((4, 1) :: [])))))) := by kernel_rfl
theorem tfM25 : mkI Tryz.prog 25 = true := by kernel_rfl
theorem tfF25x0 : fldI Tryz.prog 25 0 = (some 0) := by kernel_rfl
theorem tfG25x0 : fieldI Tryz.prog 25 0 = (some (false, (0, 1))) := by kernel_rfl
theorem tfF25x1 : fldI Tryz.prog 25 1 = (some 1) := by kernel_rfl
theorem tfG25x1 : fieldI Tryz.prog 25 1 = (some (false, (1, 1))) := by kernel_rfl
theorem tfF25x2 : fldI Tryz.prog 25 2 = (some 2) := by kernel_rfl
theorem tfG25x2 : fieldI Tryz.prog 25 2 = (some (false, (2, 1))) := by kernel_rfl
theorem tfF25x3 : fldI Tryz.prog 25 3 = (some 3) := by kernel_rfl
theorem tfG25x3 : fieldI Tryz.prog 25 3 = (some (false, (3, 1))) := by kernel_rfl
theorem tfF25x4 : fldI Tryz.prog 25 4 = (some 4) := by kernel_rfl
theorem tfG25x4 : fieldI Tryz.prog 25 4 = (some (false, (4, 1))) := by kernel_rfl
theorem tfA26 : aggI Tryz.prog 26 = (some (false, 1)) := by kernel_rfl
theorem tfZ26 : zeroI Tryz.prog 26 = (some ((.val .nilFunc) :: [])) := by kernel_rfl
theorem tfX26 : isFn Tryz.prog 26 = true := by kernel_rfl
theorem tfM26 : mkI Tryz.prog 26 = true := by kernel_rfl
theorem tfA27 : aggI Tryz.prog 27 = (some (false, 1)) := by kernel_rfl
theorem tfZ27 : zeroI Tryz.prog 27 = (some ((.int .u8 (0 : Int)) :: [])) := by kernel_rfl
theorem tfM27 : mkI Tryz.prog 27 = true := by kernel_rfl
theorem tfU27 : Program.underlying Tryz.prog 27 = (some (.int .u8)) := by kernel_rfl
theorem tfA28 : aggI Tryz.prog 28 = (some (true, 9)) := by kernel_rfl
theorem tfZ28 : zeroI Tryz.prog 28 = (some ((.int .i64 (0 : Int)) :: ((.int .i32 (0 : Int)) :: ((.int .i32 (0 : Int)) :: ((.str []) :: ((.str []) :: ((.int .u8 (0 : Int)) :: ((.int .u8 (0 : Int)) :: ((.int .i32 (0 : Int)) :: ((.bool false) :: [])))))))))) := by kernel_rfl
theorem tfP28 : placesI Tryz.prog 28 = (some ((0, 1) :: ((1, 1) :: ((2, 1) :: ((3, 1) :: ((4, 1) :: ((5, 1) :: ((6, 1) :: ((7, 1) :: ((8, 1) :: [])))))))))) := by kernel_rfl
theorem tfM28 : mkI Tryz.prog 28 = true := by kernel_rfl
theorem tfF28x0 : fldI Tryz.prog 28 0 = (some 0) := by kernel_rfl
theorem tfG28x0 : fieldI Tryz.prog 28 0 = (some (false, (0, 1))) := by kernel_rfl
theorem tfF28x1 : fldI Tryz.prog 28 1 = (some 1) := by kernel_rfl
theorem tfG28x1 : fieldI Tryz.prog 28 1 = (some (false, (1, 1))) := by kernel_rfl
theorem tfF28x2 : fldI Tryz.prog 28 2 = (some 2) := by kernel_rfl
theorem tfG28x2 : fieldI Tryz.prog 28 2 = (some (false, (2, 1))) := by kernel_rfl
theorem tfF28x3 : fldI Tryz.prog 28 3 = (some 3) := by kernel_rfl
theorem tfG28x3 : fieldI Tryz.prog 28 3 = (some (false, (3, 1))) := by kernel_rfl
theorem tfF28x4 : fldI Tryz.prog 28 4 = (some 4) := by kernel_rfl
theorem tfG28x4 : fieldI Tryz.prog 28 4 = (some (false, (4, 1))) := by kernel_rfl
theorem tfF28x5 : fldI Tryz.prog 28 5 = (some 5) := by kernel_rfl
theorem tfG28x5 : fieldI Tryz.prog 28 5 = (some (false, (5, 1))) := by kernel_rfl
theorem tfF28x6 : fldI Tryz.prog 28 6 = (some 6) := by kernel_rfl
theorem tfG28x6 : fieldI Tryz.prog 28 6 = (some (false, (6, 1))) := by kernel_rfl
theorem tfF28x7 : fldI Tryz.prog 28 7 = (some 7) := by kernel_rfl
theorem tfG28x7 : fieldI Tryz.prog 28 7 = (some (false, (7, 1))) := by kernel_rfl
theorem tfF28x8 : fldI Tryz.prog 28 8 = (some 8) := by kernel_rfl
theorem tfG28x8 : fieldI Tryz.prog 28 8 = (some (false, (8, 1))) := by kernel_rfl
theorem tfA29 : aggI Tryz.prog 29 = (some (true, 9)) := by kernel_rfl
theorem tfZ29 : zeroI Tryz.prog 29 = (some ((.int .i64 (0 : Int)) :: ((.int .i32 (0 : Int)) :: ((.int .i32 (0 : Int)) :: ((.str []) :: ((.str []) :: ((.int .u8 (0 : Int)) :: ((.int .u8 (0 : Int)) :: ((.int .i32 (0 : Int)) :: ((.bool false) :: [])))))))))) := by kernel_rfl
theorem tfP29 : placesI Tryz.prog 29 = (some ((0, 1) :: ((1, 1) :: ((2, 1) :: ((3, 1) :: ((4, 1) :: ((5, 1) :: ((6, 1) :: ((7, 1) :: ((8, 1) :: [])))))))))) := by kernel_rfl
theorem tfM29 : mkI Tryz.prog 29 = true := by kernel_rfl
theorem tfF29x0 : fldI Tryz.prog 29 0 = (some 0) := by kernel_rfl
theorem tfG29x0 : fieldI Tryz.prog 29 0 = (some (false, (0, 1))) := by kernel_rfl
theorem tfF29x1 : fldI Tryz.prog 29 1 = (some 1) := by kernel_rfl
theorem tfG29x1 : fieldI Tryz.prog 29 1 = (some (false, (1, 1))) := by kernel_rfl
theorem tfF29x2 : fldI Tryz.prog 29 2 = (some 2) := by kernel_rfl
theorem tfG29x2 : fieldI Tryz.prog 29 2 = (some (false, (2, 1))) := by kernel_rfl
theorem tfF29x3 : fldI Tryz.prog 29 3 = (some 3) := by kernel_rfl
theorem tfG29x3 : fieldI Tryz.prog 29 3 = (some (false, (3, 1))) := by kernel_rfl
theorem tfF29x4 : fldI Tryz.prog 29 4 = (some 4) := by kernel_rfl
theorem tfG29x4 : fieldI Tryz.prog 29 4 = (some (false, (4, 1))) := by kernel_rfl
theorem tfF29x5 : fldI Tryz.prog 29 5 = (some 5) := by kernel_rfl
theorem tfG29x5 : fieldI Tryz.prog 29 5 = (some (false, (5, 1))) := by kernel_rfl
theorem tfF29x6 : fldI Tryz.prog 29 6 = (some 6) := by kernel_rfl
theorem tfG29x6 : fieldI Tryz.prog 29 6 = (some (false, (6, 1))) := by kernel_rfl
theorem tfF29x7 : fldI Tryz.prog 29 7 = (some 7) := by kernel_rfl
theorem tfG29x7 : fieldI Tryz.prog 29 7 = (some (false, (7, 1))) := by kernel_rfl
theorem tfF29x8 : fldI Tryz.prog 29 8 = (some 8) := by kernel_rfl
theorem tfG29x8 : fieldI Tryz.prog 29 8 = (some (false, (8, 1))) := by kernel_rfl
theorem tfA30 : aggI Tryz.prog 30 = (some (false, 1)) := by kernel_rfl
theorem tfZ30 : zeroI Tryz.prog 30 = (some ((.int .i64 (0 : Int)) :: [])) := by kernel_rfl
theorem tfM30 : mkI Tryz.prog 30 = true := by kernel_rfl
theorem tfU30 : Program.underlying Tryz.prog 30 = (some (.int .i64)) := by kernel_rfl
theorem tfA31 : aggI Tryz.prog 31 = (some (false, 1)) := by kernel_rfl
theorem tfM31 : mkI Tryz.prog 31 = true := by kernel_rfl
theorem tfA32 : aggI Tryz.prog 32 = (some (false, 1)) := by kernel_rfl
theorem tfZ32 : zeroI Tryz.prog 32 = (some ((.val .nilFunc) :: [])) := by kernel_rfl
theorem tfX32 : isFn Tryz.prog 32 = true := by kernel_rfl
theorem tfM32 : mkI Tryz.prog 32 = true := by kernel_rfl
theorem tfA33 : aggI Tryz.prog 33 = (some (false, 1)) := by kernel_rfl
theorem tfM33 : mkI Tryz.prog 33 = true := by kernel_rfl
theorem tfA34 : aggI Tryz.prog 34 = (some (false, 1)) := by kernel_rfl
theorem tfZ34 : zeroI Tryz.prog 34 = (some ((.val .nilFunc) :: [])) := by kernel_rfl
theorem tfX34 : isFn Tryz.prog 34 = true := by kernel_rfl
theorem tfM34 : mkI Tryz.prog 34 = true := by kernel_rfl
theorem tfA35 : aggI Tryz.prog 35 = (some (false, 1)) := by kernel_rfl
theorem tfZ35 : zeroI Tryz.prog 35 = (some ((.val .nilFunc) :: [])) := by kernel_rfl
theorem tfX35 : isFn Tryz.prog 35 = true := by kernel_rfl
theorem tfM35 : mkI Tryz.prog 35 = true := by kernel_rfl
theorem tfA36 : aggI Tryz.prog 36 = (some (false, 1)) := by kernel_rfl
theorem tfZ36 : zeroI Tryz.prog 36 = (some ((.val .nilFunc) :: [])) := by kernel_rfl
theorem tfX36 : isFn Tryz.prog 36 = true := by kernel_rfl
theorem tfM36 : mkI Tryz.prog 36 = true := by kernel_rfl
theorem tfE37 : elemI Tryz.prog 37 = (some ((.pair (.int .i64) (.pair (.int .i32) (.pair (.int .i32) (.pair .str (.pair .str (.pair (.int .u8) (.pair (.int .u8) (.pair (.int .i32) (.pair .bool .unit))))))))), 64)) := by kernel_rfl
theorem tfA37 : aggI Tryz.prog 37 = (some (false, 1)) := by kernel_rfl
theorem tfZ37 : zeroI Tryz.prog 37 = (some (.nils :: [])) := by kernel_rfl
theorem tfM37 : mkI Tryz.prog 37 = true := by kernel_rfl
theorem tfA38 : aggI Tryz.prog 38 = (some (false, 1)) := by kernel_rfl
theorem tfZ38 : zeroI Tryz.prog 38 = (some ((.val .nilIface) :: [])) := by kernel_rfl
theorem tfI38 : isIf Tryz.prog 38 = true := by kernel_rfl
theorem tfA39 : aggI Tryz.prog 39 = (some (false, 1)) := by kernel_rfl
theorem tfZ39 : zeroI Tryz.prog 39 = (some ((.val .nilIface) :: [])) := by kernel_rfl
theorem tfI39 : isIf Tryz.prog 39 = true := by kernel_rfl
theorem tfA40 : aggI Tryz.prog 40 = (some (false, 1)) := by kernel_rfl
theorem tfM40 : mkI Tryz.prog 40 = true := by kernel_rfl
theorem tfA41 : aggI Tryz.prog 41 = (some (false, 1)) := by kernel_rfl
theorem tfZ41 : zeroI Tryz.prog 41 = (some ((.val .nilFunc) :: [])) := by kernel_rfl
theorem tfX41 : isFn Tryz.prog 41 = true := by kernel_rfl
theorem tfM41 : mkI Tryz.prog 41 = true := by kernel_rfl
theorem tfA42 : aggI Tryz.prog 42 = (some (false, 1)) := by kernel_rfl
theorem tfM42 : mkI Tryz.prog 42 = true := by kernel_rfl
theorem tfA43 : aggI Tryz.prog 43 = (some (false, 1)) := by kernel_rfl
theorem tfZ43 : zeroI Tryz.prog 43 = (some ((.val .nilFunc) :: [])) := by kernel_rfl
theorem tfX43 : isFn Tryz.prog 43 = true := by kernel_rfl
theorem tfM43 : mkI Tryz.prog 43 = true := by kernel_rfl
theorem tfA44 : aggI Tryz.prog 44 = (some (false, 1)) := by kernel_rfl
theorem tfZ44 : zeroI Tryz.prog 44 = (some ((.val (.pointer none)) :: [])) := by kernel_rfl
theorem tfQ44 : isPtr Tryz.prog 44 = true := by kernel_rfl
theorem tfM44 : mkI Tryz.prog 44 = true := by kernel_rfl
theorem tfA45 : aggI Tryz.prog 45 = (some (false, 1)) := by kernel_rfl
theorem tfZ45 : zeroI Tryz.prog 45 = (some ((.val .nilFunc) :: [])) := by kernel_rfl
theorem tfX45 : isFn Tryz.prog 45 = true := by kernel_rfl
theorem tfM45 : mkI Tryz.prog 45 = true := by kernel_rfl
theorem tfA46 : aggI Tryz.prog 46 = (some (false, 1)) := by kernel_rfl
theorem tfZ46 : zeroI Tryz.prog 46 = (some ((.val (.pointer none)) :: [])) := by kernel_rfl
theorem tfQ46 : isPtr Tryz.prog 46 = true := by kernel_rfl
theorem tfM46 : mkI Tryz.prog 46 = true := by kernel_rfl
theorem tfA47 : aggI Tryz.prog 47 = (some (true, 3)) := by kernel_rfl
theorem tfZ47 : zeroI Tryz.prog 47 = (some ((.str []) :: ((.int .i64 (0 : Int)) :: ((.int .i64 (0 : Int)) :: [])))) := by kernel_rfl
theorem tfP47 : placesI Tryz.prog 47 = (some ((0, 1) :: ((1, 1) :: ((2, 1) :: [])))) := by kernel_rfl
theorem tfM47 : mkI Tryz.prog 47 = true := by kernel_rfl
theorem tfF47x0 : fldI Tryz.prog 47 0 = (some 0) := by kernel_rfl
theorem tfG47x0 : fieldI Tryz.prog 47 0 = (some (false, (0, 1))) := by kernel_rfl
theorem tfF47x1 : fldI Tryz.prog 47 1 = (some 1) := by kernel_rfl
theorem tfG47x1 : fieldI Tryz.prog 47 1 = (some (false, (1, 1))) := by kernel_rfl
theorem tfF47x2 : fldI Tryz.prog 47 2 = (some 2) := by kernel_rfl
theorem tfG47x2 : fieldI Tryz.prog 47 2 = (some (false, (2, 1))) := by kernel_rfl
theorem tfA48 : aggI Tryz.prog 48 = (some (true, 3)) := by kernel_rfl
theorem tfZ48 : zeroI Tryz.prog 48 = (some ((.str []) :: ((.int .i64 (0 : Int)) :: ((.int .i64 (0 : Int)) :: [])))) := by kernel_rfl
theorem tfP48 : placesI Tryz.prog 48 = (some ((0, 1) :: ((1, 1) :: ((2, 1) :: [])))) := by kernel_rfl
theorem tfM48 : mkI Tryz.prog 48 = true := by kernel_rfl
theorem tfF48x0 : fldI Tryz.prog 48 0 = (some 0) := by kernel_rfl
theorem tfG48x0 : fieldI Tryz.prog 48 0 = (some (false, (0, 1))) := by kernel_rfl
theorem tfF48x1 : fldI Tryz.prog 48 1 = (some 1) := by kernel_rfl
theorem tfG48x1 : fieldI Tryz.prog 48 1 = (some (false, (1, 1))) := by kernel_rfl
theorem tfF48x2 : fldI Tryz.prog 48 2 = (some 2) := by kernel_rfl
theorem tfG48x2 : fieldI Tryz.prog 48 2 = (some (false, (2, 1))) := by kernel_rfl
theorem tfA49 : aggI Tryz.prog 49 = (some (false, 1)) := by kernel_rfl
theorem tfZ49 : zeroI Tryz.prog 49 = (some ((.val .nilFunc) :: [])) := by kernel_rfl
theorem tfX49 : isFn Tryz.prog 49 = true := by kernel_rfl
theorem tfM49 : mkI Tryz.prog 49 = true := by kernel_rfl
theorem tfA50 : aggI Tryz.prog 50 = (some (false, 1)) := by kernel_rfl
theorem tfZ50 : zeroI Tryz.prog 50 = (some ((.val .nilFunc) :: [])) := by kernel_rfl
theorem tfX50 : isFn Tryz.prog 50 = true := by kernel_rfl
theorem tfM50 : mkI Tryz.prog 50 = true := by kernel_rfl
theorem tfA51 : aggI Tryz.prog 51 = (some (false, 1)) := by kernel_rfl
theorem tfZ51 : zeroI Tryz.prog 51 = (some ((.val .nilFunc) :: [])) := by kernel_rfl
theorem tfX51 : isFn Tryz.prog 51 = true := by kernel_rfl
theorem tfM51 : mkI Tryz.prog 51 = true := by kernel_rfl
theorem tfA52 : aggI Tryz.prog 52 = (some (false, 1)) := by kernel_rfl
theorem tfM52 : mkI Tryz.prog 52 = true := by kernel_rfl
theorem tfA53 : aggI Tryz.prog 53 = (some (false, 1)) := by kernel_rfl
theorem tfZ53 : zeroI Tryz.prog 53 = (some ((.val .nilFunc) :: [])) := by kernel_rfl
theorem tfX53 : isFn Tryz.prog 53 = true := by kernel_rfl
theorem tfM53 : mkI Tryz.prog 53 = true := by kernel_rfl
theorem tfA54 : aggI Tryz.prog 54 = (some (false, 1)) := by kernel_rfl
theorem tfZ54 : zeroI Tryz.prog 54 = (some ((.val .nilFunc) :: [])) := by kernel_rfl
theorem tfX54 : isFn Tryz.prog 54 = true := by kernel_rfl
theorem tfM54 : mkI Tryz.prog 54 = true := by kernel_rfl
theorem tfA55 : aggI Tryz.prog 55 = (some (false, 1)) := by kernel_rfl
theorem tfZ55 : zeroI Tryz.prog 55 = (some ((.val .nilFunc) :: [])) := by kernel_rfl
theorem tfX55 : isFn Tryz.prog 55 = true := by kernel_rfl
theorem tfM55 : mkI Tryz.prog 55 = true := by kernel_rfl
theorem tfA56 : aggI Tryz.prog 56 = (some (false, 1)) := by kernel_rfl
theorem tfZ56 : zeroI Tryz.prog 56 = (some ((.val .nilFunc) :: [])) := by kernel_rfl
theorem tfX56 : isFn Tryz.prog 56 = true := by kernel_rfl
theorem tfM56 : mkI Tryz.prog 56 = true := by kernel_rfl
theorem tfA57 : aggI Tryz.prog 57 = (some (false, 1)) := by kernel_rfl
theorem tfZ57 : zeroI Tryz.prog 57 = (some ((.val .nilFunc) :: [])) := by kernel_rfl
theorem tfX57 : isFn Tryz.prog 57 = true := by kernel_rfl
theorem tfM57 : mkI Tryz.prog 57 = true := by kernel_rfl
theorem tfA58 : aggI Tryz.prog 58 = (some (false, 1)) := by kernel_rfl
theorem tfZ58 : zeroI Tryz.prog 58 = (some ((.val .nilFunc) :: [])) := by kernel_rfl
theorem tfX58 : isFn Tryz.prog 58 = true := by kernel_rfl
theorem tfM58 : mkI Tryz.prog 58 = true := by kernel_rfl
theorem tfA59 : aggI Tryz.prog 59 = (some (false, 1)) := by kernel_rfl
theorem tfZ59 : zeroI Tryz.prog 59 = (some ((.val .nilFunc) :: [])) := by kernel_rfl
theorem tfX59 : isFn Tryz.prog 59 = true := by kernel_rfl
theorem tfM59 : mkI Tryz.prog 59 = true := by kernel_rfl
theorem tfA60 : aggI Tryz.prog 60 = (some (false, 1)) := by kernel_rfl
theorem tfZ60 : zeroI Tryz.prog 60 = (some ((.val .nilFunc) :: [])) := by kernel_rfl
theorem tfX60 : isFn Tryz.prog 60 = true := by kernel_rfl
theorem tfM60 : mkI Tryz.prog 60 = true := by kernel_rfl
theorem tfA61 : aggI Tryz.prog 61 = (some (false, 1)) := by kernel_rfl
theorem tfZ61 : zeroI Tryz.prog 61 = (some ((.val .nilFunc) :: [])) := by kernel_rfl
theorem tfX61 : isFn Tryz.prog 61 = true := by kernel_rfl
theorem tfM61 : mkI Tryz.prog 61 = true := by kernel_rfl
theorem tfA62 : aggI Tryz.prog 62 = (some (false, 1)) := by kernel_rfl
theorem tfM62 : mkI Tryz.prog 62 = true := by kernel_rfl
theorem tfA63 : aggI Tryz.prog 63 = (some (false, 1)) := by kernel_rfl
theorem tfZ63 : zeroI Tryz.prog 63 = (some ((.val .nilFunc) :: [])) := by kernel_rfl
theorem tfX63 : isFn Tryz.prog 63 = true := by kernel_rfl
theorem tfM63 : mkI Tryz.prog 63 = true := by kernel_rfl
theorem tfA64 : aggI Tryz.prog 64 = (some (false, 1)) := by kernel_rfl
theorem tfM64 : mkI Tryz.prog 64 = true := by kernel_rfl
theorem tfA65 : aggI Tryz.prog 65 = (some (false, 1)) := by kernel_rfl
theorem tfZ65 : zeroI Tryz.prog 65 = (some ((.val .nilFunc) :: [])) := by kernel_rfl
theorem tfX65 : isFn Tryz.prog 65 = true := by kernel_rfl
theorem tfM65 : mkI Tryz.prog 65 = true := by kernel_rfl
theorem tfA66 : aggI Tryz.prog 66 = (some (false, 1)) := by kernel_rfl
theorem tfZ66 : zeroI Tryz.prog 66 = (some ((.val .nilFunc) :: [])) := by kernel_rfl
theorem tfX66 : isFn Tryz.prog 66 = true := by kernel_rfl
theorem tfM66 : mkI Tryz.prog 66 = true := by kernel_rfl
theorem tfA67 : aggI Tryz.prog 67 = (some (false, 1)) := by kernel_rfl
theorem tfZ67 : zeroI Tryz.prog 67 = (some ((.val .nilFunc) :: [])) := by kernel_rfl
theorem tfX67 : isFn Tryz.prog 67 = true := by kernel_rfl
theorem tfM67 : mkI Tryz.prog 67 = true := by kernel_rfl
theorem tfA68 : aggI Tryz.prog 68 = (some (false, 1)) := by kernel_rfl
theorem tfZ68 : zeroI Tryz.prog 68 = (some ((.val .nilFunc) :: [])) := by kernel_rfl
theorem tfX68 : isFn Tryz.prog 68 = true := by kernel_rfl
theorem tfM68 : mkI Tryz.prog 68 = true := by kernel_rfl
theorem tfA69 : aggI Tryz.prog 69 = (some (false, 1)) := by kernel_rfl
theorem tfZ69 : zeroI Tryz.prog 69 = (some ((.val (.pointer none)) :: [])) := by kernel_rfl
theorem tfQ69 : isPtr Tryz.prog 69 = true := by kernel_rfl
theorem tfM69 : mkI Tryz.prog 69 = true := by kernel_rfl
theorem tfA70 : aggI Tryz.prog 70 = (some (true, 10)) := by kernel_rfl
theorem tfZ70 : zeroI Tryz.prog 70 = (some (.nils :: ((.int .i64 (0 : Int)) :: ((.int .i32 (0 : Int)) :: ((.int .i32 (0 : Int)) :: ((.str []) :: ((.str []) :: ((.int .u8 (0 : Int)) :: ((.int .u8 (0 : Int)) :: ((.int .i32 (0 : Int)) :: ((.bool false) :: []))))))))))) := by kernel_rfl
theorem tfP70 : placesI Tryz.prog 70 = (some ((0, 1) :: ((1, 9) :: []))) := by kernel_rfl
theorem tfM70 : mkI Tryz.prog 70 = true := by kernel_rfl
theorem tfF70x0 : fldI Tryz.prog 70 0 = (some 0) := by kernel_rfl
theorem tfG70x0 : fieldI Tryz.prog 70 0 = (some (false, (0, 1))) := by kernel_rfl
theorem tfF70x1 : fldI Tryz.prog 70 1 = (some 1) := by kernel_rfl
theorem tfG70x1 : fieldI Tryz.prog 70 1 = (some (true, (1, 9))) := by kernel_rfl
theorem tfA71 : aggI Tryz.prog 71 = (some (true, 10)) := by kernel_rfl
theorem tfZ71 : zeroI Tryz.prog 71 = (some (.nils :: ((.int .i64 (0 : Int)) :: ((.int .i32 (0 : Int)) :: ((.int .i32 (0 : Int)) :: ((.str []) :: ((.str []) :: ((.int .u8 (0 : Int)) :: ((.int .u8 (0 : Int)) :: ((.int .i32 (0 : Int)) :: ((.bool false) :: []))))))))))) := by kernel_rfl
theorem tfP71 : placesI Tryz.prog 71 = (some ((0, 1) :: ((1, 9) :: []))) := by kernel_rfl
theorem tfM71 : mkI Tryz.prog 71 = true := by kernel_rfl
theorem tfF71x0 : fldI Tryz.prog 71 0 = (some 0) := by kernel_rfl
theorem tfG71x0 : fieldI Tryz.prog 71 0 = (some (false, (0, 1))) := by kernel_rfl
theorem tfF71x1 : fldI Tryz.prog 71 1 = (some 1) := by kernel_rfl
theorem tfG71x1 : fieldI Tryz.prog 71 1 = (some (true, (1, 9))) := by kernel_rfl
theorem tfE72 : elemI Tryz.prog 72 = (some (.opq, 8)) := by kernel_rfl
theorem tfA72 : aggI Tryz.prog 72 = (some (false, 1)) := by kernel_rfl
theorem tfZ72 : zeroI Tryz.prog 72 = (some (.nils :: [])) := by kernel_rfl
theorem tfM72 : mkI Tryz.prog 72 = true := by kernel_rfl
theorem tfA73 : aggI Tryz.prog 73 = (some (false, 1)) := by kernel_rfl
theorem tfZ73 : zeroI Tryz.prog 73 = (some ((.val .nilFunc) :: [])) := by kernel_rfl
theorem tfX73 : isFn Tryz.prog 73 = true := by kernel_rfl
theorem tfM73 : mkI Tryz.prog 73 = true := by kernel_rfl
theorem tfA74 : aggI Tryz.prog 74 = (some (false, 1)) := by kernel_rfl
theorem tfZ74 : zeroI Tryz.prog 74 = (some ((.val .nilFunc) :: [])) := by kernel_rfl
theorem tfX74 : isFn Tryz.prog 74 = true := by kernel_rfl
theorem tfM74 : mkI Tryz.prog 74 = true := by kernel_rfl
theorem tfA75 : aggI Tryz.prog 75 = (some (false, 1)) := by kernel_rfl
theorem tfM75 : mkI Tryz.prog 75 = true := by kernel_rfl
theorem tfA76 : aggI Tryz.prog 76 = (some (false, 1)) := by kernel_rfl
theorem tfZ76 : zeroI Tryz.prog 76 = (some ((.val .nilFunc) :: [])) := by kernel_rfl
theorem tfX76 : isFn Tryz.prog 76 = true := by kernel_rfl
theorem tfM76 : mkI Tryz.prog 76 = true := by kernel_rfl
theorem tfE77 : elemI Tryz.prog 77 = (some ((.pair (.int .i64) (.pair (.int .i64) (.pair (.int .i32) (.pair .bool .unit)))), 24)) := by kernel_rfl
theorem tfA77 : aggI Tryz.prog 77 = (some (false, 1)) := by kernel_rfl
theorem tfZ77 : zeroI Tryz.prog 77 = (some (.nils :: [])) := by kernel_rfl
theorem tfM77 : mkI Tryz.prog 77 = true := by kernel_rfl
theorem tfA78 : aggI Tryz.prog 78 = (some (false, 1)) := by kernel_rfl
theorem tfZ78 : zeroI Tryz.prog 78 = (some ((.val .nilFunc) :: [])) := by kernel_rfl
theorem tfX78 : isFn Tryz.prog 78 = true := by kernel_rfl
theorem tfM78 : mkI Tryz.prog 78 = true := by kernel_rfl
theorem tfA79 : aggI Tryz.prog 79 = (some (false, 1)) := by kernel_rfl
theorem tfZ79 : zeroI Tryz.prog 79 = (some ((.val .nilFunc) :: [])) := by kernel_rfl
theorem tfX79 : isFn Tryz.prog 79 = true := by kernel_rfl
theorem tfM79 : mkI Tryz.prog 79 = true := by kernel_rfl
theorem tfA80 : aggI Tryz.prog 80 = (some (false, 1)) := by kernel_rfl
theorem tfZ80 : zeroI Tryz.prog 80 = (some ((.val .nilFunc) :: [])) := by kernel_rfl
theorem tfX80 : isFn Tryz.prog 80 = true := by kernel_rfl
theorem tfM80 : mkI Tryz.prog 80 = true := by kernel_rfl
theorem tfA81 : aggI Tryz.prog 81 = (some (false, 1)) := by kernel_rfl
theorem tfZ81 : zeroI Tryz.prog 81 = (some ((.val .nilFunc) :: [])) := by kernel_rfl
theorem tfX81 : isFn Tryz.prog 81 = true := by kernel_rfl
theorem tfM81 : mkI Tryz.prog 81 = true := by kernel_rfl
theorem tfA82 : aggI Tryz.prog 82 = (some (false, 1)) := by kernel_rfl
theorem tfM82 : mkI Tryz.prog 82 = true := by kernel_rfl
theorem tfA83 : aggI Tryz.prog 83 = (some (false, 1)) := by kernel_rfl
theorem tfZ83 : zeroI Tryz.prog 83 = (some ((.val .nilFunc) :: [])) := by kernel_rfl
theorem tfX83 : isFn Tryz.prog 83 = true := by kernel_rfl
theorem tfM83 : mkI Tryz.prog 83 = true := by kernel_rfl
theorem tfE84 : elemI Tryz.prog 84 = (some ((.pair (.int .i64) (.pair (.int .u8) (.pair .str (.pair (.slice 16 .str) (.pair .str .unit))))), 72)) := by kernel_rfl
theorem tfA84 : aggI Tryz.prog 84 = (some (false, 1)) := by kernel_rfl
theorem tfZ84 : zeroI Tryz.prog 84 = (some (.nils :: [])) := by kernel_rfl
theorem tfM84 : mkI Tryz.prog 84 = true := by kernel_rfl
theorem tfA85 : aggI Tryz.prog 85 = (some (false, 1)) := by kernel_rfl
theorem tfM85 : mkI Tryz.prog 85 = true := by kernel_rfl
theorem tfA86 : aggI Tryz.prog 86 = (some (false, 1)) := by kernel_rfl
theorem tfZ86 : zeroI Tryz.prog 86 = (some ((.val .nilFunc) :: [])) := by kernel_rfl
theorem tfX86 : isFn Tryz.prog 86 = true := by kernel_rfl
theorem tfM86 : mkI Tryz.prog 86 = true := by kernel_rfl
theorem tfA87 : aggI Tryz.prog 87 = (some (true, 12)) := by kernel_rfl
theorem tfZ87 : zeroI Tryz.prog 87 = (some ((.int .i64 (0 : Int)) :: ((.int .i32 (0 : Int)) :: ((.int .i32 (0 : Int)) :: ((.str []) :: ((.str []) :: ((.int .u8 (0 : Int)) :: ((.int .u8 (0 : Int)) :: ((.int .i32 (0 : Int)) :: ((.bool false) :: (.nils :: ((.str []) :: ((.bool false) :: []))))))))))))) := by kernel_rfl
theorem tfP87 : placesI Tryz.prog 87 = (some ((0, 9) :: ((9, 1) :: ((10, 1) :: ((11, 1) :: []))))) := by kernel_rfl
theorem tfM87 : mkI Tryz.prog 87 = true := by kernel_rfl
theorem tfF87x0 : fldI Tryz.prog 87 0 = (some 0) := by kernel_rfl
theorem tfG87x0 : fieldI Tryz.prog 87 0 = (some (true, (0, 9))) := by kernel_rfl
theorem tfF87x1 : fldI Tryz.prog 87 1 = (some 9) := by kernel_rfl
theorem tfG87x1 : fieldI Tryz.prog 87 1 = (some (false, (9, 1))) := by kernel_rfl
theorem tfF87x2 : fldI Tryz.prog 87 2 = (some 10) := by kernel_rfl
theorem tfG87x2 : fieldI Tryz.prog 87 2 = (some (false, (10, 1))) := by kernel_rfl
theorem tfF87x3 : fldI Tryz.prog 87 3 = (some 11) := by kernel_rfl
theorem tfG87x3 : fieldI Tryz.prog 87 3 = (some (false, (11, 1))) := by kernel_rfl
theorem tfA88 : aggI Tryz.prog 88 = (some (true, 12)) := by kernel_rfl
theorem tfZ88 : zeroI Tryz.prog 88 = (some ((.int .i64 (0 : Int)) :: ((.int .i32 (0 : Int)) :: ((.int .i32 (0 : Int)) :: ((.str []) :: ((.str []) :: ((.int .u8 (0 : Int)) :: ((.int .u8 (0 : Int)) :: ((.int .i32 (0 : Int)) :: ((.bool false) :: (.nils :: ((.str []) :: ((.bool false) :: []))))))))))))) := by kernel_rfl
theorem tfP88 : placesI Tryz.prog 88 = (some ((0, 9) :: ((9, 1) :: ((10, 1) :: ((11, 1) :: []))))) := by kernel_rfl
theorem tfM88 : mkI Tryz.prog 88 = true := by kernel_rfl
theorem tfF88x0 : fldI Tryz.prog 88 0 = (some 0) := by kernel_rfl
theorem tfG88x0 : fieldI Tryz.prog 88 0 = (some (true, (0, 9))) := by kernel_rfl
theorem tfF88x1 : fldI Tryz.prog 88 1 = (some 9) := by kernel_rfl
theorem tfG88x1 : fieldI Tryz.prog 88 1 = (some (false, (9, 1))) := by kernel_rfl
theorem tfF88x2 : fldI Tryz.prog 88 2 = (some 10) := by kernel_rfl
theorem tfG88x2 : fieldI Tryz.prog 88 2 = (some (false, (10, 1))) := by kernel_rfl
theorem tfF88x3 : fldI Tryz.prog 88 3 = (some 11) := by kernel_rfl
theorem tfG88x3 : fieldI Tryz.prog 88 3 = (some (false, (11, 1))) := by kernel_rfl
theorem tfA89 : aggI Tryz.prog 89 = (some (false, 1)) := by kernel_rfl
theorem tfZ89 : zeroI Tryz.prog 89 = (some ((.val .nilFunc) :: [])) := by kernel_rfl
theorem tfX89 : isFn Tryz.prog 89 = true := by kernel_rfl
theorem tfM89 : mkI Tryz.prog 89 = true := by kernel_rfl
theorem tfA90 : aggI Tryz.prog 90 = (some (false, 1)) := by kernel_rfl
theorem tfM90 : mkI Tryz.prog 90 = true := by kernel_rfl
theorem tfA91 : aggI Tryz.prog 91 = (some (false, 1)) := by kernel_rfl
theorem tfZ91 : zeroI Tryz.prog 91 = (some ((.val .nilFunc) :: [])) := by kernel_rfl
theorem tfX91 : isFn Tryz.prog 91 = true := by kernel_rfl
theorem tfM91 : mkI Tryz.prog 91 = true := by kernel_rfl
theorem tfA92 : aggI Tryz.prog 92 = (some (false, 1)) := by kernel_rfl
theorem tfZ92 : zeroI Tryz.prog 92 = (some ((.val .nilFunc) :: [])) := by kernel_rfl
theorem tfX92 : isFn Tryz.prog 92 = true := by kernel_rfl
theorem tfM92 : mkI Tryz.prog 92 = true := by kernel_rfl
theorem tfA93 : aggI Tryz.prog 93 = (some (false, 1)) := by kernel_rfl
theorem tfM93 : mkI Tryz.prog 93 = true := by kernel_rfl
theorem tfA94 : aggI Tryz.prog 94 = (some (false, 1)) := by kernel_rfl
theorem tfZ94 : zeroI Tryz.prog 94 = (some ((.val .nilFunc) :: [])) := by kernel_rfl
theorem tfX94 : isFn Tryz.prog 94 = true := by kernel_rfl
theorem tfM94 : mkI Tryz.prog 94 = true := by kernel_rfl
theorem tfA95 : aggI Tryz.prog 95 = (some (false, 1)) := by kernel_rfl
theorem tfZ95 : zeroI Tryz.prog 95 = (some ((.val (.pointer none)) :: [])) := by kernel_rfl
theorem tfM95 : mkI Tryz.prog 95 = true := by kernel_rfl
theorem tfA96 : aggI Tryz.prog 96 = (some (false, 1)) := by kernel_rfl
theorem tfZ96 : zeroI Tryz.prog 96 = (some ((.int .u64 (0 : Int)) :: [])) := by kernel_rfl
theorem tfM96 : mkI Tryz.prog 96 = true := by kernel_rfl
theorem tfU96 : Program.underlying Tryz.prog 96 = (some (.int .u64)) := by kernel_rfl
theorem tfA97 : aggI Tryz.prog 97 = (some (true, 3)) := by kernel_rfl
theorem tfZ97 : zeroI Tryz.prog 97 = (some ((.val (.pointer none)) :: ((.val (.pointer none)) :: ((.int .u64 (0 : Int)) :: [])))) := by kernel_rfl
theorem tfP97 : placesI Tryz.prog 97 = (some ((0, 1) :: ((1, 1) :: ((2, 1) :: [])))) := by kernel_rfl
theorem tfM97 : mkI Tryz.prog 97 = true := by kernel_rfl
theorem tfF97x0 : fldI Tryz.prog 97 0 = (some 0) := by kernel_rfl
theorem tfG97x0 : fieldI Tryz.prog 97 0 = (some (false, (0, 1))) := by kernel_rfl
theorem tfF97x1 : fldI Tryz.prog 97 1 = (some 1) := by kernel_rfl
theorem tfG97x1 : fieldI Tryz.prog 97 1 = (some (false, (1, 1))) := by kernel_rfl
theorem tfF97x2 : fldI Tryz.prog 97 2 = (some 2) := by kernel_rfl
theorem tfG97x2 : fieldI Tryz.prog 97 2 = (some (false, (2, 1))) := by kernel_rfl
theorem tfA98 : aggI Tryz.prog 98 = (some (true, 3)) := by kernel_rfl
theorem tfZ98 : zeroI Tryz.prog 98 = (some ((.val (.pointer none)) :: ((.val (.pointer none)) :: ((.int .u64 (0 : Int)) :: [])))) := by kernel_rfl
theorem tfP98 : placesI Tryz.prog 98 = (some ((0, 1) :: ((1, 1) :: ((2, 1) :: [])))) := by kernel_rfl
theorem tfM98 : mkI Tryz.prog 98 = true := by kernel_rfl
theorem tfF98x0 : fldI Tryz.prog 98 0 = (some 0) := by kernel_rfl
theorem tfG98x0 : fieldI Tryz.prog 98 0 = (some (false, (0, 1))) := by kernel_rfl
theorem tfF98x1 : fldI Tryz.prog 98 1 = (some 1) := by kernel_rfl
theorem tfG98x1 : fieldI Tryz.prog 98 1 = (some (false, (1, 1))) := by kernel_rfl
theorem tfF98x2 : fldI Tryz.prog 98 2 = (some 2) := by kernel_rfl
theorem tfG98x2 : fieldI Tryz.prog 98 2 = (some (false, (2, 1))) := by kernel_rfl
theorem tfA99 : aggI Tryz.prog 99 = (some (false, 1)) := by kernel_rfl
theorem tfZ99 : zeroI Tryz.prog 99 = (some ((.val .nilFunc) :: [])) := by kernel_rfl
theorem tfX99 : isFn Tryz.prog 99 = true := by kernel_rfl
theorem tfM99 : mkI Tryz.prog 99 = true := by kernel_rfl
theorem tfA100 : aggI Tryz.prog 100 = (some (false, 1)) := by kernel_rfl
theorem tfZ100 : zeroI Tryz.prog 100 = (some ((.val .nilIface) :: [])) := by kernel_rfl
theorem tfI100 : isIf Tryz.prog 100 = true := by kernel_rfl
theorem tfA101 : aggI Tryz.prog 101 = (some (false, 1)) := by kernel_rfl
theorem tfZ101 : zeroI Tryz.prog 101 = (some ((.val .nilIface) :: [])) := by kernel_rfl
theorem tfI101 : isIf Tryz.prog 101 = true := by kernel_rfl
theorem tfA102 : aggI Tryz.prog 102 = (some (false, 1)) := by kernel_rfl
theorem tfZ102 : zeroI Tryz.prog 102 = (some ((.val .nilFunc) :: [])) := by kernel_rfl
theorem tfX102 : isFn Tryz.prog 102 = true := by kernel_rfl
theorem tfM102 : mkI Tryz.prog 102 = true := by kernel_rfl
theorem tfA103 : aggI Tryz.prog 103 = (some (false, 1)) := by kernel_rfl
theorem tfZ103 : zeroI Tryz.prog 103 = (some ((.int .u8 (0 : Int)) :: [])) := by kernel_rfl
theorem tfM103 : mkI Tryz.prog 103 = true := by kernel_rfl
theorem tfU103 : Program.underlying Tryz.prog 103 = (some (.int .u8)) := by kernel_rfl
theorem tfA104 : aggI Tryz.prog 104 = (some (false, 1)) := by kernel_rfl
theorem tfZ104 : zeroI Tryz.prog 104 = (some ((.val .nilFunc) :: [])) := by kernel_rfl
theorem tfX104 : isFn Tryz.prog 104 = true := by kernel_rfl
theorem tfM104 : mkI Tryz.prog 104 = true := by kernel_rfl
theorem tfA105 : aggI Tryz.prog 105 = (some (false, 1)) := by kernel_rfl
theorem tfZ105 : zeroI Tryz.prog 105 = (some ((.val .nilFunc) :: [])) := by kernel_rfl
theorem tfX105 : isFn Tryz.prog 105 = true := by kernel_rfl
theorem tfM105 : mkI Tryz.prog 105 = true := by kernel_rfl
theorem tfA106 : aggI Tryz.prog 106 = (some (false, 1)) := by kernel_rfl
theorem tfZ106 : zeroI Tryz.prog 106 = (some ((.val .nilFunc) :: [])) := by kernel_rfl
theorem tfX106 : isFn Tryz.prog 106 = true := by kernel_rfl
theorem tfM106 : mkI Tryz.prog 106 = true := by kernel_rfl
theorem tfA107 : aggI Tryz.prog 107 = (some (false, 1)) := by kernel_rfl
theorem tfZ107 : zeroI Tryz.prog 107 = (some ((.val .nilFunc) :: [])) := by kernel_rfl
theorem tfX107 : isFn Tryz.prog 107 = true := by kernel_rfl
theorem tfM107 : mkI Tryz.prog 107 = true := by kernel_rfl
theorem tfA108 : aggI Tryz.prog 108 = (some (false, 1)) := by kernel_rfl
theorem tfZ108 : zeroI Tryz.prog 108 = (some ((.val .nilFunc) :: [])) := by kernel_rfl
theorem tfX108 : isFn Tryz.prog 108 = true := by kernel_rfl
theorem tfM108 : mkI Tryz.prog 108 = true := by kernel_rfl
theorem tfA109 : aggI Tryz.prog 109 = (some (false, 1)) := by kernel_rfl
theorem tfZ109 : zeroI Tryz.prog 109 = (some ((.val (.pointer none)) :: [])) := by kernel_rfl
theorem tfQ109 : isPtr Tryz.prog 109 = true := by kernel_rfl
theorem tfM109 : mkI Tryz.prog 109 = true := by kernel_rfl
theorem tfE110 : elemI Tryz.prog 110 = (some ((.int .u8), 1)) := by kernel_rfl
theorem tfA110 : aggI Tryz.prog 110 = (some (false, 1)) := by kernel_rfl
theorem tfZ110 : zeroI Tryz.prog 110 = (some (.nils :: [])) := by kernel_rfl
theorem tfM110 : mkI Tryz.prog 110 = true := by kernel_rfl
theorem tfA111 : aggI Tryz.prog 111 = (some (true, 2)) := by kernel_rfl
theorem tfZ111 : zeroI Tryz.prog 111 = (some ((.val (.pointer none)) :: (.nils :: []))) := by kernel_rfl
theorem tfP111 : placesI Tryz.prog 111 = (some ((0, 1) :: ((1, 1) :: []))) := by kernel_rfl
theorem tfM111 : mkI Tryz.prog 111 = true := by kernel_rfl
theorem tfF111x0 : fldI Tryz.prog 111 0 = (some 0) := by kernel_rfl
theorem tfG111x0 : fieldI Tryz.prog 111 0 = (some (false, (0, 1))) := by kernel_rfl
theorem tfF111x1 : fldI Tryz.prog 111 1 = (some 1) := by kernel_rfl
theorem tfG111x1 : fieldI Tryz.prog 111 1 = (some (false, (1, 1))) := by kernel_rfl
theorem tfA112 : aggI Tryz.prog 112 = (some (true, 2)) := by kernel_rfl
theorem tfZ112 : zeroI Tryz.prog 112 = (some ((.val (.pointer none)) :: (.nils :: []))) := by kernel_rfl
theorem tfP112 : placesI Tryz.prog 112 = (some ((0, 1) :: ((1, 1) :: []))) := by kernel_rfl
theorem tfM112 : mkI Tryz.prog 112 = true := by kernel_rfl
theorem tfF112x0 : fldI Tryz.prog 112 0 = (some 0) := by kernel_rfl
theorem tfG112x0 : fieldI Tryz.prog 112 0 = (some (false, (0, 1))) := by kernel_rfl
theorem tfF112x1 : fldI Tryz.prog 112 1 = (some 1) := by kernel_rfl
theorem tfG112x1 : fieldI Tryz.prog 112 1 = (some (false, (1, 1))) := by kernel_rfl
theorem tfA113 : aggI Tryz.prog 113 = (some (false, 1)) := by kernel_rfl
theorem tfM113 : mkI Tryz.prog 113 = true := by kernel_rfl
theorem tfA114 : aggI Tryz.prog 114 = (some (false, 1)) := by kernel_rfl
theorem tfZ114 : zeroI Tryz.prog 114 = (some ((.val .nilFunc) :: [])) := by kernel_rfl
theorem tfX114 : isFn Tryz.prog 114 = true := by kernel_rfl
theorem tfM114 : mkI Tryz.prog 114 = true := by kernel_rfl
theorem tfA115 : aggI Tryz.prog 115 = (some (false, 1)) := by kernel_rfl
theorem tfZ115 : zeroI Tryz.prog 115 = (some ((.val .nilFunc) :: [])) := by kernel_rfl
theorem tfX115 : isFn Tryz.prog 115 = true := by kernel_rfl
theorem tfM115 : mkI Tryz.prog 115 = true := by kernel_rfl
theorem tfA116 : aggI Tryz.prog 116 = (some (false, 1)) := by kernel_rfl
theorem tfZ116 : zeroI Tryz.prog 116 = (some ((.val .nilFunc) :: [])) := by kernel_rfl
theorem tfX116 : isFn Tryz.prog 116 = true := by kernel_rfl
theorem tfM116 : mkI Tryz.prog 116 = true := by kernel_rfl
theorem tfA117 : aggI Tryz.prog 117 = (some (false, 1)) := by kernel_rfl
theorem tfM117 : mkI Tryz.prog 117 = true := by kernel_rfl
theorem tfA118 : aggI Tryz.prog 118 = (some (false, 1)) := by kernel_rfl
theorem tfZ118 : zeroI Tryz.prog 118 = (some ((.val .nilFunc) :: [])) := by kernel_rfl
theorem tfX118 : isFn Tryz.prog 118 = true := by kernel_rfl
theorem tfM118 : mkI Tryz.prog 118 = true := by kernel_rfl
theorem tfA119 : aggI Tryz.prog 119 = (some (false, 1)) := by kernel_rfl
theorem tfZ119 : zeroI Tryz.prog 119 = (some ((.val .nilFunc) :: [])) := by kernel_rfl
theorem tfX119 : isFn Tryz.prog 119 = true := by kernel_rfl
theorem tfM119 : mkI Tryz.prog 119 = true := by kernel_rfl
theorem tfA120 : aggI Tryz.prog 120 = (some (false, 1)) := by kernel_rfl
theorem tfZ120 : zeroI Tryz.prog 120 = (some ((.val .nilFunc) :: [])) := by kernel_rfl
theorem tfX120 : isFn Tryz.prog 120 = true := by kernel_rfl
theorem tfM120 : mkI Tryz.prog 120 = true := by kernel_rfl
theorem tfA121 : aggI Tryz.prog 121 = (some (true, 4)) := by kernel_rfl
theorem tfZ121 : zeroI Tryz.prog 121 = (some ((.int .i64 (0 : Int)) :: ((.int .i64 (0 : Int)) :: ((.int .i32 (0 : Int)) :: ((.bool false) :: []))))) := by kernel_rfl
theorem tfP121 : placesI Tryz.prog 121 = (some ((0, 1) :: ((1, 1) :: ((2, 1) :: ((3, 1) :: []))))) := by kernel_rfl
theorem tfM121 : mkI Tryz.prog 121 = true := by kernel_rfl
theorem tfF121x0 : fldI Tryz.prog 121 0 = (some 0) := by kernel_rfl
theorem tfG121x0 : fieldI Tryz.prog 121 0 = (some (false, (0, 1))) := by kernel_rfl
theorem tfF121x1 : fldI Tryz.prog 121 1 = (some 1) := by kernel_rfl
theorem tfG121x1 : fieldI Tryz.prog 121 1 = (some (false, (1, 1))) := by kernel_rfl
theorem tfF121x2 : fldI Tryz.prog 121 2 = (some 2) := by kernel_rfl
theorem tfG121x2 : fieldI Tryz.prog 121 2 = (some (false, (2, 1))) := by kernel_rfl
theorem tfF121x3 : fldI Tryz.prog 121 3 = (some 3) := by kernel_rfl
theorem tfG121x3 : fieldI Tryz.prog 121 3 = (some (false, (3, 1))) := by kernel_rfl
theorem tfA122 : aggI Tryz.prog 122 = (some (true, 4)) := by kernel_rfl
theorem tfZ122 : zeroI Tryz.prog 122 = (some ((.int .i64 (0 : Int)) :: ((.int .i64 (0 : Int)) :: ((.int .i32 (0 : Int)) :: ((.bool false) :: []))))) := by kernel_rfl
theorem tfP122 : placesI Tryz.prog 122 = (some ((0, 1) :: ((1, 1) :: ((2, 1) :: ((3, 1) :: []))))) := by kernel_rfl
theorem tfM122 : mkI Tryz.prog 122 = true := by kernel_rfl
theorem tfF122x0 : fldI Tryz.prog 122 0 = (some 0) := by kernel_rfl
theorem tfG122x0 : fieldI Tryz.prog 122 0 = (some (false, (0, 1))) := by kernel_rfl
theorem tfF122x1 : fldI Tryz.prog 122 1 = (some 1) := by kernel_rfl
theorem tfG122x1 : fieldI Tryz.prog 122 1 = (some (false, (1, 1))) := by kernel_rfl
theorem tfF122x2 : fldI Tryz.prog 122 2 = (some 2) := by kernel_rfl
theorem tfG122x2 : fieldI Tryz.prog 122 2 = (some (false, (2, 1))) := by kernel_rfl
theorem tfF122x3 : fldI Tryz.prog 122 3 = (some 3) := by kernel_rfl
theorem tfG122x3 : fieldI Tryz.prog 122 3 = (some (false, (3, 1))) := by kernel_rfl
theorem tfA123 : aggI Tryz.prog 123 = (some (false, 1)) := by kernel_rfl
theorem tfZ123 : zeroI Tryz.prog 123 = (some ((.val .nilFunc) :: [])) := by kernel_rfl
theorem tfX123 : isFn Tryz.prog 123 = true := by kernel_rfl
theorem tfM123 : mkI Tryz.prog 123 = true := by kernel_rfl
theorem tfA124 : aggI Tryz.prog 124 = (some (false, 1)) := by kernel_rfl
theorem tfZ124 : zeroI Tryz.prog 124 = (some ((.val .nilFunc) :: [])) := by kernel_rfl
theorem tfX124 : isFn Tryz.prog 124 = true := by kernel_rfl
theorem tfM124 : mkI Tryz.prog 124 = true := by kernel_rfl
theorem tfA125 : aggI Tryz.prog 125 = (some (false, 1)) := by kernel_rfl
theorem tfZ125 : zeroI Tryz.prog 125 = (some ((.val .nilFunc) :: [])) := by kernel_rfl
theorem tfX125 : isFn Tryz.prog 125 = true := by kernel_rfl
theorem tfM125 : mkI Tryz.prog 125 = true := by kernel_rfl
theorem tfA126 : aggI Tryz.prog 126 = (some (false, 1)) := by kernel_rfl
theorem tfZ126 : zeroI Tryz.prog 126 = (some ((.val .nilFunc) :: [])) := by kernel_rfl
theorem tfX126 : isFn Tryz.prog 126 = true := by kernel_rfl
theorem tfM126 : mkI Tryz.prog 126 = true := by kernel_rfl
theorem tfA127 : aggI Tryz.prog 127 = (some (false, 1)) := by kernel_rfl
theorem tfZ127 : zeroI Tryz.prog 127 = (some ((.val .nilFunc) :: [])) := by kernel_rfl
theorem tfX127 : isFn Tryz.prog 127 = true := by kernel_rfl
theorem tfM127 : mkI Tryz.prog 127 = true := by kernel_rfl
theorem tfA128 : aggI Tryz.prog 128 = (some (false, 1)) := by kernel_rfl
theorem tfM128 : mkI Tryz.prog 128 = true := by kernel_rfl
theorem tfA129 : aggI Tryz.prog 129 = (some (false, 1)) := by kernel_rfl
theorem tfZ129 : zeroI Tryz.prog 129 = (some ((.val .nilFunc) :: [])) := by kernel_rfl
theorem tfX129 : isFn Tryz.prog 129 = true := by kernel_rfl
theorem tfM129 : mkI Tryz.prog 129 = true := by kernel_rfl
theorem tfA130 : aggI Tryz.prog 130 = (some (false, 1)) := by kernel_rfl
theorem tfZ130 : zeroI Tryz.prog 130 = (some ((.val .nilFunc) :: [])) := by kernel_rfl
theorem tfX130 : isFn Tryz.prog 130 = true := by kernel_rfl
theorem tfM130 : mkI Tryz.prog 130 = true := by kernel_rfl
theorem tfA131 : aggI Tryz.prog 131 = (some (false, 1)) := by kernel_rfl
theorem tfZ131 : zeroI Tryz.prog 131 = (some ((.val (.pointer none)) :: [])) := by kernel_rfl
theorem tfQ131 : isPtr Tryz.prog 131 = true := by kernel_rfl
theorem tfM131 : mkI Tryz.prog 131 = true := by kernel_rfl
theorem tfE132 : elemI Tryz.prog 132 = (some ((.pair (.int .i64) (.pair (.int .i64) (.pair (.int .i64) .unit))), 24)) := by kernel_rfl
theorem tfA132 : aggI Tryz.prog 132 = (some (false, 1)) := by kernel_rfl
theorem tfZ132 : zeroI Tryz.prog 132 = (some (.nils :: [])) := by kernel_rfl
theorem tfM132 : mkI Tryz.prog 132 = true := by kernel_rfl
theorem tfA133 : aggI Tryz.prog 133 = (some (false, 1)) := by kernel_rfl
theorem tfZ133 : zeroI Tryz.prog 133 = (some ((.val .nilFunc) :: [])) := by kernel_rfl
theorem tfX133 : isFn Tryz.prog 133 = true := by kernel_rfl
theorem tfM133 : mkI Tryz.prog 133 = true := by kernel_rfl
theorem tfA134 : aggI Tryz.prog 134 = (some (true, 3)) := by kernel_rfl
theorem tfZ134 : zeroI Tryz.prog 134 = (some ((.int .i64 (0 : Int)) :: ((.int .i64 (0 : Int)) :: ((.int .i64 (0 : Int)) :: [])))) := by kernel_rfl
theorem tfP134 : placesI Tryz.prog 134 = (some ((0, 1) :: ((1, 1) :: ((2, 1) :: [])))) := by kernel_rfl
theorem tfM134 : mkI Tryz.prog 134 = true := by kernel_rfl
theorem tfF134x0 : fldI Tryz.prog 134 0 = (some 0) := by kernel_rfl
theorem tfG134x0 : fieldI Tryz.prog 134 0 = (some (false, (0, 1))) := by kernel_rfl
theorem tfF134x1 : fldI Tryz.prog 134 1 = (some 1) := by kernel_rfl
theorem tfG134x1 : fieldI Tryz.prog 134 1 = (some (false, (1, 1))) := by kernel_rfl
theorem tfF134x2 : fldI Tryz.prog 134 2 = (some 2) := by kernel_rfl
theorem tfG134x2 : fieldI Tryz.prog 134 2 = (some (false, (2, 1))) := by kernel_rfl
theorem tfA135 : aggI Tryz.prog 135 = (some (true, 3)) := by kernel_rfl
theorem tfZ135 : zeroI Tryz.prog 135 = (some ((.int .i64 (0 : Int)) :: ((.int .i64 (0 : Int)) :: ((.int .i64 (0 : Int)) :: [])))) := by kernel_rfl
theorem tfP135 : placesI Tryz.prog 135 = (some ((0, 1) :: ((1, 1) :: ((2, 1) :: [])))) := by kernel_rfl
theorem tfM135 : mkI Tryz.prog 135 = true := by kernel_rfl
theorem tfF135x0 : fldI Tryz.prog 135 0 = (some 0) := by kernel_rfl
theorem tfG135x0 : fieldI Tryz.prog 135 0 = (some (false, (0, 1))) := by kernel_rfl
theorem tfF135x1 : fldI Tryz.prog 135 1 = (some 1) := by kernel_rfl
theorem tfG135x1 : fieldI Tryz.prog 135 1 = (some (false, (1, 1))) := by kernel_rfl
theorem tfF135x2 : fldI Tryz.prog 135 2 = (some 2) := by kernel_rfl
theorem tfG135x2 : fieldI Tryz.prog 135 2 = (some (false, (2, 1))) := by kernel_rfl
theorem tfA136 : aggI Tryz.prog 136 = (some (false, 1)) := by kernel_rfl
theorem tfM136 : mkI Tryz.prog 136 = true := by kernel_rfl
theorem tfA137 : aggI Tryz.prog 137 = (some (false, 1)) := by kernel_rfl
theorem tfZ137 : zeroI Tryz.prog 137 = (some ((.val .nilFunc) :: [])) := by kernel_rfl
theorem tfX137 : isFn Tryz.prog 137 = true := by kernel_rfl
theorem tfM137 : mkI Tryz.prog 137 = true := by kernel_rfl
theorem tfA138 : aggI Tryz.prog 138 = (some (true, 1)) := by kernel_rfl
theorem tfZ138 : zeroI Tryz.prog 138 = (some ((.val (.pointer none)) :: [])) := by kernel_rfl
theorem tfP138 : placesI Tryz.prog 138 = (some ((0, 1) :: [])) := by kernel_rfl
theorem tfM138 : mkI Tryz.prog 138 = true := by kernel_rfl
theorem tfF138x0 : fldI Tryz.prog 138 0 = (some 0) := by kernel_rfl
theorem tfG138x0 : fieldI Tryz.prog 138 0 = (some (false, (0, 1))) := by kernel_rfl
theorem tfA139 : aggI Tryz.prog 139 = (some (true, 1)) := by kernel_rfl
theorem tfZ139 : zeroI Tryz.prog 139 = (some ((.val (.pointer none)) :: [])) := by kernel_rfl
theorem tfP139 : placesI Tryz.prog 139 = (some ((0, 1) :: [])) := by kernel_rfl
theorem tfM139 : mkI Tryz.prog 139 = true := by kernel_rfl
theorem tfF139x0 : fldI Tryz.prog 139 0 = (some 0) := by kernel_rfl
theorem tfG139x0 : fieldI Tryz.prog 139 0 = (some (false, (0, 1))) := by kernel_rfl
theorem tfA140 : aggI Tryz.prog 140 = (some (false, 1)) := by kernel_rfl
theorem tfZ140 : zeroI Tryz.prog 140 = (some ((.val (.pointer none)) :: [])) := by kernel_rfl
theorem tfQ140 : isPtr Tryz.prog 140 = true := by kernel_rfl
theorem tfM140 : mkI Tryz.prog 140 = true := by kernel_rfl
theorem tfA141 : aggI Tryz.prog 141 = (some (false, 1)) := by kernel_rfl
theorem tfZ141 : zeroI Tryz.prog 141 = (some ((.val .nilFunc) :: [])) := by kernel_rfl
theorem tfX141 : isFn Tryz.prog 141 = true := by kernel_rfl
theorem tfM141 : mkI Tryz.prog 141 = true := by kernel_rfl
theorem tfA142 : aggI Tryz.prog 142 = (some (false, 1)) := by kernel_rfl
theorem tfZ142 : zeroI Tryz.prog 142 = (some ((.val .nilFunc) :: [])) := by kernel_rfl
theorem tfX142 : isFn Tryz.prog 142 = true := by kernel_rfl
theorem tfM142 : mkI Tryz.prog 142 = true := by kernel_rfl
theorem tfA143 : aggI Tryz.prog 143 = (some (false, 1)) := by kernel_rfl
theorem tfZ143 : zeroI Tryz.prog 143 = (some ((.val .nilFunc) :: [])) := by kernel_rfl
theorem tfX143 : isFn Tryz.prog 143 = true := by kernel_rfl
theorem tfM143 : mkI Tryz.prog 143 = true := by kernel_rfl
theorem tfA144 : aggI Tryz.prog 144 = (some (false, 1)) := by kernel_rfl
theorem tfZ144 : zeroI Tryz.prog 144 = (some ((.val .nilIface) :: [])) := by kernel_rfl
theorem tfI144 : isIf Tryz.prog 144 = true := by kernel_rfl
theorem tfA145 : aggI Tryz.prog 145 = (some (false, 1)) := by kernel_rfl
theorem tfM145 : mkI Tryz.prog 145 = true := by kernel_rfl
theorem tfA146 : aggI Tryz.prog 146 = (some (false, 1)) := by kernel_rfl
theorem tfZ146 : zeroI Tryz.prog 146 = (some ((.val .nilFunc) :: [])) := by kernel_rfl
theorem tfX146 : isFn Tryz.prog 146 = true := by kernel_rfl
theorem tfM146 : mkI Tryz.prog 146 = true := by kernel_rfl
theorem tfA147 : aggI Tryz.prog 147 = (some (false, 1)) := by kernel_rfl
theorem tfZ147 : zeroI Tryz.prog 147 = (some ((.val .nilIface) :: [])) := by kernel_rfl
theorem tfI147 : isIf Tryz.prog 147 = true := by kernel_rfl
theorem tfA148 : aggI Tryz.prog 148 = (some (false, 1)) := by kernel_rfl
theorem tfZ148 : zeroI Tryz.prog 148 = (some ((.val .nilFunc) :: [])) := by kernel_rfl
theorem tfX148 : isFn Tryz.prog 148 = true := by kernel_rfl
theorem tfM148 : mkI Tryz.prog 148 = true := by kernel_rfl
theorem tfA149 : aggI Tryz.prog 149 = (some (false, 1)) := by kernel_rfl
theorem tfZ149 : zeroI Tryz.prog 149 = (some ((.val .nilIface) :: [])) := by kernel_rfl
theorem tfI149 : isIf Tryz.prog 149 = true := by kernel_rfl
theorem tfE150 : elemI Tryz.prog 150 = (some (.opq, 16)) := by kernel_rfl
theorem tfA150 : aggI Tryz.prog 150 = (some (false, 1)) := by kernel_rfl
theorem tfZ150 : zeroI Tryz.prog 150 = (some (.nils :: [])) := by kernel_rfl
theorem tfM150 : mkI Tryz.prog 150 = true := by kernel_rfl
theorem tfA151 : aggI Tryz.prog 151 = (some (false, 1)) := by kernel_rfl
theorem tfZ151 : zeroI Tryz.prog 151 = (some ((.val .nilFunc) :: [])) := by kernel_rfl
theorem tfX151 : isFn Tryz.prog 151 = true := by kernel_rfl
theorem tfM151 : mkI Tryz.prog 151 = true := by kernel_rfl
theorem tfA152 : aggI Tryz.prog 152 = (some (false, 1)) := by kernel_rfl
theorem tfZ152 : zeroI Tryz.prog 152 = (some ((.val .nilFunc) :: [])) := by kernel_rfl
theorem tfX152 : isFn Tryz.prog 152 = true := by kernel_rfl
theorem tfM152 : mkI Tryz.prog 152 = true := by kernel_rfl
theorem tfA153 : aggI Tryz.prog 153 = (some (false, 1)) := by kernel_rfl
theorem tfZ153 : zeroI Tryz.prog 153 = (some ((.val (.pointer none)) :: [])) := by kernel_rfl
theorem tfQ153 : isPtr Tryz.prog 153 = true := by kernel_rfl
theorem tfM153 : mkI Tryz.prog 153 = true := by kernel_rfl
theorem tfA154 : aggI Tryz.prog 154 = (some (false, 1)) := by kernel_rfl
theorem tfZ154 : zeroI Tryz.prog 154 = (some ((.val .nilFunc) :: [])) := by kernel_rfl
theorem tfX154 : isFn Tryz.prog 154 = true := by kernel_rfl
theorem tfM154 : mkI Tryz.prog 154 = true := by kernel_rfl
theorem tfA155 : aggI Tryz.prog 155 = (some (false, 1)) := by kernel_rfl
theorem tfM155 : mkI Tryz.prog 155 = true := by kernel_rfl
theorem tfA156 : aggI Tryz.prog 156 = (some (false, 1)) := by kernel_rfl
theorem tfZ156 : zeroI Tryz.prog 156 = (some ((.val .nilFunc) :: [])) := by kernel_rfl
theorem tfX156 : isFn Tryz.prog 156 = true := by kernel_rfl
theorem tfM156 : mkI Tryz.prog 156 = true := by kernel_rfl
theorem tfA157 : aggI Tryz.prog 157 = (some (false, 1)) := by kernel_rfl
theorem tfZ157 : zeroI Tryz.prog 157 = (some ((.val .nilFunc) :: [])) := by kernel_rfl
theorem tfX157 : isFn Tryz.prog 157 = true := by kernel_rfl
theorem tfM157 : mkI Tryz.prog 157 = true := by kernel_rfl
theorem tfA158 : aggI Tryz.prog 158 = (some (false, 1)) := by kernel_rfl
theorem tfZ158 : zeroI Tryz.prog 158 = (some ((.val .nilFunc) :: [])) := by kernel_rfl
theorem tfX158 : isFn Tryz.prog 158 = true := by kernel_rfl
theorem tfM158 : mkI Tryz.prog 158 = true := by kernel_rfl
theorem tfE159 : elemI Tryz.prog 159 = (some ((.int .i32), 4)) := by kernel_rfl
theorem tfA159 : aggI Tryz.prog 159 = (some (false, 1)) := by kernel_rfl
theorem tfZ159 : zeroI Tryz.prog 159 = (some (.nils :: [])) := by kernel_rfl
theorem tfM159 : mkI Tryz.prog 159 = true := by kernel_rfl
theorem tfA160 : aggI Tryz.prog 160 = (some (false, 1)) := by kernel_rfl
theorem tfZ160 : zeroI Tryz.prog 160 = (some ((.val .nilFunc) :: [])) := by kernel_rfl
theorem tfX160 : isFn Tryz.prog 160 = true := by kernel_rfl
theorem tfM160 : mkI Tryz.prog 160 = true := by kernel_rfl
theorem tfA161 : aggI Tryz.prog 161 = (some (false, 1)) := by kernel_rfl
theorem tfZ161 : zeroI Tryz.prog 161 = (some ((.val .nilFunc) :: [])) := by kernel_rfl
theorem tfX161 : isFn Tryz.prog 161 = true := by kernel_rfl
theorem tfM161 : mkI Tryz.prog 161 = true := by kernel_rfl
theorem tfA162 : aggI Tryz.prog 162 = (some (false, 1)) := by kernel_rfl
theorem tfZ162 : zeroI Tryz.prog 162 = (some ((.val .nilFunc) :: [])) := by kernel_rfl
theorem tfX162 : isFn Tryz.prog 162 = true := by kernel_rfl
theorem tfM162 : mkI Tryz.prog 162 = true := by kernel_rfl
theorem tfA163 : aggI Tryz.prog 163 = (some (false, 1)) := by kernel_rfl
theorem tfZ163 : zeroI Tryz.prog 163 = (some ((.val .nilFunc) :: [])) := by kernel_rfl
theorem tfX163 : isFn Tryz.prog 163 = true := by kernel_rfl
theorem tfM163 : mkI Tryz.prog 163 = true := by kernel_rfl
theorem tfE164 : elemI Tryz.prog 164 = (some ((.pair (.int .i64) (.pair (.int .i64) (.pair (.int .i64) .unit))), 24)) := by kernel_rfl
theorem tfA164 : aggI Tryz.prog 164 = (some (false, 1)) := by kernel_rfl
theorem tfZ164 : zeroI Tryz.prog 164 = (some (.nils :: [])) := by kernel_rfl
theorem tfM164 : mkI Tryz.prog 164 = true := by kernel_rfl
theorem tfA165 : aggI Tryz.prog 165 = (some (false, 1)) := by kernel_rfl
theorem tfZ165 : zeroI Tryz.prog 165 = (some ((.val .nilFunc) :: [])) := by kernel_rfl
theorem tfX165 : isFn Tryz.prog 165 = true := by kernel_rfl
theorem tfM165 : mkI Tryz.prog 165 = true := by kernel_rfl
theorem tfA166 : aggI Tryz.prog 166 = (some (true, 3)) := by kernel_rfl
theorem tfZ166 : zeroI Tryz.prog 166 = (some ((.int .i64 (0 : Int)) :: ((.int .i64 (0 : Int)) :: ((.int .i64 (0 : Int)) :: [])))) := by kernel_rfl
theorem tfP166 : placesI Tryz.prog 166 = (some ((0, 1) :: ((1, 1) :: ((2, 1) :: [])))) := by kernel_rfl
theorem tfM166 : mkI Tryz.prog 166 = true := by kernel_rfl
theorem tfF166x0 : fldI Tryz.prog 166 0 = (some 0) := by kernel_rfl
theorem tfG166x0 : fieldI Tryz.prog 166 0 = (some (false, (0, 1))) := by kernel_rfl
theorem tfF166x1 : fldI Tryz.prog 166 1 = (some 1) := by kernel_rfl
theorem tfG166x1 : fieldI Tryz.prog 166 1 = (some (false, (1, 1))) := by kernel_rfl
theorem tfF166x2 : fldI Tryz.prog 166 2 = (some 2) := by kernel_rfl
theorem tfG166x2 : fieldI Tryz.prog 166 2 = (some (false, (2, 1))) := by kernel_rfl
theorem tfA167 : aggI Tryz.prog 167 = (some (true, 3)) := by kernel_rfl
theorem tfZ167 : zeroI Tryz.prog 167 = (some ((.int .i64 (0 : Int)) :: ((.int .i64 (0 : Int)) :: ((.int .i64 (0 : Int)) :: [])))) := by kernel_rfl
theorem tfP167 : placesI Tryz.prog 167 = (some ((0, 1) :: ((1, 1) :: ((2, 1) :: [])))) := by kernel_rfl
theorem tfM167 : mkI Tryz.prog 167 = true := by kernel_rfl
theorem tfF167x0 : fldI Tryz.prog 167 0 = (some 0) := by kernel_rfl
theorem tfG167x0 : fieldI Tryz.prog 167 0 = (some (false, (0, 1))) := by kernel_rfl
theorem tfF167x1 : fldI Tryz.prog 167 1 = (some 1) := by kernel_rfl
theorem tfG167x1 : fieldI Tryz.prog 167 1 = (some (false, (1, 1))) := by kernel_rfl
theorem tfF167x2 : fldI Tryz.prog 167 2 = (some 2) := by kernel_rfl
theorem tfG167x2 : fieldI Tryz.prog 167 2 = (some (false, (2, 1))) := by kernel_rfl
theorem tfA168 : aggI Tryz.prog 168 = (some (false, 1)) := by kernel_rfl
theorem tfM168 : mkI Tryz.prog 168 = true := by kernel_rfl
theorem tfA169 : aggI Tryz.prog 169 = (some (false, 1)) := by kernel_rfl
theorem tfZ169 : zeroI Tryz.prog 169 = (some ((.val .nilFunc) :: [])) := by kernel_rfl
theorem tfX169 : isFn Tryz.prog 169 = true := by kernel_rfl
theorem tfM169 : mkI Tryz.prog 169 = true := by kernel_rfl
theorem tfA170 : aggI Tryz.prog 170 = (some (false, 1)) := by kernel_rfl
theorem tfM170 : mkI Tryz.prog 170 = true := by kernel_rfl
theorem tfA171 : aggI Tryz.prog 171 = (some (false, 1)) := by kernel_rfl
theorem tfZ171 : zeroI Tryz.prog 171 = (some ((.val .nilFunc) :: [])) := by kernel_rfl
theorem tfX171 : isFn Tryz.prog 171 = true := by kernel_rfl
theorem tfM171 : mkI Tryz.prog 171 = true := by kernel_rfl
theorem tfA172 : aggI Tryz.prog 172 = (some (false, 1)) := by kernel_rfl
theorem tfM172 : mkI Tryz.prog 172 = true := by kernel_rfl
theorem tfA173 : aggI Tryz.prog 173 = (some (false, 1)) := by kernel_rfl
theorem tfZ173 : zeroI Tryz.prog 173 = (some ((.val .nilFunc) :: [])) := by kernel_rfl
theorem tfX173 : isFn Tryz.prog 173 = true := by kernel_rfl
theorem tfM173 : mkI Tryz.prog 173 = true := by kernel_rfl
theorem tfA174 : aggI Tryz.prog 174 = (some (false, 1)) := by kernel_rfl
theorem tfM174 : mkI Tryz.prog 174 = true := by kernel_rfl
theorem tfA175 : aggI Tryz.prog 175 = (some (false, 1)) := by kernel_rfl
theorem tfZ175 : zeroI Tryz.prog 175 = (some ((.val .nilFunc) :: [])) := by kernel_rfl
theorem tfX175 : isFn Tryz.prog 175 = true := by kernel_rfl
theorem tfM175 : mkI Tryz.prog 175 = true := by kernel_rfl
theorem tfA176 : aggI Tryz.prog 176 = (some (false, 1)) := by kernel_rfl
theorem tfM176 : mkI Tryz.prog 176 = true := by kernel_rfl
theorem tfA177 : aggI Tryz.prog 177 = (some (false, 1)) := by kernel_rfl
theorem tfZ177 : zeroI Tryz.prog 177 = (some ((.val .nilFunc) :: [])) := by kernel_rfl
theorem tfX177 : isFn Tryz.prog 177 = true := by kernel_rfl
theorem tfM177 : mkI Tryz.prog 177 = true := by kernel_rfl
theorem tfA178 : aggI Tryz.prog 178 = (some (false, 1)) := by kernel_rfl
theorem tfZ178 : zeroI Tryz.prog 178 = (some ((.val .nilFunc) :: [])) := by kernel_rfl
theorem tfX178 : isFn Tryz.prog 178 = true := by kernel_rfl
theorem tfM178 : mkI Tryz.prog 178 = true := by kernel_rfl
theorem tfA179 : aggI Tryz.prog 179 = (some (false, 1)) := by kernel_rfl
theorem tfZ179 : zeroI Tryz.prog 179 = (some ((.val .nilFunc) :: [])) := by kernel_rfl
theorem tfX179 : isFn Tryz.prog 179 = true := by kernel_rfl
theorem tfM179 : mkI Tryz.prog 179 = true := by kernel_rfl
theorem tfA180 : aggI Tryz.prog 180 = (some (false, 1)) := by kernel_rfl
theorem tfZ180 : zeroI Tryz.prog 180 = (some ((.val .nilFunc) :: [])) := by kernel_rfl
theorem tfX180 : isFn Tryz.prog 180 = true := by kernel_rfl
theorem tfM180 : mkI Tryz.prog 180 = true := by kernel_rfl
theorem tfA181 : aggI Tryz.prog 181 = (some (false, 1)) := by kernel_rfl
theorem tfZ181 : zeroI Tryz.prog 181 = (some ((.val .nilFunc) :: [])) := by kernel_rfl
theorem tfX181 : isFn Tryz.prog 181 = true := by kernel_rfl
theorem tfM181 : mkI Tryz.prog 181 = true := by kernel_rfl
theorem tfA182 : aggI Tryz.prog 182 = (some (false, 1)) := by kernel_rfl
theorem tfZ182 : zeroI Tryz.prog 182 = (some ((.val .nilFunc) :: [])) := by kernel_rfl
theorem tfX182 : isFn Tryz.prog 182 = true := by kernel_rfl
theorem tfM182 : mkI Tryz.prog 182 = true := by kernel_rfl
theorem tfA183 : aggI Tryz.prog 183 = (some (false, 1)) := by kernel_rfl
theorem tfZ183 : zeroI Tryz.prog 183 = (some ((.int .u64 (0 : Int)) :: [])) := by kernel_rfl
theorem tfM183 : mkI Tryz.prog 183 = true := by kernel_rfl
theorem tfU183 : Program.underlying Tryz.prog 183 = (some (.int .u64)) := by kernel_rfl
theorem tfA184 : aggI Tryz.prog 184 = (some (false, 1)) := by kernel_rfl
theorem tfZ184 : zeroI Tryz.prog 184 = (some ((.val .nilFunc) :: [])) := by kernel_rfl
theorem tfX184 : isFn Tryz.prog 184 = true := by kernel_rfl
theorem tfM184 : mkI Tryz.prog 184 = true := by kernel_rfl
theorem tfA185 : aggI Tryz.prog 185 = (some (false, 1)) := by kernel_rfl
theorem tfZ185 : zeroI Tryz.prog 185 = (some ((.val .nilFunc) :: [])) := by kernel_rfl
theorem tfX185 : isFn Tryz.prog 185 = true := by kernel_rfl
theorem tfM185 : mkI Tryz.prog 185 = true := by kernel_rfl
theorem tfA186 : aggI Tryz.prog 186 = (some (false, 1)) := by kernel_rfl
theorem tfZ186 : zeroI Tryz.prog 186 = (some ((.val .nilFunc) :: [])) := by kernel_rfl
theorem tfX186 : isFn Tryz.prog 186 = true := by kernel_rfl
theorem tfM186 : mkI Tryz.prog 186 = true := by kernel_rfl
theorem tfE187 : elemI Tryz.prog 187 = (some ((.pair (.int .i64) (.pair (.int .i64) (.pair (.int .i32) (.pair (.int .i64) .unit)))), 32)) := by kernel_rfl
theorem tfA187 : aggI Tryz.prog 187 = (some (false, 1)) := by kernel_rfl
theorem tfZ187 : zeroI Tryz.prog 187 = (some (.nils :: [])) := by kernel_rfl
theorem tfM187 : mkI Tryz.prog 187 = true := by kernel_rfl
theorem tfA188 : aggI Tryz.prog 188 = (some (false, 1)) := by kernel_rfl
theorem tfZ188 : zeroI Tryz.prog 188 = (some ((.val .nilFunc) :: [])) := by kernel_rfl
theorem tfX188 : isFn Tryz.prog 188 = true := by kernel_rfl
theorem tfM188 : mkI Tryz.prog 188 = true := by kernel_rfl
theorem tfA189 : aggI Tryz.prog 189 = (some (true, 4)) := by kernel_rfl
theorem tfZ189 : zeroI Tryz.prog 189 = (some ((.int .i64 (0 : Int)) :: ((.int .i64 (0 : Int)) :: ((.int .i32 (0 : Int)) :: ((.int .i64 (0 : Int)) :: []))))) := by kernel_rfl
theorem tfP189 : placesI Tryz.prog 189 = (some ((0, 1) :: ((1, 1) :: ((2, 1) :: ((3, 1) :: []))))) := by kernel_rfl
theorem tfM189 : mkI Tryz.prog 189 = true := by kernel_rfl
theorem tfF189x0 : fldI Tryz.prog 189 0 = (some 0) := by kernel_rfl
theorem tfG189x0 : fieldI Tryz.prog 189 0 = (some (false, (0, 1))) := by kernel_rfl
theorem tfF189x1 : fldI Tryz.prog 189 1 = (some 1) := by kernel_rfl
theorem tfG189x1 : fieldI Tryz.prog 189 1 = (some (false, (1, 1))) := by kernel_rfl
theorem tfF189x2 : fldI Tryz.prog 189 2 = (some 2) := by kernel_rfl
theorem tfG189x2 : fieldI Tryz.prog 189 2 = (some (false, (2, 1))) := by kernel_rfl
theorem tfF189x3 : fldI Tryz.prog 189 3 = (some 3) := by kernel_rfl
theorem tfG189x3 : fieldI Tryz.prog 189 3 = (some (false, (3, 1))) := by kernel_rfl
theorem tfA190 : aggI Tryz.prog 190 = (some (true, 4)) := by kernel_rfl
theorem tfZ190 : zeroI Tryz.prog 190 = (some ((.int .i64 (0 : Int)) :: ((.int .i64 (0 : Int)) :: ((.int .i32 (0 : Int)) :: ((.int .i64 (0 : Int)) :: []))))) := by kernel_rfl
theorem tfP190 : placesI Tryz.prog 190 = (some ((0, 1) :: ((1, 1) :: ((2, 1) :: ((3, 1) :: []))))) := by kernel_rfl
theorem tfM190 : mkI Tryz.prog 190 = true := by kernel_rfl
theorem tfF190x0 : fldI Tryz.prog 190 0 = (some 0) := by kernel_rfl
theorem tfG190x0 : fieldI Tryz.prog 190 0 = (some (false, (0, 1))) := by kernel_rfl
theorem tfF190x1 : fldI Tryz.prog 190 1 = (some 1) := by kernel_rfl
theorem tfG190x1 : fieldI Tryz.prog 190 1 = (some (false, (1, 1))) := by kernel_rfl
theorem tfF190x2 : fldI Tryz.prog 190 2 = (some 2) := by kernel_rfl
theorem tfG190x2 : fieldI Tryz.prog 190 2 = (some (false, (2, 1))) := by kernel_rfl
theorem tfF190x3 : fldI Tryz.prog 190 3 = (some 3) := by kernel_rfl
theorem tfG190x3 : fieldI Tryz.prog 190 3 = (some (false, (3, 1))) := by kernel_rfl
theorem tfA191 : aggI Tryz.prog 191 = (some (false, 1)) := by kernel_rfl
theorem tfZ191 : zeroI Tryz.prog 191 = (some ((.val .nilFunc) :: [])) := by kernel_rfl
theorem tfX191 : isFn Tryz.prog 191 = true := by kernel_rfl
theorem tfM191 : mkI Tryz.prog 191 = true := by kernel_rfl
theorem tfA192 : aggI Tryz.prog 192 = (some (false, 1)) := by kernel_rfl
theorem tfZ192 : zeroI Tryz.prog 192 = (some ((.val .nilFunc) :: [])) := by kernel_rfl
theorem tfX192 : isFn Tryz.prog 192 = true := by kernel_rfl
theorem tfM192 : mkI Tryz.prog 192 = true := by kernel_rfl
theorem tfA193 : aggI Tryz.prog 193 = (some (false, 1)) := by kernel_rfl
theorem tfZ193 : zeroI Tryz.prog 193 = (some ((.val .nilFunc) :: [])) := by kernel_rfl
theorem tfX193 : isFn Tryz.prog 193 = true := by kernel_rfl
theorem tfM193 : mkI Tryz.prog 193 = true := by kernel_rfl
theorem tfA194 : aggI Tryz.prog 194 = (some (false, 1)) := by kernel_rfl
theorem tfZ194 : zeroI Tryz.prog 194 = (some ((.val .nilFunc) :: [])) := by kernel_rfl
theorem tfX194 : isFn Tryz.prog 194 = true := by kernel_rfl
theorem tfM194 : mkI Tryz.prog 194 = true := by kernel_rfl
theorem tfA195 : aggI Tryz.prog 195 = (some (false, 1)) := by kernel_rfl
theorem tfZ195 : zeroI Tryz.prog 195 = (some ((.val .nilFunc) :: [])) := by kernel_rfl
theorem tfX195 : isFn Tryz.prog 195 = true := by kernel_rfl
theorem tfM195 : mkI Tryz.prog 195 = true := by kernel_rfl
theorem tfA196 : aggI Tryz.prog 196 = (some (false, 1)) := by kernel_rfl
theorem tfZ196 : zeroI Tryz.prog 196 = (some ((.int .i64 (0 : Int)) :: [])) := by kernel_rfl
theorem tfM196 : mkI Tryz.prog 196 = true := by kernel_rfl
theorem tfU196 : Program.underlying Tryz.prog 196 = (some (.int .i64)) := by kernel_rfl
theorem tfA197 : aggI Tryz.prog 197 = (some (false, 1)) := by kernel_rfl
theorem tfM197 : mkI Tryz.prog 197 = true := by kernel_rfl
theorem tfA198 : aggI Tryz.prog 198 = (some (false, 1)) := by kernel_rfl
theorem tfZ198 : zeroI Tryz.prog 198 = (some ((.val .nilFunc) :: [])) := by kernel_rfl
theorem tfX198 : isFn Tryz.prog 198 = true := by kernel_rfl
theorem tfM198 : mkI Tryz.prog 198 = true := by kernel_rfl
theorem tfA199 : aggI Tryz.prog 199 = (some (false, 1)) := by kernel_rfl
theorem tfZ199 : zeroI Tryz.prog 199 = (some ((.val (.pointer none)) :: [])) := by kernel_rfl
theorem tfQ199 : isPtr Tryz.prog 199 = true := by kernel_rfl
theorem tfM199 : mkI Tryz.prog 199 = true := by kernel_rfl
theorem tfA200 : aggI Tryz.prog 200 = (some (false, 1)) := by kernel_rfl
theorem tfZ200 : zeroI Tryz.prog 200 = (some ((.val .nilFunc) :: [])) := by kernel_rfl
theorem tfX200 : isFn Tryz.prog 200 = true := by kernel_rfl
theorem tfM200 : mkI Tryz.prog 200 = true := by kernel_rfl
theorem tfA201 : aggI Tryz.prog 201 = (some (false, 1)) := by kernel_rfl
theorem tfZ201 : zeroI Tryz.prog 201 = (some ((.val .nilFunc) :: [])) := by kernel_rfl
theorem tfX201 : isFn Tryz.prog 201 = true := by kernel_rfl
theorem tfM201 : mkI Tryz.prog 201 = true := by kernel_rfl
theorem tfA202 : aggI Tryz.prog 202 = (some (false, 1)) := by kernel_rfl
theorem tfZ202 : zeroI Tryz.prog 202 = (some ((.val .nilFunc) :: [])) := by kernel_rfl
theorem tfX202 : isFn Tryz.prog 202 = true := by kernel_rfl
theorem tfM202 : mkI Tryz.prog 202 = true := by kernel_rfl
theorem tfA203 : aggI Tryz.prog 203 = (some (false, 1)) := by kernel_rfl
theorem tfZ203 : zeroI Tryz.prog 203 = (some ((.val .nilFunc) :: [])) := by kernel_rfl
theorem tfX203 : isFn Tryz.prog 203 = true := by kernel_rfl
theorem tfM203 : mkI Tryz.prog 203 = true := by kernel_rfl
theorem tfA204 : aggI Tryz.prog 204 = (some (false, 1)) := by kernel_rfl
theorem tfZ204 : zeroI Tryz.prog 204 = (some ((.val .nilFunc) :: [])) := by kernel_rfl
theorem tfX204 : isFn Tryz.prog 204 = true := by kernel_rfl
theorem tfM204 : mkI Tryz.prog 204 = true := by kernel_rfl
theorem tfA205 : aggI Tryz.prog 205 = (some (false, 1)) := by kernel_rfl
theorem tfZ205 : zeroI Tryz.prog 205 = (some ((.val .nilFunc) :: [])) := by kernel_rfl
theorem tfX205 : isFn Tryz.prog 205 = true := by kernel_rfl
theorem tfM205 : mkI Tryz.prog 205 = true := by kernel_rfl
theorem tfA206 : aggI Tryz.prog 206 = (some (false, 1)) := by kernel_rfl
theorem tfZ206 : zeroI Tryz.prog 206 = (some ((.val .nilFunc) :: [])) := by kernel_rfl
theorem tfX206 : isFn Tryz.prog 206 = true := by kernel_rfl
theorem tfM206 : mkI Tryz.prog 206 = true := by kernel_rfl
theorem tfA207 : aggI Tryz.prog 207 = (some (false, 1)) := by kernel_rfl
theorem tfZ207 : zeroI Tryz.prog 207 = (some ((.val .nilFunc) :: [])) := by kernel_rfl
theorem tfX207 : isFn Tryz.prog 207 = true := by kernel_rfl
theorem tfM207 : mkI Tryz.prog 207 = true := by kernel_rfl
theorem tfA210 : aggI Tryz.prog 210 = (some (false, 1)) := by kernel_rfl
theorem tfM210 : mkI Tryz.prog 210 = true := by kernel_rfl
theorem tfA211 : aggI Tryz.prog 211 = (some (false, 1)) := by kernel_rfl
theorem tfZ211 : zeroI Tryz.prog 211 = (some ((.val .nilFunc) :: [])) := by kernel_rfl
theorem tfX211 : isFn Tryz.prog 211 = true := by kernel_rfl
theorem tfM211 : mkI Tryz.prog 211 = true := by kernel_rfl
theorem tfA212 : aggI Tryz.prog 212 = (some (false, 1)) := by kernel_rfl
theorem tfZ212 : zeroI Tryz.prog 212 = (some ((.val .nilFunc) :: [])) := by kernel_rfl
theorem tfX212 : isFn Tryz.prog 212 = true := by kernel_rfl
theorem tfM212 : mkI Tryz.prog 212 = true := by kernel_rfl
theorem tfA213 : aggI Tryz.prog 213 = (some (false, 1)) := by kernel_rfl
theorem tfZ213 : zeroI Tryz.prog 213 = (some ((.val (.pointer none)) :: [])) := by kernel_rfl
theorem tfQ213 : isPtr Tryz.prog 213 = true := by kernel_rfl
theorem tfM213 : mkI Tryz.prog 213 = true := by kernel_rfl
theorem tfA214 : aggI Tryz.prog 214 = (some (false, 1)) := by kernel_rfl
theorem tfZ214 : zeroI Tryz.prog 214 = (some ((.int .u64 (0 : Int)) :: [])) := by kernel_rfl
theorem tfM214 : mkI Tryz.prog 214 = true := by kernel_rfl
theorem tfU214 : Program.underlying Tryz.prog 214 = (some (.int .u64)) := by kernel_rfl
theorem tfA215 : aggI Tryz.prog 215 = (some (false, 1)) := by kernel_rfl
theorem tfM215 : mkI Tryz.prog 215 = true := by kernel_rfl
theorem tfA216 : aggI Tryz.prog 216 = (some (false, 1)) := by kernel_rfl
theorem tfZ216 : zeroI Tryz.prog 216 = (some ((.val .nilFunc) :: [])) := by kernel_rfl
theorem tfX216 : isFn Tryz.prog 216 = true := by kernel_rfl
theorem tfM216 : mkI Tryz.prog 216 = true := by kernel_rfl
theorem tfA217 : aggI Tryz.prog 217 = (some (true, 3)) := by kernel_rfl
theorem tfZ217 : zeroI Tryz.prog 217 = (some ((.str []) :: ((.str []) :: ((.val .nilIface) :: [])))) := by kernel_rfl
theorem tfP217 : placesI Tryz.prog 217 = (some ((0, 1) :: ((1, 1) :: ((2, 1) :: [])))) := by kernel_rfl
theorem tfM217 : mkI Tryz.prog 217 = true := by kernel_rfl
theorem tfF217x0 : fldI Tryz.prog 217 0 = (some 0) := by kernel_rfl
theorem tfG217x0 : fieldI Tryz.prog 217 0 = (some (false, (0, 1))) := by kernel_rfl
theorem tfF217x1 : fldI Tryz.prog 217 1 = (some 1) := by kernel_rfl
theorem tfG217x1 : fieldI Tryz.prog 217 1 = (some (false, (1, 1))) := by kernel_rfl
theorem tfF217x2 : fldI Tryz.prog 217 2 = (some 2) := by kernel_rfl
theorem tfG217x2 : fieldI Tryz.prog 217 2 = (some (false, (2, 1))) := by kernel_rfl
theorem tfA218 : aggI Tryz.prog 218 = (some (true, 3)) := by kernel_rfl
theorem tfZ218 : zeroI Tryz.prog 218 = (some ((.str []) :: ((.str []) :: ((.val .nilIface) :: [])))) := by kernel_rfl
theorem tfP218 : placesI Tryz.prog 218 = (some ((0, 1) :: ((1, 1) :: ((2, 1) :: [])))) := by kernel_rfl
theorem tfM218 : mkI Tryz.prog 218 = true := by kernel_rfl
theorem tfF218x0 : fldI Tryz.prog 218 0 = (some 0) := by kernel_rfl
theorem tfG218x0 : fieldI Tryz.prog 218 0 = (some (false, (0, 1))) := by kernel_rfl
theorem tfF218x1 : fldI Tryz.prog 218 1 = (some 1) := by kernel_rfl
theorem tfG218x1 : fieldI Tryz.prog 218 1 = (some (false, (1, 1))) := by kernel_rfl
theorem tfF218x2 : fldI Tryz.prog 218 2 = (some 2) := by kernel_rfl
theorem tfG218x2 : fieldI Tryz.prog 218 2 = (some (false, (2, 1))) := by kernel_rfl
theorem tfA219 : aggI Tryz.prog 219 = (some (false, 1)) := by kernel_rfl
theorem tfZ219 : zeroI Tryz.prog 219 = (some ((.val .nilFunc) :: [])) := by kernel_rfl
theorem tfX219 : isFn Tryz.prog 219 = true := by kernel_rfl
theorem tfM219 : mkI Tryz.prog 219 = true := by kernel_rfl
theorem tfA220 : aggI Tryz.prog 220 = (some (true, 24)) := by kernel_rfl
theorem tfZ220 : zeroI Tryz.prog 220 = (some ((.int .u8 (0 : Int)) :: ((.int .u8 (0 : Int)) :: ((.int .u8 (0 : Int)) :: ((.int .u8 (0 : Int)) :: ((.int .u8 (0 : Int)) :: ((.int .u8 (0 : Int)) :: ((.int .u8 (0 : Int)) :: ((.int .u8 (0 : Int)) :: ((.int .u8 (0 : Int)) :: ((.int .u8 (0 : Int)) :: ((.int .u8 (0 : Int)) :: ((.int .u8 (0 : Int)) :: ((.int .u8 (0 : Int)) :: ((.int .u8 (0 : Int)) :: ((.int .u8 (0 : Int)) :: ((.int .u8 (0 : Int)) :: ((.int .u8 (0 : Int)) :: ((.int .u8 (0 : Int)) :: ((.int .u8 (0 : Int)) :: ((.int .u8 (0 : Int)) :: ((.int .u8 (0 : Int)) :: ((.int .u8 (0 : Int)) :: ((.int .u8 (0 : Int)) :: ((.int .u8 (0 : Int)) :: []))))))))))))))))))))))))) := by kernel_rfl
theorem tfM220 : mkI Tryz.prog 220 = true := by kernel_rfl
theorem tfR220 : arrI Tryz.prog 220 = (some (24, 1)) := by kernel_rfl
theorem tfA221 : aggI Tryz.prog 221 = (some (false, 1)) := by kernel_rfl
theorem tfZ221 : zeroI Tryz.prog 221 = (some ((.val .nilFunc) :: [])) := by kernel_rfl
theorem tfX221 : isFn Tryz.prog 221 = true := by kernel_rfl
theorem tfM221 : mkI Tryz.prog 221 = true := by kernel_rfl
theorem tfA222 : aggI Tryz.prog 222 = (some (false, 1)) := by kernel_rfl
theorem tfZ222 : zeroI Tryz.prog 222 = (some ((.val .nilFunc) :: [])) := by kernel_rfl
theorem tfX222 : isFn Tryz.prog 222 = true := by kernel_rfl
theorem tfM222 : mkI Tryz.prog 222 = true := by kernel_rfl
theorem tfA223 : aggI Tryz.prog 223 = (some (false, 1)) := by kernel_rfl
theorem tfM223 : mkI Tryz.prog 223 = true := by kernel_rfl
theorem tfA224 : aggI Tryz.prog 224 = (some (false, 1)) := by kernel_rfl
theorem tfZ224 : zeroI Tryz.prog 224 = (some ((.val .nilFunc) :: [])) := by kernel_rfl
theorem tfX224 : isFn Tryz.prog 224 = true := by kernel_rfl
theorem tfM224 : mkI Tryz.prog 224 = true := by kernel_rfl
theorem tfA225 : aggI Tryz.prog 225 = (some (false, 1)) := by kernel_rfl
theorem tfZ225 : zeroI Tryz.prog 225 = (some ((.val .nilFunc) :: [])) := by kernel_rfl
theorem tfX225 : isFn Tryz.prog 225 = true := by kernel_rfl
theorem tfM225 : mkI Tryz.prog 225 = true := by kernel_rfl
theorem tfA226 : aggI Tryz.prog 226 = (some (false, 1)) := by kernel_rfl
theorem tfM226 : mkI Tryz.prog 226 = true := by kernel_rfl
theorem tfA227 : aggI Tryz.prog 227 = (some (false, 1)) := by kernel_rfl
theorem tfZ227 : zeroI Tryz.prog 227 = (some ((.val .nilFunc) :: [])) := by kernel_rfl
theorem tfX227 : isFn Tryz.prog 227 = true := by kernel_rfl
theorem tfM227 : mkI Tryz.prog 227 = true := by kernel_rfl
theorem tfE228 : elemI Tryz.prog 228 = (some ((.int .i64), 8)) := by kernel_rfl
theorem tfA228 : aggI Tryz.prog 228 = (some (false, 1)) := by kernel_rfl
theorem tfZ228 : zeroI Tryz.prog 228 = (some (.nils :: [])) := by kernel_rfl
theorem tfM228 : mkI Tryz.prog 228 = true := by kernel_rfl
theorem tfA229 : aggI Tryz.prog 229 = (some (false, 1)) := by kernel_rfl
theorem tfZ229 : zeroI Tryz.prog 229 = (some ((.val .nilFunc) :: [])) := by kernel_rfl
theorem tfX229 : isFn Tryz.prog 229 = true := by kernel_rfl
theorem tfM229 : mkI Tryz.prog 229 = true := by kernel_rfl
theorem tfA230 : aggI Tryz.prog 230 = (some (false, 1)) := by kernel_rfl
theorem tfZ230 : zeroI Tryz.prog 230 = (some ((.val .nilFunc) :: [])) := by kernel_rfl
theorem tfX230 : isFn Tryz.prog 230 = true := by kernel_rfl
theorem tfM230 : mkI Tryz.prog 230 = true := by kernel_rfl
theorem tfA231 : aggI Tryz.prog 231 = (some (false, 1)) := by kernel_rfl
theorem tfZ231 : zeroI Tryz.prog 231 = (some ((.val .nilFunc) :: [])) := by kernel_rfl
theorem tfX231 : isFn Tryz.prog 231 = true := by kernel_rfl
theorem tfM231 : mkI Tryz.prog 231 = true := by kernel_rfl
theorem tfA232 : aggI Tryz.prog 232 = (some (false, 1)) := by kernel_rfl
theorem tfZ232 : zeroI Tryz.prog 232 = (some ((.val .nilFunc) :: [])) := by kernel_rfl
theorem tfX232 : isFn Tryz.prog 232 = true := by kernel_rfl
theorem tfM232 : mkI Tryz.prog 232 = true := by kernel_rfl
theorem tfA233 : aggI Tryz.prog 233 = (some (false, 1)) := by kernel_rfl
theorem tfZ233 : zeroI Tryz.prog 233 = (some ((.val (.pointer none)) :: [])) := by kernel_rfl
theorem tfQ233 : isPtr Tryz.prog 233 = true := by kernel_rfl
theorem tfM233 : mkI Tryz.prog 233 = true := by kernel_rfl
theorem tfA234 : aggI Tryz.prog 234 = (some (true, 1)) := by kernel_rfl
theorem tfZ234 : zeroI Tryz.prog 234 = (some ((.str []) :: [])) := by kernel_rfl
theorem tfP234 : placesI Tryz.prog 234 = (some ((0, 1) :: [])) := by kernel_rfl
theorem tfM234 : mkI Tryz.prog 234 = true := by kernel_rfl
theorem tfF234x0 : fldI Tryz.prog 234 0 = (some 0) := by kernel_rfl
theorem tfG234x0 : fieldI Tryz.prog 234 0 = (some (false, (0, 1))) := by kernel_rfl
theorem tfA235 : aggI Tryz.prog 235 = (some (true, 1)) := by kernel_rfl
theorem tfZ235 : zeroI Tryz.prog 235 = (some ((.str []) :: [])) := by kernel_rfl
theorem tfP235 : placesI Tryz.prog 235 = (some ((0, 1) :: [])) := by kernel_rfl
theorem tfM235 : mkI Tryz.prog 235 = true := by kernel_rfl
theorem tfF235x0 : fldI Tryz.prog 235 0 = (some 0) := by kernel_rfl
theorem tfG235x0 : fieldI Tryz.prog 235 0 = (some (false, (0, 1))) := by kernel_rfl
theorem tfA236 : aggI Tryz.prog 236 = (some (false, 1)) := by kernel_rfl
theorem tfZ236 : zeroI Tryz.prog 236 = (some ((.val .nilFunc) :: [])) := by kernel_rfl
theorem tfX236 : isFn Tryz.prog 236 = true := by kernel_rfl
theorem tfM236 : mkI Tryz.prog 236 = true := by kernel_rfl
theorem tfA237 : aggI Tryz.prog 237 = (some (true, 20)) := by kernel_rfl
theorem tfZ237 : zeroI Tryz.prog 237 = (some ((.int .u64 (0 : Int)) :: ((.int .u64 (0 : Int)) :: ((.int .u64 (0 : Int)) :: ((.int .u64 (0 : Int)) :: ((.int .u64 (0 : Int)) :: ((.int .u64 (0 : Int)) :: ((.int .u64 (0 : Int)) :: ((.int .u64 (0 : Int)) :: ((.int .u64 (0 : Int)) :: ((.int .u64 (0 : Int)) :: ((.int .u64 (0 : Int)) :: ((.int .u64 (0 : Int)) :: ((.int .u64 (0 : Int)) :: ((.int .u64 (0 : Int)) :: ((.int .u64 (0 : Int)) :: ((.int .u64 (0 : Int)) :: ((.int .u64 (0 : Int)) :: ((.int .u64 (0 : Int)) :: ((.int .u64 (0 : Int)) :: ((.int .u64 (0 : Int)) :: []))))))))))))))))))))) := by kernel_rfl
theorem tfM237 : mkI Tryz.prog 237 = true := by kernel_rfl
theorem tfR237 : arrI Tryz.prog 237 = (some (20, 1)) := by kernel_rfl
theorem tfA238 : aggI Tryz.prog 238 = (some (false, 1)) := by kernel_rfl
theorem tfZ238 : zeroI Tryz.prog 238 = (some ((.int .u32 (0 : Int)) :: [])) := by kernel_rfl
theorem tfM238 : mkI Tryz.prog 238 = true := by kernel_rfl
theorem tfU238 : Program.underlying Tryz.prog 238 = (some (.int .u32)) := by kernel_rfl
theorem tfA239 : aggI Tryz.prog 239 = (some (true, 65)) := by kernel_rfl
theorem tfZ239 : zeroI Tryz.prog 239 = (some ((.int .u8 (0 : Int)) :: ((.int .u8 (0 : Int)) :: ((.int .u8 (0 : Int)) :: ((.int .u8 (0 : Int)) :: ((.int .u8 (0 : Int)) :: ((.int .u8 (0 : Int)) :: ((.int .u8 (0 : Int)) :: ((.int .u8 (0 : Int)) :: ((.int .u8 (0 : Int)) :: ((.int .u8 (0 : Int)) :: ((.int .u8 (0 : Int)) :: ((.int .u8 (0 : Int)) :: ((.int .u8 (0 : Int)) :: ((.int .u8 (0 : Int)) :: ((.int .u8 (0 : Int)) :: ((.int .u8 (0 : Int)) :: ((.int .u8 (0 : Int)) :: ((.int .u8 (0 : Int)) :: ((.int .u8 (0 : Int)) :: ((.int .u8 (0 : Int)) :: ((.int .u8 (0 : Int)) :: ((.int .u8 (0 : Int)) :: ((.int .u8 (0 : Int)) :: ((.int .u8 (0 : Int)) :: ((.int .u8 (0 : Int)) :: ((.int .u8 (0 : Int)) :: ((.int .u8 (0 : Int)) :: ((.int .u8 (0 : Int)) :: ((.int .u8 (0 : Int)) :: ((.int .u8 (0 : Int)) :: ((.int .u8 (0 : Int)) :: ((.int .u8 (0 : Int)) :: ((.int .u8 (0 : Int)) :: ((.int .u8 (0 : Int)) :: ((.int .u8 (0 : Int)) :: ((.int .u8 (0 : Int)) :: ((.int .u8 (0 : Int)) :: ((.int .u8 (0 : Int)) :: ((.int .u8 (0 : Int)) :: ((.int .u8 (0 : Int)) :: ((.int .u8 (0 : Int)) :: ((.int .u8 (0 : Int)) :: ((.int .u8 (0 : Int)) :: ((.int .u8 (0 : Int)) :: ((.int .u8 (0 : Int)) :: ((.int .u8 (0 : Int)) :: ((.int .u8 (0 : Int)) :: ((.int .u8 (0 : Int)) :: ((.int .u8 (0 : Int)) :: ((.int .u8 (0 : Int)) :: ((.int .u8 (0 : Int)) :: ((.int .u8 (0 : Int)) :: ((.int .u8 (0 : Int)) :: ((.int .u8 (0 : Int)) :: ((.int .u8 (0 : Int)) :: ((.int .u8 (0 : Int)) :: ((.int .u8 (0 : Int)) :: ((.int .u8 (0 : Int)) :: ((.int .u8 (0 : Int)) :: ((.int .u8 (0 : Int)) :: ((.int .u8 (0 : Int)) :: ((.int .u8 (0 : Int)) :: ((.int .u8 (0 : Int)) :: ((.int .u8 (0 : Int)) :: ((.int .u8 (0 : Int)) :: [])))))))))))))))))))))))))))))))))))))))))))))))))))))))))))))))))) := by kernel_rfl
theorem tfM239 : mkI Tryz.prog 239 = true := by kernel_rfl
theorem tfR239 : arrI Tryz.prog 239 = (some (65, 1)) := by kernel_rfl
theorem tfA240 : aggI Tryz.prog 240 = (some (false, 1)) := by kernel_rfl
theorem tfZ240 : zeroI Tryz.prog 240 = (some ((.val .nilFunc) :: [])) := by kernel_rfl
theorem tfX240 : isFn Tryz.prog 240 = true := by kernel_rfl
theorem tfM240 : mkI Tryz.prog 240 = true := by kernel_rfl
theorem tfA241 : aggI Tryz.prog 241 = (some (false, 1)) := by kernel_rfl
theorem tfZ241 : zeroI Tryz.prog 241 = (some ((.val .nilFunc) :: [])) := by kernel_rfl
theorem tfX241 : isFn Tryz.prog 241 = true := by kernel_rfl
theorem tfM241 : mkI Tryz.prog 241 = true := by kernel_rfl
theorem tfA242 : aggI Tryz.prog 242 = (some (false, 1)) := by kernel_rfl
theorem tfM242 : mkI Tryz.prog 242 = true := by kernel_rfl
theorem tfA243 : aggI Tryz.prog 243 = (some (false, 1)) := by kernel_rfl
theorem tfZ243 : zeroI Tryz.prog 243 = (some ((.val .nilFunc) :: [])) := by kernel_rfl
theorem tfX243 : isFn Tryz.prog 243 = true := by kernel_rfl
theorem tfM243 : mkI Tryz.prog 243 = true := by kernel_rfl
theorem tfA244 : aggI Tryz.prog 244 = (some (false, 1)) := by kernel_rfl
theorem tfZ244 : zeroI Tryz.prog 244 = (some ((.val .nilFunc) :: [])) := by kernel_rfl
theorem tfX244 : isFn Tryz.prog 244 = true := by kernel_rfl
theorem tfM244 : mkI Tryz.prog 244 = true := by kernel_rfl
theorem tfA245 : aggI Tryz.prog 245 = (some (false, 1)) := by kernel_rfl
theorem tfZ245 : zeroI Tryz.prog 245 = (some ((.val .nilFunc) :: [])) := by kernel_rfl
theorem tfX245 : isFn Tryz.prog 245 = true := by kernel_rfl
theorem tfM245 : mkI Tryz.prog 245 = true := by kernel_rfl
theorem tfA247 : aggI Tryz.prog 247 = (some (true, 2)) := by kernel_rfl
theorem tfZ247 : zeroI Tryz.prog 247 = (some ((.int .u8 (0 : Int)) :: ((.int .u8 (0 : Int)) :: []))) := by kernel_rfl
theorem tfP247 : placesI Tryz.prog 247 = (some ((0, 1) :: ((1, 1) :: []))) := by kernel_rfl
theorem tfM247 : mkI Tryz.prog 247 = true := by kernel_rfl
theorem tfF247x0 : fldI Tryz.prog 247 0 = (some 0) := by kernel_rfl
theorem tfG247x0 : fieldI Tryz.prog 247 0 = (some (false, (0, 1))) := by kernel_rfl
theorem tfF247x1 : fldI Tryz.prog 247 1 = (some 1) := by kernel_rfl
theorem tfG247x1 : fieldI Tryz.prog 247 1 = (some (false, (1, 1))) := by kernel_rfl
theorem tfA248 : aggI Tryz.prog 248 = (some (true, 2)) := by kernel_rfl
theorem tfZ248 : zeroI Tryz.prog 248 = (some ((.int .u8 (0 : Int)) :: ((.int .u8 (0 : Int)) :: []))) := by kernel_rfl
theorem tfP248 : placesI Tryz.prog 248 = (some ((0, 1) :: ((1, 1) :: []))) := by kernel_rfl
theorem tfM248 : mkI Tryz.prog 248 = true := by kernel_rfl
theorem tfF248x0 : fldI Tryz.prog 248 0 = (some 0) := by kernel_rfl
theorem tfG248x0 : fieldI Tryz.prog 248 0 = (some (false, (0, 1))) := by kernel_rfl
theorem tfF248x1 : fldI Tryz.prog 248 1 = (some 1) := by kernel_rfl
theorem tfG248x1 : fieldI Tryz.prog 248 1 = (some (false, (1, 1))) := by kernel_rfl
theorem tfA249 : aggI Tryz.prog 249 = (some (true, 32)) := by kernel_rfl
theorem tfZ249 : zeroI Tryz.prog 249 = (some ((.int .u8 (0 : Int)) :: ((.int .u8 (0 : Int)) :: ((.int .u8 (0 : Int)) :: ((.int .u8 (0 : Int)) :: ((.int .u8 (0 : Int)) :: ((.int .u8 (0 : Int)) :: ((.int .u8 (0 : Int)) :: ((.int .u8 (0 : Int)) :: ((.int .u8 (0 : Int)) :: ((.int .u8 (0 : Int)) :: ((.int .u8 (0 : Int)) :: ((.int .u8 (0 : Int)) :: ((.int .u8 (0 : Int)) :: ((.int .u8 (0 : Int)) :: ((.int .u8 (0 : Int)) :: ((.int .u8 (0 : Int)) :: ((.int .u8 (0 : Int)) :: ((.int .u8 (0 : Int)) :: ((.int .u8 (0 : Int)) :: ((.int .u8 (0 : Int)) :: ((.int .u8 (0 : Int)) :: ((.int .u8 (0 : Int)) :: ((.int .u8 (0 : Int)) :: ((.int .u8 (0 : Int)) :: ((.int .u8 (0 : Int)) :: ((.int .u8 (0 : Int)) :: ((.int .u8 (0 : Int)) :: ((.int .u8 (0 : Int)) :: ((.int .u8 (0 : Int)) :: ((.int .u8 (0 : Int)) :: ((.int .u8 (0 : Int)) :: ((.int .u8 (0 : Int)) :: []))))))))))))))))))))))))))))))))) := by kernel_rfl
theorem tfM249 : mkI Tryz.prog 249 = true := by kernel_rfl
theorem tfR249 : arrI Tryz.prog 249 = (some (16, 2)) := by kernel_rfl
theorem tfA250 : aggI Tryz.prog 250 = (some (true, 32)) := by kernel_rfl
theorem tfZ250 : zeroI Tryz.prog 250 = (some ((.int .u8 (0 : Int)) :: ((.int .u8 (0 : Int)) :: ((.int .u8 (0 : Int)) :: ((.int .u8 (0 : Int)) :: ((.int .u8 (0 : Int)) :: ((.int .u8 (0 : Int)) :: ((.int .u8 (0 : Int)) :: ((.int .u8 (0 : Int)) :: ((.int .u8 (0 : Int)) :: ((.int .u8 (0 : Int)) :: ((.int .u8 (0 : Int)) :: ((.int .u8 (0 : Int)) :: ((.int .u8 (0 : Int)) :: ((.int .u8 (0 : Int)) :: ((.int .u8 (0 : Int)) :: ((.int .u8 (0 : Int)) :: ((.int .u8 (0 : Int)) :: ((.int .u8 (0 : Int)) :: ((.int .u8 (0 : Int)) :: ((.int .u8 (0 : Int)) :: ((.int .u8 (0 : Int)) :: ((.int .u8 (0 : Int)) :: ((.int .u8 (0 : Int)) :: ((.int .u8 (0 : Int)) :: ((.int .u8 (0 : Int)) :: ((.int .u8 (0 : Int)) :: ((.int .u8 (0 : Int)) :: ((.int .u8 (0 : Int)) :: ((.int .u8 (0 : Int)) :: ((.int .u8 (0 : Int)) :: ((.int .u8 (0 : Int)) :: ((.int .u8 (0 : Int)) :: []))))))))))))))))))))))))))))))))) := by kernel_rfl
theorem tfM250 : mkI Tryz.prog 250 = true := by kernel_rfl
theorem tfR250 : arrI Tryz.prog 250 = (some (32, 1)) := by kernel_rfl
theorem tfA251 : aggI Tryz.prog 251 = (some (true, 64)) := by kernel_rfl
theorem tfZ251 : zeroI Tryz.prog 251 = (some ((.int .u8 (0 : Int)) :: ((.int .u8 (0 : Int)) :: ((.int .u8 (0 : Int)) :: ((.int .u8 (0 : Int)) :: ((.int .u8 (0 : Int)) :: ((.int .u8 (0 : Int)) :: ((.int .u8 (0 : Int)) :: ((.int .u8 (0 : Int)) :: ((.int .u8 (0 : Int)) :: ((.int .u8 (0 : Int)) :: ((.int .u8 (0 : Int)) :: ((.int .u8 (0 : Int)) :: ((.int .u8 (0 : Int)) :: ((.int .u8 (0 : Int)) :: ((.int .u8 (0 : Int)) :: ((.int .u8 (0 : Int)) :: ((.int .u8 (0 : Int)) :: ((.int .u8 (0 : Int)) :: ((.int .u8 (0 : Int)) :: ((.int .u8 (0 : Int)) :: ((.int .u8 (0 : Int)) :: ((.int .u8 (0 : Int)) :: ((.int .u8 (0 : Int)) :: ((.int .u8 (0 : Int)) :: ((.int .u8 (0 : Int)) :: ((.int .u8 (0 : Int)) :: ((.int .u8 (0 : Int)) :: ((.int .u8 (0 : Int)) :: ((.int .u8 (0 : Int)) :: ((.int .u8 (0 : Int)) :: ((.int .u8 (0 : Int)) :: ((.int .u8 (0 : Int)) :: ((.int .u8 (0 : Int)) :: ((.int .u8 (0 : Int)) :: ((.int .u8 (0 : Int)) :: ((.int .u8 (0 : Int)) :: ((.int .u8 (0 : Int)) :: ((.int .u8 (0 : Int)) :: ((.int .u8 (0 : Int)) :: ((.int .u8 (0 : Int)) :: ((.int .u8 (0 : Int)) :: ((.int .u8 (0 : Int)) :: ((.int .u8 (0 : Int)) :: ((.int .u8 (0 : Int)) :: ((.int .u8 (0 : Int)) :: ((.int .u8 (0 : Int)) :: ((.int .u8 (0 : Int)) :: ((.int .u8 (0 : Int)) :: ((.int .u8 (0 : Int)) :: ((.int .u8 (0 : Int)) :: ((.int .u8 (0 : Int)) :: ((.int .u8 (0 : Int)) :: ((.int .u8 (0 : Int)) :: ((.int .u8 (0 : Int)) :: ((.int .u8 (0 : Int)) :: ((.int .u8 (0 : Int)) :: ((.int .u8 (0 : Int)) :: ((.int .u8 (0 : Int)) :: ((.int .u8 (0 : Int)) :: ((.int .u8 (0 : Int)) :: ((.int .u8 (0 : Int)) :: ((.int .u8 (0 : Int)) :: ((.int .u8 (0 : Int)) :: ((.int .u8 (0 : Int)) :: []))))))))))))))))))))))))))))))))))))))))))))))))))))))))))))))))) := by kernel_rfl
theorem tfM251 : mkI Tryz.prog 251 = true := by kernel_rfl
theorem tfR251 : arrI Tryz.prog 251 = (some (64, 1)) := by kernel_rfl
theorem tfA252 : aggI Tryz.prog 252 = (some (true, 4)) := by kernel_rfl
theorem tfZ252 : zeroI Tryz.prog 252 = (some ((.val (.pointer none)) :: ((.val (.pointer none)) :: ((.val (.pointer none)) :: ((.str []) :: []))))) := by kernel_rfl
theorem tfP252 : placesI Tryz.prog 252 = (some ((0, 1) :: ((1, 1) :: ((2, 1) :: ((3, 1) :: []))))) := by kernel_rfl
theorem tfM252 : mkI Tryz.prog 252 = true := by kernel_rfl
theorem tfF252x0 : fldI Tryz.prog 252 0 = (some 0) := by kernel_rfl
theorem tfG252x0 : fieldI Tryz.prog 252 0 = (some (false, (0, 1))) := by kernel_rfl
theorem tfF252x1 : fldI Tryz.prog 252 1 = (some 1) := by kernel_rfl
theorem tfG252x1 : fieldI Tryz.prog 252 1 = (some (false, (1, 1))) := by kernel_rfl
theorem tfF252x2 : fldI Tryz.prog 252 2 = (some 2) := by kernel_rfl
theorem tfG252x2 : fieldI Tryz.prog 252 2 = (some (false, (2, 1))) := by kernel_rfl
theorem tfF252x3 : fldI Tryz.prog 252 3 = (some 3) := by kernel_rfl
theorem tfG252x3 : fieldI Tryz.prog 252 3 = (some (false, (3, 1))) := by kernel_rfl
theorem tfA253 : aggI Tryz.prog 253 = (some (true, 4)) := by kernel_rfl
theorem tfZ253 : zeroI Tryz.prog 253 = (some ((.val (.pointer none)) :: ((.val (.pointer none)) :: ((.val (.pointer none)) :: ((.str []) :: []))))) := by kernel_rfl
theorem tfP253 : placesI Tryz.prog 253 = (some ((0, 1) :: ((1, 1) :: ((2, 1) :: ((3, 1) :: []))))) := by kernel_rfl
theorem tfM253 : mkI Tryz.prog 253 = true := by kernel_rfl
theorem tfF253x0 : fldI Tryz.prog 253 0 = (some 0) := by kernel_rfl
theorem tfG253x0 : fieldI Tryz.prog 253 0 = (some (false, (0, 1))) := by kernel_rfl
theorem tfF253x1 : fldI Tryz.prog 253 1 = (some 1) := by kernel_rfl
theorem tfG253x1 : fieldI Tryz.prog 253 1 = (some (false, (1, 1))) := by kernel_rfl
theorem tfF253x2 : fldI Tryz.prog 253 2 = (some 2) := by kernel_rfl
theorem tfG253x2 : fieldI Tryz.prog 253 2 = (some (false, (2, 1))) := by kernel_rfl
theorem tfF253x3 : fldI Tryz.prog 253 3 = (some 3) := by kernel_rfl
theorem tfG253x3 : fieldI Tryz.prog 253 3 = (some (false, (3, 1))) := by kernel_rfl
theorem tfA254 : aggI Tryz.prog 254 = (some (true, 0)) := by kernel_rfl
theorem tfZ254 : zeroI Tryz.prog 254 = (some []) := by kernel_rfl
theorem tfM254 : mkI Tryz.prog 254 = true := by kernel_rfl
theorem tfR254 : arrI Tryz.prog 254 = (some (0, 1)) := by kernel_rfl
theorem tfA255 : aggI Tryz.prog 255 = (some (true, 0)) := by kernel_rfl
theorem tfZ255 : zeroI Tryz.prog 255 = (some []) := by kernel_rfl
theorem tfP255 : placesI Tryz.prog 255 = (some ((0, 0) :: [])) := by kernel_rfl
theorem tfM255 : mkI Tryz.prog 255 = true := by kernel_rfl
theorem tfG255x0 : fieldI Tryz.prog 255 0 = (some (true, (0, 0))) := by kernel_rfl
theorem tfA256 : aggI Tryz.prog 256 = (some (true, 0)) := by kernel_rfl
theorem tfZ256 : zeroI Tryz.prog 256 = (some []) := by kernel_rfl
theorem tfP256 : placesI Tryz.prog 256 = (some ((0, 0) :: [])) := by kernel_rfl
theorem tfM256 : mkI Tryz.prog 256 = true := by kernel_rfl
theorem tfG256x0 : fieldI Tryz.prog 256 0 = (some (true, (0, 0))) := by kernel_rfl
theorem tfA257 : aggI Tryz.prog 257 = (some (false, 1)) := by kernel_rfl
theorem tfZ257 : zeroI Tryz.prog 257 = (some ((.val .nilFunc) :: [])) := by kernel_rfl
theorem tfX257 : isFn Tryz.prog 257 = true := by kernel_rfl
theorem tfM257 : mkI Tryz.prog 257 = true := by kernel_rfl
theorem tfA258 : aggI Tryz.prog 258 = (some (false, 1)) := by kernel_rfl
theorem tfZ258 : zeroI Tryz.prog 258 = (some ((.val .nilFunc) :: [])) := by kernel_rfl
theorem tfX258 : isFn Tryz.prog 258 = true := by kernel_rfl
theorem tfM258 : mkI Tryz.prog 258 = true := by kernel_rfl
theorem tfA259 : aggI Tryz.prog 259 = (some (false, 1)) := by kernel_rfl
theorem tfZ259 : zeroI Tryz.prog 259 = (some ((.int .u8 (0 : Int)) :: [])) := by kernel_rfl
theorem tfM259 : mkI Tryz.prog 259 = true := by kernel_rfl
theorem tfU259 : Program.underlying Tryz.prog 259 = (some (.int .u8)) := by kernel_rfl
theorem tfA260 : aggI Tryz.prog 260 = (some (false, 1)) := by kernel_rfl
theorem tfZ260 : zeroI Tryz.prog 260 = (some ((.val .nilFunc) :: [])) := by kernel_rfl
theorem tfX260 : isFn Tryz.prog 260 = true := by kernel_rfl
theorem tfM260 : mkI Tryz.prog 260 = true := by kernel_rfl
theorem tfA261 : aggI Tryz.prog 261 = (some (false, 1)) := by kernel_rfl
theorem tfZ261 : zeroI Tryz.prog 261 = (some ((.int .i32 (0 : Int)) :: [])) := by kernel_rfl
theorem tfM261 : mkI Tryz.prog 261 = true := by kernel_rfl
theorem tfU261 : Program.underlying Tryz.prog 261 = (some (.int .i32)) := by kernel_rfl
theorem tfA262 : aggI Tryz.prog 262 = (some (false, 1)) := by kernel_rfl
theorem tfZ262 : zeroI Tryz.prog 262 = (some ((.int .i32 (0 : Int)) :: [])) := by kernel_rfl
theorem tfM262 : mkI Tryz.prog 262 = true := by kernel_rfl
theorem tfU262 : Program.underlying Tryz.prog 262 = (some (.int .i32)) := by kernel_rfl
theorem tfA263 : aggI Tryz.prog 263 = (some (true, 11)) := by kernel_rfl
theorem tfZ263 : zeroI Tryz.prog 263 = (some ((.int .u64 (0 : Int)) :: ((.int .u64 (0 : Int)) :: ((.int .u32 (0 : Int)) :: ((.int .u8 (0 : Int)) :: ((.int .u8 (0 : Int)) :: ((.int .u8 (0 : Int)) :: ((.int .u8 (0 : Int)) :: ((.val .nilFunc) :: ((.val (.pointer none)) :: ((.int .i32 (0 : Int)) :: ((.int .i32 (0 : Int)) :: [])))))))))))) := by kernel_rfl
theorem tfP263 : placesI Tryz.prog 263 = (some ((0, 1) :: ((1, 1) :: ((2, 1) :: ((3, 1) :: ((4, 1) :: ((5, 1) :: ((6, 1) :: ((7, 1) :: ((8, 1) :: ((9, 1) :: ((10, 1) :: [])))))))))))) := by kernel_rfl
theorem tfM263 : mkI Tryz.prog 263 = true := by kernel_rfl
theorem tfF263x0 : fldI Tryz.prog 263 0 = (some 0) := by kernel_rfl
theorem tfG263x0 : fieldI Tryz.prog 263 0 = (some (false, (0, 1))) := by kernel_rfl
theorem tfF263x1 : fldI Tryz.prog 263 1 = (some 1) := by kernel_rfl
theorem tfG263x1 : fieldI Tryz.prog 263 1 = (some (false, (1, 1))) := by kernel_rfl
theorem tfF263x2 : fldI Tryz.prog 263 2 = (some 2) := by kernel_rfl
theorem tfG263x2 : fieldI Tryz.prog 263 2 = (some (false, (2, 1))) := by kernel_rfl
theorem tfF263x3 : fldI Tryz.prog 263 3 = (some 3) := by kernel_rfl
theorem tfG263x3 : fieldI Tryz.prog 263 3 = (some (false, (3, 1))) := by kernel_rfl
theorem tfF263x4 : fldI Tryz.prog 263 4 = (some 4) := by kernel_rfl
theorem tfG263x4 : fieldI Tryz.prog 263 4 = (some (false, (4, 1))) := by kernel_rfl
theorem tfF263x5 : fldI Tryz.prog 263 5 = (some 5) := by kernel_rfl
theorem tfG263x5 : fieldI Tryz.prog 263 5 = (some (false, (5, 1))) := by kernel_rfl
theorem tfF263x6 : fldI Tryz.prog 263 6 = (some 6) := by kernel_rfl
theorem tfG263x6 : fieldI Tryz.prog 263 6 = (some (false, (6, 1))) := by kernel_rfl
theorem tfF263x7 : fldI Tryz.prog 263 7 = (some 7) := by kernel_rfl
theorem tfG263x7 : fieldI Tryz.prog 263 7 = (some (false, (7, 1))) := by kernel_rfl
theorem tfF263x8 : fldI Tryz.prog 263 8 = (some 8) := by kernel_rfl
theorem tfG263x8 : fieldI Tryz.prog 263 8 = (some (false, (8, 1))) := by kernel_rfl
theorem tfF263x9 : fldI Tryz.prog 263 9 = (some 9) := by kernel_rfl
theorem tfG263x9 : fieldI Tryz.prog 263 9 = (some (false, (9, 1))) := by kernel_rfl
theorem tfF263x10 : fldI Tryz.prog 263 10 = (some 10) := by kernel_rfl
theorem tfG263x10 : fieldI Tryz.prog 263 10 = (some (false, (10, 1))) := by kernel_rfl
theorem tfA264 : aggI Tryz.prog 264 = (some (true, 11)) := by kernel_rfl
theorem tfZ264 : zeroI Tryz.prog 264 = (some ((.int .u64 (0 : Int)) :: ((.int .u64 (0 : Int)) :: ((.int .u32 (0 : Int)) :: ((.int .u8 (0 : Int)) :: ((.int .u8 (0 : Int)) :: ((.int .u8 (0 : Int)) :: ((.int .u8 (0 : Int)) :: ((.val .nilFunc) :: ((.val (.pointer none)) :: ((.int .i32 (0 : Int)) :: ((.int .i32 (0 : Int)) :: [])))))))))))) := by kernel_rfl
theorem tfP264 : placesI Tryz.prog 264 = (some ((0, 1) :: ((1, 1) :: ((2, 1) :: ((3, 1) :: ((4, 1) :: ((5, 1) :: ((6, 1) :: ((7, 1) :: ((8, 1) :: ((9, 1) :: ((10, 1) :: [])))))))))))) := by kernel_rfl
theorem tfM264 : mkI Tryz.prog 264 = true := by kernel_rfl
theorem tfF264x0 : fldI Tryz.prog 264 0 = (some 0) := by kernel_rfl
theorem tfG264x0 : fieldI Tryz.prog 264 0 = (some (false, (0, 1))) := by kernel_rfl
theorem tfF264x1 : fldI Tryz.prog 264 1 = (some 1) := by kernel_rfl
theorem tfG264x1 : fieldI Tryz.prog 264 1 = (some (false, (1, 1))) := by kernel_rfl
theorem tfF264x2 : fldI Tryz.prog 264 2 = (some 2) := by kernel_rfl
theorem tfG264x2 : fieldI Tryz.prog 264 2 = (some (false, (2, 1))) := by kernel_rfl
theorem tfF264x3 : fldI Tryz.prog 264 3 = (some 3) := by kernel_rfl
theorem tfG264x3 : fieldI Tryz.prog 264 3 = (some (false, (3, 1))) := by kernel_rfl
theorem tfF264x4 : fldI Tryz.prog 264 4 = (some 4) := by kernel_rfl
theorem tfG264x4 : fieldI Tryz.prog 264 4 = (some (false, (4, 1))) := by kernel_rfl
theorem tfF264x5 : fldI Tryz.prog 264 5 = (some 5) := by kernel_rfl
theorem tfG264x5 : fieldI Tryz.prog 264 5 = (some (false, (5, 1))) := by kernel_rfl
theorem tfF264x6 : fldI Tryz.prog 264 6 = (some 6) := by kernel_rfl
theorem tfG264x6 : fieldI Tryz.prog 264 6 = (some (false, (6, 1))) := by kernel_rfl
theorem tfF264x7 : fldI Tryz.prog 264 7 = (some 7) := by kernel_rfl
theorem tfG264x7 : fieldI Tryz.prog 264 7 = (some (false, (7, 1))) := by kernel_rfl
theorem tfF264x8 : fldI Tryz.prog 264 8 = (some 8) := by kernel_rfl
theorem tfG264x8 : fieldI Tryz.prog 264 8 = (some (false, (8, 1))) := by kernel_rfl
theorem tfF264x9 : fldI Tryz.prog 264 9 = (some 9) := by kernel_rfl
theorem tfG264x9 : fieldI Tryz.prog 264 9 = (some (false, (9, 1))) := by kernel_rfl
theorem tfF264x10 : fldI Tryz.prog 264 10 = (some 10) := by kernel_rfl
theorem tfG264x10 : fieldI Tryz.prog 264 10 = (some (false, (10, 1))) := by kernel_rfl
theorem tfA265 : aggI Tryz.prog 265 = (some (false, 1)) := by kernel_rfl
theorem tfZ265 : zeroI Tryz.prog 265 = (some ((.val .nilFunc) :: [])) := by kernel_rfl
theorem tfX265 : isFn Tryz.prog 265 = true := by kernel_rfl
theorem tfM265 : mkI Tryz.prog 265 = true := by kernel_rfl
theorem tfA266 : aggI Tryz.prog 266 = (some (false, 1)) := by kernel_rfl
theorem tfZ266 : zeroI Tryz.prog 266 = (some ((.val .nilFunc) :: [])) := by kernel_rfl
theorem tfX266 : isFn Tryz.prog 266 = true := by kernel_rfl
theorem tfM266 : mkI Tryz.prog 266 = true := by kernel_rfl
theorem tfA267 : aggI Tryz.prog 267 = (some (true, 2)) := by kernel_rfl
theorem tfZ267 : zeroI Tryz.prog 267 = (some ((.str []) :: ((.int .u8 (0 : Int)) :: []))) := by kernel_rfl
theorem tfP267 : placesI Tryz.prog 267 = (some ((0, 1) :: ((1, 1) :: []))) := by kernel_rfl
theorem tfM267 : mkI Tryz.prog 267 = true := by kernel_rfl
theorem tfF267x0 : fldI Tryz.prog 267 0 = (some 0) := by kernel_rfl
theorem tfG267x0 : fieldI Tryz.prog 267 0 = (some (false, (0, 1))) := by kernel_rfl
theorem tfF267x1 : fldI Tryz.prog 267 1 = (some 1) := by kernel_rfl
theorem tfG267x1 : fieldI Tryz.prog 267 1 = (some (false, (1, 1))) := by kernel_rfl
theorem tfA268 : aggI Tryz.prog 268 = (some (true, 2)) := by kernel_rfl
theorem tfZ268 : zeroI Tryz.prog 268 = (some ((.str []) :: ((.int .u8 (0 : Int)) :: []))) := by kernel_rfl
theorem tfP268 : placesI Tryz.prog 268 = (some ((0, 1) :: ((1, 1) :: []))) := by kernel_rfl
theorem tfM268 : mkI Tryz.prog 268 = true := by kernel_rfl
theorem tfF268x0 : fldI Tryz.prog 268 0 = (some 0) := by kernel_rfl
theorem tfG268x0 : fieldI Tryz.prog 268 0 = (some (false, (0, 1))) := by kernel_rfl
theorem tfF268x1 : fldI Tryz.prog 268 1 = (some 1) := by kernel_rfl
theorem tfG268x1 : fieldI Tryz.prog 268 1 = (some (false, (1, 1))) := by kernel_rfl
theorem tfA269 : aggI Tryz.prog 269 = (some (false, 1)) := by kernel_rfl
theorem tfZ269 : zeroI Tryz.prog 269 = (some ((.val (.pointer none)) :: [])) := by kernel_rfl
theorem tfQ269 : isPtr Tryz.prog 269 = true := by kernel_rfl
theorem tfM269 : mkI Tryz.prog 269 = true := by kernel_rfl
theorem tfA270 : aggI Tryz.prog 270 = (some (false, 1)) := by kernel_rfl
theorem tfZ270 : zeroI Tryz.prog 270 = (some ((.val .nilFunc) :: [])) := by kernel_rfl
theorem tfX270 : isFn Tryz.prog 270 = true := by kernel_rfl
theorem tfM270 : mkI Tryz.prog 270 = true := by kernel_rfl
theorem tfA271 : aggI Tryz.prog 271 = (some (false, 1)) := by kernel_rfl
theorem tfZ271 : zeroI Tryz.prog 271 = (some ((.int .u16 (0 : Int)) :: [])) := by kernel_rfl
theorem tfM271 : mkI Tryz.prog 271 = true := by kernel_rfl
theorem tfU271 : Program.underlying Tryz.prog 271 = (some (.int .u16)) := by kernel_rfl
theorem tfA272 : aggI Tryz.prog 272 = (some (true, 5)) := by kernel_rfl
theorem tfZ272 : zeroI Tryz.prog 272 = (some ((.int .i32 (0 : Int)) :: ((.int .u16 (0 : Int)) :: ((.int .u16 (0 : Int)) :: ((.int .u32 (0 : Int)) :: ((.int .u32 (0 : Int)) :: [])))))) := by kernel_rfl
theorem tfP272 : placesI Tryz.prog 272 = (some ((0, 1) :: ((1, 1) :: ((2, 1) :: ((3, 1) :: ((4, 1) :: [])))))) := by kernel_rfl
theorem tfM272 : mkI Tryz.prog 272 = true := by kernel_rfl
theorem tfF272x0 : fldI Tryz.prog 272 0 = (some 0) := by kernel_rfl
theorem tfG272x0 : fieldI Tryz.prog 272 0 = (some (false, (0, 1))) := by kernel_rfl
theorem tfF272x1 : fldI Tryz.prog 272 1 = (some 1) := by kernel_rfl
theorem tfG272x1 : fieldI Tryz.prog 272 1 = (some (false, (1, 1))) := by kernel_rfl
theorem tfF272x2 : fldI Tryz.prog 272 2 = (some 2) := by kernel_rfl
theorem tfG272x2 : fieldI Tryz.prog 272 2 = (some (false, (2, 1))) := by kernel_rfl
theorem tfF272x3 : fldI Tryz.prog 272 3 = (some 3) := by kernel_rfl
theorem tfG272x3 : fieldI Tryz.prog 272 3 = (some (false, (3, 1))) := by kernel_rfl
theorem tfF272x4 : fldI Tryz.prog 272 4 = (some 4) := by kernel_rfl
theorem tfG272x4 : fieldI Tryz.prog 272 4 = (some (false, (4, 1))) := by kernel_rfl
theorem tfA273 : aggI Tryz.prog 273 = (some (true, 5)) := by kernel_rfl
theorem tfZ273 : zeroI Tryz.prog 273 = (some ((.int .i32 (0 : Int)) :: ((.int .u16 (0 : Int)) :: ((.int .u16 (0 : Int)) :: ((.int .u32 (0 : Int)) :: ((.int .u32 (0 : Int)) :: [])))))) := by kernel_rfl
theorem tfP273 : placesI Tryz.prog 273 = (some ((0, 1) :: ((1, 1) :: ((2, 1) :: ((3, 1) :: ((4, 1) :: [])))))) := by kernel_rfl
theorem tfM273 : mkI Tryz.prog 273 = true := by kernel_rfl
theorem tfF273x0 : fldI Tryz.prog 273 0 = (some 0) := by kernel_rfl
theorem tfG273x0 : fieldI Tryz.prog 273 0 = (some (false, (0, 1))) := by kernel_rfl
theorem tfF273x1 : fldI Tryz.prog 273 1 = (some 1) := by kernel_rfl
theorem tfG273x1 : fieldI Tryz.prog 273 1 = (some (false, (1, 1))) := by kernel_rfl
theorem tfF273x2 : fldI Tryz.prog 273 2 = (some 2) := by kernel_rfl
theorem tfG273x2 : fieldI Tryz.prog 273 2 = (some (false, (2, 1))) := by kernel_rfl
theorem tfF273x3 : fldI Tryz.prog 273 3 = (some 3) := by kernel_rfl
theorem tfG273x3 : fieldI Tryz.prog 273 3 = (some (false, (3, 1))) := by kernel_rfl
theorem tfF273x4 : fldI Tryz.prog 273 4 = (some 4) := by kernel_rfl
theorem tfG273x4 : fieldI Tryz.prog 273 4 = (some (false, (4, 1))) := by kernel_rfl
theorem tfE274 : elemI Tryz.prog 274 = (some ((.pair (.int .i32) (.pair (.int .i32) (.pair (.int .i32) (.pair (.int .i32) .unit)))), 16)) := by kernel_rfl
theorem tfA274 : aggI Tryz.prog 274 = (some (false, 1)) := by kernel_rfl
theorem tfZ274 : zeroI Tryz.prog 274 = (some (.nils :: [])) := by kernel_rfl
theorem tfM274 : mkI Tryz.prog 274 = true := by kernel_rfl
theorem tfA275 : aggI Tryz.prog 275 = (some (false, 1)) := by kernel_rfl
theorem tfZ275 : zeroI Tryz.prog 275 = (some ((.int .i32 (0 : Int)) :: [])) := by kernel_rfl
theorem tfM275 : mkI Tryz.prog 275 = true := by kernel_rfl
theorem tfU275 : Program.underlying Tryz.prog 275 = (some (.int .i32)) := by kernel_rfl
theorem tfA276 : aggI Tryz.prog 276 = (some (true, 4)) := by kernel_rfl
theorem tfZ276 : zeroI Tryz.prog 276 = (some ((.int .i32 (0 : Int)) :: ((.int .i32 (0 : Int)) :: ((.int .i32 (0 : Int)) :: ((.int .i32 (0 : Int)) :: []))))) := by kernel_rfl
theorem tfP276 : placesI Tryz.prog 276 = (some ((0, 1) :: ((1, 1) :: ((2, 1) :: ((3, 1) :: []))))) := by kernel_rfl
theorem tfM276 : mkI Tryz.prog 276 = true := by kernel_rfl
theorem tfF276x0 : fldI Tryz.prog 276 0 = (some 0) := by kernel_rfl
theorem tfG276x0 : fieldI Tryz.prog 276 0 = (some (false, (0, 1))) := by kernel_rfl
theorem tfF276x1 : fldI Tryz.prog 276 1 = (some 1) := by kernel_rfl
theorem tfG276x1 : fieldI Tryz.prog 276 1 = (some (false, (1, 1))) := by kernel_rfl
theorem tfF276x2 : fldI Tryz.prog 276 2 = (some 2) := by kernel_rfl
theorem tfG276x2 : fieldI Tryz.prog 276 2 = (some (false, (2, 1))) := by kernel_rfl
theorem tfF276x3 : fldI Tryz.prog 276 3 = (some 3) := by kernel_rfl
theorem tfG276x3 : fieldI Tryz.prog 276 3 = (some (false, (3, 1))) := by kernel_rfl
theorem tfA277 : aggI Tryz.prog 277 = (some (true, 4)) := by kernel_rfl
theorem tfZ277 : zeroI Tryz.prog 277 = (some ((.int .i32 (0 : Int)) :: ((.int .i32 (0 : Int)) :: ((.int .i32 (0 : Int)) :: ((.int .i32 (0 : Int)) :: []))))) := by kernel_rfl
theorem tfP277 : placesI Tryz.prog 277 = (some ((0, 1) :: ((1, 1) :: ((2, 1) :: ((3, 1) :: []))))) := by kernel_rfl
theorem tfM277 : mkI Tryz.prog 277 = true := by kernel_rfl
theorem tfF277x0 : fldI Tryz.prog 277 0 = (some 0) := by kernel_rfl
theorem tfG277x0 : fieldI Tryz.prog 277 0 = (some (false, (0, 1))) := by kernel_rfl
theorem tfF277x1 : fldI Tryz.prog 277 1 = (some 1) := by kernel_rfl
theorem tfG277x1 : fieldI Tryz.prog 277 1 = (some (false, (1, 1))) := by kernel_rfl
theorem tfF277x2 : fldI Tryz.prog 277 2 = (some 2) := by kernel_rfl
theorem tfG277x2 : fieldI Tryz.prog 277 2 = (some (false, (2, 1))) := by kernel_rfl
theorem tfF277x3 : fldI Tryz.prog 277 3 = (some 3) := by kernel_rfl
theorem tfG277x3 : fieldI Tryz.prog 277 3 = (some (false, (3, 1))) := by kernel_rfl
theorem tfA278 : aggI Tryz.prog 278 = (some (false, 1)) := by kernel_rfl
theorem tfZ278 : zeroI Tryz.prog 278 = (some ((.val (.pointer none)) :: [])) := by kernel_rfl
theorem tfQ278 : isPtr Tryz.prog 278 = true := by kernel_rfl
theorem tfM278 : mkI Tryz.prog 278 = true := by kernel_rfl

attribute [go_sem] tfA0 tfM0 tfA1 tfZ1 tfX1 tfM1 tfA2 tfZ2 tfM2 tfU2 tfA3 tfZ3 tfM3 tfU3 tfA4 tfZ4 tfB4 tfM4 tfA5 tfZ5
attribute [go_sem] tfM5 tfU5 tfA6 tfZ6 tfM6 tfU6 tfA7 tfZ7 tfP7 tfM7 tfF7x0 tfG7x0 tfF7x1 tfG7x1 tfF7x2 tfG7x2 tfF7x3 tfG7x3 tfA8 tfZ8
attribute [go_sem] tfP8 tfM8 tfF8x0 tfG8x0 tfF8x1 tfG8x1 tfF8x2 tfG8x2 tfF8x3 tfG8x3 tfA9 tfZ9 tfS9 tfM9 tfU9 tfA10 tfZ10 tfS10 tfM10 tfU10
attribute [go_sem] tfA11 tfZ11 tfS11 tfM11 tfU11 tfA12 tfZ12 tfM12 tfU12 tfA13 tfZ13 tfP13 tfM13 tfF13x0 tfG13x0 tfF13x1 tfG13x1 tfA14 tfZ14 tfP14
attribute [go_sem] tfM14 tfF14x0 tfG14x0 tfF14x1 tfG14x1 tfA15 tfZ15 tfQ15 tfM15 tfA16 tfZ16 tfQ16 tfM16 tfA17 tfZ17 tfQ17 tfM17 tfA18 tfZ18 tfP18
attribute [go_sem] tfM18 tfF18x0 tfG18x0 tfA19 tfZ19 tfP19 tfM19 tfF19x0 tfG19x0 tfA20 tfZ20 tfI20 tfA21 tfZ21 tfM21 tfU21 tfA22 tfZ22 tfM22 tfU22
attribute [go_sem] tfE23 tfA23 tfZ23 tfM23 tfA24 tfZ24 tfP24 tfM24 tfF24x0 tfG24x0 tfF24x1 tfG24x1 tfF24x2 tfG24x2 tfF24x3 tfG24x3 tfF24x4 tfG24x4 tfA25 tfZ25
attribute [go_sem] tfP25 tfM25 tfF25x0 tfG25x0 tfF25x1 tfG25x1 tfF25x2 tfG25x2 tfF25x3 tfG25x3 tfF25x4 tfG25x4 tfA26 tfZ26 tfX26 tfM26 tfA27 tfZ27 tfM27 tfU27
attribute [go_sem] tfA28 tfZ28 tfP28 tfM28 tfF28x0 tfG28x0 tfF28x1 tfG28x1 tfF28x2 tfG28x2 tfF28x3 tfG28x3 tfF28x4 tfG28x4 tfF28x5 tfG28x5 tfF28x6 tfG28x6 tfF28x7 tfG28x7
attribute [go_sem] tfF28x8 tfG28x8 tfA29 tfZ29 tfP29 tfM29 tfF29x0 tfG29x0 tfF29x1 tfG29x1 tfF29x2 tfG29x2 tfF29x3 tfG29x3 tfF29x4 tfG29x4 tfF29x5 tfG29x5 tfF29x6 tfG29x6
attribute [go_sem] tfF29x7 tfG29x7 tfF29x8 tfG29x8 tfA30 tfZ30 tfM30 tfU30 tfA31 tfM31 tfA32 tfZ32 tfX32 tfM32 tfA33 tfM33 tfA34 tfZ34 tfX34 tfM34
attribute [go_sem] tfA35 tfZ35 tfX35 tfM35 tfA36 tfZ36 tfX36 tfM36 tfE37 tfA37 tfZ37 tfM37 tfA38 tfZ38 tfI38 tfA39 tfZ39 tfI39 tfA40 tfM40
attribute [go_sem] tfA41 tfZ41 tfX41 tfM41 tfA42 tfM42 tfA43 tfZ43 tfX43 tfM43 tfA44 tfZ44 tfQ44 tfM44 tfA45 tfZ45 tfX45 tfM45 tfA46 tfZ46
attribute [go_sem] tfQ46 tfM46 tfA47 tfZ47 tfP47 tfM47 tfF47x0 tfG47x0 tfF47x1 tfG47x1 tfF47x2 tfG47x2 tfA48 tfZ48 tfP48 tfM48 tfF48x0 tfG48x0 tfF48x1 tfG48x1
attribute [go_sem] tfF48x2 tfG48x2 tfA49 tfZ49 tfX49 tfM49 tfA50 tfZ50 tfX50 tfM50 tfA51 tfZ51 tfX51 tfM51 tfA52 tfM52 tfA53 tfZ53 tfX53 tfM53
attribute [go_sem] tfA54 tfZ54 tfX54 tfM54 tfA55 tfZ55 tfX55 tfM55 tfA56 tfZ56 tfX56 tfM56 tfA57 tfZ57 tfX57 tfM57 tfA58 tfZ58 tfX58 tfM58
attribute [go_sem] tfA59 tfZ59 tfX59 tfM59 tfA60 tfZ60 tfX60 tfM60 tfA61 tfZ61 tfX61 tfM61 tfA62 tfM62 tfA63 tfZ63 tfX63 tfM63 tfA64 tfM64
attribute [go_sem] tfA65 tfZ65 tfX65 tfM65 tfA66 tfZ66 tfX66 tfM66 tfA67 tfZ67 tfX67 tfM67 tfA68 tfZ68 tfX68 tfM68 tfA69 tfZ69 tfQ69 tfM69
attribute [go_sem] tfA70 tfZ70 tfP70 tfM70 tfF70x0 tfG70x0 tfF70x1 tfG70x1 tfA71 tfZ71 tfP71 tfM71 tfF71x0 tfG71x0 tfF71x1 tfG71x1 tfE72 tfA72 tfZ72 tfM72
attribute [go_sem] tfA73 tfZ73 tfX73 tfM73 tfA74 tfZ74 tfX74 tfM74 tfA75 tfM75 tfA76 tfZ76 tfX76 tfM76 tfE77 tfA77 tfZ77 tfM77 tfA78 tfZ78
attribute [go_sem] tfX78 tfM78 tfA79 tfZ79 tfX79 tfM79 tfA80 tfZ80 tfX80 tfM80 tfA81 tfZ81 tfX81 tfM81 tfA82 tfM82 tfA83 tfZ83 tfX83 tfM83
attribute [go_sem] tfE84 tfA84 tfZ84 tfM84 tfA85 tfM85 tfA86 tfZ86 tfX86 tfM86 tfA87 tfZ87 tfP87 tfM87 tfF87x0 tfG87x0 tfF87x1 tfG87x1 tfF87x2 tfG87x2
attribute [go_sem] tfF87x3 tfG87x3 tfA88 tfZ88 tfP88 tfM88 tfF88x0 tfG88x0 tfF88x1 tfG88x1 tfF88x2 tfG88x2 tfF88x3 tfG88x3 tfA89 tfZ89 tfX89 tfM89 tfA90 tfM90
attribute [go_sem] tfA91 tfZ91 tfX91 tfM91 tfA92 tfZ92 tfX92 tfM92 tfA93 tfM93 tfA94 tfZ94 tfX94 tfM94 tfA95 tfZ95 tfM95 tfA96 tfZ96 tfM96
attribute [go_sem] tfU96 tfA97 tfZ97 tfP97 tfM97 tfF97x0 tfG97x0 tfF97x1 tfG97x1 tfF97x2 tfG97x2 tfA98 tfZ98 tfP98 tfM98 tfF98x0 tfG98x0 tfF98x1 tfG98x1 tfF98x2
attribute [go_sem] tfG98x2 tfA99 tfZ99 tfX99 tfM99 tfA100 tfZ100 tfI100 tfA101 tfZ101 tfI101 tfA102 tfZ102 tfX102 tfM102 tfA103 tfZ103 tfM103 tfU103 tfA104
attribute [go_sem] tfZ104 tfX104 tfM104 tfA105 tfZ105 tfX105 tfM105 tfA106 tfZ106 tfX106 tfM106 tfA107 tfZ107 tfX107 tfM107 tfA108 tfZ108 tfX108 tfM108 tfA109
attribute [go_sem] tfZ109 tfQ109 tfM109 tfE110 tfA110 tfZ110 tfM110 tfA111 tfZ111 tfP111 tfM111 tfF111x0 tfG111x0 tfF111x1 tfG111x1 tfA112 tfZ112 tfP112 tfM112 tfF112x0
attribute [go_sem] tfG112x0 tfF112x1 tfG112x1 tfA113 tfM113 tfA114 tfZ114 tfX114 tfM114 tfA115 tfZ115 tfX115 tfM115 tfA116 tfZ116 tfX116 tfM116 tfA117 tfM117 tfA118
attribute [go_sem] tfZ118 tfX118 tfM118 tfA119 tfZ119 tfX119 tfM119 tfA120 tfZ120 tfX120 tfM120 tfA121 tfZ121 tfP121 tfM121 tfF121x0 tfG121x0 tfF121x1 tfG121x1 tfF121x2
attribute [go_sem] tfG121x2 tfF121x3 tfG121x3 tfA122 tfZ122 tfP122 tfM122 tfF122x0 tfG122x0 tfF122x1 tfG122x1 tfF122x2 tfG122x2 tfF122x3 tfG122x3 tfA123 tfZ123 tfX123 tfM123 tfA124
attribute [go_sem] tfZ124 tfX124 tfM124 tfA125 tfZ125 tfX125 tfM125 tfA126 tfZ126 tfX126 tfM126 tfA127 tfZ127 tfX127 tfM127 tfA128 tfM128 tfA129 tfZ129 tfX129
attribute [go_sem] tfM129 tfA130 tfZ130 tfX130 tfM130 tfA131 tfZ131 tfQ131 tfM131 tfE132 tfA132 tfZ132 tfM132 tfA133 tfZ133 tfX133 tfM133 tfA134 tfZ134 tfP134
attribute [go_sem] tfM134 tfF134x0 tfG134x0 tfF134x1 tfG134x1 tfF134x2 tfG134x2 tfA135 tfZ135 tfP135 tfM135 tfF135x0 tfG135x0 tfF135x1 tfG135x1 tfF135x2 tfG135x2 tfA136 tfM136 tfA137
attribute [go_sem] tfZ137 tfX137 tfM137 tfA138 tfZ138 tfP138 tfM138 tfF138x0 tfG138x0 tfA139 tfZ139 tfP139 tfM139 tfF139x0 tfG139x0 tfA140 tfZ140 tfQ140 tfM140 tfA141
attribute [go_sem] tfZ141 tfX141 tfM141 tfA142 tfZ142 tfX142 tfM142 tfA143 tfZ143 tfX143 tfM143 tfA144 tfZ144 tfI144 tfA145 tfM145 tfA146 tfZ146 tfX146 tfM146
attribute [go_sem] tfA147 tfZ147 tfI147 tfA148 tfZ148 tfX148 tfM148 tfA149 tfZ149 tfI149 tfE150 tfA150 tfZ150 tfM150 tfA151 tfZ151 tfX151 tfM151 tfA152 tfZ152
attribute [go_sem] tfX152 tfM152 tfA153 tfZ153 tfQ153 tfM153 tfA154 tfZ154 tfX154 tfM154 tfA155 tfM155 tfA156 tfZ156 tfX156 tfM156 tfA157 tfZ157 tfX157 tfM157
attribute [go_sem] tfA158 tfZ158 tfX158 tfM158 tfE159 tfA159 tfZ159 tfM159 tfA160 tfZ160 tfX160 tfM160 tfA161 tfZ161 tfX161 tfM161 tfA162 tfZ162 tfX162 tfM162
attribute [go_sem] tfA163 tfZ163 tfX163 tfM163 tfE164 tfA164 tfZ164 tfM164 tfA165 tfZ165 tfX165 tfM165 tfA166 tfZ166 tfP166 tfM166 tfF166x0 tfG166x0 tfF166x1 tfG166x1
attribute [go_sem] tfF166x2 tfG166x2 tfA167 tfZ167 tfP167 tfM167 tfF167x0 tfG167x0 tfF167x1 tfG167x1 tfF167x2 tfG167x2 tfA168 tfM168 tfA169 tfZ169 tfX169 tfM169 tfA170 tfM170
attribute [go_sem] tfA171 tfZ171 tfX171 tfM171 tfA172 tfM172 tfA173 tfZ173 tfX173 tfM173 tfA174 tfM174 tfA175 tfZ175 tfX175 tfM175 tfA176 tfM176 tfA177 tfZ177
attribute [go_sem] tfX177 tfM177 tfA178 tfZ178 tfX178 tfM178 tfA179 tfZ179 tfX179 tfM179 tfA180 tfZ180 tfX180 tfM180 tfA181 tfZ181 tfX181 tfM181 tfA182 tfZ182
attribute [go_sem] tfX182 tfM182 tfA183 tfZ183 tfM183 tfU183 tfA184 tfZ184 tfX184 tfM184 tfA185 tfZ185 tfX185 tfM185 tfA186 tfZ186 tfX186 tfM186 tfE187 tfA187
attribute [go_sem] tfZ187 tfM187 tfA188 tfZ188 tfX188 tfM188 tfA189 tfZ189 tfP189 tfM189 tfF189x0 tfG189x0 tfF189x1 tfG189x1 tfF189x2 tfG189x2 tfF189x3 tfG189x3 tfA190 tfZ190
attribute [go_sem] tfP190 tfM190 tfF190x0 tfG190x0 tfF190x1 tfG190x1 tfF190x2 tfG190x2 tfF190x3 tfG190x3 tfA191 tfZ191 tfX191 tfM191 tfA192 tfZ192 tfX192 tfM192 tfA193 tfZ193
attribute [go_sem] tfX193 tfM193 tfA194 tfZ194 tfX194 tfM194 tfA195 tfZ195 tfX195 tfM195 tfA196 tfZ196 tfM196 tfU196 tfA197 tfM197 tfA198 tfZ198 tfX198 tfM198
attribute [go_sem] tfA199 tfZ199 tfQ199 tfM199 tfA200 tfZ200 tfX200 tfM200 tfA201 tfZ201 tfX201 tfM201 tfA202 tfZ202 tfX202 tfM202 tfA203 tfZ203 tfX203 tfM203
attribute [go_sem] tfA204 tfZ204 tfX204 tfM204 tfA205 tfZ205 tfX205 tfM205 tfA206 tfZ206 tfX206 tfM206 tfA207 tfZ207 tfX207 tfM207 tfA210 tfM210 tfA211 tfZ211
attribute [go_sem] tfX211 tfM211 tfA212 tfZ212 tfX212 tfM212 tfA213 tfZ213 tfQ213 tfM213 tfA214 tfZ214 tfM214 tfU214 tfA215 tfM215 tfA216 tfZ216 tfX216 tfM216
attribute [go_sem] tfA217 tfZ217 tfP217 tfM217 tfF217x0 tfG217x0 tfF217x1 tfG217x1 tfF217x2 tfG217x2 tfA218 tfZ218 tfP218 tfM218 tfF218x0 tfG218x0 tfF218x1 tfG218x1 tfF218x2 tfG218x2
attribute [go_sem] tfA219 tfZ219 tfX219 tfM219 tfA220 tfZ220 tfM220 tfR220 tfA221 tfZ221 tfX221 tfM221 tfA222 tfZ222 tfX222 tfM222 tfA223 tfM223 tfA224 tfZ224
attribute [go_sem] tfX224 tfM224 tfA225 tfZ225 tfX225 tfM225 tfA226 tfM226 tfA227 tfZ227 tfX227 tfM227 tfE228 tfA228 tfZ228 tfM228 tfA229 tfZ229 tfX229 tfM229
attribute [go_sem] tfA230 tfZ230 tfX230 tfM230 tfA231 tfZ231 tfX231 tfM231 tfA232 tfZ232 tfX232 tfM232 tfA233 tfZ233 tfQ233 tfM233 tfA234 tfZ234 tfP234 tfM234
attribute [go_sem] tfF234x0 tfG234x0 tfA235 tfZ235 tfP235 tfM235 tfF235x0 tfG235x0 tfA236 tfZ236 tfX236 tfM236 tfA237 tfZ237 tfM237 tfR237 tfA238 tfZ238 tfM238 tfU238
attribute [go_sem] tfA239 tfZ239 tfM239 tfR239 tfA240 tfZ240 tfX240 tfM240 tfA241 tfZ241 tfX241 tfM241 tfA242 tfM242 tfA243 tfZ243 tfX243 tfM243 tfA244 tfZ244
attribute [go_sem] tfX244 tfM244 tfA245 tfZ245 tfX245 tfM245 tfA247 tfZ247 tfP247 tfM247 tfF247x0 tfG247x0 tfF247x1 tfG247x1 tfA248 tfZ248 tfP248 tfM248 tfF248x0 tfG248x0
attribute [go_sem] tfF248x1 tfG248x1 tfA249 tfZ249 tfM249 tfR249 tfA250 tfZ250 tfM250 tfR250 tfA251 tfZ251 tfM251 tfR251 tfA252 tfZ252 tfP252 tfM252 tfF252x0 tfG252x0
attribute [go_sem] tfF252x1 tfG252x1 tfF252x2 tfG252x2 tfF252x3 tfG252x3 tfA253 tfZ253 tfP253 tfM253 tfF253x0 tfG253x0 tfF253x1 tfG253x1 tfF253x2 tfG253x2 tfF253x3 tfG253x3 tfA254 tfZ254
attribute [go_sem] tfM254 tfR254 tfA255 tfZ255 tfP255 tfM255 tfG255x0 tfA256 tfZ256 tfP256 tfM256 tfG256x0 tfA257 tfZ257 tfX257 tfM257 tfA258 tfZ258 tfX258 tfM258
attribute [go_sem] tfA259 tfZ259 tfM259 tfU259 tfA260 tfZ260 tfX260 tfM260 tfA261 tfZ261 tfM261 tfU261 tfA262 tfZ262 tfM262 tfU262 tfA263 tfZ263 tfP263 tfM263
attribute [go_sem] tfF263x0 tfG263x0 tfF263x1 tfG263x1 tfF263x2 tfG263x2 tfF263x3 tfG263x3 tfF263x4 tfG263x4 tfF263x5 tfG263x5 tfF263x6 tfG263x6 tfF263x7 tfG263x7 tfF263x8 tfG263x8 tfF263x9 tfG263x9
attribute [go_sem] tfF263x10 tfG263x10 tfA264 tfZ264 tfP264 tfM264 tfF264x0 tfG264x0 tfF264x1 tfG264x1 tfF264x2 tfG264x2 tfF264x3 tfG264x3 tfF264x4 tfG264x4 tfF264x5 tfG264x5 tfF264x6 tfG264x6
attribute [go_sem] tfF264x7 tfG264x7 tfF264x8 tfG264x8 tfF264x9 tfG264x9 tfF264x10 tfG264x10 tfA265 tfZ265 tfX265 tfM265 tfA266 tfZ266 tfX266 tfM266 tfA267 tfZ267 tfP267 tfM267
attribute [go_sem] tfF267x0 tfG267x0 tfF267x1 tfG267x1 tfA268 tfZ268 tfP268 tfM268 tfF268x0 tfG268x0 tfF268x1 tfG268x1 tfA269 tfZ269 tfQ269 tfM269 tfA270 tfZ270 tfX270 tfM270
attribute [go_sem] tfA271 tfZ271 tfM271 tfU271 tfA272 tfZ272 tfP272 tfM272 tfF272x0 tfG272x0 tfF272x1 tfG272x1 tfF272x2 tfG272x2 tfF272x3 tfG272x3 tfF272x4 tfG272x4 tfA273 tfZ273
attribute [go_sem] tfP273 tfM273 tfF273x0 tfG273x0 tfF273x1 tfG273x1 tfF273x2 tfG273x2 tfF273x3 tfG273x3 tfF273x4 tfG273x4 tfE274 tfA274 tfZ274 tfM274 tfA275 tfZ275 tfM275 tfU275
attribute [go_sem] tfA276 tfZ276 tfP276 tfM276 tfF276x0 tfG276x0 tfF276x1 tfG276x1 tfF276x2 tfG276x2 tfF276x3 tfG276x3 tfA277 tfZ277 tfP277 tfM277 tfF277x0 tfG277x0 tfF277x1 tfG277x1
attribute [go_sem] tfF277x2 tfG277x2 tfF277x3 tfG277x3 tfA278 tfZ278 tfQ278 tfM278

end Go.Proofs.YtcnckpbopejphaaGreatDoor.Sx

/-! Rows; two lists of them held against one another. -/
namespace Go.Proofs.YtcnckpbopejphaaGreatDoor.Sx
attribute [local irreducible] OkQ Ok
set_option linter.unusedSimpArgs false
set_option linter.unusedVariables false
set_option maxRecDepth 8000
set_option maxHeartbeats 1000000

abbrev tRow : Ty := .pair (.int .i64) (.pair (.int .i32) (.pair (.int .i32) (.pair .str (.pair .str (.pair (.int .u8) (.pair (.int .u8) (.pair (.int .i32) (.pair .bool .unit))))))))
abbrev tRows : Ty := .slice 64 tRow
abbrev RowD := Int × Int × Int × List UInt8 × List UInt8 × Int × Int × Int × Bool × Unit
noncomputable instance rowDec : DecidableEq RowD := fun a b => Classical.propDecidable (a = b)
def rowZ : RowD := (0, 0, 0, [], [], 0, 0, 0, false, ())
theorem rowI : flatI Tryz.prog 29 = some [0, 0, 0, 2, 2, 0, 0, 0, 1] := by kernel_rfl
theorem eqRow (a b : RowD) : (decide (a.1 = b.1) && (decide (a.2.1 = b.2.1) && (decide (a.2.2.1 = b.2.2.1) && (decide (a.2.2.2.1 = b.2.2.2.1) && (decide (a.2.2.2.2.1 = b.2.2.2.2.1) && (decide (a.2.2.2.2.2.1 = b.2.2.2.2.2.1) && (decide (a.2.2.2.2.2.2.1 = b.2.2.2.2.2.2.1) &&
    (decide (a.2.2.2.2.2.2.2.1 = b.2.2.2.2.2.2.2.1) && (a.2.2.2.2.2.2.2.2.1 == b.2.2.2.2.2.2.2.2.1))))))))) = decide (a = b) := by
  obtain ⟨a1, a2, a3, a4, a5, a6, a7, a8, a9, ⟨⟩⟩ := a
  obtain ⟨b1, b2, b3, b4, b5, b6, b7, b8, b9, ⟨⟩⟩ := b
  rw [Bool.eq_iff_iff]
  simp

noncomputable def sameRows : Con := ⟨20, [(false, tRows), (false, tRows)], [(false, .bool)], fun _ => True, fun x => (decide ((x.1 : List RowD) = x.2.1), ()), false⟩
theorem sameRows_ok : sameRows.Ok Tryz.prog := by
  refine con_q Tryz.func20 rfl (by decide) (fun x hx hp => run_ok (Cs := []) (stp := []) (inl := []) (unr := false) nil_ok 400 _ _ _ _ ?_) (by decide)
  obtain ⟨(xs : List RowD), (ys : List RowD), ⟨⟩⟩ := x
  have hsz : xs.length * 64 ≤ 140737488355328 := hx.1.1
  clear hx hp
  simp (maxSteps := 4000000) only [go_sem, reduceIte, reduceCtorEq, Int.reduceEq, Nat.reduceEqDiff, Nat.reduceBEq, Int.reduceLE, Int.reduceLT, Int.reduceNeg, Nat.reduceAdd, Nat.reduceSub, Nat.reduceMul, Nat.reduceLeDiff, Int.reduceToNat, Int.reduceAdd, Int.reduceSub, Int.reduceMul, Tryz.f20, sameRows]
  refine ⟨fun h => ?_, fun h => ?_⟩
  · have : xs ≠ ys := fun e => h (by rw [e])
    simp [this]
  · refine OkQ.loop (α := Nat) [2, 3, 4, 5, 6, 7, 8, 9, 10, 11, 12, 13, 14, 15, 16, 17, 18, 19, 20, 21, 22, 23, 24, 25] (fun i => [(5, .s (.int .i64 (i : Int)))]) (fun _ => []) (fun i => i ≤ xs.length ∧ xs.take i = ys.take i) (fun i => xs.length - i) 0 ⟨by simp, by simp⟩ ?_ fun i hi => ?_
    · simp (maxSteps := 4000000) only [go_sem, reduceIte, reduceCtorEq, Int.reduceEq, Nat.reduceEqDiff, Nat.reduceBEq, Int.reduceLE, Int.reduceLT, Int.reduceNeg, Nat.reduceAdd, Nat.reduceSub, Nat.reduceMul, Nat.reduceLeDiff, Int.reduceToNat, Int.reduceAdd, Int.reduceSub, Int.reduceMul]
      rfl
    · refine run_ok (Cs := []) (stp := []) (inl := []) (unr := false) nil_ok 400 _ _ _ _ ?_
      simp (maxSteps := 4000000) only [go_sem, reduceIte, reduceCtorEq, Int.reduceEq, Nat.reduceEqDiff, Nat.reduceBEq, Int.reduceLE, Int.reduceLT, Int.reduceNeg, Nat.reduceAdd, Nat.reduceSub, Nat.reduceMul, Nat.reduceLeDiff, Int.reduceToNat, Int.reduceAdd, Int.reduceSub, Int.reduceMul, Tryz.f20, sameRows, rowI, eqC, eqC1, eqRow]
      have hlen : xs.length = ys.length := by omega
      obtain ⟨hi, ht⟩ := hi
      (repeat' (first | (apply And.intro) | (intro _) | (show staB _ _ = true; kernel_rfl) | (show dynB _ _ = true; kernel_rfl) | (show dynP _ _ _ = true; kernel_rfl)))
      all_goals try omega
      · rename_i hlt hne
        exact (decide_eq_false fun e => by rw [e] at hne; simp at hne).symm
      · rename_i hlt he
        refine ⟨i + 1, ⟨by omega, ?_⟩, by omega, ?_⟩
        · have h1 : i < xs.length := by omega
          have h2 : i < ys.length := by omega
          simp [List.getD_eq_getElem?_getD, h1, h2] at he
          rw [List.take_succ_eq_append_getElem h1, List.take_succ_eq_append_getElem h2, ht, he]
        · rw [wr_i64 (by omega) (by omega)]; simp
      · rename_i hge
        have h1 : xs.length ≤ i := by omega
        rw [List.take_of_length_le h1, List.take_of_length_le (by omega)] at ht
        simp [ht]

end Go.Proofs.YtcnckpbopejphaaGreatDoor.Sx

/-! Contracts: rows.Find, the document's Find. -/
namespace Go.Proofs.YtcnckpbopejphaaGreatDoor.Sx
attribute [local irreducible] OkQ Ok
set_option linter.unusedSimpArgs false
set_option linter.unusedVariables false
set_option maxRecDepth 8000

def inRow (r : Int) (x : RowD) : Bool := decide (x.2.1 ≤ r) && decide (r ≤ x.2.2.1)
def findV (l : List RowD) (r : Int) : Option RowD := l.find? (inRow r)
noncomputable def rowsFind : Con := ⟨22, [(false, tRows), (false, .int .i32)], [(true, tRow), (false, .bool)], fun _ => True, fun x => ((findV x.1 x.2.1).getD rowZ, (findV x.1 x.2.1).isSome, ()), false⟩
noncomputable def refFind : Con := ⟨23, [(false, tRows), (false, .int .i32)], [(true, tRow), (false, .bool)], fun _ => True, fun x => ((findV x.1 x.2.1).getD rowZ, (findV x.1 x.2.1).isSome, ()), false⟩
theorem find_step {l : List RowD} {r : Int} {i : Nat} (hi : i < l.length) : findV (l.drop i) r = if inRow r (l.getD i rowZ) = true then some (l.getD i rowZ) else findV (l.drop (i + 1)) r := by
  have e : l.getD i rowZ = l[i] := by simp [List.getD_eq_getElem?_getD, hi]
  rw [List.drop_eq_getElem_cons hi, findV, List.find?_cons, e]
  cases inRow r l[i] <;> simp [findV]
theorem find_end {l : List RowD} {r : Int} {i : Nat} (hi : l.length ≤ i) : findV (l.drop i) r = none := by rw [List.drop_eq_nil_of_le hi]; rfl

theorem rowsFind_ok : rowsFind.Ok Tryz.prog := by
  refine con_q Tryz.func22 rfl (by decide) (fun x hx hp => run_ok (Cs := []) (stp := []) (inl := []) (unr := false) nil_ok 400 _ _ _ _ ?_) (by decide)
  obtain ⟨(xs : List RowD), (r : Int), ⟨⟩⟩ := x
  have hsz : xs.length * 64 ≤ 140737488355328 := hx.1.1
  clear hx hp
  simp (maxSteps := 4000000) only [go_sem, reduceIte, reduceCtorEq, Int.reduceEq, Nat.reduceEqDiff, Nat.reduceBEq, Int.reduceLE, Int.reduceLT, Int.reduceNeg, Nat.reduceAdd, Nat.reduceSub, Nat.reduceMul, Nat.reduceLeDiff, Int.reduceToNat, Int.reduceAdd, Int.reduceSub, Int.reduceMul, Tryz.f22, rowsFind]
  refine OkQ.loop (α := Nat) [0, 2, 3, 5, 6, 7, 10, 11, 12, 13, 14, 15, 16, 17, 18, 19, 20, 21, 22, 23, 24, 25, 26] (fun i => [(10, .s (.int .i64 (i : Int)))]) (fun _ => []) (fun i => i ≤ xs.length ∧ findV xs r = findV (xs.drop i) r) (fun i => xs.length - i) 0 ⟨by simp, by simp⟩ ?_ fun i hi => ?_
  · simp (maxSteps := 4000000) only [go_sem, reduceIte, reduceCtorEq, Int.reduceEq, Nat.reduceEqDiff, Nat.reduceBEq, Int.reduceLE, Int.reduceLT, Int.reduceNeg, Nat.reduceAdd, Nat.reduceSub, Nat.reduceMul, Nat.reduceLeDiff, Int.reduceToNat, Int.reduceAdd, Int.reduceSub, Int.reduceMul]
    rfl
  · refine run_ok (Cs := []) (stp := []) (inl := []) (unr := false) nil_ok 400 _ _ _ _ ?_
    simp (maxSteps := 4000000) only [go_sem, reduceIte, reduceCtorEq, Int.reduceEq, Nat.reduceEqDiff, Nat.reduceBEq, Int.reduceLE, Int.reduceLT, Int.reduceNeg, Nat.reduceAdd, Nat.reduceSub, Nat.reduceMul, Nat.reduceLeDiff, Int.reduceToNat, Int.reduceAdd, Int.reduceSub, Int.reduceMul, Tryz.f22, rowsFind]
    obtain ⟨hi, ht⟩ := hi
    (repeat' (first | (apply And.intro) | (intro _) | (show staB _ _ = true; kernel_rfl) | (show dynB _ _ = true; kernel_rfl) | (show dynP _ _ _ = true; kernel_rfl)))
    all_goals try omega
    all_goals first
      | (have e : findV xs r = some (xs.getD i rowZ) := by
           rw [ht, find_step (by omega), if_pos (by simp only [inRow, Bool.and_eq_true, decide_eq_true_eq]; assumption)]
         rw [e]; rfl)
      | (have e : findV xs r = none := by
           rw [ht]; exact find_end (by omega)
         rw [e]; rfl)
      | (refine ⟨i + 1, ⟨by omega, ?_⟩, by omega, by rw [wr_i64 (by omega) (by omega)]; simp⟩
         rw [ht, find_step (by omega), if_neg (by simp only [inRow, Bool.and_eq_true, decide_eq_true_eq, Classical.not_and_iff_not_or_not]; assumption)])
      | fail

theorem refFind_ok : refFind.Ok Tryz.prog := by
  refine con_q Tryz.func23 rfl (by decide) (fun x hx hp => run_ok (Cs := []) (stp := []) (inl := []) (unr := false) nil_ok 400 _ _ _ _ ?_) (by decide)
  obtain ⟨(xs : List RowD), (r : Int), ⟨⟩⟩ := x
  have hsz : xs.length * 64 ≤ 140737488355328 := hx.1.1
  clear hx hp
  simp (maxSteps := 4000000) only [go_sem, reduceIte, reduceCtorEq, Int.reduceEq, Nat.reduceEqDiff, Nat.reduceBEq, Int.reduceLE, Int.reduceLT, Int.reduceNeg, Nat.reduceAdd, Nat.reduceSub, Nat.reduceMul, Nat.reduceLeDiff, Int.reduceToNat, Int.reduceAdd, Int.reduceSub, Int.reduceMul, Tryz.f23, refFind]
  refine OkQ.loop (α := Nat) [2, 3, 5, 6, 7, 8, 9, 10, 11, 12, 13, 14, 15, 16, 17, 18, 19, 20, 21, 22, 23, 24, 25, 26, 27, 28, 29, 30, 31, 32, 33] (fun i => [(6, .s (.int .i64 (i : Int)))]) (fun _ => []) (fun i => i ≤ xs.length ∧ findV xs r = findV (xs.drop i) r) (fun i => xs.length - i) 0 ⟨by simp, by simp⟩ ?_ fun i hi => ?_
  · simp (maxSteps := 4000000) only [go_sem, reduceIte, reduceCtorEq, Int.reduceEq, Nat.reduceEqDiff, Nat.reduceBEq, Int.reduceLE, Int.reduceLT, Int.reduceNeg, Nat.reduceAdd, Nat.reduceSub, Nat.reduceMul, Nat.reduceLeDiff, Int.reduceToNat, Int.reduceAdd, Int.reduceSub, Int.reduceMul]
    rfl
  · refine run_ok (Cs := []) (stp := []) (inl := []) (unr := false) nil_ok 400 _ _ _ _ ?_
    simp (maxSteps := 4000000) only [go_sem, reduceIte, reduceCtorEq, Int.reduceEq, Nat.reduceEqDiff, Nat.reduceBEq, Int.reduceLE, Int.reduceLT, Int.reduceNeg, Nat.reduceAdd, Nat.reduceSub, Nat.reduceMul, Nat.reduceLeDiff, Int.reduceToNat, Int.reduceAdd, Int.reduceSub, Int.reduceMul, Tryz.f23, refFind]
    obtain ⟨hi, ht⟩ := hi
    (repeat' (first | (apply And.intro) | (intro _) | (show staB _ _ = true; kernel_rfl) | (show dynB _ _ = true; kernel_rfl) | (show dynP _ _ _ = true; kernel_rfl)))
    all_goals try omega
    all_goals first
      | (have e : findV xs r = some (xs.getD i rowZ) := by
           rw [ht, find_step (by omega), if_pos (by simp only [inRow, Bool.and_eq_true, decide_eq_true_eq]; assumption)]
         rw [e]; rfl)
      | (have e : findV xs r = none := by
           rw [ht]; exact find_end (by omega)
         rw [e]; rfl)
      | (refine ⟨i + 1, ⟨by omega, ?_⟩, by omega, by rw [wr_i64 (by omega) (by omega)]; simp⟩
         rw [ht, find_step (by omega), if_neg (by simp only [inRow, Bool.and_eq_true, decide_eq_true_eq, Classical.not_and_iff_not_or_not]; assumption)])
      | fail

end Go.Proofs.YtcnckpbopejphaaGreatDoor.Sx

/-! The law RowsFinds, as a contract. -/
namespace Go.Proofs.YtcnckpbopejphaaGreatDoor.Sx
attribute [local irreducible] OkQ Ok
set_option linter.unusedSimpArgs false
set_option linter.unusedVariables false
theorem bIZe24 : bodyI Tryz.prog 24 = bodyF Tryz.f24 := by kernel_rfl
theorem bIZe21 : bodyI Tryz.prog 21 = bodyF Tryz.f21 := by kernel_rfl
set_option maxRecDepth 8000

def lawRowsFinds : Con := ⟨5, [(false, tRows), (false, .int .i32)], [(false, .bool)], (tyL [(false, tRows), (false, .int .i32)]).small, fun _ => (true, ()), false⟩
set_option maxHeartbeats 2000000 in
theorem lawRowsFinds_ok : lawRowsFinds.Ok Tryz.prog := by
  refine con_q Tryz.func5 rfl (by decide) (fun x hx hp => run_ok (Cs := [sameRows, rowsFind, refFind, awake06]) (stp := []) (inl := [21, 24]) (unr := false) (cons_ok sameRows_ok (cons_ok rowsFind_ok (cons_ok refFind_ok (cons_ok awake06_ok nil_ok)))) 400 _ _ _ _ ?_) (by decide)
  obtain ⟨(xs : List RowD), (r : Int), ⟨⟩⟩ := x
  have hsz : xs.length * 64 ≤ 140737488351232 := hp.1.1
  have hw : wr .i64 ((xs.length : Int) + 1) = ((xs.length + 1 : Nat) : Int) := by rw [wr_i64 (by omega) (by omega)]; simp
  clear hx hp
  simp (maxSteps := 4000000) only [go_sem, reduceIte, reduceCtorEq, Int.reduceEq, Nat.reduceEqDiff, Nat.reduceBEq, Int.reduceLE, Int.reduceLT, Int.reduceNeg, Nat.reduceAdd, Nat.reduceSub, Nat.reduceMul, Nat.reduceLeDiff, Int.reduceToNat, Int.reduceAdd, Int.reduceSub, Int.reduceMul, Tryz.f5, lawRowsFinds, closed, bIZe21, Tryz.f21, bIZe24, Tryz.f24, rowI, eqC, eqC1, eqRow, sameRows, rowsFind, refFind, awake06]
  (repeat' (first | (apply And.intro) | (intro _) | (show staB _ _ = true; kernel_rfl) | (show dynB _ _ = true; kernel_rfl) | (show dynP _ _ _ = true; kernel_rfl)))
  all_goals first
    | omega
    | (rw [hw]; omega)
    | (simp [List.getD_eq_getElem?_getD]; done)
    | fail

end Go.Proofs.YtcnckpbopejphaaGreatDoor.Sx

/-! The law RowsNames, as a contract. -/
namespace Go.Proofs.YtcnckpbopejphaaGreatDoor.Sx
attribute [local irreducible] OkQ Ok
set_option linter.unusedSimpArgs false
set_option linter.unusedVariables false

def lawRowsNames : Con := ⟨7, [], [(false, .bool)], (tyL []).small, fun _ => (true, ()), false⟩
theorem lawRowsNames_ok : lawRowsNames.Ok Tryz.prog := by
  refine con_q Tryz.func7 rfl (by decide) (fun x hx hp => run_ok (Cs := [awake06]) (stp := []) (inl := []) (unr := false) (cons_ok awake06_ok nil_ok) 400 _ _ _ _ ?_) (by decide)
  simp (maxSteps := 4000000) only [go_sem, reduceIte, reduceCtorEq, Int.reduceEq, Nat.reduceEqDiff, Nat.reduceBEq, Int.reduceLE, Int.reduceLT, Int.reduceNeg, Nat.reduceAdd, Nat.reduceSub, Nat.reduceMul, Nat.reduceLeDiff, Int.reduceToNat, Int.reduceAdd, Int.reduceSub, Int.reduceMul, Tryz.f7, lawRowsNames, closed, awake06]

end Go.Proofs.YtcnckpbopejphaaGreatDoor.Sx

/-! The world in which a row's listed variables are laid. -/
namespace Go.Proofs.YtcnckpbopejphaaGreatDoor.Sx
set_option linter.unusedSimpArgs false
set_option linter.unusedVariables false

theorem laidMet_layOver {P : Program} {w0 : World} {laid : List (String × DataW Unit)} (args : Array Value) (hf : w0.layFits P laid [] = true) (hi : w0.layIfaces P laid (w0.layVars P laid) = true) :
    laidMet P laid ((w0.layVars P laid).forCall (fun _ _ => 0) ⟨#[], args, []⟩).memory := by
  have e1 : (laid.filter fun x => (laid.map (·.1)).contains x.1) = laid := List.filter_eq_self.2 fun x hx => List.contains_iff_mem.2 (List.mem_map.2 ⟨x, hx, rfl⟩)
  have e2 : (laid.filter fun x => !(laid.map (·.1)).contains x.1) = [] := List.filter_eq_nil_iff.2 fun x hx => by rw [List.contains_iff_mem.2 (List.mem_map.2 ⟨x, hx, rfl⟩)]; simp
  have h : laidMet P laid (w0.layVars P laid) := laidMet_layVars (w0 := w0) (laid.map (·.1)) [] (by rw [e1]) (by rw [e1]; exact hf) (by rw [e1]; exact hi) (by rw [e2]; exact LaidIn.none)
  exact h.of_heap (by simp [World.memory, World.forCall, Input.heap])

end Go.Proofs.YtcnckpbopejphaaGreatDoor.Sx

/-! The listed variables of the seat's rows: what they say of errors.errorType, and a world in which they are laid. -/
namespace Go.Proofs.YtcnckpbopejphaaGreatDoor.Sx
attribute [local irreducible] OkQ Ok
set_option linter.unusedSimpArgs false
set_option linter.unusedVariables false
open Go.RowKit

def laidL : List (String × DataW Unit) := [("math/bits.deBruijn32tab", Rows.laid_math_bits_deBruijn32tab), ("math/bits.deBruijn64tab", Rows.laid_math_bits_deBruijn64tab), ("internal/strconv.uint64pow10", Rows.laid_internal_strconv_uint64pow10), ("unicode/utf8.acceptRanges", Rows.laid_unicode_utf8_acceptRanges), ("errors.errorType", Rows.laid_errors_errorType), ("strconv.ErrRange", Rows.laid_strconv_ErrRange), ("strconv.ErrSyntax", Rows.laid_strconv_ErrSyntax), ("unicode/utf8.first", Rows.laid_unicode_utf8_first)]
def laidP : List (String × DataW Unit) := [("math/bits.deBruijn32tab", Rows.laid_math_bits_deBruijn32tab), ("math/bits.deBruijn64tab", Rows.laid_math_bits_deBruijn64tab), ("internal/strconv.uint64pow10", Rows.laid_internal_strconv_uint64pow10), ("unicode/utf8.acceptRanges", Rows.laid_unicode_utf8_acceptRanges), ("strconv.ErrRange", Rows.laid_strconv_ErrRange), ("strconv.ErrSyntax", Rows.laid_strconv_ErrSyntax), ("unicode/utf8.first", Rows.laid_unicode_utf8_first)]
theorem laid_et : Tryz.prog.globalNamed "errors.errorType" = some 0 := by kernel_rfl
theorem laid_rt : (Tryz.prog.cutTypes.find? (·.1 == "internal/reflectlite.rtype")).map (·.2) = some 139 := by kernel_rfl
theorem laid_size : ∃ n, Tryz.prog.types.size = n ∧ ((List.range n).filter fun t => Tryz.prog.rowNamed t [101, 114, 114, 111, 114]) = [39] := ⟨_, rfl, by kernel_rfl⟩
/-- What the condition gives a walk: the variable's one cell. -/
theorem laid_GW {W : World} (h : laidMetH Tryz.prog laidL W) : GW W := by
  have h' : laidMet Tryz.prog laidP W ∧ handlesMet Tryz.prog [("errors.errorType", Rows.laid_errors_errorType)] W := h
  obtain ⟨name, u, ty, e1, e2, e3, e4, e5⟩ := h'.2 _ (List.mem_singleton.2 rfl)
  have en : name = [101, 114, 114, 111, 114] := (Option.some.inj e1).symm
  subst en
  obtain rfl := Option.some.inj (laid_rt.symm.trans e2)
  obtain ⟨n, hn, hone⟩ := laid_size
  have hm : ty ∈ (List.range n).filter fun t => Tryz.prog.rowNamed t [101, 114, 114, 111, 114] := List.mem_filter.2 ⟨List.mem_range.2 (by rw [← hn]; exact e3), e4⟩
  rw [hone] at hm
  obtain rfl := List.mem_singleton.1 hm
  have hh : typeHandle Tryz.prog 39 = .pointer (some ⟨9, 39, none⟩) := by kernel_rfl
  rw [hh] at e5
  unfold GW
  simpa using World.var?_cell laid_et e5 0

/-- A world that meets the condition: the settled one, the variables laid. -/
noncomputable def laidW0 (os : Os) : World :=
  let w0 := World.holding Tryz.prog os ⟨#[], #[], []⟩
  { w0 with heap := w0.heap.modify 0 fun
      | .cells _ t frozen => .cells #[.iface 139 (.agg #[.pointer (some ⟨9, 39, none⟩)])] t frozen
      | o => o }
noncomputable def laidWorld (os : Os) : World := (laidW0 os).layVars Tryz.prog laidP
theorem laidWorld_os (os : Os) : (laidWorld os).os = os := World.layVars_os _ _ _
set_option maxRecDepth 100000 in
theorem laidWorld_met (os : Os) (args : Array Value) : laidMetH Tryz.prog laidL ((laidWorld os).forCall (fun _ _ => 0) ⟨#[], args, []⟩).memory :=
  laidMetH_of_parts (show laidMet Tryz.prog laidP _ from laidMet_layOver args (by kernel_rfl) (by kernel_rfl)) (by kernel_rfl)

end Go.Proofs.YtcnckpbopejphaaGreatDoor.Sx

/-! 'furrowlaw06.RowsFinds': the law returns true, and the input reads as it did. Where the listed package-level variables hold what the program's text lays (the card ties them). -/
namespace Go.Proofs.YtcnckpbopejphaaGreatDoor.RowsFinds
set_option linter.unusedSimpArgs false
set_option linter.unusedVariables false
open Go.ChangeShapes Go.WideShapes Go.ChangeAt Go.RowKit Go.Proofs.YtcnckpbopejphaaGreatDoor.Sx

theorem own : ownKnob Tryz.prog.godebug = none := by kernel_rfl
theorem laidOut : laidOutB Tryz.prog = true := by kernel_rfl

set_option maxRecDepth 100000 in
theorem lifted (os : Os) (started : os.Started) (H : Type) (enc : TypeId × Value → H) :
    ReturnsInHanded {} Tryz.checked os 5 .any (fun w args => (Rows.rowsFindsSpec.pre enc Tryz.prog Tryz.f5 [] false w args ∧ laidMetH Tryz.prog laidL w) ∧ sizedMet enc Tryz.prog Tryz.f5 (OpenSpec.ofChange Rows.rowsFindsSpec) false w args)
      (Rows.rowsFindsSpec.post enc Tryz.prog Tryz.f5 false true false false) :=
  law_liftedX (C := Tryz.checked) (pl := [(false, tRows), (false, .int .i32)]) (tb := 4) (X := fun w _ => laidMetH Tryz.prog laidL w) (fun _ _ _ hh h => h.of_heap hh) (fun _ _ h => laid_GW h) lawRowsFinds_ok laidOut rfl (fun ds h => match ds, h with | [_, _], _ => rfl)
    ⟨⟨by kernel_rfl, by kernel_rfl, by kernel_rfl, by kernel_rfl, by kernel_rfl⟩, ⟨by kernel_rfl, by kernel_rfl, by kernel_rfl, by kernel_rfl, by kernel_rfl⟩, trivial⟩ (by kernel_rfl) (by kernel_rfl) own started (by kernel_rfl) Tryz.func5
    (ChangeSpec.witness_at (enc := enc) (C := Tryz.checked) (os := os) (X := fun w _ => laidMetH Tryz.prog laidL w) false (laidWorld os) #[.slice none 0 0, .int .i32 0] 8 (laidWorld_os os) (by kernel_rfl) (by kernel_rfl) (by kernel_rfl) (by kernel_rfl) (by kernel_rfl) (laidWorld_met os _))

theorem rowHolds : Rows.RowsFindsSaid :=
  OpenClaim.holds_of_wide 5 Tryz.f5 rfl rfl rfl rfl rfl rfl rfl ⟨rfl, rfl, rfl, rfl, rfl⟩ rfl rfl rfl rfl rfl (by kernel_rfl) Tryz.func5 (by kernel_rfl)
    (of_decide_eq_true (by kernel_rfl)) (by unfold Func.isWrapper; first | (rw [if_pos (by decide +kernel)]; kernel_rfl) | (rw [if_neg (by decide +kernel)]; exact ⟨rfl, rfl⟩))
    (fun os started H enc _ => lifted os started H enc)

theorem proved : Rows.RowsFindsCardSaid :=
  Claim7.holds_tied_plain_at .later [] [.data, .data, .data, .data, .handle, .sentinel, .sentinel, .pinned] true (true, Rows.rowsFindsCard.stood.harness.2) true
    rowHolds (fun _ h => by cases h) (by kernel_rfl) (fun _ h => by cases h) rowsFinds_row_tie rfl ⟨rfl, rfl⟩ (by kernel_rfl) rfl
    (fun f fn hf hfn => by
      obtain rfl : f = 5 := Option.some.inj ((show Tryz.prog.funcNamed "furrow/furrowlaw06.RowsFinds" = some 5 by kernel_rfl).symm.trans hf) |>.symm
      obtain rfl : fn = Tryz.f5 := (Option.some.inj (Tryz.func5.symm.trans hfn)).symm
      exact ⟨by kernel_rfl, fun j t ht => by
        have key : ∀ t ∈ Tryz.f5.params.toList, Tryz.prog.wantsStandIn t = false := by decide +kernel
        exact key t (List.mem_of_getElem? (by simpa using ht))⟩)
    (by kernel_rfl)

#print axioms proved
end Go.Proofs.YtcnckpbopejphaaGreatDoor.RowsFinds
