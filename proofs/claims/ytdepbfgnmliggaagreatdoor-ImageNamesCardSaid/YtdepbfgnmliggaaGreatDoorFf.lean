/- Facts of the program's types, written by a program. -/
import Derived.Test.YtdepbfgnmliggaaGreatDoorSx27
import Derived.Test.YtdepbfgnmliggaaGreatDoorRows
namespace Go.Proofs.YtdepbfgnmliggaaGreatDoor.Sx
set_option linter.unusedSimpArgs false

theorem tfA0 : aggI Tryz.prog 0 = (some (false, 1)) := by kernel_rfl
theorem tfA1 : aggI Tryz.prog 1 = (some (false, 1)) := by kernel_rfl
theorem tfZ1 : zeroI Tryz.prog 1 = (some ((.val .nilFunc) :: [])) := by kernel_rfl
theorem tfA2 : aggI Tryz.prog 2 = (some (false, 1)) := by kernel_rfl
theorem tfZ2 : zeroI Tryz.prog 2 = (some ((.int .i64 (0 : Int)) :: [])) := by kernel_rfl
theorem tfU2 : Program.underlying Tryz.prog 2 = (some (.int .i64)) := by kernel_rfl
theorem tfA3 : aggI Tryz.prog 3 = (some (false, 1)) := by kernel_rfl
theorem tfZ3 : zeroI Tryz.prog 3 = (some ((.int .i64 (0 : Int)) :: [])) := by kernel_rfl
theorem tfU3 : Program.underlying Tryz.prog 3 = (some (.int .i64)) := by kernel_rfl
theorem tfA4 : aggI Tryz.prog 4 = (some (false, 1)) := by kernel_rfl
theorem tfZ4 : zeroI Tryz.prog 4 = (some ((.bool false) :: [])) := by kernel_rfl
theorem tfB4 : isBool Tryz.prog 4 = true := by kernel_rfl
theorem tfA5 : aggI Tryz.prog 5 = (some (false, 1)) := by kernel_rfl
theorem tfZ5 : zeroI Tryz.prog 5 = (some ((.int .u8 (0 : Int)) :: [])) := by kernel_rfl
theorem tfU5 : Program.underlying Tryz.prog 5 = (some (.int .u8)) := by kernel_rfl
theorem tfA6 : aggI Tryz.prog 6 = (some (false, 1)) := by kernel_rfl
theorem tfZ6 : zeroI Tryz.prog 6 = (some ((.int .u8 (0 : Int)) :: [])) := by kernel_rfl
theorem tfU6 : Program.underlying Tryz.prog 6 = (some (.int .u8)) := by kernel_rfl
theorem tfA7 : aggI Tryz.prog 7 = (some (true, 4)) := by kernel_rfl
theorem tfZ7 : zeroI Tryz.prog 7 = (some ((.int .i64 (0 : Int)) :: ((.int .i64 (0 : Int)) :: ((.bool false) :: ((.int .u8 (0 : Int)) :: []))))) := by kernel_rfl
theorem tfP7 : placesI Tryz.prog 7 = (some ((0, 1) :: ((1, 1) :: ((2, 1) :: ((3, 1) :: []))))) := by kernel_rfl
theorem tfF7x0 : fldI Tryz.prog 7 0 = (some 0) := by kernel_rfl
theorem tfG7x0 : fieldI Tryz.prog 7 0 = (some (false, (0, 1))) := by kernel_rfl
theorem tfF7x1 : fldI Tryz.prog 7 1 = (some 1) := by kernel_rfl
theorem tfG7x1 : fieldI Tryz.prog 7 1 = (some (false, (1, 1))) := by kernel_rfl
theorem tfF7x2 : fldI Tryz.prog 7 2 = (some 2) := by kernel_rfl
theorem tfG7x2 : fieldI Tryz.prog 7 2 = (some (false, (2, 1))) := by kernel_rfl
theorem tfF7x3 : fldI Tryz.prog 7 3 = (some 3) := by kernel_rfl
theorem tfG7x3 : fieldI Tryz.prog 7 3 = (some (false, (3, 1))) := by kernel_rfl
theorem tfA8 : aggI Tryz.prog 8 = (some (true, 4)) := by kernel_rfl
theorem tfZ8 : zeroI Tryz.prog 8 = (some ((.int .i64 (0 : Int)) :: ((.int .i64 (0 : Int)) :: ((.bool false) :: ((.int .u8 (0 : Int)) :: []))))) := by kernel_rfl
theorem tfP8 : placesI Tryz.prog 8 = (some ((0, 1) :: ((1, 1) :: ((2, 1) :: ((3, 1) :: []))))) := by kernel_rfl
theorem tfF8x0 : fldI Tryz.prog 8 0 = (some 0) := by kernel_rfl
theorem tfG8x0 : fieldI Tryz.prog 8 0 = (some (false, (0, 1))) := by kernel_rfl
theorem tfF8x1 : fldI Tryz.prog 8 1 = (some 1) := by kernel_rfl
theorem tfG8x1 : fieldI Tryz.prog 8 1 = (some (false, (1, 1))) := by kernel_rfl
theorem tfF8x2 : fldI Tryz.prog 8 2 = (some 2) := by kernel_rfl
theorem tfG8x2 : fieldI Tryz.prog 8 2 = (some (false, (2, 1))) := by kernel_rfl
theorem tfF8x3 : fldI Tryz.prog 8 3 = (some 3) := by kernel_rfl
theorem tfG8x3 : fieldI Tryz.prog 8 3 = (some (false, (3, 1))) := by kernel_rfl
theorem tfA9 : aggI Tryz.prog 9 = (some (false, 1)) := by kernel_rfl
theorem tfZ9 : zeroI Tryz.prog 9 = (some ((.str []) :: [])) := by kernel_rfl
theorem tfS9 : isStr Tryz.prog 9 = true := by kernel_rfl
theorem tfA10 : aggI Tryz.prog 10 = (some (false, 1)) := by kernel_rfl
theorem tfZ10 : zeroI Tryz.prog 10 = (some ((.str []) :: [])) := by kernel_rfl
theorem tfS10 : isStr Tryz.prog 10 = true := by kernel_rfl
theorem tfA11 : aggI Tryz.prog 11 = (some (false, 1)) := by kernel_rfl
theorem tfZ11 : zeroI Tryz.prog 11 = (some ((.str []) :: [])) := by kernel_rfl
theorem tfS11 : isStr Tryz.prog 11 = true := by kernel_rfl
theorem tfA12 : aggI Tryz.prog 12 = (some (false, 1)) := by kernel_rfl
theorem tfZ12 : zeroI Tryz.prog 12 = (some ((.int .u64 (0 : Int)) :: [])) := by kernel_rfl
theorem tfU12 : Program.underlying Tryz.prog 12 = (some (.int .u64)) := by kernel_rfl
theorem tfA13 : aggI Tryz.prog 13 = (some (true, 2)) := by kernel_rfl
theorem tfZ13 : zeroI Tryz.prog 13 = (some ((.str []) :: ((.int .u64 (0 : Int)) :: []))) := by kernel_rfl
theorem tfP13 : placesI Tryz.prog 13 = (some ((0, 1) :: ((1, 1) :: []))) := by kernel_rfl
theorem tfF13x0 : fldI Tryz.prog 13 0 = (some 0) := by kernel_rfl
theorem tfG13x0 : fieldI Tryz.prog 13 0 = (some (false, (0, 1))) := by kernel_rfl
theorem tfF13x1 : fldI Tryz.prog 13 1 = (some 1) := by kernel_rfl
theorem tfG13x1 : fieldI Tryz.prog 13 1 = (some (false, (1, 1))) := by kernel_rfl
theorem tfA14 : aggI Tryz.prog 14 = (some (true, 2)) := by kernel_rfl
theorem tfZ14 : zeroI Tryz.prog 14 = (some ((.str []) :: ((.int .u64 (0 : Int)) :: []))) := by kernel_rfl
theorem tfP14 : placesI Tryz.prog 14 = (some ((0, 1) :: ((1, 1) :: []))) := by kernel_rfl
theorem tfF14x0 : fldI Tryz.prog 14 0 = (some 0) := by kernel_rfl
theorem tfG14x0 : fieldI Tryz.prog 14 0 = (some (false, (0, 1))) := by kernel_rfl
theorem tfF14x1 : fldI Tryz.prog 14 1 = (some 1) := by kernel_rfl
theorem tfG14x1 : fieldI Tryz.prog 14 1 = (some (false, (1, 1))) := by kernel_rfl
theorem tfA15 : aggI Tryz.prog 15 = (some (false, 1)) := by kernel_rfl
theorem tfZ15 : zeroI Tryz.prog 15 = (some ((.val (.pointer none)) :: [])) := by kernel_rfl
theorem tfA16 : aggI Tryz.prog 16 = (some (false, 1)) := by kernel_rfl
theorem tfZ16 : zeroI Tryz.prog 16 = (some ((.val (.pointer none)) :: [])) := by kernel_rfl
theorem tfA17 : aggI Tryz.prog 17 = (some (false, 1)) := by kernel_rfl
theorem tfZ17 : zeroI Tryz.prog 17 = (some ((.val (.pointer none)) :: [])) := by kernel_rfl
theorem tfA18 : aggI Tryz.prog 18 = (some (true, 1)) := by kernel_rfl
theorem tfZ18 : zeroI Tryz.prog 18 = (some ((.val (.pointer none)) :: [])) := by kernel_rfl
theorem tfP18 : placesI Tryz.prog 18 = (some ((0, 1) :: [])) := by kernel_rfl
theorem tfF18x0 : fldI Tryz.prog 18 0 = (some 0) := by kernel_rfl
theorem tfG18x0 : fieldI Tryz.prog 18 0 = (some (false, (0, 1))) := by kernel_rfl
theorem tfA19 : aggI Tryz.prog 19 = (some (true, 1)) := by kernel_rfl
theorem tfZ19 : zeroI Tryz.prog 19 = (some ((.val (.pointer none)) :: [])) := by kernel_rfl
theorem tfP19 : placesI Tryz.prog 19 = (some ((0, 1) :: [])) := by kernel_rfl
theorem tfF19x0 : fldI Tryz.prog 19 0 = (some 0) := by kernel_rfl
theorem tfG19x0 : fieldI Tryz.prog 19 0 = (some (false, (0, 1))) := by kernel_rfl
theorem tfA20 : aggI Tryz.prog 20 = (some (false, 1)) := by kernel_rfl
theorem tfZ20 : zeroI Tryz.prog 20 = (some ((.val .nilIface) :: [])) := by kernel_rfl
theorem tfA21 : aggI Tryz.prog 21 = (some (false, 1)) := by kernel_rfl
theorem tfZ21 : zeroI Tryz.prog 21 = (some ((.int .i32 (0 : Int)) :: [])) := by kernel_rfl
theorem tfU21 : Program.underlying Tryz.prog 21 = (some (.int .i32)) := by kernel_rfl
theorem tfA22 : aggI Tryz.prog 22 = (some (false, 1)) := by kernel_rfl
theorem tfZ22 : zeroI Tryz.prog 22 = (some ((.val .nilFunc) :: [])) := by kernel_rfl
theorem tfE23 : elemI Tryz.prog 23 = (some ((.int .u16), 2)) := by kernel_rfl
theorem tfA23 : aggI Tryz.prog 23 = (some (false, 1)) := by kernel_rfl
theorem tfZ23 : zeroI Tryz.prog 23 = (some (.nils :: [])) := by kernel_rfl
theorem tfE24 : elemI Tryz.prog 24 = (some ((.int .u8), 1)) := by kernel_rfl
theorem tfA24 : aggI Tryz.prog 24 = (some (false, 1)) := by kernel_rfl
theorem tfZ24 : zeroI Tryz.prog 24 = (some (.nils :: [])) := by kernel_rfl
theorem tfA25 : aggI Tryz.prog 25 = (some (true, 3)) := by kernel_rfl
theorem tfZ25 : zeroI Tryz.prog 25 = (some (.nils :: (.nils :: (.nils :: [])))) := by kernel_rfl
theorem tfP25 : placesI Tryz.prog 25 = (some ((0, 1) :: ((1, 1) :: ((2, 1) :: [])))) := by kernel_rfl
theorem tfF25x0 : fldI Tryz.prog 25 0 = (some 0) := by kernel_rfl
theorem tfG25x0 : fieldI Tryz.prog 25 0 = (some (false, (0, 1))) := by kernel_rfl
theorem tfF25x1 : fldI Tryz.prog 25 1 = (some 1) := by kernel_rfl
theorem tfG25x1 : fieldI Tryz.prog 25 1 = (some (false, (1, 1))) := by kernel_rfl
theorem tfF25x2 : fldI Tryz.prog 25 2 = (some 2) := by kernel_rfl
theorem tfG25x2 : fieldI Tryz.prog 25 2 = (some (false, (2, 1))) := by kernel_rfl
theorem tfA26 : aggI Tryz.prog 26 = (some (true, 3)) := by kernel_rfl
theorem tfZ26 : zeroI Tryz.prog 26 = (some (.nils :: (.nils :: (.nils :: [])))) := by kernel_rfl
theorem tfP26 : placesI Tryz.prog 26 = (some ((0, 1) :: ((1, 1) :: ((2, 1) :: [])))) := by kernel_rfl
theorem tfF26x0 : fldI Tryz.prog 26 0 = (some 0) := by kernel_rfl
theorem tfG26x0 : fieldI Tryz.prog 26 0 = (some (false, (0, 1))) := by kernel_rfl
theorem tfF26x1 : fldI Tryz.prog 26 1 = (some 1) := by kernel_rfl
theorem tfG26x1 : fieldI Tryz.prog 26 1 = (some (false, (1, 1))) := by kernel_rfl
theorem tfF26x2 : fldI Tryz.prog 26 2 = (some 2) := by kernel_rfl
theorem tfG26x2 : fieldI Tryz.prog 26 2 = (some (false, (2, 1))) := by kernel_rfl
theorem tfE27 : elemI Tryz.prog 27 = (some ((.int .i32), 4)) := by kernel_rfl
theorem tfA27 : aggI Tryz.prog 27 = (some (false, 1)) := by kernel_rfl
theorem tfZ27 : zeroI Tryz.prog 27 = (some (.nils :: [])) := by kernel_rfl
theorem tfA28 : aggI Tryz.prog 28 = (some (true, 3)) := by kernel_rfl
theorem tfZ28 : zeroI Tryz.prog 28 = (some (.nils :: (.nils :: (.nils :: [])))) := by kernel_rfl
theorem tfP28 : placesI Tryz.prog 28 = (some ((0, 1) :: ((1, 1) :: ((2, 1) :: [])))) := by kernel_rfl
theorem tfF28x0 : fldI Tryz.prog 28 0 = (some 0) := by kernel_rfl
theorem tfG28x0 : fieldI Tryz.prog 28 0 = (some (false, (0, 1))) := by kernel_rfl
theorem tfF28x1 : fldI Tryz.prog 28 1 = (some 1) := by kernel_rfl
theorem tfG28x1 : fieldI Tryz.prog 28 1 = (some (false, (1, 1))) := by kernel_rfl
theorem tfF28x2 : fldI Tryz.prog 28 2 = (some 2) := by kernel_rfl
theorem tfG28x2 : fieldI Tryz.prog 28 2 = (some (false, (2, 1))) := by kernel_rfl
theorem tfA29 : aggI Tryz.prog 29 = (some (true, 3)) := by kernel_rfl
theorem tfZ29 : zeroI Tryz.prog 29 = (some (.nils :: (.nils :: (.nils :: [])))) := by kernel_rfl
theorem tfP29 : placesI Tryz.prog 29 = (some ((0, 1) :: ((1, 1) :: ((2, 1) :: [])))) := by kernel_rfl
theorem tfF29x0 : fldI Tryz.prog 29 0 = (some 0) := by kernel_rfl
theorem tfG29x0 : fieldI Tryz.prog 29 0 = (some (false, (0, 1))) := by kernel_rfl
theorem tfF29x1 : fldI Tryz.prog 29 1 = (some 1) := by kernel_rfl
theorem tfG29x1 : fieldI Tryz.prog 29 1 = (some (false, (1, 1))) := by kernel_rfl
theorem tfF29x2 : fldI Tryz.prog 29 2 = (some 2) := by kernel_rfl
theorem tfG29x2 : fieldI Tryz.prog 29 2 = (some (false, (2, 1))) := by kernel_rfl
theorem tfA30 : aggI Tryz.prog 30 = (some (true, 12)) := by kernel_rfl
theorem tfZ30 : zeroI Tryz.prog 30 = (some (.nils :: (.nils :: (.nils :: (.nils :: (.nils :: (.nils :: (.nils :: (.nils :: (.nils :: (.nils :: (.nils :: (.nils :: []))))))))))))) := by kernel_rfl
theorem tfP30 : placesI Tryz.prog 30 = (some ((0, 3) :: ((3, 3) :: ((6, 3) :: ((9, 3) :: []))))) := by kernel_rfl
theorem tfF30x0 : fldI Tryz.prog 30 0 = (some 0) := by kernel_rfl
theorem tfG30x0 : fieldI Tryz.prog 30 0 = (some (true, (0, 3))) := by kernel_rfl
theorem tfF30x1 : fldI Tryz.prog 30 1 = (some 3) := by kernel_rfl
theorem tfG30x1 : fieldI Tryz.prog 30 1 = (some (true, (3, 3))) := by kernel_rfl
theorem tfF30x2 : fldI Tryz.prog 30 2 = (some 6) := by kernel_rfl
theorem tfG30x2 : fieldI Tryz.prog 30 2 = (some (true, (6, 3))) := by kernel_rfl
theorem tfF30x3 : fldI Tryz.prog 30 3 = (some 9) := by kernel_rfl
theorem tfG30x3 : fieldI Tryz.prog 30 3 = (some (true, (9, 3))) := by kernel_rfl
theorem tfA31 : aggI Tryz.prog 31 = (some (true, 12)) := by kernel_rfl
theorem tfZ31 : zeroI Tryz.prog 31 = (some (.nils :: (.nils :: (.nils :: (.nils :: (.nils :: (.nils :: (.nils :: (.nils :: (.nils :: (.nils :: (.nils :: (.nils :: []))))))))))))) := by kernel_rfl
theorem tfP31 : placesI Tryz.prog 31 = (some ((0, 3) :: ((3, 3) :: ((6, 3) :: ((9, 3) :: []))))) := by kernel_rfl
theorem tfF31x0 : fldI Tryz.prog 31 0 = (some 0) := by kernel_rfl
theorem tfG31x0 : fieldI Tryz.prog 31 0 = (some (true, (0, 3))) := by kernel_rfl
theorem tfF31x1 : fldI Tryz.prog 31 1 = (some 3) := by kernel_rfl
theorem tfG31x1 : fieldI Tryz.prog 31 1 = (some (true, (3, 3))) := by kernel_rfl
theorem tfF31x2 : fldI Tryz.prog 31 2 = (some 6) := by kernel_rfl
theorem tfG31x2 : fieldI Tryz.prog 31 2 = (some (true, (6, 3))) := by kernel_rfl
theorem tfF31x3 : fldI Tryz.prog 31 3 = (some 9) := by kernel_rfl
theorem tfG31x3 : fieldI Tryz.prog 31 3 = (some (true, (9, 3))) := by kernel_rfl
theorem tfA32 : aggI Tryz.prog 32 = (some (false, 1)) := by kernel_rfl
theorem tfZ32 : zeroI Tryz.prog 32 = (some ((.int .i64 (0 : Int)) :: [])) := by kernel_rfl
theorem tfU32 : Program.underlying Tryz.prog 32 = (some (.int .i64)) := by kernel_rfl
theorem tfA33 : aggI Tryz.prog 33 = (some (false, 1)) := by kernel_rfl
theorem tfA34 : aggI Tryz.prog 34 = (some (false, 1)) := by kernel_rfl
theorem tfZ34 : zeroI Tryz.prog 34 = (some ((.val .nilFunc) :: [])) := by kernel_rfl
theorem tfE35 : elemI Tryz.prog 35 = (some ((.int .i64), 8)) := by kernel_rfl
theorem tfA35 : aggI Tryz.prog 35 = (some (false, 1)) := by kernel_rfl
theorem tfZ35 : zeroI Tryz.prog 35 = (some (.nils :: [])) := by kernel_rfl
theorem tfA36 : aggI Tryz.prog 36 = (some (true, 3)) := by kernel_rfl
theorem tfZ36 : zeroI Tryz.prog 36 = (some (.nils :: (.nils :: (.nils :: [])))) := by kernel_rfl
theorem tfP36 : placesI Tryz.prog 36 = (some ((0, 1) :: ((1, 1) :: ((2, 1) :: [])))) := by kernel_rfl
theorem tfF36x0 : fldI Tryz.prog 36 0 = (some 0) := by kernel_rfl
theorem tfG36x0 : fieldI Tryz.prog 36 0 = (some (false, (0, 1))) := by kernel_rfl
theorem tfF36x1 : fldI Tryz.prog 36 1 = (some 1) := by kernel_rfl
theorem tfG36x1 : fieldI Tryz.prog 36 1 = (some (false, (1, 1))) := by kernel_rfl
theorem tfF36x2 : fldI Tryz.prog 36 2 = (some 2) := by kernel_rfl
theorem tfG36x2 : fieldI Tryz.prog 36 2 = (some (false, (2, 1))) := by kernel_rfl
theorem tfA37 : aggI Tryz.prog 37 = (some (true, 3)) := by kernel_rfl
theorem tfZ37 : zeroI Tryz.prog 37 = (some (.nils :: (.nils :: (.nils :: [])))) := by kernel_rfl
theorem tfP37 : placesI Tryz.prog 37 = (some ((0, 1) :: ((1, 1) :: ((2, 1) :: [])))) := by kernel_rfl
theorem tfF37x0 : fldI Tryz.prog 37 0 = (some 0) := by kernel_rfl
theorem tfG37x0 : fieldI Tryz.prog 37 0 = (some (false, (0, 1))) := by kernel_rfl
theorem tfF37x1 : fldI Tryz.prog 37 1 = (some 1) := by kernel_rfl
theorem tfG37x1 : fieldI Tryz.prog 37 1 = (some (false, (1, 1))) := by kernel_rfl
theorem tfF37x2 : fldI Tryz.prog 37 2 = (some 2) := by kernel_rfl
theorem tfG37x2 : fieldI Tryz.prog 37 2 = (some (false, (2, 1))) := by kernel_rfl
theorem tfA38 : aggI Tryz.prog 38 = (some (true, 12)) := by kernel_rfl
theorem tfZ38 : zeroI Tryz.prog 38 = (some (.nils :: (.nils :: (.nils :: (.nils :: (.nils :: (.nils :: (.nils :: (.nils :: (.nils :: (.nils :: (.nils :: (.nils :: []))))))))))))) := by kernel_rfl
theorem tfA39 : aggI Tryz.prog 39 = (some (true, 12)) := by kernel_rfl
theorem tfZ39 : zeroI Tryz.prog 39 = (some (.nils :: (.nils :: (.nils :: (.nils :: (.nils :: (.nils :: (.nils :: (.nils :: (.nils :: (.nils :: (.nils :: (.nils :: []))))))))))))) := by kernel_rfl
theorem tfA40 : aggI Tryz.prog 40 = (some (false, 1)) := by kernel_rfl
theorem tfA41 : aggI Tryz.prog 41 = (some (false, 1)) := by kernel_rfl
theorem tfZ41 : zeroI Tryz.prog 41 = (some ((.val .nilFunc) :: [])) := by kernel_rfl
theorem tfE42 : elemI Tryz.prog 42 = (some ((.pair (.int .u8) (.pair (.int .i64) (.pair (.int .i64) .unit))), 24)) := by kernel_rfl
theorem tfA42 : aggI Tryz.prog 42 = (some (false, 1)) := by kernel_rfl
theorem tfZ42 : zeroI Tryz.prog 42 = (some (.nils :: [])) := by kernel_rfl
theorem tfA43 : aggI Tryz.prog 43 = (some (false, 1)) := by kernel_rfl
theorem tfA44 : aggI Tryz.prog 44 = (some (false, 1)) := by kernel_rfl
theorem tfZ44 : zeroI Tryz.prog 44 = (some ((.val .nilFunc) :: [])) := by kernel_rfl
theorem tfA45 : aggI Tryz.prog 45 = (some (false, 1)) := by kernel_rfl
theorem tfZ45 : zeroI Tryz.prog 45 = (some ((.val .nilFunc) :: [])) := by kernel_rfl
theorem tfA46 : aggI Tryz.prog 46 = (some (false, 1)) := by kernel_rfl
theorem tfZ46 : zeroI Tryz.prog 46 = (some ((.val .nilFunc) :: [])) := by kernel_rfl
theorem tfA47 : aggI Tryz.prog 47 = (some (false, 1)) := by kernel_rfl
theorem tfZ47 : zeroI Tryz.prog 47 = (some ((.val .nilFunc) :: [])) := by kernel_rfl
theorem tfA48 : aggI Tryz.prog 48 = (some (true, 3)) := by kernel_rfl
theorem tfZ48 : zeroI Tryz.prog 48 = (some ((.int .u8 (0 : Int)) :: ((.int .i64 (0 : Int)) :: ((.int .i64 (0 : Int)) :: [])))) := by kernel_rfl
theorem tfP48 : placesI Tryz.prog 48 = (some ((0, 1) :: ((1, 1) :: ((2, 1) :: [])))) := by kernel_rfl
theorem tfF48x0 : fldI Tryz.prog 48 0 = (some 0) := by kernel_rfl
theorem tfG48x0 : fieldI Tryz.prog 48 0 = (some (false, (0, 1))) := by kernel_rfl
theorem tfF48x1 : fldI Tryz.prog 48 1 = (some 1) := by kernel_rfl
theorem tfG48x1 : fieldI Tryz.prog 48 1 = (some (false, (1, 1))) := by kernel_rfl
theorem tfF48x2 : fldI Tryz.prog 48 2 = (some 2) := by kernel_rfl
theorem tfG48x2 : fieldI Tryz.prog 48 2 = (some (false, (2, 1))) := by kernel_rfl
theorem tfA49 : aggI Tryz.prog 49 = (some (true, 3)) := by kernel_rfl
theorem tfZ49 : zeroI Tryz.prog 49 = (some ((.int .u8 (0 : Int)) :: ((.int .i64 (0 : Int)) :: ((.int .i64 (0 : Int)) :: [])))) := by kernel_rfl
theorem tfP49 : placesI Tryz.prog 49 = (some ((0, 1) :: ((1, 1) :: ((2, 1) :: [])))) := by kernel_rfl
theorem tfF49x0 : fldI Tryz.prog 49 0 = (some 0) := by kernel_rfl
theorem tfG49x0 : fieldI Tryz.prog 49 0 = (some (false, (0, 1))) := by kernel_rfl
theorem tfF49x1 : fldI Tryz.prog 49 1 = (some 1) := by kernel_rfl
theorem tfG49x1 : fieldI Tryz.prog 49 1 = (some (false, (1, 1))) := by kernel_rfl
theorem tfF49x2 : fldI Tryz.prog 49 2 = (some 2) := by kernel_rfl
theorem tfG49x2 : fieldI Tryz.prog 49 2 = (some (false, (2, 1))) := by kernel_rfl
theorem tfA50 : aggI Tryz.prog 50 = (some (false, 1)) := by kernel_rfl
theorem tfZ50 : zeroI Tryz.prog 50 = (some ((.val .nilFunc) :: [])) := by kernel_rfl
theorem tfA51 : aggI Tryz.prog 51 = (some (false, 1)) := by kernel_rfl
theorem tfZ51 : zeroI Tryz.prog 51 = (some ((.val .nilFunc) :: [])) := by kernel_rfl
theorem tfA52 : aggI Tryz.prog 52 = (some (false, 1)) := by kernel_rfl
theorem tfA53 : aggI Tryz.prog 53 = (some (false, 1)) := by kernel_rfl
theorem tfZ53 : zeroI Tryz.prog 53 = (some ((.val .nilFunc) :: [])) := by kernel_rfl
theorem tfA54 : aggI Tryz.prog 54 = (some (false, 1)) := by kernel_rfl
theorem tfZ54 : zeroI Tryz.prog 54 = (some ((.val .nilFunc) :: [])) := by kernel_rfl
theorem tfA55 : aggI Tryz.prog 55 = (some (false, 1)) := by kernel_rfl
theorem tfZ55 : zeroI Tryz.prog 55 = (some ((.val .nilFunc) :: [])) := by kernel_rfl
theorem tfA56 : aggI Tryz.prog 56 = (some (false, 1)) := by kernel_rfl
theorem tfZ56 : zeroI Tryz.prog 56 = (some ((.val .nilFunc) :: [])) := by kernel_rfl
theorem tfA57 : aggI Tryz.prog 57 = (some (false, 1)) := by kernel_rfl
theorem tfZ57 : zeroI Tryz.prog 57 = (some ((.val .nilFunc) :: [])) := by kernel_rfl
theorem tfA58 : aggI Tryz.prog 58 = (some (false, 1)) := by kernel_rfl
theorem tfA59 : aggI Tryz.prog 59 = (some (false, 1)) := by kernel_rfl
theorem tfZ59 : zeroI Tryz.prog 59 = (some ((.val .nilFunc) :: [])) := by kernel_rfl
theorem tfA60 : aggI Tryz.prog 60 = (some (false, 1)) := by kernel_rfl
theorem tfA61 : aggI Tryz.prog 61 = (some (false, 1)) := by kernel_rfl
theorem tfZ61 : zeroI Tryz.prog 61 = (some ((.val .nilFunc) :: [])) := by kernel_rfl
theorem tfA62 : aggI Tryz.prog 62 = (some (true, 12)) := by kernel_rfl
theorem tfZ62 : zeroI Tryz.prog 62 = (some ((.int .i64 (0 : Int)) :: ((.int .i64 (0 : Int)) :: ((.int .i64 (0 : Int)) :: ((.int .i64 (0 : Int)) :: ((.int .i64 (0 : Int)) :: ((.int .i64 (0 : Int)) :: ((.int .i64 (0 : Int)) :: ((.int .i64 (0 : Int)) :: ((.int .i64 (0 : Int)) :: ((.int .i64 (0 : Int)) :: ((.int .i64 (0 : Int)) :: ((.int .i64 (0 : Int)) :: []))))))))))))) := by kernel_rfl
theorem tfA63 : aggI Tryz.prog 63 = (some (false, 1)) := by kernel_rfl
theorem tfZ63 : zeroI Tryz.prog 63 = (some ((.int .u32 (0 : Int)) :: [])) := by kernel_rfl
theorem tfU63 : Program.underlying Tryz.prog 63 = (some (.int .u32)) := by kernel_rfl
theorem tfA64 : aggI Tryz.prog 64 = (some (false, 1)) := by kernel_rfl
theorem tfZ64 : zeroI Tryz.prog 64 = (some ((.val .nilFunc) :: [])) := by kernel_rfl
theorem tfA65 : aggI Tryz.prog 65 = (some (false, 1)) := by kernel_rfl
theorem tfZ65 : zeroI Tryz.prog 65 = (some ((.val .nilFunc) :: [])) := by kernel_rfl
theorem tfE66 : elemI Tryz.prog 66 = (some ((.int .u32), 4)) := by kernel_rfl
theorem tfA66 : aggI Tryz.prog 66 = (some (false, 1)) := by kernel_rfl
theorem tfZ66 : zeroI Tryz.prog 66 = (some (.nils :: [])) := by kernel_rfl
theorem tfA67 : aggI Tryz.prog 67 = (some (false, 1)) := by kernel_rfl
theorem tfA68 : aggI Tryz.prog 68 = (some (false, 1)) := by kernel_rfl
theorem tfZ68 : zeroI Tryz.prog 68 = (some ((.val .nilFunc) :: [])) := by kernel_rfl
theorem tfA69 : aggI Tryz.prog 69 = (some (false, 1)) := by kernel_rfl
theorem tfZ69 : zeroI Tryz.prog 69 = (some ((.val .nilFunc) :: [])) := by kernel_rfl
theorem tfA70 : aggI Tryz.prog 70 = (some (false, 1)) := by kernel_rfl
theorem tfZ70 : zeroI Tryz.prog 70 = (some ((.val .nilFunc) :: [])) := by kernel_rfl
theorem tfA71 : aggI Tryz.prog 71 = (some (false, 1)) := by kernel_rfl
theorem tfZ71 : zeroI Tryz.prog 71 = (some ((.val .nilFunc) :: [])) := by kernel_rfl
theorem tfA72 : aggI Tryz.prog 72 = (some (false, 1)) := by kernel_rfl
theorem tfZ72 : zeroI Tryz.prog 72 = (some ((.int .u8 (0 : Int)) :: [])) := by kernel_rfl
theorem tfU72 : Program.underlying Tryz.prog 72 = (some (.int .u8)) := by kernel_rfl
theorem tfE73 : elemI Tryz.prog 73 = (some ((.pair (.slice 2 (.int .u16)) (.pair (.slice 2 (.int .u16)) (.pair (.slice 4 (.int .i32)) .unit))), 72)) := by kernel_rfl
theorem tfA73 : aggI Tryz.prog 73 = (some (false, 1)) := by kernel_rfl
theorem tfZ73 : zeroI Tryz.prog 73 = (some (.nils :: [])) := by kernel_rfl
theorem tfE74 : elemI Tryz.prog 74 = (some ((.slice 2 (.int .u16)), 24)) := by kernel_rfl
theorem tfA74 : aggI Tryz.prog 74 = (some (false, 1)) := by kernel_rfl
theorem tfZ74 : zeroI Tryz.prog 74 = (some (.nils :: [])) := by kernel_rfl
theorem tfA75 : aggI Tryz.prog 75 = (some (false, 1)) := by kernel_rfl
theorem tfZ75 : zeroI Tryz.prog 75 = (some ((.int .u16 (0 : Int)) :: [])) := by kernel_rfl
theorem tfU75 : Program.underlying Tryz.prog 75 = (some (.int .u16)) := by kernel_rfl
theorem tfE76 : elemI Tryz.prog 76 = (some ((.slice 4 (.int .i32)), 24)) := by kernel_rfl
theorem tfA76 : aggI Tryz.prog 76 = (some (false, 1)) := by kernel_rfl
theorem tfZ76 : zeroI Tryz.prog 76 = (some (.nils :: [])) := by kernel_rfl
theorem tfA77 : aggI Tryz.prog 77 = (some (true, 2)) := by kernel_rfl
theorem tfZ77 : zeroI Tryz.prog 77 = (some (.nils :: (.nils :: []))) := by kernel_rfl
theorem tfP77 : placesI Tryz.prog 77 = (some ((0, 1) :: ((1, 1) :: []))) := by kernel_rfl
theorem tfF77x0 : fldI Tryz.prog 77 0 = (some 0) := by kernel_rfl
theorem tfG77x0 : fieldI Tryz.prog 77 0 = (some (false, (0, 1))) := by kernel_rfl
theorem tfF77x1 : fldI Tryz.prog 77 1 = (some 1) := by kernel_rfl
theorem tfG77x1 : fieldI Tryz.prog 77 1 = (some (false, (1, 1))) := by kernel_rfl
theorem tfA78 : aggI Tryz.prog 78 = (some (true, 2)) := by kernel_rfl
theorem tfZ78 : zeroI Tryz.prog 78 = (some (.nils :: (.nils :: []))) := by kernel_rfl
theorem tfP78 : placesI Tryz.prog 78 = (some ((0, 1) :: ((1, 1) :: []))) := by kernel_rfl
theorem tfF78x0 : fldI Tryz.prog 78 0 = (some 0) := by kernel_rfl
theorem tfG78x0 : fieldI Tryz.prog 78 0 = (some (false, (0, 1))) := by kernel_rfl
theorem tfF78x1 : fldI Tryz.prog 78 1 = (some 1) := by kernel_rfl
theorem tfG78x1 : fieldI Tryz.prog 78 1 = (some (false, (1, 1))) := by kernel_rfl
theorem tfA79 : aggI Tryz.prog 79 = (some (false, 1)) := by kernel_rfl
theorem tfA80 : aggI Tryz.prog 80 = (some (false, 1)) := by kernel_rfl
theorem tfZ80 : zeroI Tryz.prog 80 = (some ((.val .nilFunc) :: [])) := by kernel_rfl
theorem tfE81 : elemI Tryz.prog 81 = (some ((.int .u8), 1)) := by kernel_rfl
theorem tfA81 : aggI Tryz.prog 81 = (some (false, 1)) := by kernel_rfl
theorem tfZ81 : zeroI Tryz.prog 81 = (some (.nils :: [])) := by kernel_rfl
theorem tfA82 : aggI Tryz.prog 82 = (some (true, 2)) := by kernel_rfl
theorem tfZ82 : zeroI Tryz.prog 82 = (some ((.int .i64 (0 : Int)) :: (.nils :: []))) := by kernel_rfl
theorem tfP82 : placesI Tryz.prog 82 = (some ((0, 1) :: ((1, 1) :: []))) := by kernel_rfl
theorem tfF82x0 : fldI Tryz.prog 82 0 = (some 0) := by kernel_rfl
theorem tfG82x0 : fieldI Tryz.prog 82 0 = (some (false, (0, 1))) := by kernel_rfl
theorem tfF82x1 : fldI Tryz.prog 82 1 = (some 1) := by kernel_rfl
theorem tfG82x1 : fieldI Tryz.prog 82 1 = (some (false, (1, 1))) := by kernel_rfl
theorem tfA83 : aggI Tryz.prog 83 = (some (true, 2)) := by kernel_rfl
theorem tfZ83 : zeroI Tryz.prog 83 = (some ((.int .i64 (0 : Int)) :: (.nils :: []))) := by kernel_rfl
theorem tfP83 : placesI Tryz.prog 83 = (some ((0, 1) :: ((1, 1) :: []))) := by kernel_rfl
theorem tfF83x0 : fldI Tryz.prog 83 0 = (some 0) := by kernel_rfl
theorem tfG83x0 : fieldI Tryz.prog 83 0 = (some (false, (0, 1))) := by kernel_rfl
theorem tfF83x1 : fldI Tryz.prog 83 1 = (some 1) := by kernel_rfl
theorem tfG83x1 : fieldI Tryz.prog 83 1 = (some (false, (1, 1))) := by kernel_rfl
theorem tfA84 : aggI Tryz.prog 84 = (some (false, 1)) := by kernel_rfl
theorem tfZ84 : zeroI Tryz.prog 84 = (some ((.val .nilFunc) :: [])) := by kernel_rfl
theorem tfA85 : aggI Tryz.prog 85 = (some (false, 1)) := by kernel_rfl
theorem tfZ85 : zeroI Tryz.prog 85 = (some ((.val .nilFunc) :: [])) := by kernel_rfl
theorem tfA86 : aggI Tryz.prog 86 = (some (false, 1)) := by kernel_rfl
theorem tfZ86 : zeroI Tryz.prog 86 = (some ((.val .nilFunc) :: [])) := by kernel_rfl
theorem tfE87 : elemI Tryz.prog 87 = (some ((.pair (.int .i64) (.pair (.slice 1 (.int .u8)) .unit)), 32)) := by kernel_rfl
theorem tfA87 : aggI Tryz.prog 87 = (some (false, 1)) := by kernel_rfl
theorem tfZ87 : zeroI Tryz.prog 87 = (some (.nils :: [])) := by kernel_rfl
theorem tfA88 : aggI Tryz.prog 88 = (some (false, 1)) := by kernel_rfl
theorem tfZ88 : zeroI Tryz.prog 88 = (some ((.val .nilFunc) :: [])) := by kernel_rfl
theorem tfA89 : aggI Tryz.prog 89 = (some (false, 1)) := by kernel_rfl
theorem tfZ89 : zeroI Tryz.prog 89 = (some ((.val .nilFunc) :: [])) := by kernel_rfl
theorem tfA90 : aggI Tryz.prog 90 = (some (false, 1)) := by kernel_rfl
theorem tfZ90 : zeroI Tryz.prog 90 = (some ((.val .nilFunc) :: [])) := by kernel_rfl
theorem tfA91 : aggI Tryz.prog 91 = (some (false, 1)) := by kernel_rfl
theorem tfZ91 : zeroI Tryz.prog 91 = (some ((.val .nilFunc) :: [])) := by kernel_rfl
theorem tfA92 : aggI Tryz.prog 92 = (some (false, 1)) := by kernel_rfl
theorem tfZ92 : zeroI Tryz.prog 92 = (some ((.val .nilFunc) :: [])) := by kernel_rfl
theorem tfA93 : aggI Tryz.prog 93 = (some (false, 1)) := by kernel_rfl
theorem tfZ93 : zeroI Tryz.prog 93 = (some ((.val .nilFunc) :: [])) := by kernel_rfl
theorem tfA94 : aggI Tryz.prog 94 = (some (false, 1)) := by kernel_rfl
theorem tfZ94 : zeroI Tryz.prog 94 = (some ((.val .nilFunc) :: [])) := by kernel_rfl
theorem tfA95 : aggI Tryz.prog 95 = (some (false, 1)) := by kernel_rfl
theorem tfZ95 : zeroI Tryz.prog 95 = (some ((.val .nilFunc) :: [])) := by kernel_rfl
theorem tfA96 : aggI Tryz.prog 96 = (some (false, 1)) := by kernel_rfl
theorem tfZ96 : zeroI Tryz.prog 96 = (some ((.val .nilFunc) :: [])) := by kernel_rfl
theorem tfA97 : aggI Tryz.prog 97 = (some (false, 1)) := by kernel_rfl
theorem tfZ97 : zeroI Tryz.prog 97 = (some ((.val .nilFunc) :: [])) := by kernel_rfl
theorem tfA98 : aggI Tryz.prog 98 = (some (false, 1)) := by kernel_rfl
theorem tfZ98 : zeroI Tryz.prog 98 = (some ((.val .nilFunc) :: [])) := by kernel_rfl
theorem tfA99 : aggI Tryz.prog 99 = (some (false, 1)) := by kernel_rfl
theorem tfZ99 : zeroI Tryz.prog 99 = (some ((.val .nilFunc) :: [])) := by kernel_rfl
theorem tfA100 : aggI Tryz.prog 100 = (some (false, 1)) := by kernel_rfl
theorem tfZ100 : zeroI Tryz.prog 100 = (some ((.val (.pointer none)) :: [])) := by kernel_rfl
theorem tfA101 : aggI Tryz.prog 101 = (some (false, 1)) := by kernel_rfl
theorem tfZ101 : zeroI Tryz.prog 101 = (some ((.val .nilFunc) :: [])) := by kernel_rfl
theorem tfA102 : aggI Tryz.prog 102 = (some (false, 1)) := by kernel_rfl
theorem tfZ102 : zeroI Tryz.prog 102 = (some ((.val (.pointer none)) :: [])) := by kernel_rfl
theorem tfA103 : aggI Tryz.prog 103 = (some (false, 1)) := by kernel_rfl
theorem tfZ103 : zeroI Tryz.prog 103 = (some ((.val .nilFunc) :: [])) := by kernel_rfl
theorem tfA104 : aggI Tryz.prog 104 = (some (false, 1)) := by kernel_rfl
theorem tfZ104 : zeroI Tryz.prog 104 = (some ((.val .nilFunc) :: [])) := by kernel_rfl
theorem tfA105 : aggI Tryz.prog 105 = (some (false, 1)) := by kernel_rfl
theorem tfZ105 : zeroI Tryz.prog 105 = (some ((.val (.pointer none)) :: [])) := by kernel_rfl
theorem tfA106 : aggI Tryz.prog 106 = (some (false, 1)) := by kernel_rfl
theorem tfZ106 : zeroI Tryz.prog 106 = (some ((.val .nilFunc) :: [])) := by kernel_rfl
theorem tfA107 : aggI Tryz.prog 107 = (some (false, 1)) := by kernel_rfl
theorem tfZ107 : zeroI Tryz.prog 107 = (some ((.int .u8 (0 : Int)) :: [])) := by kernel_rfl
theorem tfU107 : Program.underlying Tryz.prog 107 = (some (.int .u8)) := by kernel_rfl
theorem tfA108 : aggI Tryz.prog 108 = (some (false, 1)) := by kernel_rfl
theorem tfA109 : aggI Tryz.prog 109 = (some (false, 1)) := by kernel_rfl
theorem tfZ109 : zeroI Tryz.prog 109 = (some ((.val .nilFunc) :: [])) := by kernel_rfl
theorem tfA110 : aggI Tryz.prog 110 = (some (false, 1)) := by kernel_rfl
theorem tfZ110 : zeroI Tryz.prog 110 = (some ((.val .nilFunc) :: [])) := by kernel_rfl
theorem tfA111 : aggI Tryz.prog 111 = (some (false, 1)) := by kernel_rfl
theorem tfZ111 : zeroI Tryz.prog 111 = (some ((.val .nilFunc) :: [])) := by kernel_rfl
theorem tfA112 : aggI Tryz.prog 112 = (some (false, 1)) := by kernel_rfl
theorem tfA113 : aggI Tryz.prog 113 = (some (false, 1)) := by kernel_rfl
theorem tfZ113 : zeroI Tryz.prog 113 = (some ((.val .nilFunc) :: [])) := by kernel_rfl
theorem tfA114 : aggI Tryz.prog 114 = (some (false, 1)) := by kernel_rfl
theorem tfZ114 : zeroI Tryz.prog 114 = (some ((.val .nilFunc) :: [])) := by kernel_rfl
theorem tfA115 : aggI Tryz.prog 115 = (some (false, 1)) := by kernel_rfl
theorem tfA116 : aggI Tryz.prog 116 = (some (false, 1)) := by kernel_rfl
theorem tfZ116 : zeroI Tryz.prog 116 = (some ((.val .nilFunc) :: [])) := by kernel_rfl
theorem tfA117 : aggI Tryz.prog 117 = (some (false, 1)) := by kernel_rfl
theorem tfZ117 : zeroI Tryz.prog 117 = (some ((.val (.pointer none)) :: [])) := by kernel_rfl
theorem tfA118 : aggI Tryz.prog 118 = (some (true, 5)) := by kernel_rfl
theorem tfZ118 : zeroI Tryz.prog 118 = (some ((.str []) :: ((.int .i64 (0 : Int)) :: (.nils :: ((.int .i64 (0 : Int)) :: (.nils :: [])))))) := by kernel_rfl
theorem tfP118 : placesI Tryz.prog 118 = (some ((0, 1) :: ((1, 1) :: ((2, 1) :: ((3, 1) :: ((4, 1) :: [])))))) := by kernel_rfl
theorem tfF118x0 : fldI Tryz.prog 118 0 = (some 0) := by kernel_rfl
theorem tfG118x0 : fieldI Tryz.prog 118 0 = (some (false, (0, 1))) := by kernel_rfl
theorem tfF118x1 : fldI Tryz.prog 118 1 = (some 1) := by kernel_rfl
theorem tfG118x1 : fieldI Tryz.prog 118 1 = (some (false, (1, 1))) := by kernel_rfl
theorem tfF118x2 : fldI Tryz.prog 118 2 = (some 2) := by kernel_rfl
theorem tfG118x2 : fieldI Tryz.prog 118 2 = (some (false, (2, 1))) := by kernel_rfl
theorem tfF118x3 : fldI Tryz.prog 118 3 = (some 3) := by kernel_rfl
theorem tfG118x3 : fieldI Tryz.prog 118 3 = (some (false, (3, 1))) := by kernel_rfl
theorem tfF118x4 : fldI Tryz.prog 118 4 = (some 4) := by kernel_rfl
theorem tfG118x4 : fieldI Tryz.prog 118 4 = (some (false, (4, 1))) := by kernel_rfl
theorem tfA119 : aggI Tryz.prog 119 = (some (true, 5)) := by kernel_rfl
theorem tfZ119 : zeroI Tryz.prog 119 = (some ((.str []) :: ((.int .i64 (0 : Int)) :: (.nils :: ((.int .i64 (0 : Int)) :: (.nils :: [])))))) := by kernel_rfl
theorem tfP119 : placesI Tryz.prog 119 = (some ((0, 1) :: ((1, 1) :: ((2, 1) :: ((3, 1) :: ((4, 1) :: [])))))) := by kernel_rfl
theorem tfF119x0 : fldI Tryz.prog 119 0 = (some 0) := by kernel_rfl
theorem tfG119x0 : fieldI Tryz.prog 119 0 = (some (false, (0, 1))) := by kernel_rfl
theorem tfF119x1 : fldI Tryz.prog 119 1 = (some 1) := by kernel_rfl
theorem tfG119x1 : fieldI Tryz.prog 119 1 = (some (false, (1, 1))) := by kernel_rfl
theorem tfF119x2 : fldI Tryz.prog 119 2 = (some 2) := by kernel_rfl
theorem tfG119x2 : fieldI Tryz.prog 119 2 = (some (false, (2, 1))) := by kernel_rfl
theorem tfF119x3 : fldI Tryz.prog 119 3 = (some 3) := by kernel_rfl
theorem tfG119x3 : fieldI Tryz.prog 119 3 = (some (false, (3, 1))) := by kernel_rfl
theorem tfF119x4 : fldI Tryz.prog 119 4 = (some 4) := by kernel_rfl
theorem tfG119x4 : fieldI Tryz.prog 119 4 = (some (false, (4, 1))) := by kernel_rfl
theorem tfA120 : aggI Tryz.prog 120 = (some (false, 1)) := by kernel_rfl
theorem tfZ120 : zeroI Tryz.prog 120 = (some ((.val .nilIface) :: [])) := by kernel_rfl
theorem tfA121 : aggI Tryz.prog 121 = (some (false, 1)) := by kernel_rfl
theorem tfZ121 : zeroI Tryz.prog 121 = (some ((.val .nilIface) :: [])) := by kernel_rfl
theorem tfA122 : aggI Tryz.prog 122 = (some (false, 1)) := by kernel_rfl
theorem tfA123 : aggI Tryz.prog 123 = (some (false, 1)) := by kernel_rfl
theorem tfZ123 : zeroI Tryz.prog 123 = (some ((.val .nilFunc) :: [])) := by kernel_rfl
theorem tfA124 : aggI Tryz.prog 124 = (some (false, 1)) := by kernel_rfl
theorem tfZ124 : zeroI Tryz.prog 124 = (some ((.val (.pointer none)) :: [])) := by kernel_rfl
theorem tfA125 : aggI Tryz.prog 125 = (some (false, 1)) := by kernel_rfl
theorem tfZ125 : zeroI Tryz.prog 125 = (some ((.val .nilFunc) :: [])) := by kernel_rfl
theorem tfA126 : aggI Tryz.prog 126 = (some (false, 1)) := by kernel_rfl
theorem tfZ126 : zeroI Tryz.prog 126 = (some ((.val .nilFunc) :: [])) := by kernel_rfl
theorem tfA127 : aggI Tryz.prog 127 = (some (false, 1)) := by kernel_rfl
theorem tfZ127 : zeroI Tryz.prog 127 = (some ((.val (.pointer none)) :: [])) := by kernel_rfl
theorem tfE128 : elemI Tryz.prog 128 = (some (.opq, 8)) := by kernel_rfl
theorem tfA128 : aggI Tryz.prog 128 = (some (false, 1)) := by kernel_rfl
theorem tfZ128 : zeroI Tryz.prog 128 = (some (.nils :: [])) := by kernel_rfl
theorem tfA129 : aggI Tryz.prog 129 = (some (false, 1)) := by kernel_rfl
theorem tfZ129 : zeroI Tryz.prog 129 = (some ((.val .nilFunc) :: [])) := by kernel_rfl
theorem tfA130 : aggI Tryz.prog 130 = (some (false, 1)) := by kernel_rfl
theorem tfZ130 : zeroI Tryz.prog 130 = (some ((.int .u64 (0 : Int)) :: [])) := by kernel_rfl
theorem tfU130 : Program.underlying Tryz.prog 130 = (some (.int .u64)) := by kernel_rfl
theorem tfA131 : aggI Tryz.prog 131 = (some (false, 1)) := by kernel_rfl
theorem tfZ131 : zeroI Tryz.prog 131 = (some ((.val .nilFunc) :: [])) := by kernel_rfl
theorem tfA132 : aggI Tryz.prog 132 = (some (false, 1)) := by kernel_rfl
theorem tfZ132 : zeroI Tryz.prog 132 = (some ((.val .nilFunc) :: [])) := by kernel_rfl
theorem tfA133 : aggI Tryz.prog 133 = (some (false, 1)) := by kernel_rfl
theorem tfZ133 : zeroI Tryz.prog 133 = (some ((.val .nilFunc) :: [])) := by kernel_rfl
theorem tfA134 : aggI Tryz.prog 134 = (some (false, 1)) := by kernel_rfl
theorem tfZ134 : zeroI Tryz.prog 134 = (some ((.val .nilFunc) :: [])) := by kernel_rfl
theorem tfA135 : aggI Tryz.prog 135 = (some (false, 1)) := by kernel_rfl
theorem tfZ135 : zeroI Tryz.prog 135 = (some ((.val .nilFunc) :: [])) := by kernel_rfl
theorem tfA136 : aggI Tryz.prog 136 = (some (false, 1)) := by kernel_rfl
theorem tfZ136 : zeroI Tryz.prog 136 = (some ((.val .nilFunc) :: [])) := by kernel_rfl
theorem tfA137 : aggI Tryz.prog 137 = (some (false, 1)) := by kernel_rfl
theorem tfA138 : aggI Tryz.prog 138 = (some (false, 1)) := by kernel_rfl
theorem tfZ138 : zeroI Tryz.prog 138 = (some ((.val .nilFunc) :: [])) := by kernel_rfl
theorem tfA139 : aggI Tryz.prog 139 = (some (false, 1)) := by kernel_rfl
theorem tfA140 : aggI Tryz.prog 140 = (some (false, 1)) := by kernel_rfl
theorem tfZ140 : zeroI Tryz.prog 140 = (some ((.val .nilFunc) :: [])) := by kernel_rfl
theorem tfA141 : aggI Tryz.prog 141 = (some (false, 1)) := by kernel_rfl
theorem tfZ141 : zeroI Tryz.prog 141 = (some ((.val .nilFunc) :: [])) := by kernel_rfl
theorem tfE142 : elemI Tryz.prog 142 = (some ((.pair (.int .i64) (.pair (.int .i32) (.pair (.int .i32) (.pair .str (.pair .str (.pair (.int .u8) (.pair (.int .u8) (.pair (.int .i32) (.pair .bool .unit))))))))), 64)) := by kernel_rfl
theorem tfA142 : aggI Tryz.prog 142 = (some (false, 1)) := by kernel_rfl
theorem tfZ142 : zeroI Tryz.prog 142 = (some (.nils :: [])) := by kernel_rfl
theorem tfA143 : aggI Tryz.prog 143 = (some (false, 1)) := by kernel_rfl
theorem tfZ143 : zeroI Tryz.prog 143 = (some ((.val (.pointer none)) :: [])) := by kernel_rfl
theorem tfA144 : aggI Tryz.prog 144 = (some (false, 1)) := by kernel_rfl
theorem tfZ144 : zeroI Tryz.prog 144 = (some ((.val (.pointer none)) :: [])) := by kernel_rfl
theorem tfE145 : elemI Tryz.prog 145 = (some ((.pair (.int .i64) (.pair (.int .i32) (.pair (.int .i32) (.pair .bool .unit)))), 24)) := by kernel_rfl
theorem tfA145 : aggI Tryz.prog 145 = (some (false, 1)) := by kernel_rfl
theorem tfZ145 : zeroI Tryz.prog 145 = (some (.nils :: [])) := by kernel_rfl
theorem tfA146 : aggI Tryz.prog 146 = (some (false, 1)) := by kernel_rfl
theorem tfZ146 : zeroI Tryz.prog 146 = (some ((.val (.map none)) :: [])) := by kernel_rfl
theorem tfA147 : aggI Tryz.prog 147 = (some (true, 5)) := by kernel_rfl
theorem tfZ147 : zeroI Tryz.prog 147 = (some (.nils :: ((.val (.pointer none)) :: ((.val (.pointer none)) :: (.nils :: ((.val (.map none)) :: [])))))) := by kernel_rfl
theorem tfP147 : placesI Tryz.prog 147 = (some ((0, 1) :: ((1, 1) :: ((2, 1) :: ((3, 1) :: ((4, 1) :: [])))))) := by kernel_rfl
theorem tfF147x0 : fldI Tryz.prog 147 0 = (some 0) := by kernel_rfl
theorem tfG147x0 : fieldI Tryz.prog 147 0 = (some (false, (0, 1))) := by kernel_rfl
theorem tfF147x1 : fldI Tryz.prog 147 1 = (some 1) := by kernel_rfl
theorem tfG147x1 : fieldI Tryz.prog 147 1 = (some (false, (1, 1))) := by kernel_rfl
theorem tfF147x2 : fldI Tryz.prog 147 2 = (some 2) := by kernel_rfl
theorem tfG147x2 : fieldI Tryz.prog 147 2 = (some (false, (2, 1))) := by kernel_rfl
theorem tfF147x3 : fldI Tryz.prog 147 3 = (some 3) := by kernel_rfl
theorem tfG147x3 : fieldI Tryz.prog 147 3 = (some (false, (3, 1))) := by kernel_rfl
theorem tfF147x4 : fldI Tryz.prog 147 4 = (some 4) := by kernel_rfl
theorem tfG147x4 : fieldI Tryz.prog 147 4 = (some (false, (4, 1))) := by kernel_rfl
theorem tfA148 : aggI Tryz.prog 148 = (some (true, 5)) := by kernel_rfl
theorem tfZ148 : zeroI Tryz.prog 148 = (some (.nils :: ((.val (.pointer none)) :: ((.val (.pointer none)) :: (.nils :: ((.val (.map none)) :: [])))))) := by kernel_rfl
theorem tfP148 : placesI Tryz.prog 148 = (some ((0, 1) :: ((1, 1) :: ((2, 1) :: ((3, 1) :: ((4, 1) :: [])))))) := by kernel_rfl
theorem tfF148x0 : fldI Tryz.prog 148 0 = (some 0) := by kernel_rfl
theorem tfG148x0 : fieldI Tryz.prog 148 0 = (some (false, (0, 1))) := by kernel_rfl
theorem tfF148x1 : fldI Tryz.prog 148 1 = (some 1) := by kernel_rfl
theorem tfG148x1 : fieldI Tryz.prog 148 1 = (some (false, (1, 1))) := by kernel_rfl
theorem tfF148x2 : fldI Tryz.prog 148 2 = (some 2) := by kernel_rfl
theorem tfG148x2 : fieldI Tryz.prog 148 2 = (some (false, (2, 1))) := by kernel_rfl
theorem tfF148x3 : fldI Tryz.prog 148 3 = (some 3) := by kernel_rfl
theorem tfG148x3 : fieldI Tryz.prog 148 3 = (some (false, (3, 1))) := by kernel_rfl
theorem tfF148x4 : fldI Tryz.prog 148 4 = (some 4) := by kernel_rfl
theorem tfG148x4 : fieldI Tryz.prog 148 4 = (some (false, (4, 1))) := by kernel_rfl
theorem tfA149 : aggI Tryz.prog 149 = (some (false, 1)) := by kernel_rfl
theorem tfZ149 : zeroI Tryz.prog 149 = (some ((.val (.pointer none)) :: [])) := by kernel_rfl
theorem tfA150 : aggI Tryz.prog 150 = (some (false, 1)) := by kernel_rfl
theorem tfZ150 : zeroI Tryz.prog 150 = (some ((.val .nilFunc) :: [])) := by kernel_rfl
theorem tfA151 : aggI Tryz.prog 151 = (some (true, 64)) := by kernel_rfl
theorem tfA152 : aggI Tryz.prog 152 = (some (false, 1)) := by kernel_rfl
theorem tfZ152 : zeroI Tryz.prog 152 = (some ((.val .nilFunc) :: [])) := by kernel_rfl
theorem tfA153 : aggI Tryz.prog 153 = (some (false, 1)) := by kernel_rfl
theorem tfZ153 : zeroI Tryz.prog 153 = (some ((.val (.map none)) :: [])) := by kernel_rfl
theorem tfA154 : aggI Tryz.prog 154 = (some (false, 1)) := by kernel_rfl
theorem tfZ154 : zeroI Tryz.prog 154 = (some ((.val (.map none)) :: [])) := by kernel_rfl
theorem tfA155 : aggI Tryz.prog 155 = (some (true, 64)) := by kernel_rfl
theorem tfA156 : aggI Tryz.prog 156 = (some (true, 68)) := by kernel_rfl
theorem tfP156 : placesI Tryz.prog 156 = (some ((0, 1) :: ((1, 1) :: ((2, 1) :: ((3, 1) :: ((4, 64) :: [])))))) := by kernel_rfl
theorem tfF156x0 : fldI Tryz.prog 156 0 = (some 0) := by kernel_rfl
theorem tfG156x0 : fieldI Tryz.prog 156 0 = (some (false, (0, 1))) := by kernel_rfl
theorem tfF156x1 : fldI Tryz.prog 156 1 = (some 1) := by kernel_rfl
theorem tfG156x1 : fieldI Tryz.prog 156 1 = (some (false, (1, 1))) := by kernel_rfl
theorem tfF156x2 : fldI Tryz.prog 156 2 = (some 2) := by kernel_rfl
theorem tfG156x2 : fieldI Tryz.prog 156 2 = (some (false, (2, 1))) := by kernel_rfl
theorem tfF156x3 : fldI Tryz.prog 156 3 = (some 3) := by kernel_rfl
theorem tfG156x3 : fieldI Tryz.prog 156 3 = (some (false, (3, 1))) := by kernel_rfl
theorem tfF156x4 : fldI Tryz.prog 156 4 = (some 4) := by kernel_rfl
theorem tfG156x4 : fieldI Tryz.prog 156 4 = (some (true, (4, 64))) := by kernel_rfl
theorem tfA157 : aggI Tryz.prog 157 = (some (true, 68)) := by kernel_rfl
theorem tfP157 : placesI Tryz.prog 157 = (some ((0, 1) :: ((1, 1) :: ((2, 1) :: ((3, 1) :: ((4, 64) :: [])))))) := by kernel_rfl
theorem tfF157x0 : fldI Tryz.prog 157 0 = (some 0) := by kernel_rfl
theorem tfG157x0 : fieldI Tryz.prog 157 0 = (some (false, (0, 1))) := by kernel_rfl
theorem tfF157x1 : fldI Tryz.prog 157 1 = (some 1) := by kernel_rfl
theorem tfG157x1 : fieldI Tryz.prog 157 1 = (some (false, (1, 1))) := by kernel_rfl
theorem tfF157x2 : fldI Tryz.prog 157 2 = (some 2) := by kernel_rfl
theorem tfG157x2 : fieldI Tryz.prog 157 2 = (some (false, (2, 1))) := by kernel_rfl
theorem tfF157x3 : fldI Tryz.prog 157 3 = (some 3) := by kernel_rfl
theorem tfG157x3 : fieldI Tryz.prog 157 3 = (some (false, (3, 1))) := by kernel_rfl
theorem tfF157x4 : fldI Tryz.prog 157 4 = (some 4) := by kernel_rfl
theorem tfG157x4 : fieldI Tryz.prog 157 4 = (some (true, (4, 64))) := by kernel_rfl
theorem tfA158 : aggI Tryz.prog 158 = (some (false, 1)) := by kernel_rfl
theorem tfZ158 : zeroI Tryz.prog 158 = (some ((.val .nilFunc) :: [])) := by kernel_rfl
theorem tfA159 : aggI Tryz.prog 159 = (some (true, 272)) := by kernel_rfl
theorem tfA160 : aggI Tryz.prog 160 = (some (false, 1)) := by kernel_rfl
theorem tfZ160 : zeroI Tryz.prog 160 = (some (.nils :: [])) := by kernel_rfl
theorem tfA161 : aggI Tryz.prog 161 = (some (false, 1)) := by kernel_rfl
theorem tfZ161 : zeroI Tryz.prog 161 = (some (.nils :: [])) := by kernel_rfl
theorem tfA162 : aggI Tryz.prog 162 = (some (true, 274)) := by kernel_rfl
theorem tfP162 : placesI Tryz.prog 162 = (some ((0, 272) :: ((272, 1) :: ((273, 1) :: [])))) := by kernel_rfl
theorem tfF162x0 : fldI Tryz.prog 162 0 = (some 0) := by kernel_rfl
theorem tfG162x0 : fieldI Tryz.prog 162 0 = (some (true, (0, 272))) := by kernel_rfl
theorem tfF162x1 : fldI Tryz.prog 162 1 = (some 272) := by kernel_rfl
theorem tfG162x1 : fieldI Tryz.prog 162 1 = (some (false, (272, 1))) := by kernel_rfl
theorem tfF162x2 : fldI Tryz.prog 162 2 = (some 273) := by kernel_rfl
theorem tfG162x2 : fieldI Tryz.prog 162 2 = (some (false, (273, 1))) := by kernel_rfl
theorem tfA163 : aggI Tryz.prog 163 = (some (true, 274)) := by kernel_rfl
theorem tfP163 : placesI Tryz.prog 163 = (some ((0, 272) :: ((272, 1) :: ((273, 1) :: [])))) := by kernel_rfl
theorem tfF163x0 : fldI Tryz.prog 163 0 = (some 0) := by kernel_rfl
theorem tfG163x0 : fieldI Tryz.prog 163 0 = (some (true, (0, 272))) := by kernel_rfl
theorem tfF163x1 : fldI Tryz.prog 163 1 = (some 272) := by kernel_rfl
theorem tfG163x1 : fieldI Tryz.prog 163 1 = (some (false, (272, 1))) := by kernel_rfl
theorem tfF163x2 : fldI Tryz.prog 163 2 = (some 273) := by kernel_rfl
theorem tfG163x2 : fieldI Tryz.prog 163 2 = (some (false, (273, 1))) := by kernel_rfl
theorem tfA164 : aggI Tryz.prog 164 = (some (false, 1)) := by kernel_rfl
theorem tfZ164 : zeroI Tryz.prog 164 = (some ((.val (.pointer none)) :: [])) := by kernel_rfl
theorem tfA165 : aggI Tryz.prog 165 = (some (false, 1)) := by kernel_rfl
theorem tfZ165 : zeroI Tryz.prog 165 = (some ((.val .nilFunc) :: [])) := by kernel_rfl
theorem tfA166 : aggI Tryz.prog 166 = (some (true, 64)) := by kernel_rfl
theorem tfA167 : aggI Tryz.prog 167 = (some (false, 1)) := by kernel_rfl
theorem tfZ167 : zeroI Tryz.prog 167 = (some ((.val .nilFunc) :: [])) := by kernel_rfl
theorem tfA168 : aggI Tryz.prog 168 = (some (false, 1)) := by kernel_rfl
theorem tfZ168 : zeroI Tryz.prog 168 = (some ((.val (.map none)) :: [])) := by kernel_rfl
theorem tfA169 : aggI Tryz.prog 169 = (some (true, 68)) := by kernel_rfl
theorem tfP169 : placesI Tryz.prog 169 = (some ((0, 1) :: ((1, 1) :: ((2, 1) :: ((3, 1) :: ((4, 64) :: [])))))) := by kernel_rfl
theorem tfF169x0 : fldI Tryz.prog 169 0 = (some 0) := by kernel_rfl
theorem tfG169x0 : fieldI Tryz.prog 169 0 = (some (false, (0, 1))) := by kernel_rfl
theorem tfF169x1 : fldI Tryz.prog 169 1 = (some 1) := by kernel_rfl
theorem tfG169x1 : fieldI Tryz.prog 169 1 = (some (false, (1, 1))) := by kernel_rfl
theorem tfF169x2 : fldI Tryz.prog 169 2 = (some 2) := by kernel_rfl
theorem tfG169x2 : fieldI Tryz.prog 169 2 = (some (false, (2, 1))) := by kernel_rfl
theorem tfF169x3 : fldI Tryz.prog 169 3 = (some 3) := by kernel_rfl
theorem tfG169x3 : fieldI Tryz.prog 169 3 = (some (false, (3, 1))) := by kernel_rfl
theorem tfF169x4 : fldI Tryz.prog 169 4 = (some 4) := by kernel_rfl
theorem tfG169x4 : fieldI Tryz.prog 169 4 = (some (true, (4, 64))) := by kernel_rfl
theorem tfA170 : aggI Tryz.prog 170 = (some (true, 68)) := by kernel_rfl
theorem tfP170 : placesI Tryz.prog 170 = (some ((0, 1) :: ((1, 1) :: ((2, 1) :: ((3, 1) :: ((4, 64) :: [])))))) := by kernel_rfl
theorem tfF170x0 : fldI Tryz.prog 170 0 = (some 0) := by kernel_rfl
theorem tfG170x0 : fieldI Tryz.prog 170 0 = (some (false, (0, 1))) := by kernel_rfl
theorem tfF170x1 : fldI Tryz.prog 170 1 = (some 1) := by kernel_rfl
theorem tfG170x1 : fieldI Tryz.prog 170 1 = (some (false, (1, 1))) := by kernel_rfl
theorem tfF170x2 : fldI Tryz.prog 170 2 = (some 2) := by kernel_rfl
theorem tfG170x2 : fieldI Tryz.prog 170 2 = (some (false, (2, 1))) := by kernel_rfl
theorem tfF170x3 : fldI Tryz.prog 170 3 = (some 3) := by kernel_rfl
theorem tfG170x3 : fieldI Tryz.prog 170 3 = (some (false, (3, 1))) := by kernel_rfl
theorem tfF170x4 : fldI Tryz.prog 170 4 = (some 4) := by kernel_rfl
theorem tfG170x4 : fieldI Tryz.prog 170 4 = (some (true, (4, 64))) := by kernel_rfl
theorem tfA171 : aggI Tryz.prog 171 = (some (false, 1)) := by kernel_rfl
theorem tfZ171 : zeroI Tryz.prog 171 = (some (.nils :: [])) := by kernel_rfl
theorem tfA172 : aggI Tryz.prog 172 = (some (true, 274)) := by kernel_rfl
theorem tfP172 : placesI Tryz.prog 172 = (some ((0, 272) :: ((272, 1) :: ((273, 1) :: [])))) := by kernel_rfl
theorem tfF172x0 : fldI Tryz.prog 172 0 = (some 0) := by kernel_rfl
theorem tfG172x0 : fieldI Tryz.prog 172 0 = (some (true, (0, 272))) := by kernel_rfl
theorem tfF172x1 : fldI Tryz.prog 172 1 = (some 272) := by kernel_rfl
theorem tfG172x1 : fieldI Tryz.prog 172 1 = (some (false, (272, 1))) := by kernel_rfl
theorem tfF172x2 : fldI Tryz.prog 172 2 = (some 273) := by kernel_rfl
theorem tfG172x2 : fieldI Tryz.prog 172 2 = (some (false, (273, 1))) := by kernel_rfl
theorem tfA173 : aggI Tryz.prog 173 = (some (true, 274)) := by kernel_rfl
theorem tfP173 : placesI Tryz.prog 173 = (some ((0, 272) :: ((272, 1) :: ((273, 1) :: [])))) := by kernel_rfl
theorem tfF173x0 : fldI Tryz.prog 173 0 = (some 0) := by kernel_rfl
theorem tfG173x0 : fieldI Tryz.prog 173 0 = (some (true, (0, 272))) := by kernel_rfl
theorem tfF173x1 : fldI Tryz.prog 173 1 = (some 272) := by kernel_rfl
theorem tfG173x1 : fieldI Tryz.prog 173 1 = (some (false, (272, 1))) := by kernel_rfl
theorem tfF173x2 : fldI Tryz.prog 173 2 = (some 273) := by kernel_rfl
theorem tfG173x2 : fieldI Tryz.prog 173 2 = (some (false, (273, 1))) := by kernel_rfl
theorem tfA174 : aggI Tryz.prog 174 = (some (false, 1)) := by kernel_rfl
theorem tfZ174 : zeroI Tryz.prog 174 = (some ((.val (.pointer none)) :: [])) := by kernel_rfl
theorem tfA175 : aggI Tryz.prog 175 = (some (false, 1)) := by kernel_rfl
theorem tfZ175 : zeroI Tryz.prog 175 = (some ((.int .u64 (0 : Int)) :: [])) := by kernel_rfl
theorem tfU175 : Program.underlying Tryz.prog 175 = (some (.int .u64)) := by kernel_rfl
theorem tfA176 : aggI Tryz.prog 176 = (some (true, 3)) := by kernel_rfl
theorem tfZ176 : zeroI Tryz.prog 176 = (some ((.val (.pointer none)) :: ((.val (.pointer none)) :: ((.int .u64 (0 : Int)) :: [])))) := by kernel_rfl
theorem tfP176 : placesI Tryz.prog 176 = (some ((0, 1) :: ((1, 1) :: ((2, 1) :: [])))) := by kernel_rfl
theorem tfF176x0 : fldI Tryz.prog 176 0 = (some 0) := by kernel_rfl
theorem tfG176x0 : fieldI Tryz.prog 176 0 = (some (false, (0, 1))) := by kernel_rfl
theorem tfF176x1 : fldI Tryz.prog 176 1 = (some 1) := by kernel_rfl
theorem tfG176x1 : fieldI Tryz.prog 176 1 = (some (false, (1, 1))) := by kernel_rfl
theorem tfF176x2 : fldI Tryz.prog 176 2 = (some 2) := by kernel_rfl
theorem tfG176x2 : fieldI Tryz.prog 176 2 = (some (false, (2, 1))) := by kernel_rfl
theorem tfA177 : aggI Tryz.prog 177 = (some (true, 3)) := by kernel_rfl
theorem tfZ177 : zeroI Tryz.prog 177 = (some ((.val (.pointer none)) :: ((.val (.pointer none)) :: ((.int .u64 (0 : Int)) :: [])))) := by kernel_rfl
theorem tfP177 : placesI Tryz.prog 177 = (some ((0, 1) :: ((1, 1) :: ((2, 1) :: [])))) := by kernel_rfl
theorem tfF177x0 : fldI Tryz.prog 177 0 = (some 0) := by kernel_rfl
theorem tfG177x0 : fieldI Tryz.prog 177 0 = (some (false, (0, 1))) := by kernel_rfl
theorem tfF177x1 : fldI Tryz.prog 177 1 = (some 1) := by kernel_rfl
theorem tfG177x1 : fieldI Tryz.prog 177 1 = (some (false, (1, 1))) := by kernel_rfl
theorem tfF177x2 : fldI Tryz.prog 177 2 = (some 2) := by kernel_rfl
theorem tfG177x2 : fieldI Tryz.prog 177 2 = (some (false, (2, 1))) := by kernel_rfl
theorem tfA178 : aggI Tryz.prog 178 = (some (false, 1)) := by kernel_rfl
theorem tfZ178 : zeroI Tryz.prog 178 = (some ((.val .nilFunc) :: [])) := by kernel_rfl
theorem tfA179 : aggI Tryz.prog 179 = (some (false, 1)) := by kernel_rfl
theorem tfZ179 : zeroI Tryz.prog 179 = (some ((.val .nilIface) :: [])) := by kernel_rfl
theorem tfA180 : aggI Tryz.prog 180 = (some (false, 1)) := by kernel_rfl
theorem tfZ180 : zeroI Tryz.prog 180 = (some ((.val .nilIface) :: [])) := by kernel_rfl
theorem tfA181 : aggI Tryz.prog 181 = (some (false, 1)) := by kernel_rfl
theorem tfZ181 : zeroI Tryz.prog 181 = (some ((.val .nilFunc) :: [])) := by kernel_rfl
theorem tfA182 : aggI Tryz.prog 182 = (some (false, 1)) := by kernel_rfl
theorem tfZ182 : zeroI Tryz.prog 182 = (some ((.int .u8 (0 : Int)) :: [])) := by kernel_rfl
theorem tfU182 : Program.underlying Tryz.prog 182 = (some (.int .u8)) := by kernel_rfl
theorem tfA183 : aggI Tryz.prog 183 = (some (false, 1)) := by kernel_rfl
theorem tfZ183 : zeroI Tryz.prog 183 = (some ((.val .nilFunc) :: [])) := by kernel_rfl
theorem tfA184 : aggI Tryz.prog 184 = (some (false, 1)) := by kernel_rfl
theorem tfZ184 : zeroI Tryz.prog 184 = (some ((.val .nilFunc) :: [])) := by kernel_rfl
theorem tfA185 : aggI Tryz.prog 185 = (some (false, 1)) := by kernel_rfl
theorem tfZ185 : zeroI Tryz.prog 185 = (some ((.val .nilFunc) :: [])) := by kernel_rfl
theorem tfA186 : aggI Tryz.prog 186 = (some (false, 1)) := by kernel_rfl
theorem tfZ186 : zeroI Tryz.prog 186 = (some ((.val .nilFunc) :: [])) := by kernel_rfl
theorem tfA187 : aggI Tryz.prog 187 = (some (false, 1)) := by kernel_rfl
theorem tfZ187 : zeroI Tryz.prog 187 = (some ((.val .nilFunc) :: [])) := by kernel_rfl
theorem tfA188 : aggI Tryz.prog 188 = (some (false, 1)) := by kernel_rfl
theorem tfZ188 : zeroI Tryz.prog 188 = (some ((.val .nilFunc) :: [])) := by kernel_rfl
theorem tfA189 : aggI Tryz.prog 189 = (some (false, 1)) := by kernel_rfl
theorem tfZ189 : zeroI Tryz.prog 189 = (some ((.val (.map none)) :: [])) := by kernel_rfl
theorem tfA190 : aggI Tryz.prog 190 = (some (true, 64)) := by kernel_rfl
theorem tfA191 : aggI Tryz.prog 191 = (some (true, 64)) := by kernel_rfl
theorem tfA192 : aggI Tryz.prog 192 = (some (false, 1)) := by kernel_rfl
theorem tfA193 : aggI Tryz.prog 193 = (some (false, 1)) := by kernel_rfl
theorem tfZ193 : zeroI Tryz.prog 193 = (some ((.val .nilFunc) :: [])) := by kernel_rfl
theorem tfE194 : elemI Tryz.prog 194 = (some (.str, 16)) := by kernel_rfl
theorem tfA194 : aggI Tryz.prog 194 = (some (false, 1)) := by kernel_rfl
theorem tfZ194 : zeroI Tryz.prog 194 = (some (.nils :: [])) := by kernel_rfl
theorem tfA195 : aggI Tryz.prog 195 = (some (false, 1)) := by kernel_rfl
theorem tfZ195 : zeroI Tryz.prog 195 = (some ((.val .nilFunc) :: [])) := by kernel_rfl
theorem tfA196 : aggI Tryz.prog 196 = (some (false, 1)) := by kernel_rfl
theorem tfZ196 : zeroI Tryz.prog 196 = (some ((.val .nilFunc) :: [])) := by kernel_rfl
theorem tfA197 : aggI Tryz.prog 197 = (some (false, 1)) := by kernel_rfl
theorem tfZ197 : zeroI Tryz.prog 197 = (some ((.val .nilFunc) :: [])) := by kernel_rfl
theorem tfA198 : aggI Tryz.prog 198 = (some (false, 1)) := by kernel_rfl
theorem tfZ198 : zeroI Tryz.prog 198 = (some ((.val .nilFunc) :: [])) := by kernel_rfl
theorem tfA199 : aggI Tryz.prog 199 = (some (false, 1)) := by kernel_rfl
theorem tfZ199 : zeroI Tryz.prog 199 = (some ((.val .nilFunc) :: [])) := by kernel_rfl
theorem tfA200 : aggI Tryz.prog 200 = (some (false, 1)) := by kernel_rfl
theorem tfZ200 : zeroI Tryz.prog 200 = (some ((.val .nilFunc) :: [])) := by kernel_rfl
theorem tfA201 : aggI Tryz.prog 201 = (some (false, 1)) := by kernel_rfl
theorem tfZ201 : zeroI Tryz.prog 201 = (some ((.val .nilFunc) :: [])) := by kernel_rfl
theorem tfA202 : aggI Tryz.prog 202 = (some (false, 1)) := by kernel_rfl
theorem tfZ202 : zeroI Tryz.prog 202 = (some ((.val .nilFunc) :: [])) := by kernel_rfl
theorem tfA203 : aggI Tryz.prog 203 = (some (false, 1)) := by kernel_rfl
theorem tfZ203 : zeroI Tryz.prog 203 = (some ((.val .nilFunc) :: [])) := by kernel_rfl
theorem tfA204 : aggI Tryz.prog 204 = (some (false, 1)) := by kernel_rfl
theorem tfZ204 : zeroI Tryz.prog 204 = (some ((.val .nilFunc) :: [])) := by kernel_rfl
theorem tfA205 : aggI Tryz.prog 205 = (some (false, 1)) := by kernel_rfl
theorem tfA206 : aggI Tryz.prog 206 = (some (false, 1)) := by kernel_rfl
theorem tfZ206 : zeroI Tryz.prog 206 = (some ((.val (.pointer none)) :: [])) := by kernel_rfl
theorem tfA207 : aggI Tryz.prog 207 = (some (false, 1)) := by kernel_rfl
theorem tfZ207 : zeroI Tryz.prog 207 = (some ((.val (.pointer none)) :: [])) := by kernel_rfl
theorem tfE208 : elemI Tryz.prog 208 = (some ((.pair (.pair (.int .i32) (.pair (.int .i32) .unit)) (.pair (.int .u8) .unit)), 12)) := by kernel_rfl
theorem tfA208 : aggI Tryz.prog 208 = (some (false, 1)) := by kernel_rfl
theorem tfZ208 : zeroI Tryz.prog 208 = (some (.nils :: [])) := by kernel_rfl
theorem tfA209 : aggI Tryz.prog 209 = (some (true, 4)) := by kernel_rfl
theorem tfZ209 : zeroI Tryz.prog 209 = (some ((.val (.pointer none)) :: ((.val (.pointer none)) :: (.nils :: ((.val (.pointer none)) :: []))))) := by kernel_rfl
theorem tfP209 : placesI Tryz.prog 209 = (some ((0, 1) :: ((1, 1) :: ((2, 1) :: ((3, 1) :: []))))) := by kernel_rfl
theorem tfF209x0 : fldI Tryz.prog 209 0 = (some 0) := by kernel_rfl
theorem tfG209x0 : fieldI Tryz.prog 209 0 = (some (false, (0, 1))) := by kernel_rfl
theorem tfF209x1 : fldI Tryz.prog 209 1 = (some 1) := by kernel_rfl
theorem tfG209x1 : fieldI Tryz.prog 209 1 = (some (false, (1, 1))) := by kernel_rfl
theorem tfF209x2 : fldI Tryz.prog 209 2 = (some 2) := by kernel_rfl
theorem tfG209x2 : fieldI Tryz.prog 209 2 = (some (false, (2, 1))) := by kernel_rfl
theorem tfF209x3 : fldI Tryz.prog 209 3 = (some 3) := by kernel_rfl
theorem tfG209x3 : fieldI Tryz.prog 209 3 = (some (false, (3, 1))) := by kernel_rfl
theorem tfA210 : aggI Tryz.prog 210 = (some (true, 4)) := by kernel_rfl
theorem tfZ210 : zeroI Tryz.prog 210 = (some ((.val (.pointer none)) :: ((.val (.pointer none)) :: (.nils :: ((.val (.pointer none)) :: []))))) := by kernel_rfl
theorem tfP210 : placesI Tryz.prog 210 = (some ((0, 1) :: ((1, 1) :: ((2, 1) :: ((3, 1) :: []))))) := by kernel_rfl
theorem tfF210x0 : fldI Tryz.prog 210 0 = (some 0) := by kernel_rfl
theorem tfG210x0 : fieldI Tryz.prog 210 0 = (some (false, (0, 1))) := by kernel_rfl
theorem tfF210x1 : fldI Tryz.prog 210 1 = (some 1) := by kernel_rfl
theorem tfG210x1 : fieldI Tryz.prog 210 1 = (some (false, (1, 1))) := by kernel_rfl
theorem tfF210x2 : fldI Tryz.prog 210 2 = (some 2) := by kernel_rfl
theorem tfG210x2 : fieldI Tryz.prog 210 2 = (some (false, (2, 1))) := by kernel_rfl
theorem tfF210x3 : fldI Tryz.prog 210 3 = (some 3) := by kernel_rfl
theorem tfG210x3 : fieldI Tryz.prog 210 3 = (some (false, (3, 1))) := by kernel_rfl
theorem tfA211 : aggI Tryz.prog 211 = (some (false, 1)) := by kernel_rfl
theorem tfZ211 : zeroI Tryz.prog 211 = (some ((.val .nilFunc) :: [])) := by kernel_rfl
theorem tfA212 : aggI Tryz.prog 212 = (some (false, 1)) := by kernel_rfl
theorem tfA213 : aggI Tryz.prog 213 = (some (true, 3)) := by kernel_rfl
theorem tfZ213 : zeroI Tryz.prog 213 = (some ((.int .i32 (0 : Int)) :: ((.int .i32 (0 : Int)) :: ((.int .u8 (0 : Int)) :: [])))) := by kernel_rfl
theorem tfP213 : placesI Tryz.prog 213 = (some ((0, 1) :: ((1, 1) :: ((2, 1) :: [])))) := by kernel_rfl
theorem tfF213x0 : fldI Tryz.prog 213 0 = (some 0) := by kernel_rfl
theorem tfG213x0 : fieldI Tryz.prog 213 0 = (some (false, (0, 1))) := by kernel_rfl
theorem tfF213x1 : fldI Tryz.prog 213 1 = (some 1) := by kernel_rfl
theorem tfG213x1 : fieldI Tryz.prog 213 1 = (some (false, (1, 1))) := by kernel_rfl
theorem tfF213x2 : fldI Tryz.prog 213 2 = (some 2) := by kernel_rfl
theorem tfG213x2 : fieldI Tryz.prog 213 2 = (some (false, (2, 1))) := by kernel_rfl
theorem tfA214 : aggI Tryz.prog 214 = (some (true, 3)) := by kernel_rfl
theorem tfZ214 : zeroI Tryz.prog 214 = (some ((.int .i32 (0 : Int)) :: ((.int .i32 (0 : Int)) :: ((.int .u8 (0 : Int)) :: [])))) := by kernel_rfl
theorem tfP214 : placesI Tryz.prog 214 = (some ((0, 1) :: ((1, 1) :: ((2, 1) :: [])))) := by kernel_rfl
theorem tfF214x0 : fldI Tryz.prog 214 0 = (some 0) := by kernel_rfl
theorem tfG214x0 : fieldI Tryz.prog 214 0 = (some (false, (0, 1))) := by kernel_rfl
theorem tfF214x1 : fldI Tryz.prog 214 1 = (some 1) := by kernel_rfl
theorem tfG214x1 : fieldI Tryz.prog 214 1 = (some (false, (1, 1))) := by kernel_rfl
theorem tfF214x2 : fldI Tryz.prog 214 2 = (some 2) := by kernel_rfl
theorem tfG214x2 : fieldI Tryz.prog 214 2 = (some (false, (2, 1))) := by kernel_rfl
theorem tfA215 : aggI Tryz.prog 215 = (some (false, 1)) := by kernel_rfl
theorem tfA216 : aggI Tryz.prog 216 = (some (false, 1)) := by kernel_rfl
theorem tfZ216 : zeroI Tryz.prog 216 = (some ((.val (.map none)) :: [])) := by kernel_rfl
theorem tfA217 : aggI Tryz.prog 217 = (some (true, 2)) := by kernel_rfl
theorem tfZ217 : zeroI Tryz.prog 217 = (some ((.val (.map none)) :: ((.val (.map none)) :: []))) := by kernel_rfl
theorem tfP217 : placesI Tryz.prog 217 = (some ((0, 1) :: ((1, 1) :: []))) := by kernel_rfl
theorem tfF217x0 : fldI Tryz.prog 217 0 = (some 0) := by kernel_rfl
theorem tfG217x0 : fieldI Tryz.prog 217 0 = (some (false, (0, 1))) := by kernel_rfl
theorem tfF217x1 : fldI Tryz.prog 217 1 = (some 1) := by kernel_rfl
theorem tfG217x1 : fieldI Tryz.prog 217 1 = (some (false, (1, 1))) := by kernel_rfl
theorem tfA218 : aggI Tryz.prog 218 = (some (true, 2)) := by kernel_rfl
theorem tfZ218 : zeroI Tryz.prog 218 = (some ((.val (.map none)) :: ((.val (.map none)) :: []))) := by kernel_rfl
theorem tfP218 : placesI Tryz.prog 218 = (some ((0, 1) :: ((1, 1) :: []))) := by kernel_rfl
theorem tfF218x0 : fldI Tryz.prog 218 0 = (some 0) := by kernel_rfl
theorem tfG218x0 : fieldI Tryz.prog 218 0 = (some (false, (0, 1))) := by kernel_rfl
theorem tfF218x1 : fldI Tryz.prog 218 1 = (some 1) := by kernel_rfl
theorem tfG218x1 : fieldI Tryz.prog 218 1 = (some (false, (1, 1))) := by kernel_rfl
theorem tfA219 : aggI Tryz.prog 219 = (some (true, 1)) := by kernel_rfl
theorem tfZ219 : zeroI Tryz.prog 219 = (some ((.val (.pointer none)) :: [])) := by kernel_rfl
theorem tfP219 : placesI Tryz.prog 219 = (some ((0, 1) :: [])) := by kernel_rfl
theorem tfF219x0 : fldI Tryz.prog 219 0 = (some 0) := by kernel_rfl
theorem tfG219x0 : fieldI Tryz.prog 219 0 = (some (false, (0, 1))) := by kernel_rfl
theorem tfA220 : aggI Tryz.prog 220 = (some (true, 1)) := by kernel_rfl
theorem tfZ220 : zeroI Tryz.prog 220 = (some ((.val (.pointer none)) :: [])) := by kernel_rfl
theorem tfP220 : placesI Tryz.prog 220 = (some ((0, 1) :: [])) := by kernel_rfl
theorem tfF220x0 : fldI Tryz.prog 220 0 = (some 0) := by kernel_rfl
theorem tfG220x0 : fieldI Tryz.prog 220 0 = (some (false, (0, 1))) := by kernel_rfl
theorem tfA221 : aggI Tryz.prog 221 = (some (false, 1)) := by kernel_rfl
theorem tfZ221 : zeroI Tryz.prog 221 = (some ((.val (.pointer none)) :: [])) := by kernel_rfl
theorem tfA222 : aggI Tryz.prog 222 = (some (false, 1)) := by kernel_rfl
theorem tfZ222 : zeroI Tryz.prog 222 = (some ((.val .nilFunc) :: [])) := by kernel_rfl
theorem tfA223 : aggI Tryz.prog 223 = (some (false, 1)) := by kernel_rfl
theorem tfZ223 : zeroI Tryz.prog 223 = (some ((.val .nilFunc) :: [])) := by kernel_rfl
theorem tfA224 : aggI Tryz.prog 224 = (some (false, 1)) := by kernel_rfl
theorem tfZ224 : zeroI Tryz.prog 224 = (some ((.val .nilFunc) :: [])) := by kernel_rfl
theorem tfA225 : aggI Tryz.prog 225 = (some (false, 1)) := by kernel_rfl
theorem tfZ225 : zeroI Tryz.prog 225 = (some ((.val .nilIface) :: [])) := by kernel_rfl
theorem tfA226 : aggI Tryz.prog 226 = (some (false, 1)) := by kernel_rfl
theorem tfA227 : aggI Tryz.prog 227 = (some (false, 1)) := by kernel_rfl
theorem tfZ227 : zeroI Tryz.prog 227 = (some ((.val .nilFunc) :: [])) := by kernel_rfl
theorem tfA228 : aggI Tryz.prog 228 = (some (false, 1)) := by kernel_rfl
theorem tfZ228 : zeroI Tryz.prog 228 = (some ((.val .nilIface) :: [])) := by kernel_rfl
theorem tfA229 : aggI Tryz.prog 229 = (some (false, 1)) := by kernel_rfl
theorem tfZ229 : zeroI Tryz.prog 229 = (some ((.val .nilFunc) :: [])) := by kernel_rfl
theorem tfA230 : aggI Tryz.prog 230 = (some (false, 1)) := by kernel_rfl
theorem tfZ230 : zeroI Tryz.prog 230 = (some ((.val .nilIface) :: [])) := by kernel_rfl
theorem tfE231 : elemI Tryz.prog 231 = (some (.opq, 16)) := by kernel_rfl
theorem tfA231 : aggI Tryz.prog 231 = (some (false, 1)) := by kernel_rfl
theorem tfZ231 : zeroI Tryz.prog 231 = (some (.nils :: [])) := by kernel_rfl
theorem tfA232 : aggI Tryz.prog 232 = (some (false, 1)) := by kernel_rfl
theorem tfZ232 : zeroI Tryz.prog 232 = (some ((.val .nilFunc) :: [])) := by kernel_rfl
theorem tfA233 : aggI Tryz.prog 233 = (some (false, 1)) := by kernel_rfl
theorem tfA234 : aggI Tryz.prog 234 = (some (false, 1)) := by kernel_rfl
theorem tfZ234 : zeroI Tryz.prog 234 = (some ((.val .nilFunc) :: [])) := by kernel_rfl
theorem tfA235 : aggI Tryz.prog 235 = (some (false, 1)) := by kernel_rfl
theorem tfA236 : aggI Tryz.prog 236 = (some (false, 1)) := by kernel_rfl
theorem tfZ236 : zeroI Tryz.prog 236 = (some ((.val .nilFunc) :: [])) := by kernel_rfl
theorem tfA237 : aggI Tryz.prog 237 = (some (false, 1)) := by kernel_rfl
theorem tfZ237 : zeroI Tryz.prog 237 = (some ((.val .nilFunc) :: [])) := by kernel_rfl
theorem tfA238 : aggI Tryz.prog 238 = (some (false, 1)) := by kernel_rfl
theorem tfZ238 : zeroI Tryz.prog 238 = (some ((.val .nilFunc) :: [])) := by kernel_rfl
theorem tfA239 : aggI Tryz.prog 239 = (some (false, 1)) := by kernel_rfl
theorem tfZ239 : zeroI Tryz.prog 239 = (some ((.val .nilFunc) :: [])) := by kernel_rfl
theorem tfA240 : aggI Tryz.prog 240 = (some (false, 1)) := by kernel_rfl
theorem tfZ240 : zeroI Tryz.prog 240 = (some ((.val .nilFunc) :: [])) := by kernel_rfl
theorem tfA241 : aggI Tryz.prog 241 = (some (false, 1)) := by kernel_rfl
theorem tfZ241 : zeroI Tryz.prog 241 = (some ((.val .nilFunc) :: [])) := by kernel_rfl
theorem tfA242 : aggI Tryz.prog 242 = (some (false, 1)) := by kernel_rfl
theorem tfZ242 : zeroI Tryz.prog 242 = (some ((.val .nilFunc) :: [])) := by kernel_rfl
theorem tfA243 : aggI Tryz.prog 243 = (some (false, 1)) := by kernel_rfl
theorem tfZ243 : zeroI Tryz.prog 243 = (some ((.val .nilFunc) :: [])) := by kernel_rfl
theorem tfA244 : aggI Tryz.prog 244 = (some (false, 1)) := by kernel_rfl
theorem tfZ244 : zeroI Tryz.prog 244 = (some ((.val .nilFunc) :: [])) := by kernel_rfl
theorem tfA245 : aggI Tryz.prog 245 = (some (false, 1)) := by kernel_rfl
theorem tfZ245 : zeroI Tryz.prog 245 = (some ((.val (.map none)) :: [])) := by kernel_rfl
theorem tfA246 : aggI Tryz.prog 246 = (some (false, 1)) := by kernel_rfl
theorem tfZ246 : zeroI Tryz.prog 246 = (some ((.val (.map none)) :: [])) := by kernel_rfl
theorem tfA247 : aggI Tryz.prog 247 = (some (false, 1)) := by kernel_rfl
theorem tfZ247 : zeroI Tryz.prog 247 = (some ((.val .nilFunc) :: [])) := by kernel_rfl
theorem tfA248 : aggI Tryz.prog 248 = (some (false, 1)) := by kernel_rfl
theorem tfZ248 : zeroI Tryz.prog 248 = (some ((.val .nilFunc) :: [])) := by kernel_rfl
theorem tfA249 : aggI Tryz.prog 249 = (some (false, 1)) := by kernel_rfl
theorem tfZ249 : zeroI Tryz.prog 249 = (some ((.val .nilFunc) :: [])) := by kernel_rfl
theorem tfA250 : aggI Tryz.prog 250 = (some (false, 1)) := by kernel_rfl
theorem tfZ250 : zeroI Tryz.prog 250 = (some ((.val (.map none)) :: [])) := by kernel_rfl
theorem tfA251 : aggI Tryz.prog 251 = (some (false, 1)) := by kernel_rfl
theorem tfZ251 : zeroI Tryz.prog 251 = (some ((.val .nilFunc) :: [])) := by kernel_rfl
theorem tfE252 : elemI Tryz.prog 252 = (some ((.pair (.int .i32) (.pair (.int .i32) (.pair (.int .u8) .unit))), 12)) := by kernel_rfl
theorem tfA252 : aggI Tryz.prog 252 = (some (false, 1)) := by kernel_rfl
theorem tfZ252 : zeroI Tryz.prog 252 = (some (.nils :: [])) := by kernel_rfl
theorem tfA253 : aggI Tryz.prog 253 = (some (true, 2)) := by kernel_rfl
theorem tfZ253 : zeroI Tryz.prog 253 = (some (.nils :: ((.bool false) :: []))) := by kernel_rfl
theorem tfP253 : placesI Tryz.prog 253 = (some ((0, 1) :: ((1, 1) :: []))) := by kernel_rfl
theorem tfF253x0 : fldI Tryz.prog 253 0 = (some 0) := by kernel_rfl
theorem tfG253x0 : fieldI Tryz.prog 253 0 = (some (false, (0, 1))) := by kernel_rfl
theorem tfF253x1 : fldI Tryz.prog 253 1 = (some 1) := by kernel_rfl
theorem tfG253x1 : fieldI Tryz.prog 253 1 = (some (false, (1, 1))) := by kernel_rfl
theorem tfA254 : aggI Tryz.prog 254 = (some (true, 2)) := by kernel_rfl
theorem tfZ254 : zeroI Tryz.prog 254 = (some (.nils :: ((.bool false) :: []))) := by kernel_rfl
theorem tfP254 : placesI Tryz.prog 254 = (some ((0, 1) :: ((1, 1) :: []))) := by kernel_rfl
theorem tfF254x0 : fldI Tryz.prog 254 0 = (some 0) := by kernel_rfl
theorem tfG254x0 : fieldI Tryz.prog 254 0 = (some (false, (0, 1))) := by kernel_rfl
theorem tfF254x1 : fldI Tryz.prog 254 1 = (some 1) := by kernel_rfl
theorem tfG254x1 : fieldI Tryz.prog 254 1 = (some (false, (1, 1))) := by kernel_rfl
theorem tfA255 : aggI Tryz.prog 255 = (some (true, 3)) := by kernel_rfl
theorem tfZ255 : zeroI Tryz.prog 255 = (some ((.int .i32 (0 : Int)) :: ((.int .i32 (0 : Int)) :: ((.int .u8 (0 : Int)) :: [])))) := by kernel_rfl
theorem tfP255 : placesI Tryz.prog 255 = (some ((0, 1) :: ((1, 1) :: ((2, 1) :: [])))) := by kernel_rfl
theorem tfF255x0 : fldI Tryz.prog 255 0 = (some 0) := by kernel_rfl
theorem tfG255x0 : fieldI Tryz.prog 255 0 = (some (false, (0, 1))) := by kernel_rfl
theorem tfF255x1 : fldI Tryz.prog 255 1 = (some 1) := by kernel_rfl
theorem tfG255x1 : fieldI Tryz.prog 255 1 = (some (false, (1, 1))) := by kernel_rfl
theorem tfF255x2 : fldI Tryz.prog 255 2 = (some 2) := by kernel_rfl
theorem tfG255x2 : fieldI Tryz.prog 255 2 = (some (false, (2, 1))) := by kernel_rfl
theorem tfA256 : aggI Tryz.prog 256 = (some (true, 3)) := by kernel_rfl
theorem tfZ256 : zeroI Tryz.prog 256 = (some ((.int .i32 (0 : Int)) :: ((.int .i32 (0 : Int)) :: ((.int .u8 (0 : Int)) :: [])))) := by kernel_rfl
theorem tfP256 : placesI Tryz.prog 256 = (some ((0, 1) :: ((1, 1) :: ((2, 1) :: [])))) := by kernel_rfl
theorem tfF256x0 : fldI Tryz.prog 256 0 = (some 0) := by kernel_rfl
theorem tfG256x0 : fieldI Tryz.prog 256 0 = (some (false, (0, 1))) := by kernel_rfl
theorem tfF256x1 : fldI Tryz.prog 256 1 = (some 1) := by kernel_rfl
theorem tfG256x1 : fieldI Tryz.prog 256 1 = (some (false, (1, 1))) := by kernel_rfl
theorem tfF256x2 : fldI Tryz.prog 256 2 = (some 2) := by kernel_rfl
theorem tfG256x2 : fieldI Tryz.prog 256 2 = (some (false, (2, 1))) := by kernel_rfl
theorem tfA257 : aggI Tryz.prog 257 = (some (false, 1)) := by kernel_rfl
theorem tfZ257 : zeroI Tryz.prog 257 = (some ((.val .nilFunc) :: [])) := by kernel_rfl
theorem tfA258 : aggI Tryz.prog 258 = (some (false, 1)) := by kernel_rfl
theorem tfZ258 : zeroI Tryz.prog 258 = (some ((.val .nilFunc) :: [])) := by kernel_rfl
theorem tfA259 : aggI Tryz.prog 259 = (some (false, 1)) := by kernel_rfl
theorem tfZ259 : zeroI Tryz.prog 259 = (some ((.val .nilFunc) :: [])) := by kernel_rfl
theorem tfA260 : aggI Tryz.prog 260 = (some (false, 1)) := by kernel_rfl
theorem tfZ260 : zeroI Tryz.prog 260 = (some ((.val .nilFunc) :: [])) := by kernel_rfl
theorem tfA261 : aggI Tryz.prog 261 = (some (false, 1)) := by kernel_rfl
theorem tfZ261 : zeroI Tryz.prog 261 = (some ((.val .nilFunc) :: [])) := by kernel_rfl
theorem tfA262 : aggI Tryz.prog 262 = (some (false, 1)) := by kernel_rfl
theorem tfZ262 : zeroI Tryz.prog 262 = (some ((.val .nilFunc) :: [])) := by kernel_rfl
theorem tfA263 : aggI Tryz.prog 263 = (some (true, 4)) := by kernel_rfl
theorem tfZ263 : zeroI Tryz.prog 263 = (some ((.val (.pointer none)) :: ((.val (.pointer none)) :: ((.val (.pointer none)) :: ((.str []) :: []))))) := by kernel_rfl
theorem tfP263 : placesI Tryz.prog 263 = (some ((0, 1) :: ((1, 1) :: ((2, 1) :: ((3, 1) :: []))))) := by kernel_rfl
theorem tfF263x0 : fldI Tryz.prog 263 0 = (some 0) := by kernel_rfl
theorem tfG263x0 : fieldI Tryz.prog 263 0 = (some (false, (0, 1))) := by kernel_rfl
theorem tfF263x1 : fldI Tryz.prog 263 1 = (some 1) := by kernel_rfl
theorem tfG263x1 : fieldI Tryz.prog 263 1 = (some (false, (1, 1))) := by kernel_rfl
theorem tfF263x2 : fldI Tryz.prog 263 2 = (some 2) := by kernel_rfl
theorem tfG263x2 : fieldI Tryz.prog 263 2 = (some (false, (2, 1))) := by kernel_rfl
theorem tfF263x3 : fldI Tryz.prog 263 3 = (some 3) := by kernel_rfl
theorem tfG263x3 : fieldI Tryz.prog 263 3 = (some (false, (3, 1))) := by kernel_rfl
theorem tfA264 : aggI Tryz.prog 264 = (some (true, 4)) := by kernel_rfl
theorem tfZ264 : zeroI Tryz.prog 264 = (some ((.val (.pointer none)) :: ((.val (.pointer none)) :: ((.val (.pointer none)) :: ((.str []) :: []))))) := by kernel_rfl
theorem tfP264 : placesI Tryz.prog 264 = (some ((0, 1) :: ((1, 1) :: ((2, 1) :: ((3, 1) :: []))))) := by kernel_rfl
theorem tfF264x0 : fldI Tryz.prog 264 0 = (some 0) := by kernel_rfl
theorem tfG264x0 : fieldI Tryz.prog 264 0 = (some (false, (0, 1))) := by kernel_rfl
theorem tfF264x1 : fldI Tryz.prog 264 1 = (some 1) := by kernel_rfl
theorem tfG264x1 : fieldI Tryz.prog 264 1 = (some (false, (1, 1))) := by kernel_rfl
theorem tfF264x2 : fldI Tryz.prog 264 2 = (some 2) := by kernel_rfl
theorem tfG264x2 : fieldI Tryz.prog 264 2 = (some (false, (2, 1))) := by kernel_rfl
theorem tfF264x3 : fldI Tryz.prog 264 3 = (some 3) := by kernel_rfl
theorem tfG264x3 : fieldI Tryz.prog 264 3 = (some (false, (3, 1))) := by kernel_rfl
theorem tfA265 : aggI Tryz.prog 265 = (some (true, 0)) := by kernel_rfl
theorem tfZ265 : zeroI Tryz.prog 265 = (some []) := by kernel_rfl
theorem tfA266 : aggI Tryz.prog 266 = (some (true, 0)) := by kernel_rfl
theorem tfZ266 : zeroI Tryz.prog 266 = (some []) := by kernel_rfl
theorem tfP266 : placesI Tryz.prog 266 = (some ((0, 0) :: [])) := by kernel_rfl
theorem tfG266x0 : fieldI Tryz.prog 266 0 = (some (true, (0, 0))) := by kernel_rfl
theorem tfA267 : aggI Tryz.prog 267 = (some (true, 0)) := by kernel_rfl
theorem tfZ267 : zeroI Tryz.prog 267 = (some []) := by kernel_rfl
theorem tfP267 : placesI Tryz.prog 267 = (some ((0, 0) :: [])) := by kernel_rfl
theorem tfG267x0 : fieldI Tryz.prog 267 0 = (some (true, (0, 0))) := by kernel_rfl
theorem tfA268 : aggI Tryz.prog 268 = (some (false, 1)) := by kernel_rfl
theorem tfZ268 : zeroI Tryz.prog 268 = (some ((.val .nilFunc) :: [])) := by kernel_rfl
theorem tfA269 : aggI Tryz.prog 269 = (some (false, 1)) := by kernel_rfl
theorem tfZ269 : zeroI Tryz.prog 269 = (some ((.int .u8 (0 : Int)) :: [])) := by kernel_rfl
theorem tfU269 : Program.underlying Tryz.prog 269 = (some (.int .u8)) := by kernel_rfl
theorem tfA270 : aggI Tryz.prog 270 = (some (false, 1)) := by kernel_rfl
theorem tfZ270 : zeroI Tryz.prog 270 = (some ((.val .nilFunc) :: [])) := by kernel_rfl
theorem tfA271 : aggI Tryz.prog 271 = (some (false, 1)) := by kernel_rfl
theorem tfZ271 : zeroI Tryz.prog 271 = (some ((.val (.pointer none)) :: [])) := by kernel_rfl
theorem tfA272 : aggI Tryz.prog 272 = (some (false, 1)) := by kernel_rfl
theorem tfZ272 : zeroI Tryz.prog 272 = (some ((.int .i32 (0 : Int)) :: [])) := by kernel_rfl
theorem tfU272 : Program.underlying Tryz.prog 272 = (some (.int .i32)) := by kernel_rfl
theorem tfA273 : aggI Tryz.prog 273 = (some (false, 1)) := by kernel_rfl
theorem tfZ273 : zeroI Tryz.prog 273 = (some ((.int .i32 (0 : Int)) :: [])) := by kernel_rfl
theorem tfU273 : Program.underlying Tryz.prog 273 = (some (.int .i32)) := by kernel_rfl
theorem tfA274 : aggI Tryz.prog 274 = (some (true, 11)) := by kernel_rfl
theorem tfZ274 : zeroI Tryz.prog 274 = (some ((.int .u64 (0 : Int)) :: ((.int .u64 (0 : Int)) :: ((.int .u32 (0 : Int)) :: ((.int .u8 (0 : Int)) :: ((.int .u8 (0 : Int)) :: ((.int .u8 (0 : Int)) :: ((.int .u8 (0 : Int)) :: ((.val .nilFunc) :: ((.val (.pointer none)) :: ((.int .i32 (0 : Int)) :: ((.int .i32 (0 : Int)) :: [])))))))))))) := by kernel_rfl
theorem tfP274 : placesI Tryz.prog 274 = (some ((0, 1) :: ((1, 1) :: ((2, 1) :: ((3, 1) :: ((4, 1) :: ((5, 1) :: ((6, 1) :: ((7, 1) :: ((8, 1) :: ((9, 1) :: ((10, 1) :: [])))))))))))) := by kernel_rfl
theorem tfF274x0 : fldI Tryz.prog 274 0 = (some 0) := by kernel_rfl
theorem tfG274x0 : fieldI Tryz.prog 274 0 = (some (false, (0, 1))) := by kernel_rfl
theorem tfF274x1 : fldI Tryz.prog 274 1 = (some 1) := by kernel_rfl
theorem tfG274x1 : fieldI Tryz.prog 274 1 = (some (false, (1, 1))) := by kernel_rfl
theorem tfF274x2 : fldI Tryz.prog 274 2 = (some 2) := by kernel_rfl
theorem tfG274x2 : fieldI Tryz.prog 274 2 = (some (false, (2, 1))) := by kernel_rfl
theorem tfF274x3 : fldI Tryz.prog 274 3 = (some 3) := by kernel_rfl
theorem tfG274x3 : fieldI Tryz.prog 274 3 = (some (false, (3, 1))) := by kernel_rfl
theorem tfF274x4 : fldI Tryz.prog 274 4 = (some 4) := by kernel_rfl
theorem tfG274x4 : fieldI Tryz.prog 274 4 = (some (false, (4, 1))) := by kernel_rfl
theorem tfF274x5 : fldI Tryz.prog 274 5 = (some 5) := by kernel_rfl
theorem tfG274x5 : fieldI Tryz.prog 274 5 = (some (false, (5, 1))) := by kernel_rfl
theorem tfF274x6 : fldI Tryz.prog 274 6 = (some 6) := by kernel_rfl
theorem tfG274x6 : fieldI Tryz.prog 274 6 = (some (false, (6, 1))) := by kernel_rfl
theorem tfF274x7 : fldI Tryz.prog 274 7 = (some 7) := by kernel_rfl
theorem tfG274x7 : fieldI Tryz.prog 274 7 = (some (false, (7, 1))) := by kernel_rfl
theorem tfF274x8 : fldI Tryz.prog 274 8 = (some 8) := by kernel_rfl
theorem tfG274x8 : fieldI Tryz.prog 274 8 = (some (false, (8, 1))) := by kernel_rfl
theorem tfF274x9 : fldI Tryz.prog 274 9 = (some 9) := by kernel_rfl
theorem tfG274x9 : fieldI Tryz.prog 274 9 = (some (false, (9, 1))) := by kernel_rfl
theorem tfF274x10 : fldI Tryz.prog 274 10 = (some 10) := by kernel_rfl
theorem tfG274x10 : fieldI Tryz.prog 274 10 = (some (false, (10, 1))) := by kernel_rfl
theorem tfA275 : aggI Tryz.prog 275 = (some (true, 11)) := by kernel_rfl
theorem tfZ275 : zeroI Tryz.prog 275 = (some ((.int .u64 (0 : Int)) :: ((.int .u64 (0 : Int)) :: ((.int .u32 (0 : Int)) :: ((.int .u8 (0 : Int)) :: ((.int .u8 (0 : Int)) :: ((.int .u8 (0 : Int)) :: ((.int .u8 (0 : Int)) :: ((.val .nilFunc) :: ((.val (.pointer none)) :: ((.int .i32 (0 : Int)) :: ((.int .i32 (0 : Int)) :: [])))))))))))) := by kernel_rfl
theorem tfP275 : placesI Tryz.prog 275 = (some ((0, 1) :: ((1, 1) :: ((2, 1) :: ((3, 1) :: ((4, 1) :: ((5, 1) :: ((6, 1) :: ((7, 1) :: ((8, 1) :: ((9, 1) :: ((10, 1) :: [])))))))))))) := by kernel_rfl
theorem tfF275x0 : fldI Tryz.prog 275 0 = (some 0) := by kernel_rfl
theorem tfG275x0 : fieldI Tryz.prog 275 0 = (some (false, (0, 1))) := by kernel_rfl
theorem tfF275x1 : fldI Tryz.prog 275 1 = (some 1) := by kernel_rfl
theorem tfG275x1 : fieldI Tryz.prog 275 1 = (some (false, (1, 1))) := by kernel_rfl
theorem tfF275x2 : fldI Tryz.prog 275 2 = (some 2) := by kernel_rfl
theorem tfG275x2 : fieldI Tryz.prog 275 2 = (some (false, (2, 1))) := by kernel_rfl
theorem tfF275x3 : fldI Tryz.prog 275 3 = (some 3) := by kernel_rfl
theorem tfG275x3 : fieldI Tryz.prog 275 3 = (some (false, (3, 1))) := by kernel_rfl
theorem tfF275x4 : fldI Tryz.prog 275 4 = (some 4) := by kernel_rfl
theorem tfG275x4 : fieldI Tryz.prog 275 4 = (some (false, (4, 1))) := by kernel_rfl
theorem tfF275x5 : fldI Tryz.prog 275 5 = (some 5) := by kernel_rfl
theorem tfG275x5 : fieldI Tryz.prog 275 5 = (some (false, (5, 1))) := by kernel_rfl
theorem tfF275x6 : fldI Tryz.prog 275 6 = (some 6) := by kernel_rfl
theorem tfG275x6 : fieldI Tryz.prog 275 6 = (some (false, (6, 1))) := by kernel_rfl
theorem tfF275x7 : fldI Tryz.prog 275 7 = (some 7) := by kernel_rfl
theorem tfG275x7 : fieldI Tryz.prog 275 7 = (some (false, (7, 1))) := by kernel_rfl
theorem tfF275x8 : fldI Tryz.prog 275 8 = (some 8) := by kernel_rfl
theorem tfG275x8 : fieldI Tryz.prog 275 8 = (some (false, (8, 1))) := by kernel_rfl
theorem tfF275x9 : fldI Tryz.prog 275 9 = (some 9) := by kernel_rfl
theorem tfG275x9 : fieldI Tryz.prog 275 9 = (some (false, (9, 1))) := by kernel_rfl
theorem tfF275x10 : fldI Tryz.prog 275 10 = (some 10) := by kernel_rfl
theorem tfG275x10 : fieldI Tryz.prog 275 10 = (some (false, (10, 1))) := by kernel_rfl
theorem tfA276 : aggI Tryz.prog 276 = (some (true, 9)) := by kernel_rfl
theorem tfZ276 : zeroI Tryz.prog 276 = (some ((.int .i64 (0 : Int)) :: ((.int .i32 (0 : Int)) :: ((.int .i32 (0 : Int)) :: ((.str []) :: ((.str []) :: ((.int .u8 (0 : Int)) :: ((.int .u8 (0 : Int)) :: ((.int .i32 (0 : Int)) :: ((.bool false) :: [])))))))))) := by kernel_rfl
theorem tfP276 : placesI Tryz.prog 276 = (some ((0, 1) :: ((1, 1) :: ((2, 1) :: ((3, 1) :: ((4, 1) :: ((5, 1) :: ((6, 1) :: ((7, 1) :: ((8, 1) :: [])))))))))) := by kernel_rfl
theorem tfF276x0 : fldI Tryz.prog 276 0 = (some 0) := by kernel_rfl
theorem tfG276x0 : fieldI Tryz.prog 276 0 = (some (false, (0, 1))) := by kernel_rfl
theorem tfF276x1 : fldI Tryz.prog 276 1 = (some 1) := by kernel_rfl
theorem tfG276x1 : fieldI Tryz.prog 276 1 = (some (false, (1, 1))) := by kernel_rfl
theorem tfF276x2 : fldI Tryz.prog 276 2 = (some 2) := by kernel_rfl
theorem tfG276x2 : fieldI Tryz.prog 276 2 = (some (false, (2, 1))) := by kernel_rfl
theorem tfF276x3 : fldI Tryz.prog 276 3 = (some 3) := by kernel_rfl
theorem tfG276x3 : fieldI Tryz.prog 276 3 = (some (false, (3, 1))) := by kernel_rfl
theorem tfF276x4 : fldI Tryz.prog 276 4 = (some 4) := by kernel_rfl
theorem tfG276x4 : fieldI Tryz.prog 276 4 = (some (false, (4, 1))) := by kernel_rfl
theorem tfF276x5 : fldI Tryz.prog 276 5 = (some 5) := by kernel_rfl
theorem tfG276x5 : fieldI Tryz.prog 276 5 = (some (false, (5, 1))) := by kernel_rfl
theorem tfF276x6 : fldI Tryz.prog 276 6 = (some 6) := by kernel_rfl
theorem tfG276x6 : fieldI Tryz.prog 276 6 = (some (false, (6, 1))) := by kernel_rfl
theorem tfF276x7 : fldI Tryz.prog 276 7 = (some 7) := by kernel_rfl
theorem tfG276x7 : fieldI Tryz.prog 276 7 = (some (false, (7, 1))) := by kernel_rfl
theorem tfF276x8 : fldI Tryz.prog 276 8 = (some 8) := by kernel_rfl
theorem tfG276x8 : fieldI Tryz.prog 276 8 = (some (false, (8, 1))) := by kernel_rfl
theorem tfA277 : aggI Tryz.prog 277 = (some (true, 9)) := by kernel_rfl
theorem tfZ277 : zeroI Tryz.prog 277 = (some ((.int .i64 (0 : Int)) :: ((.int .i32 (0 : Int)) :: ((.int .i32 (0 : Int)) :: ((.str []) :: ((.str []) :: ((.int .u8 (0 : Int)) :: ((.int .u8 (0 : Int)) :: ((.int .i32 (0 : Int)) :: ((.bool false) :: [])))))))))) := by kernel_rfl
theorem tfP277 : placesI Tryz.prog 277 = (some ((0, 1) :: ((1, 1) :: ((2, 1) :: ((3, 1) :: ((4, 1) :: ((5, 1) :: ((6, 1) :: ((7, 1) :: ((8, 1) :: [])))))))))) := by kernel_rfl
theorem tfF277x0 : fldI Tryz.prog 277 0 = (some 0) := by kernel_rfl
theorem tfG277x0 : fieldI Tryz.prog 277 0 = (some (false, (0, 1))) := by kernel_rfl
theorem tfF277x1 : fldI Tryz.prog 277 1 = (some 1) := by kernel_rfl
theorem tfG277x1 : fieldI Tryz.prog 277 1 = (some (false, (1, 1))) := by kernel_rfl
theorem tfF277x2 : fldI Tryz.prog 277 2 = (some 2) := by kernel_rfl
theorem tfG277x2 : fieldI Tryz.prog 277 2 = (some (false, (2, 1))) := by kernel_rfl
theorem tfF277x3 : fldI Tryz.prog 277 3 = (some 3) := by kernel_rfl
theorem tfG277x3 : fieldI Tryz.prog 277 3 = (some (false, (3, 1))) := by kernel_rfl
theorem tfF277x4 : fldI Tryz.prog 277 4 = (some 4) := by kernel_rfl
theorem tfG277x4 : fieldI Tryz.prog 277 4 = (some (false, (4, 1))) := by kernel_rfl
theorem tfF277x5 : fldI Tryz.prog 277 5 = (some 5) := by kernel_rfl
theorem tfG277x5 : fieldI Tryz.prog 277 5 = (some (false, (5, 1))) := by kernel_rfl
theorem tfF277x6 : fldI Tryz.prog 277 6 = (some 6) := by kernel_rfl
theorem tfG277x6 : fieldI Tryz.prog 277 6 = (some (false, (6, 1))) := by kernel_rfl
theorem tfF277x7 : fldI Tryz.prog 277 7 = (some 7) := by kernel_rfl
theorem tfG277x7 : fieldI Tryz.prog 277 7 = (some (false, (7, 1))) := by kernel_rfl
theorem tfF277x8 : fldI Tryz.prog 277 8 = (some 8) := by kernel_rfl
theorem tfG277x8 : fieldI Tryz.prog 277 8 = (some (false, (8, 1))) := by kernel_rfl
theorem tfA278 : aggI Tryz.prog 278 = (some (true, 4)) := by kernel_rfl
theorem tfZ278 : zeroI Tryz.prog 278 = (some ((.int .i64 (0 : Int)) :: ((.int .i32 (0 : Int)) :: ((.int .i32 (0 : Int)) :: ((.bool false) :: []))))) := by kernel_rfl
theorem tfP278 : placesI Tryz.prog 278 = (some ((0, 1) :: ((1, 1) :: ((2, 1) :: ((3, 1) :: []))))) := by kernel_rfl
theorem tfF278x0 : fldI Tryz.prog 278 0 = (some 0) := by kernel_rfl
theorem tfG278x0 : fieldI Tryz.prog 278 0 = (some (false, (0, 1))) := by kernel_rfl
theorem tfF278x1 : fldI Tryz.prog 278 1 = (some 1) := by kernel_rfl
theorem tfG278x1 : fieldI Tryz.prog 278 1 = (some (false, (1, 1))) := by kernel_rfl
theorem tfF278x2 : fldI Tryz.prog 278 2 = (some 2) := by kernel_rfl
theorem tfG278x2 : fieldI Tryz.prog 278 2 = (some (false, (2, 1))) := by kernel_rfl
theorem tfF278x3 : fldI Tryz.prog 278 3 = (some 3) := by kernel_rfl
theorem tfG278x3 : fieldI Tryz.prog 278 3 = (some (false, (3, 1))) := by kernel_rfl
theorem tfA279 : aggI Tryz.prog 279 = (some (true, 4)) := by kernel_rfl
theorem tfZ279 : zeroI Tryz.prog 279 = (some ((.int .i64 (0 : Int)) :: ((.int .i32 (0 : Int)) :: ((.int .i32 (0 : Int)) :: ((.bool false) :: []))))) := by kernel_rfl
theorem tfP279 : placesI Tryz.prog 279 = (some ((0, 1) :: ((1, 1) :: ((2, 1) :: ((3, 1) :: []))))) := by kernel_rfl
theorem tfF279x0 : fldI Tryz.prog 279 0 = (some 0) := by kernel_rfl
theorem tfG279x0 : fieldI Tryz.prog 279 0 = (some (false, (0, 1))) := by kernel_rfl
theorem tfF279x1 : fldI Tryz.prog 279 1 = (some 1) := by kernel_rfl
theorem tfG279x1 : fieldI Tryz.prog 279 1 = (some (false, (1, 1))) := by kernel_rfl
theorem tfF279x2 : fldI Tryz.prog 279 2 = (some 2) := by kernel_rfl
theorem tfG279x2 : fieldI Tryz.prog 279 2 = (some (false, (2, 1))) := by kernel_rfl
theorem tfF279x3 : fldI Tryz.prog 279 3 = (some 3) := by kernel_rfl
theorem tfG279x3 : fieldI Tryz.prog 279 3 = (some (false, (3, 1))) := by kernel_rfl
theorem tfA280 : aggI Tryz.prog 280 = (some (false, 1)) := by kernel_rfl
theorem tfZ280 : zeroI Tryz.prog 280 = (some ((.val .nilFunc) :: [])) := by kernel_rfl
theorem tfA281 : aggI Tryz.prog 281 = (some (false, 1)) := by kernel_rfl
theorem tfZ281 : zeroI Tryz.prog 281 = (some ((.val .nilFunc) :: [])) := by kernel_rfl
theorem tfA282 : aggI Tryz.prog 282 = (some (false, 1)) := by kernel_rfl
theorem tfZ282 : zeroI Tryz.prog 282 = (some ((.val .nilFunc) :: [])) := by kernel_rfl
theorem tfE283 : elemI Tryz.prog 283 = (some ((.pair (.int .i32) (.pair (.int .i32) (.pair (.int .i64) .unit))), 16)) := by kernel_rfl
theorem tfA283 : aggI Tryz.prog 283 = (some (false, 1)) := by kernel_rfl
theorem tfZ283 : zeroI Tryz.prog 283 = (some (.nils :: [])) := by kernel_rfl
theorem tfA284 : aggI Tryz.prog 284 = (some (true, 2)) := by kernel_rfl
theorem tfZ284 : zeroI Tryz.prog 284 = (some (.nils :: ((.bool false) :: []))) := by kernel_rfl
theorem tfP284 : placesI Tryz.prog 284 = (some ((0, 1) :: ((1, 1) :: []))) := by kernel_rfl
theorem tfF284x0 : fldI Tryz.prog 284 0 = (some 0) := by kernel_rfl
theorem tfG284x0 : fieldI Tryz.prog 284 0 = (some (false, (0, 1))) := by kernel_rfl
theorem tfF284x1 : fldI Tryz.prog 284 1 = (some 1) := by kernel_rfl
theorem tfG284x1 : fieldI Tryz.prog 284 1 = (some (false, (1, 1))) := by kernel_rfl
theorem tfA285 : aggI Tryz.prog 285 = (some (true, 2)) := by kernel_rfl
theorem tfZ285 : zeroI Tryz.prog 285 = (some (.nils :: ((.bool false) :: []))) := by kernel_rfl
theorem tfP285 : placesI Tryz.prog 285 = (some ((0, 1) :: ((1, 1) :: []))) := by kernel_rfl
theorem tfF285x0 : fldI Tryz.prog 285 0 = (some 0) := by kernel_rfl
theorem tfG285x0 : fieldI Tryz.prog 285 0 = (some (false, (0, 1))) := by kernel_rfl
theorem tfF285x1 : fldI Tryz.prog 285 1 = (some 1) := by kernel_rfl
theorem tfG285x1 : fieldI Tryz.prog 285 1 = (some (false, (1, 1))) := by kernel_rfl
theorem tfA286 : aggI Tryz.prog 286 = (some (true, 2)) := by kernel_rfl
theorem tfZ286 : zeroI Tryz.prog 286 = (some ((.int .i32 (0 : Int)) :: ((.int .i32 (0 : Int)) :: []))) := by kernel_rfl
theorem tfP286 : placesI Tryz.prog 286 = (some ((0, 1) :: ((1, 1) :: []))) := by kernel_rfl
theorem tfF286x0 : fldI Tryz.prog 286 0 = (some 0) := by kernel_rfl
theorem tfG286x0 : fieldI Tryz.prog 286 0 = (some (false, (0, 1))) := by kernel_rfl
theorem tfF286x1 : fldI Tryz.prog 286 1 = (some 1) := by kernel_rfl
theorem tfG286x1 : fieldI Tryz.prog 286 1 = (some (false, (1, 1))) := by kernel_rfl
theorem tfA287 : aggI Tryz.prog 287 = (some (true, 2)) := by kernel_rfl
theorem tfZ287 : zeroI Tryz.prog 287 = (some ((.int .i32 (0 : Int)) :: ((.int .i32 (0 : Int)) :: []))) := by kernel_rfl
theorem tfP287 : placesI Tryz.prog 287 = (some ((0, 1) :: ((1, 1) :: []))) := by kernel_rfl
theorem tfF287x0 : fldI Tryz.prog 287 0 = (some 0) := by kernel_rfl
theorem tfG287x0 : fieldI Tryz.prog 287 0 = (some (false, (0, 1))) := by kernel_rfl
theorem tfF287x1 : fldI Tryz.prog 287 1 = (some 1) := by kernel_rfl
theorem tfG287x1 : fieldI Tryz.prog 287 1 = (some (false, (1, 1))) := by kernel_rfl
theorem tfA288 : aggI Tryz.prog 288 = (some (true, 3)) := by kernel_rfl
theorem tfZ288 : zeroI Tryz.prog 288 = (some ((.int .i32 (0 : Int)) :: ((.int .i32 (0 : Int)) :: ((.int .u8 (0 : Int)) :: [])))) := by kernel_rfl
theorem tfP288 : placesI Tryz.prog 288 = (some ((0, 2) :: ((2, 1) :: []))) := by kernel_rfl
theorem tfF288x0 : fldI Tryz.prog 288 0 = (some 0) := by kernel_rfl
theorem tfG288x0 : fieldI Tryz.prog 288 0 = (some (true, (0, 2))) := by kernel_rfl
theorem tfF288x1 : fldI Tryz.prog 288 1 = (some 2) := by kernel_rfl
theorem tfG288x1 : fieldI Tryz.prog 288 1 = (some (false, (2, 1))) := by kernel_rfl
theorem tfA289 : aggI Tryz.prog 289 = (some (true, 3)) := by kernel_rfl
theorem tfZ289 : zeroI Tryz.prog 289 = (some ((.int .i32 (0 : Int)) :: ((.int .i32 (0 : Int)) :: ((.int .u8 (0 : Int)) :: [])))) := by kernel_rfl
theorem tfP289 : placesI Tryz.prog 289 = (some ((0, 2) :: ((2, 1) :: []))) := by kernel_rfl
theorem tfF289x0 : fldI Tryz.prog 289 0 = (some 0) := by kernel_rfl
theorem tfG289x0 : fieldI Tryz.prog 289 0 = (some (true, (0, 2))) := by kernel_rfl
theorem tfF289x1 : fldI Tryz.prog 289 1 = (some 2) := by kernel_rfl
theorem tfG289x1 : fieldI Tryz.prog 289 1 = (some (false, (2, 1))) := by kernel_rfl
theorem tfA290 : aggI Tryz.prog 290 = (some (true, 2)) := by kernel_rfl
theorem tfZ290 : zeroI Tryz.prog 290 = (some ((.str []) :: ((.int .u8 (0 : Int)) :: []))) := by kernel_rfl
theorem tfP290 : placesI Tryz.prog 290 = (some ((0, 1) :: ((1, 1) :: []))) := by kernel_rfl
theorem tfF290x0 : fldI Tryz.prog 290 0 = (some 0) := by kernel_rfl
theorem tfG290x0 : fieldI Tryz.prog 290 0 = (some (false, (0, 1))) := by kernel_rfl
theorem tfF290x1 : fldI Tryz.prog 290 1 = (some 1) := by kernel_rfl
theorem tfG290x1 : fieldI Tryz.prog 290 1 = (some (false, (1, 1))) := by kernel_rfl
theorem tfA291 : aggI Tryz.prog 291 = (some (true, 2)) := by kernel_rfl
theorem tfZ291 : zeroI Tryz.prog 291 = (some ((.str []) :: ((.int .u8 (0 : Int)) :: []))) := by kernel_rfl
theorem tfP291 : placesI Tryz.prog 291 = (some ((0, 1) :: ((1, 1) :: []))) := by kernel_rfl
theorem tfF291x0 : fldI Tryz.prog 291 0 = (some 0) := by kernel_rfl
theorem tfG291x0 : fieldI Tryz.prog 291 0 = (some (false, (0, 1))) := by kernel_rfl
theorem tfF291x1 : fldI Tryz.prog 291 1 = (some 1) := by kernel_rfl
theorem tfG291x1 : fieldI Tryz.prog 291 1 = (some (false, (1, 1))) := by kernel_rfl
theorem tfA292 : aggI Tryz.prog 292 = (some (false, 1)) := by kernel_rfl
theorem tfZ292 : zeroI Tryz.prog 292 = (some ((.val (.pointer none)) :: [])) := by kernel_rfl
theorem tfA293 : aggI Tryz.prog 293 = (some (true, 3)) := by kernel_rfl
theorem tfZ293 : zeroI Tryz.prog 293 = (some ((.int .i32 (0 : Int)) :: ((.int .i32 (0 : Int)) :: ((.int .i64 (0 : Int)) :: [])))) := by kernel_rfl
theorem tfP293 : placesI Tryz.prog 293 = (some ((0, 1) :: ((1, 1) :: ((2, 1) :: [])))) := by kernel_rfl
theorem tfF293x0 : fldI Tryz.prog 293 0 = (some 0) := by kernel_rfl
theorem tfG293x0 : fieldI Tryz.prog 293 0 = (some (false, (0, 1))) := by kernel_rfl
theorem tfF293x1 : fldI Tryz.prog 293 1 = (some 1) := by kernel_rfl
theorem tfG293x1 : fieldI Tryz.prog 293 1 = (some (false, (1, 1))) := by kernel_rfl
theorem tfF293x2 : fldI Tryz.prog 293 2 = (some 2) := by kernel_rfl
theorem tfG293x2 : fieldI Tryz.prog 293 2 = (some (false, (2, 1))) := by kernel_rfl
theorem tfA294 : aggI Tryz.prog 294 = (some (true, 3)) := by kernel_rfl
theorem tfZ294 : zeroI Tryz.prog 294 = (some ((.int .i32 (0 : Int)) :: ((.int .i32 (0 : Int)) :: ((.int .i64 (0 : Int)) :: [])))) := by kernel_rfl
theorem tfP294 : placesI Tryz.prog 294 = (some ((0, 1) :: ((1, 1) :: ((2, 1) :: [])))) := by kernel_rfl
theorem tfF294x0 : fldI Tryz.prog 294 0 = (some 0) := by kernel_rfl
theorem tfG294x0 : fieldI Tryz.prog 294 0 = (some (false, (0, 1))) := by kernel_rfl
theorem tfF294x1 : fldI Tryz.prog 294 1 = (some 1) := by kernel_rfl
theorem tfG294x1 : fieldI Tryz.prog 294 1 = (some (false, (1, 1))) := by kernel_rfl
theorem tfF294x2 : fldI Tryz.prog 294 2 = (some 2) := by kernel_rfl
theorem tfG294x2 : fieldI Tryz.prog 294 2 = (some (false, (2, 1))) := by kernel_rfl
theorem tfA295 : aggI Tryz.prog 295 = (some (false, 1)) := by kernel_rfl
theorem tfZ295 : zeroI Tryz.prog 295 = (some ((.val .nilFunc) :: [])) := by kernel_rfl
theorem tfA296 : aggI Tryz.prog 296 = (some (true, 5)) := by kernel_rfl
theorem tfZ296 : zeroI Tryz.prog 296 = (some ((.int .i32 (0 : Int)) :: ((.int .u16 (0 : Int)) :: ((.int .u16 (0 : Int)) :: ((.int .u32 (0 : Int)) :: ((.int .u32 (0 : Int)) :: [])))))) := by kernel_rfl
theorem tfP296 : placesI Tryz.prog 296 = (some ((0, 1) :: ((1, 1) :: ((2, 1) :: ((3, 1) :: ((4, 1) :: [])))))) := by kernel_rfl
theorem tfF296x0 : fldI Tryz.prog 296 0 = (some 0) := by kernel_rfl
theorem tfG296x0 : fieldI Tryz.prog 296 0 = (some (false, (0, 1))) := by kernel_rfl
theorem tfF296x1 : fldI Tryz.prog 296 1 = (some 1) := by kernel_rfl
theorem tfG296x1 : fieldI Tryz.prog 296 1 = (some (false, (1, 1))) := by kernel_rfl
theorem tfF296x2 : fldI Tryz.prog 296 2 = (some 2) := by kernel_rfl
theorem tfG296x2 : fieldI Tryz.prog 296 2 = (some (false, (2, 1))) := by kernel_rfl
theorem tfF296x3 : fldI Tryz.prog 296 3 = (some 3) := by kernel_rfl
theorem tfG296x3 : fieldI Tryz.prog 296 3 = (some (false, (3, 1))) := by kernel_rfl
theorem tfF296x4 : fldI Tryz.prog 296 4 = (some 4) := by kernel_rfl
theorem tfG296x4 : fieldI Tryz.prog 296 4 = (some (false, (4, 1))) := by kernel_rfl
theorem tfA297 : aggI Tryz.prog 297 = (some (true, 5)) := by kernel_rfl
theorem tfZ297 : zeroI Tryz.prog 297 = (some ((.int .i32 (0 : Int)) :: ((.int .u16 (0 : Int)) :: ((.int .u16 (0 : Int)) :: ((.int .u32 (0 : Int)) :: ((.int .u32 (0 : Int)) :: [])))))) := by kernel_rfl
theorem tfP297 : placesI Tryz.prog 297 = (some ((0, 1) :: ((1, 1) :: ((2, 1) :: ((3, 1) :: ((4, 1) :: [])))))) := by kernel_rfl
theorem tfF297x0 : fldI Tryz.prog 297 0 = (some 0) := by kernel_rfl
theorem tfG297x0 : fieldI Tryz.prog 297 0 = (some (false, (0, 1))) := by kernel_rfl
theorem tfF297x1 : fldI Tryz.prog 297 1 = (some 1) := by kernel_rfl
theorem tfG297x1 : fieldI Tryz.prog 297 1 = (some (false, (1, 1))) := by kernel_rfl
theorem tfF297x2 : fldI Tryz.prog 297 2 = (some 2) := by kernel_rfl
theorem tfG297x2 : fieldI Tryz.prog 297 2 = (some (false, (2, 1))) := by kernel_rfl
theorem tfF297x3 : fldI Tryz.prog 297 3 = (some 3) := by kernel_rfl
theorem tfG297x3 : fieldI Tryz.prog 297 3 = (some (false, (3, 1))) := by kernel_rfl
theorem tfF297x4 : fldI Tryz.prog 297 4 = (some 4) := by kernel_rfl
theorem tfG297x4 : fieldI Tryz.prog 297 4 = (some (false, (4, 1))) := by kernel_rfl
theorem tfE298 : elemI Tryz.prog 298 = (some ((.pair (.int .i32) (.pair (.int .i32) (.pair (.int .i32) (.pair (.int .i32) .unit)))), 16)) := by kernel_rfl
theorem tfA298 : aggI Tryz.prog 298 = (some (false, 1)) := by kernel_rfl
theorem tfZ298 : zeroI Tryz.prog 298 = (some (.nils :: [])) := by kernel_rfl
theorem tfA299 : aggI Tryz.prog 299 = (some (false, 1)) := by kernel_rfl
theorem tfZ299 : zeroI Tryz.prog 299 = (some ((.int .i32 (0 : Int)) :: [])) := by kernel_rfl
theorem tfU299 : Program.underlying Tryz.prog 299 = (some (.int .i32)) := by kernel_rfl
theorem tfA300 : aggI Tryz.prog 300 = (some (true, 4)) := by kernel_rfl
theorem tfZ300 : zeroI Tryz.prog 300 = (some ((.int .i32 (0 : Int)) :: ((.int .i32 (0 : Int)) :: ((.int .i32 (0 : Int)) :: ((.int .i32 (0 : Int)) :: []))))) := by kernel_rfl
theorem tfP300 : placesI Tryz.prog 300 = (some ((0, 1) :: ((1, 1) :: ((2, 1) :: ((3, 1) :: []))))) := by kernel_rfl
theorem tfF300x0 : fldI Tryz.prog 300 0 = (some 0) := by kernel_rfl
theorem tfG300x0 : fieldI Tryz.prog 300 0 = (some (false, (0, 1))) := by kernel_rfl
theorem tfF300x1 : fldI Tryz.prog 300 1 = (some 1) := by kernel_rfl
theorem tfG300x1 : fieldI Tryz.prog 300 1 = (some (false, (1, 1))) := by kernel_rfl
theorem tfF300x2 : fldI Tryz.prog 300 2 = (some 2) := by kernel_rfl
theorem tfG300x2 : fieldI Tryz.prog 300 2 = (some (false, (2, 1))) := by kernel_rfl
theorem tfF300x3 : fldI Tryz.prog 300 3 = (some 3) := by kernel_rfl
theorem tfG300x3 : fieldI Tryz.prog 300 3 = (some (false, (3, 1))) := by kernel_rfl
theorem tfA301 : aggI Tryz.prog 301 = (some (true, 4)) := by kernel_rfl
theorem tfZ301 : zeroI Tryz.prog 301 = (some ((.int .i32 (0 : Int)) :: ((.int .i32 (0 : Int)) :: ((.int .i32 (0 : Int)) :: ((.int .i32 (0 : Int)) :: []))))) := by kernel_rfl
theorem tfP301 : placesI Tryz.prog 301 = (some ((0, 1) :: ((1, 1) :: ((2, 1) :: ((3, 1) :: []))))) := by kernel_rfl
theorem tfF301x0 : fldI Tryz.prog 301 0 = (some 0) := by kernel_rfl
theorem tfG301x0 : fieldI Tryz.prog 301 0 = (some (false, (0, 1))) := by kernel_rfl
theorem tfF301x1 : fldI Tryz.prog 301 1 = (some 1) := by kernel_rfl
theorem tfG301x1 : fieldI Tryz.prog 301 1 = (some (false, (1, 1))) := by kernel_rfl
theorem tfF301x2 : fldI Tryz.prog 301 2 = (some 2) := by kernel_rfl
theorem tfG301x2 : fieldI Tryz.prog 301 2 = (some (false, (2, 1))) := by kernel_rfl
theorem tfF301x3 : fldI Tryz.prog 301 3 = (some 3) := by kernel_rfl
theorem tfG301x3 : fieldI Tryz.prog 301 3 = (some (false, (3, 1))) := by kernel_rfl
theorem tfA302 : aggI Tryz.prog 302 = (some (false, 1)) := by kernel_rfl
theorem tfZ302 : zeroI Tryz.prog 302 = (some ((.val (.pointer none)) :: [])) := by kernel_rfl
theorem tfQ15 : isPtr Tryz.prog 15 = true := by kernel_rfl
theorem tfQ16 : isPtr Tryz.prog 16 = true := by kernel_rfl
theorem tfQ17 : isPtr Tryz.prog 17 = true := by kernel_rfl
theorem tfQ100 : isPtr Tryz.prog 100 = true := by kernel_rfl
theorem tfQ102 : isPtr Tryz.prog 102 = true := by kernel_rfl
theorem tfQ105 : isPtr Tryz.prog 105 = true := by kernel_rfl
theorem tfQ117 : isPtr Tryz.prog 117 = true := by kernel_rfl
theorem tfQ124 : isPtr Tryz.prog 124 = true := by kernel_rfl
theorem tfQ127 : isPtr Tryz.prog 127 = true := by kernel_rfl
theorem tfQ143 : isPtr Tryz.prog 143 = true := by kernel_rfl
theorem tfQ144 : isPtr Tryz.prog 144 = true := by kernel_rfl
theorem tfQ149 : isPtr Tryz.prog 149 = true := by kernel_rfl
theorem tfQ164 : isPtr Tryz.prog 164 = true := by kernel_rfl
theorem tfQ206 : isPtr Tryz.prog 206 = true := by kernel_rfl
theorem tfQ207 : isPtr Tryz.prog 207 = true := by kernel_rfl
theorem tfQ221 : isPtr Tryz.prog 221 = true := by kernel_rfl
theorem tfQ271 : isPtr Tryz.prog 271 = true := by kernel_rfl
theorem tfQ292 : isPtr Tryz.prog 292 = true := by kernel_rfl
theorem tfQ302 : isPtr Tryz.prog 302 = true := by kernel_rfl
theorem tfX1 : isFn Tryz.prog 1 = true := by kernel_rfl
theorem tfX22 : isFn Tryz.prog 22 = true := by kernel_rfl
theorem tfX34 : isFn Tryz.prog 34 = true := by kernel_rfl
theorem tfX41 : isFn Tryz.prog 41 = true := by kernel_rfl
theorem tfX44 : isFn Tryz.prog 44 = true := by kernel_rfl
theorem tfX45 : isFn Tryz.prog 45 = true := by kernel_rfl
theorem tfX46 : isFn Tryz.prog 46 = true := by kernel_rfl
theorem tfX47 : isFn Tryz.prog 47 = true := by kernel_rfl
theorem tfX50 : isFn Tryz.prog 50 = true := by kernel_rfl
theorem tfX51 : isFn Tryz.prog 51 = true := by kernel_rfl
theorem tfX53 : isFn Tryz.prog 53 = true := by kernel_rfl
theorem tfX54 : isFn Tryz.prog 54 = true := by kernel_rfl
theorem tfX55 : isFn Tryz.prog 55 = true := by kernel_rfl
theorem tfX56 : isFn Tryz.prog 56 = true := by kernel_rfl
theorem tfX57 : isFn Tryz.prog 57 = true := by kernel_rfl
theorem tfX59 : isFn Tryz.prog 59 = true := by kernel_rfl
theorem tfX61 : isFn Tryz.prog 61 = true := by kernel_rfl
theorem tfX64 : isFn Tryz.prog 64 = true := by kernel_rfl
theorem tfX65 : isFn Tryz.prog 65 = true := by kernel_rfl
theorem tfX68 : isFn Tryz.prog 68 = true := by kernel_rfl
theorem tfX69 : isFn Tryz.prog 69 = true := by kernel_rfl
theorem tfX70 : isFn Tryz.prog 70 = true := by kernel_rfl
theorem tfX71 : isFn Tryz.prog 71 = true := by kernel_rfl
theorem tfX80 : isFn Tryz.prog 80 = true := by kernel_rfl
theorem tfX84 : isFn Tryz.prog 84 = true := by kernel_rfl
theorem tfX85 : isFn Tryz.prog 85 = true := by kernel_rfl
theorem tfX86 : isFn Tryz.prog 86 = true := by kernel_rfl
theorem tfX88 : isFn Tryz.prog 88 = true := by kernel_rfl
theorem tfX89 : isFn Tryz.prog 89 = true := by kernel_rfl
theorem tfX90 : isFn Tryz.prog 90 = true := by kernel_rfl
theorem tfX91 : isFn Tryz.prog 91 = true := by kernel_rfl
theorem tfX92 : isFn Tryz.prog 92 = true := by kernel_rfl
theorem tfX93 : isFn Tryz.prog 93 = true := by kernel_rfl
theorem tfX94 : isFn Tryz.prog 94 = true := by kernel_rfl
theorem tfX95 : isFn Tryz.prog 95 = true := by kernel_rfl
theorem tfX96 : isFn Tryz.prog 96 = true := by kernel_rfl
theorem tfX97 : isFn Tryz.prog 97 = true := by kernel_rfl
theorem tfX98 : isFn Tryz.prog 98 = true := by kernel_rfl
theorem tfX99 : isFn Tryz.prog 99 = true := by kernel_rfl
theorem tfX101 : isFn Tryz.prog 101 = true := by kernel_rfl
theorem tfX103 : isFn Tryz.prog 103 = true := by kernel_rfl
theorem tfX104 : isFn Tryz.prog 104 = true := by kernel_rfl
theorem tfX106 : isFn Tryz.prog 106 = true := by kernel_rfl
theorem tfX109 : isFn Tryz.prog 109 = true := by kernel_rfl
theorem tfX110 : isFn Tryz.prog 110 = true := by kernel_rfl
theorem tfX111 : isFn Tryz.prog 111 = true := by kernel_rfl
theorem tfX113 : isFn Tryz.prog 113 = true := by kernel_rfl
theorem tfX114 : isFn Tryz.prog 114 = true := by kernel_rfl
theorem tfX116 : isFn Tryz.prog 116 = true := by kernel_rfl
theorem tfX123 : isFn Tryz.prog 123 = true := by kernel_rfl
theorem tfX125 : isFn Tryz.prog 125 = true := by kernel_rfl
theorem tfX126 : isFn Tryz.prog 126 = true := by kernel_rfl
theorem tfX129 : isFn Tryz.prog 129 = true := by kernel_rfl
theorem tfX131 : isFn Tryz.prog 131 = true := by kernel_rfl
theorem tfX132 : isFn Tryz.prog 132 = true := by kernel_rfl
theorem tfX133 : isFn Tryz.prog 133 = true := by kernel_rfl
theorem tfX134 : isFn Tryz.prog 134 = true := by kernel_rfl
theorem tfX135 : isFn Tryz.prog 135 = true := by kernel_rfl
theorem tfX136 : isFn Tryz.prog 136 = true := by kernel_rfl
theorem tfX138 : isFn Tryz.prog 138 = true := by kernel_rfl
theorem tfX140 : isFn Tryz.prog 140 = true := by kernel_rfl
theorem tfX141 : isFn Tryz.prog 141 = true := by kernel_rfl
theorem tfX150 : isFn Tryz.prog 150 = true := by kernel_rfl
theorem tfX152 : isFn Tryz.prog 152 = true := by kernel_rfl
theorem tfX158 : isFn Tryz.prog 158 = true := by kernel_rfl
theorem tfX165 : isFn Tryz.prog 165 = true := by kernel_rfl
theorem tfX167 : isFn Tryz.prog 167 = true := by kernel_rfl
theorem tfX178 : isFn Tryz.prog 178 = true := by kernel_rfl
theorem tfX181 : isFn Tryz.prog 181 = true := by kernel_rfl
theorem tfX183 : isFn Tryz.prog 183 = true := by kernel_rfl
theorem tfX184 : isFn Tryz.prog 184 = true := by kernel_rfl
theorem tfX185 : isFn Tryz.prog 185 = true := by kernel_rfl
theorem tfX186 : isFn Tryz.prog 186 = true := by kernel_rfl
theorem tfX187 : isFn Tryz.prog 187 = true := by kernel_rfl
theorem tfX188 : isFn Tryz.prog 188 = true := by kernel_rfl
theorem tfX193 : isFn Tryz.prog 193 = true := by kernel_rfl
theorem tfX195 : isFn Tryz.prog 195 = true := by kernel_rfl
theorem tfX196 : isFn Tryz.prog 196 = true := by kernel_rfl
theorem tfX197 : isFn Tryz.prog 197 = true := by kernel_rfl
theorem tfX198 : isFn Tryz.prog 198 = true := by kernel_rfl
theorem tfX199 : isFn Tryz.prog 199 = true := by kernel_rfl
theorem tfX200 : isFn Tryz.prog 200 = true := by kernel_rfl
theorem tfX201 : isFn Tryz.prog 201 = true := by kernel_rfl
theorem tfX202 : isFn Tryz.prog 202 = true := by kernel_rfl
theorem tfX203 : isFn Tryz.prog 203 = true := by kernel_rfl
theorem tfX204 : isFn Tryz.prog 204 = true := by kernel_rfl
theorem tfX211 : isFn Tryz.prog 211 = true := by kernel_rfl
theorem tfX222 : isFn Tryz.prog 222 = true := by kernel_rfl
theorem tfX223 : isFn Tryz.prog 223 = true := by kernel_rfl
theorem tfX224 : isFn Tryz.prog 224 = true := by kernel_rfl
theorem tfX227 : isFn Tryz.prog 227 = true := by kernel_rfl
theorem tfX229 : isFn Tryz.prog 229 = true := by kernel_rfl
theorem tfX232 : isFn Tryz.prog 232 = true := by kernel_rfl
theorem tfX234 : isFn Tryz.prog 234 = true := by kernel_rfl
theorem tfX236 : isFn Tryz.prog 236 = true := by kernel_rfl
theorem tfX237 : isFn Tryz.prog 237 = true := by kernel_rfl
theorem tfX238 : isFn Tryz.prog 238 = true := by kernel_rfl
theorem tfX240 : isFn Tryz.prog 240 = true := by kernel_rfl
theorem tfX241 : isFn Tryz.prog 241 = true := by kernel_rfl
theorem tfX243 : isFn Tryz.prog 243 = true := by kernel_rfl
theorem tfX244 : isFn Tryz.prog 244 = true := by kernel_rfl
theorem tfX247 : isFn Tryz.prog 247 = true := by kernel_rfl
theorem tfX249 : isFn Tryz.prog 249 = true := by kernel_rfl
theorem tfX251 : isFn Tryz.prog 251 = true := by kernel_rfl
theorem tfX257 : isFn Tryz.prog 257 = true := by kernel_rfl
theorem tfX258 : isFn Tryz.prog 258 = true := by kernel_rfl
theorem tfX259 : isFn Tryz.prog 259 = true := by kernel_rfl
theorem tfX260 : isFn Tryz.prog 260 = true := by kernel_rfl
theorem tfX261 : isFn Tryz.prog 261 = true := by kernel_rfl
theorem tfX262 : isFn Tryz.prog 262 = true := by kernel_rfl
theorem tfX268 : isFn Tryz.prog 268 = true := by kernel_rfl
theorem tfX270 : isFn Tryz.prog 270 = true := by kernel_rfl
theorem tfX280 : isFn Tryz.prog 280 = true := by kernel_rfl
theorem tfX281 : isFn Tryz.prog 281 = true := by kernel_rfl
theorem tfX282 : isFn Tryz.prog 282 = true := by kernel_rfl
theorem tfX295 : isFn Tryz.prog 295 = true := by kernel_rfl
attribute [go_sem] tfA0 tfA1 tfZ1 tfA2 tfZ2 tfU2 tfA3 tfZ3 tfU3 tfA4 tfZ4 tfB4 tfA5 tfZ5 tfU5 tfA6 tfZ6 tfU6 tfA7 tfZ7
attribute [go_sem] tfP7 tfF7x0 tfG7x0 tfF7x1 tfG7x1 tfF7x2 tfG7x2 tfF7x3 tfG7x3 tfA8 tfZ8 tfP8 tfF8x0 tfG8x0 tfF8x1 tfG8x1 tfF8x2 tfG8x2 tfF8x3 tfG8x3
attribute [go_sem] tfA9 tfZ9 tfS9 tfA10 tfZ10 tfS10 tfA11 tfZ11 tfS11 tfA12 tfZ12 tfU12 tfA13 tfZ13 tfP13 tfF13x0 tfG13x0 tfF13x1 tfG13x1 tfA14
attribute [go_sem] tfZ14 tfP14 tfF14x0 tfG14x0 tfF14x1 tfG14x1 tfA15 tfZ15 tfA16 tfZ16 tfA17 tfZ17 tfA18 tfZ18 tfP18 tfF18x0 tfG18x0 tfA19 tfZ19 tfP19
attribute [go_sem] tfF19x0 tfG19x0 tfA20 tfZ20 tfA21 tfZ21 tfU21 tfA22 tfZ22 tfE23 tfA23 tfZ23 tfE24 tfA24 tfZ24 tfA25 tfZ25 tfP25 tfF25x0 tfG25x0
attribute [go_sem] tfF25x1 tfG25x1 tfF25x2 tfG25x2 tfA26 tfZ26 tfP26 tfF26x0 tfG26x0 tfF26x1 tfG26x1 tfF26x2 tfG26x2 tfE27 tfA27 tfZ27 tfA28 tfZ28 tfP28 tfF28x0
attribute [go_sem] tfG28x0 tfF28x1 tfG28x1 tfF28x2 tfG28x2 tfA29 tfZ29 tfP29 tfF29x0 tfG29x0 tfF29x1 tfG29x1 tfF29x2 tfG29x2 tfA30 tfZ30 tfP30 tfF30x0 tfG30x0 tfF30x1
attribute [go_sem] tfG30x1 tfF30x2 tfG30x2 tfF30x3 tfG30x3 tfA31 tfZ31 tfP31 tfF31x0 tfG31x0 tfF31x1 tfG31x1 tfF31x2 tfG31x2 tfF31x3 tfG31x3 tfA32 tfZ32 tfU32 tfA33
attribute [go_sem] tfA34 tfZ34 tfE35 tfA35 tfZ35 tfA36 tfZ36 tfP36 tfF36x0 tfG36x0 tfF36x1 tfG36x1 tfF36x2 tfG36x2 tfA37 tfZ37 tfP37 tfF37x0 tfG37x0 tfF37x1
attribute [go_sem] tfG37x1 tfF37x2 tfG37x2 tfA38 tfZ38 tfA39 tfZ39 tfA40 tfA41 tfZ41 tfE42 tfA42 tfZ42 tfA43 tfA44 tfZ44 tfA45 tfZ45 tfA46 tfZ46
attribute [go_sem] tfA47 tfZ47 tfA48 tfZ48 tfP48 tfF48x0 tfG48x0 tfF48x1 tfG48x1 tfF48x2 tfG48x2 tfA49 tfZ49 tfP49 tfF49x0 tfG49x0 tfF49x1 tfG49x1 tfF49x2 tfG49x2
attribute [go_sem] tfA50 tfZ50 tfA51 tfZ51 tfA52 tfA53 tfZ53 tfA54 tfZ54 tfA55 tfZ55 tfA56 tfZ56 tfA57 tfZ57 tfA58 tfA59 tfZ59 tfA60 tfA61
attribute [go_sem] tfZ61 tfA62 tfZ62 tfA63 tfZ63 tfU63 tfA64 tfZ64 tfA65 tfZ65 tfE66 tfA66 tfZ66 tfA67 tfA68 tfZ68 tfA69 tfZ69 tfA70 tfZ70
attribute [go_sem] tfA71 tfZ71 tfA72 tfZ72 tfU72 tfE73 tfA73 tfZ73 tfE74 tfA74 tfZ74 tfA75 tfZ75 tfU75 tfE76 tfA76 tfZ76 tfA77 tfZ77 tfP77
attribute [go_sem] tfF77x0 tfG77x0 tfF77x1 tfG77x1 tfA78 tfZ78 tfP78 tfF78x0 tfG78x0 tfF78x1 tfG78x1 tfA79 tfA80 tfZ80 tfE81 tfA81 tfZ81 tfA82 tfZ82 tfP82
attribute [go_sem] tfF82x0 tfG82x0 tfF82x1 tfG82x1 tfA83 tfZ83 tfP83 tfF83x0 tfG83x0 tfF83x1 tfG83x1 tfA84 tfZ84 tfA85 tfZ85 tfA86 tfZ86 tfE87 tfA87 tfZ87
attribute [go_sem] tfA88 tfZ88 tfA89 tfZ89 tfA90 tfZ90 tfA91 tfZ91 tfA92 tfZ92 tfA93 tfZ93 tfA94 tfZ94 tfA95 tfZ95 tfA96 tfZ96 tfA97 tfZ97
attribute [go_sem] tfA98 tfZ98 tfA99 tfZ99 tfA100 tfZ100 tfA101 tfZ101 tfA102 tfZ102 tfA103 tfZ103 tfA104 tfZ104 tfA105 tfZ105 tfA106 tfZ106 tfA107 tfZ107
attribute [go_sem] tfU107 tfA108 tfA109 tfZ109 tfA110 tfZ110 tfA111 tfZ111 tfA112 tfA113 tfZ113 tfA114 tfZ114 tfA115 tfA116 tfZ116 tfA117 tfZ117 tfA118 tfZ118
attribute [go_sem] tfP118 tfF118x0 tfG118x0 tfF118x1 tfG118x1 tfF118x2 tfG118x2 tfF118x3 tfG118x3 tfF118x4 tfG118x4 tfA119 tfZ119 tfP119 tfF119x0 tfG119x0 tfF119x1 tfG119x1 tfF119x2 tfG119x2
attribute [go_sem] tfF119x3 tfG119x3 tfF119x4 tfG119x4 tfA120 tfZ120 tfA121 tfZ121 tfA122 tfA123 tfZ123 tfA124 tfZ124 tfA125 tfZ125 tfA126 tfZ126 tfA127 tfZ127 tfE128
attribute [go_sem] tfA128 tfZ128 tfA129 tfZ129 tfA130 tfZ130 tfU130 tfA131 tfZ131 tfA132 tfZ132 tfA133 tfZ133 tfA134 tfZ134 tfA135 tfZ135 tfA136 tfZ136 tfA137
attribute [go_sem] tfA138 tfZ138 tfA139 tfA140 tfZ140 tfA141 tfZ141 tfE142 tfA142 tfZ142 tfA143 tfZ143 tfA144 tfZ144 tfE145 tfA145 tfZ145 tfA146 tfZ146 tfA147
attribute [go_sem] tfZ147 tfP147 tfF147x0 tfG147x0 tfF147x1 tfG147x1 tfF147x2 tfG147x2 tfF147x3 tfG147x3 tfF147x4 tfG147x4 tfA148 tfZ148 tfP148 tfF148x0 tfG148x0 tfF148x1 tfG148x1 tfF148x2
attribute [go_sem] tfG148x2 tfF148x3 tfG148x3 tfF148x4 tfG148x4 tfA149 tfZ149 tfA150 tfZ150 tfA151 tfA152 tfZ152 tfA153 tfZ153 tfA154 tfZ154 tfA155 tfA156 tfP156 tfF156x0
attribute [go_sem] tfG156x0 tfF156x1 tfG156x1 tfF156x2 tfG156x2 tfF156x3 tfG156x3 tfF156x4 tfG156x4 tfA157 tfP157 tfF157x0 tfG157x0 tfF157x1 tfG157x1 tfF157x2 tfG157x2 tfF157x3 tfG157x3 tfF157x4
attribute [go_sem] tfG157x4 tfA158 tfZ158 tfA159 tfA160 tfZ160 tfA161 tfZ161 tfA162 tfP162 tfF162x0 tfG162x0 tfF162x1 tfG162x1 tfF162x2 tfG162x2 tfA163 tfP163 tfF163x0 tfG163x0
attribute [go_sem] tfF163x1 tfG163x1 tfF163x2 tfG163x2 tfA164 tfZ164 tfA165 tfZ165 tfA166 tfA167 tfZ167 tfA168 tfZ168 tfA169 tfP169 tfF169x0 tfG169x0 tfF169x1 tfG169x1 tfF169x2
attribute [go_sem] tfG169x2 tfF169x3 tfG169x3 tfF169x4 tfG169x4 tfA170 tfP170 tfF170x0 tfG170x0 tfF170x1 tfG170x1 tfF170x2 tfG170x2 tfF170x3 tfG170x3 tfF170x4 tfG170x4 tfA171 tfZ171 tfA172
attribute [go_sem] tfP172 tfF172x0 tfG172x0 tfF172x1 tfG172x1 tfF172x2 tfG172x2 tfA173 tfP173 tfF173x0 tfG173x0 tfF173x1 tfG173x1 tfF173x2 tfG173x2 tfA174 tfZ174 tfA175 tfZ175 tfU175
attribute [go_sem] tfA176 tfZ176 tfP176 tfF176x0 tfG176x0 tfF176x1 tfG176x1 tfF176x2 tfG176x2 tfA177 tfZ177 tfP177 tfF177x0 tfG177x0 tfF177x1 tfG177x1 tfF177x2 tfG177x2 tfA178 tfZ178
attribute [go_sem] tfA179 tfZ179 tfA180 tfZ180 tfA181 tfZ181 tfA182 tfZ182 tfU182 tfA183 tfZ183 tfA184 tfZ184 tfA185 tfZ185 tfA186 tfZ186 tfA187 tfZ187 tfA188
attribute [go_sem] tfZ188 tfA189 tfZ189 tfA190 tfA191 tfA192 tfA193 tfZ193 tfE194 tfA194 tfZ194 tfA195 tfZ195 tfA196 tfZ196 tfA197 tfZ197 tfA198 tfZ198 tfA199
attribute [go_sem] tfZ199 tfA200 tfZ200 tfA201 tfZ201 tfA202 tfZ202 tfA203 tfZ203 tfA204 tfZ204 tfA205 tfA206 tfZ206 tfA207 tfZ207 tfE208 tfA208 tfZ208 tfA209
attribute [go_sem] tfZ209 tfP209 tfF209x0 tfG209x0 tfF209x1 tfG209x1 tfF209x2 tfG209x2 tfF209x3 tfG209x3 tfA210 tfZ210 tfP210 tfF210x0 tfG210x0 tfF210x1 tfG210x1 tfF210x2 tfG210x2 tfF210x3
attribute [go_sem] tfG210x3 tfA211 tfZ211 tfA212 tfA213 tfZ213 tfP213 tfF213x0 tfG213x0 tfF213x1 tfG213x1 tfF213x2 tfG213x2 tfA214 tfZ214 tfP214 tfF214x0 tfG214x0 tfF214x1 tfG214x1
attribute [go_sem] tfF214x2 tfG214x2 tfA215 tfA216 tfZ216 tfA217 tfZ217 tfP217 tfF217x0 tfG217x0 tfF217x1 tfG217x1 tfA218 tfZ218 tfP218 tfF218x0 tfG218x0 tfF218x1 tfG218x1 tfA219
attribute [go_sem] tfZ219 tfP219 tfF219x0 tfG219x0 tfA220 tfZ220 tfP220 tfF220x0 tfG220x0 tfA221 tfZ221 tfA222 tfZ222 tfA223 tfZ223 tfA224 tfZ224 tfA225 tfZ225 tfA226
attribute [go_sem] tfA227 tfZ227 tfA228 tfZ228 tfA229 tfZ229 tfA230 tfZ230 tfE231 tfA231 tfZ231 tfA232 tfZ232 tfA233 tfA234 tfZ234 tfA235 tfA236 tfZ236 tfA237
attribute [go_sem] tfZ237 tfA238 tfZ238 tfA239 tfZ239 tfA240 tfZ240 tfA241 tfZ241 tfA242 tfZ242 tfA243 tfZ243 tfA244 tfZ244 tfA245 tfZ245 tfA246 tfZ246 tfA247
attribute [go_sem] tfZ247 tfA248 tfZ248 tfA249 tfZ249 tfA250 tfZ250 tfA251 tfZ251 tfE252 tfA252 tfZ252 tfA253 tfZ253 tfP253 tfF253x0 tfG253x0 tfF253x1 tfG253x1 tfA254
attribute [go_sem] tfZ254 tfP254 tfF254x0 tfG254x0 tfF254x1 tfG254x1 tfA255 tfZ255 tfP255 tfF255x0 tfG255x0 tfF255x1 tfG255x1 tfF255x2 tfG255x2 tfA256 tfZ256 tfP256 tfF256x0 tfG256x0
attribute [go_sem] tfF256x1 tfG256x1 tfF256x2 tfG256x2 tfA257 tfZ257 tfA258 tfZ258 tfA259 tfZ259 tfA260 tfZ260 tfA261 tfZ261 tfA262 tfZ262 tfA263 tfZ263 tfP263 tfF263x0
attribute [go_sem] tfG263x0 tfF263x1 tfG263x1 tfF263x2 tfG263x2 tfF263x3 tfG263x3 tfA264 tfZ264 tfP264 tfF264x0 tfG264x0 tfF264x1 tfG264x1 tfF264x2 tfG264x2 tfF264x3 tfG264x3 tfA265 tfZ265
attribute [go_sem] tfA266 tfZ266 tfP266 tfG266x0 tfA267 tfZ267 tfP267 tfG267x0 tfA268 tfZ268 tfA269 tfZ269 tfU269 tfA270 tfZ270 tfA271 tfZ271 tfA272 tfZ272 tfU272
attribute [go_sem] tfA273 tfZ273 tfU273 tfA274 tfZ274 tfP274 tfF274x0 tfG274x0 tfF274x1 tfG274x1 tfF274x2 tfG274x2 tfF274x3 tfG274x3 tfF274x4 tfG274x4 tfF274x5 tfG274x5 tfF274x6 tfG274x6
attribute [go_sem] tfF274x7 tfG274x7 tfF274x8 tfG274x8 tfF274x9 tfG274x9 tfF274x10 tfG274x10 tfA275 tfZ275 tfP275 tfF275x0 tfG275x0 tfF275x1 tfG275x1 tfF275x2 tfG275x2 tfF275x3 tfG275x3 tfF275x4
attribute [go_sem] tfG275x4 tfF275x5 tfG275x5 tfF275x6 tfG275x6 tfF275x7 tfG275x7 tfF275x8 tfG275x8 tfF275x9 tfG275x9 tfF275x10 tfG275x10 tfA276 tfZ276 tfP276 tfF276x0 tfG276x0 tfF276x1 tfG276x1
attribute [go_sem] tfF276x2 tfG276x2 tfF276x3 tfG276x3 tfF276x4 tfG276x4 tfF276x5 tfG276x5 tfF276x6 tfG276x6 tfF276x7 tfG276x7 tfF276x8 tfG276x8 tfA277 tfZ277 tfP277 tfF277x0 tfG277x0 tfF277x1
attribute [go_sem] tfG277x1 tfF277x2 tfG277x2 tfF277x3 tfG277x3 tfF277x4 tfG277x4 tfF277x5 tfG277x5 tfF277x6 tfG277x6 tfF277x7 tfG277x7 tfF277x8 tfG277x8 tfA278 tfZ278 tfP278 tfF278x0 tfG278x0
attribute [go_sem] tfF278x1 tfG278x1 tfF278x2 tfG278x2 tfF278x3 tfG278x3 tfA279 tfZ279 tfP279 tfF279x0 tfG279x0 tfF279x1 tfG279x1 tfF279x2 tfG279x2 tfF279x3 tfG279x3 tfA280 tfZ280 tfA281
attribute [go_sem] tfZ281 tfA282 tfZ282 tfE283 tfA283 tfZ283 tfA284 tfZ284 tfP284 tfF284x0 tfG284x0 tfF284x1 tfG284x1 tfA285 tfZ285 tfP285 tfF285x0 tfG285x0 tfF285x1 tfG285x1
attribute [go_sem] tfA286 tfZ286 tfP286 tfF286x0 tfG286x0 tfF286x1 tfG286x1 tfA287 tfZ287 tfP287 tfF287x0 tfG287x0 tfF287x1 tfG287x1 tfA288 tfZ288 tfP288 tfF288x0 tfG288x0 tfF288x1
attribute [go_sem] tfG288x1 tfA289 tfZ289 tfP289 tfF289x0 tfG289x0 tfF289x1 tfG289x1 tfA290 tfZ290 tfP290 tfF290x0 tfG290x0 tfF290x1 tfG290x1 tfA291 tfZ291 tfP291 tfF291x0 tfG291x0
attribute [go_sem] tfF291x1 tfG291x1 tfA292 tfZ292 tfA293 tfZ293 tfP293 tfF293x0 tfG293x0 tfF293x1 tfG293x1 tfF293x2 tfG293x2 tfA294 tfZ294 tfP294 tfF294x0 tfG294x0 tfF294x1 tfG294x1
attribute [go_sem] tfF294x2 tfG294x2 tfA295 tfZ295 tfA296 tfZ296 tfP296 tfF296x0 tfG296x0 tfF296x1 tfG296x1 tfF296x2 tfG296x2 tfF296x3 tfG296x3 tfF296x4 tfG296x4 tfA297 tfZ297 tfP297
attribute [go_sem] tfF297x0 tfG297x0 tfF297x1 tfG297x1 tfF297x2 tfG297x2 tfF297x3 tfG297x3 tfF297x4 tfG297x4 tfE298 tfA298 tfZ298 tfA299 tfZ299 tfU299 tfA300 tfZ300 tfP300 tfF300x0
attribute [go_sem] tfG300x0 tfF300x1 tfG300x1 tfF300x2 tfG300x2 tfF300x3 tfG300x3 tfA301 tfZ301 tfP301 tfF301x0 tfG301x0 tfF301x1 tfG301x1 tfF301x2 tfG301x2 tfF301x3 tfG301x3 tfA302 tfZ302
attribute [go_sem] tfQ15 tfQ16 tfQ17 tfQ100 tfQ102 tfQ105 tfQ117 tfQ124 tfQ127 tfQ143 tfQ144 tfQ149 tfQ164 tfQ206 tfQ207 tfQ221 tfQ271 tfQ292 tfQ302 tfX1 tfX22 tfX34 tfX41 tfX44 tfX45 tfX46 tfX47 tfX50 tfX51 tfX53 tfX54 tfX55 tfX56 tfX57 tfX59 tfX61 tfX64 tfX65 tfX68 tfX69 tfX70 tfX71 tfX80 tfX84 tfX85 tfX86 tfX88 tfX89 tfX90 tfX91 tfX92 tfX93 tfX94 tfX95 tfX96 tfX97 tfX98 tfX99 tfX101 tfX103 tfX104 tfX106 tfX109 tfX110 tfX111 tfX113 tfX114 tfX116 tfX123 tfX125 tfX126 tfX129 tfX131 tfX132 tfX133 tfX134 tfX135 tfX136 tfX138 tfX140 tfX141 tfX150 tfX152 tfX158 tfX165 tfX167 tfX178 tfX181 tfX183 tfX184 tfX185 tfX186 tfX187 tfX188 tfX193 tfX195 tfX196 tfX197 tfX198 tfX199 tfX200 tfX201 tfX202 tfX203 tfX204 tfX211 tfX222 tfX223 tfX224 tfX227 tfX229 tfX232 tfX234 tfX236 tfX237 tfX238 tfX240 tfX241 tfX243 tfX244 tfX247 tfX249 tfX251 tfX257 tfX258 tfX259 tfX260 tfX261 tfX262 tfX268 tfX270 tfX280 tfX281 tfX282 tfX295

end Go.Proofs.YtdepbfgnmliggaaGreatDoor.Sx
