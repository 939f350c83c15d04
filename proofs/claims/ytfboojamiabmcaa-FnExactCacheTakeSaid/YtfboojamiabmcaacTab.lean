/- The numbers and layouts of this seat's translation, by program. -/
import Derived.Test.YtfboojamiabmcaaLfd
import Derived.Test.YtfboojamiabmcaaProg
import Derived.KernelRfl
import GoSem.Extern.Table
set_option linter.unusedSectionVars false
set_option linter.all false
set_option linter.unusedVariables false
set_option maxRecDepth 100000
namespace Go.Proofs.Ytfboojamiabmcaa
open Go.Lft
def mdT (f : Nat) : List Nat := if f = 101 then [1000, 1002] else if f = 25 then [2000] else if f = 40 then [0] else if f = 62 then [0] else if f = 63 then [0] else if f = 64 then [0] else if f = 41 then [0] else if f = 14 then [0] else if f = 75 then [1000] else if f = 36 then [0] else if f = 31 then [0] else if f = 13 then [4000, 3, 3, 40] else if f = 24 then [4000, 2, 2, 62] else []
def fzT (f : Nat) : Bool := false
def itoaMax : Nat := 100
theorem itoaMax_le : 100 ≤ itoaMax ∧ itoaMax ≤ 1000 := by decide
def extT (f : Nat) : Option (List D → Option (D × List D)) := if f = 113 then some extIndexByte else if f = 101 then some (extInsert 3 103) else none
open Go.Shelf Go.Proofs in
def ren101 : Ren := { f := fun x => match x with | 22 => 101 | 29 => 106 | 30 => 107 | n => n, t := fun x => match x with | 0 => 0 | 3 => 3 | 4 => 4 | 24 => 28 | 9 => 103 | n => n, g := fun x => x }
open Go.Shelf Go.Proofs in
theorem lays101 : InsLays Try.prog ren101 where
  mixed := by first | kernel_rfl | rfl
  f22 := ⟨(Try.prog.funcs[101]!).name, by first | kernel_rfl | rfl, by first | kernel_rfl | rfl⟩
  f29 := ⟨_, Try.func106, by first | kernel_rfl | rfl, by first | kernel_rfl | rfl, by first | kernel_rfl | rfl, by first | kernel_rfl | rfl⟩
  t0 := by first | kernel_rfl | rfl
  a0 := fun _ => by first | rfl | kernel_rfl
  z0 := fun _ => by first | rfl | kernel_rfl
  v0 := fun _ => by first | rfl | kernel_rfl
  t3 := by first | kernel_rfl | rfl
  a3 := fun _ => by first | rfl | kernel_rfl
  z3 := fun _ => by first | rfl | kernel_rfl
  v3 := fun _ => by first | rfl | kernel_rfl
  t4 := by first | kernel_rfl | rfl
  a4 := fun _ => by first | rfl | kernel_rfl
  z4 := fun _ => by first | rfl | kernel_rfl
  v4 := fun _ => by first | rfl | kernel_rfl
  t24 := by first | kernel_rfl | rfl
  a24 := fun _ => by first | rfl | kernel_rfl
  z24 := fun _ => by first | rfl | kernel_rfl
  v24 := fun _ => by first | rfl | kernel_rfl
def mvT (f t : Nat) : Bool := if f = 7 then t == 5 else if f = 8 then t == 3 else if f = 10 then t == 5 else if f = 18 then t == 9 else if f = 19 then t == 3 else if f = 20 then t == 3 else if f = 21 then t == 10 else if f = 34 then t == 3 else if f = 35 then t == 1 else if f = 49 then t == 3 else if f = 72 then t == 3 else if f = 87 then t == 3 else if f = 88 then t == 3 else if f = 98 then t == 3 else false
noncomputable def E : En := { P := Try.prog, T := tbOf Try.prog, md := mdT, fz := fzT, mv := mvT, ext := extT }
@[simp] theorem E_P : E.P = Try.prog := rfl
@[simp] theorem ty1 : E.T.ty 1 = .one := by kernel_rfl
@[simp] theorem ty2 : E.T.ty 2 = .int .i64 := by kernel_rfl
@[simp] theorem zero2 : E.T.zero 2 = some (.int .i64 0) := by kernel_rfl
@[simp] theorem ty3 : E.T.ty 3 = .int .i64 := by kernel_rfl
@[simp] theorem zero3 : E.T.zero 3 = some (.int .i64 0) := by kernel_rfl
@[simp] theorem ty4 : E.T.ty 4 = .bool := by kernel_rfl
@[simp] theorem zero4 : E.T.zero 4 = some (.bool false) := by kernel_rfl
@[simp] theorem ty5 : E.T.ty 5 = .int .u8 := by kernel_rfl
@[simp] theorem zero5 : E.T.zero 5 = some (.int .u8 0) := by kernel_rfl
@[simp] theorem ty9 : E.T.ty 9 = .str := by kernel_rfl
@[simp] theorem zero9 : E.T.zero 9 = some (.str []) := by kernel_rfl
@[simp] theorem ty12 : E.T.ty 12 = .int .u64 := by kernel_rfl
@[simp] theorem zero12 : E.T.zero 12 = some (.int .u64 0) := by kernel_rfl
@[simp] theorem ty15 : E.T.ty 15 = .one := by kernel_rfl
@[simp] theorem ty16 : E.T.ty 16 = .one := by kernel_rfl
@[simp] theorem ty17 : E.T.ty 17 = .one := by kernel_rfl
@[simp] theorem ty20 : E.T.ty 20 = .iface := by kernel_rfl
@[simp] theorem zero20 : E.T.zero 20 = some (.ifc true) := by kernel_rfl
@[simp] theorem ty21 : E.T.ty 21 = .int .i32 := by kernel_rfl
@[simp] theorem zero21 : E.T.zero 21 = some (.int .i32 0) := by kernel_rfl
@[simp] theorem ty22 : E.T.ty 22 = .slice 108 3 24 := by kernel_rfl
@[simp] theorem zero22 : E.T.zero 22 = some (.lst true 108 3 []) := by kernel_rfl
@[simp] theorem ty24 : E.T.ty 24 = .strct 4 false := by kernel_rfl
@[simp] theorem off24_0 : E.T.off 24 0 = some 0 := by kernel_rfl
@[simp] theorem fl24_0 : E.T.fl 24 0 = some (false, 1) := by kernel_rfl
@[simp] theorem off24_1 : E.T.off 24 1 = some 1 := by kernel_rfl
@[simp] theorem fl24_1 : E.T.fl 24 1 = some (false, 1) := by kernel_rfl
@[simp] theorem off24_2 : E.T.off 24 2 = some 2 := by kernel_rfl
@[simp] theorem fl24_2 : E.T.fl 24 2 = some (false, 1) := by kernel_rfl
@[simp] theorem off24_3 : E.T.off 24 3 = some 3 := by kernel_rfl
@[simp] theorem fl24_3 : E.T.fl 24 3 = some (false, 1) := by kernel_rfl
@[simp] theorem zero24 : E.T.zero 24 = some (.agg [(.str []), (.int .i64 0), (.int .i64 0), (.lst true 108 3 [])]) := by kernel_rfl
@[simp] theorem ty25 : E.T.ty 25 = .slice 67 7 72 := by kernel_rfl
@[simp] theorem zero25 : E.T.zero 25 = some (.lst true 67 7 []) := by kernel_rfl
@[simp] theorem ty26 : E.T.ty 26 = .one := by kernel_rfl
@[simp] theorem ty27 : E.T.ty 27 = .one := by kernel_rfl
@[simp] theorem ty28 : E.T.ty 28 = .slice 103 3 24 := by kernel_rfl
@[simp] theorem zero28 : E.T.zero 28 = some (.lst true 103 3 []) := by kernel_rfl
@[simp] theorem ty30 : E.T.ty 30 = .strct 4 false := by kernel_rfl
@[simp] theorem off30_0 : E.T.off 30 0 = some 0 := by kernel_rfl
@[simp] theorem fl30_0 : E.T.fl 30 0 = some (false, 1) := by kernel_rfl
@[simp] theorem off30_1 : E.T.off 30 1 = some 1 := by kernel_rfl
@[simp] theorem fl30_1 : E.T.fl 30 1 = some (false, 1) := by kernel_rfl
@[simp] theorem off30_2 : E.T.off 30 2 = some 2 := by kernel_rfl
@[simp] theorem fl30_2 : E.T.fl 30 2 = some (false, 1) := by kernel_rfl
@[simp] theorem off30_3 : E.T.off 30 3 = some 3 := by kernel_rfl
@[simp] theorem fl30_3 : E.T.fl 30 3 = some (false, 1) := by kernel_rfl
@[simp] theorem zero30 : E.T.zero 30 = some (.agg [(.str []), (.int .i64 0), (.int .i64 0), (.lst true 103 3 [])]) := by kernel_rfl
@[simp] theorem ty31 : E.T.ty 31 = .one := by kernel_rfl
@[simp] theorem ty32 : E.T.ty 32 = .one := by kernel_rfl
@[simp] theorem ty33 : E.T.ty 33 = .slice 73 7 72 := by kernel_rfl
@[simp] theorem zero33 : E.T.zero 33 = some (.lst true 73 7 []) := by kernel_rfl
@[simp] theorem ty34 : E.T.ty 34 = .one := by kernel_rfl
@[simp] theorem ty35 : E.T.ty 35 = .one := by kernel_rfl
@[simp] theorem ty36 : E.T.ty 36 = .one := by kernel_rfl
@[simp] theorem ty37 : E.T.ty 37 = .one := by kernel_rfl
@[simp] theorem ty38 : E.T.ty 38 = .one := by kernel_rfl
@[simp] theorem ty39 : E.T.ty 39 = .one := by kernel_rfl
@[simp] theorem ty40 : E.T.ty 40 = .slice 3 1 8 := by kernel_rfl
@[simp] theorem zero40 : E.T.zero 40 = some (.lst true 3 1 []) := by kernel_rfl
@[simp] theorem ty42 : E.T.ty 42 = .strct 4 false := by kernel_rfl
@[simp] theorem off42_0 : E.T.off 42 0 = some 0 := by kernel_rfl
@[simp] theorem fl42_0 : E.T.fl 42 0 = some (false, 1) := by kernel_rfl
@[simp] theorem off42_1 : E.T.off 42 1 = some 1 := by kernel_rfl
@[simp] theorem fl42_1 : E.T.fl 42 1 = some (false, 1) := by kernel_rfl
@[simp] theorem off42_2 : E.T.off 42 2 = some 2 := by kernel_rfl
@[simp] theorem fl42_2 : E.T.fl 42 2 = some (false, 1) := by kernel_rfl
@[simp] theorem off42_3 : E.T.off 42 3 = some 3 := by kernel_rfl
@[simp] theorem fl42_3 : E.T.fl 42 3 = some (false, 1) := by kernel_rfl
@[simp] theorem zero42 : E.T.zero 42 = some (.agg [(.str []), (.int .i64 0), (.lst true 3 1 []), (.int .i64 0)]) := by kernel_rfl
@[simp] theorem ty43 : E.T.ty 43 = .slice 119 4 40 := by kernel_rfl
@[simp] theorem zero43 : E.T.zero 43 = some (.lst true 119 4 []) := by kernel_rfl
@[simp] theorem ty44 : E.T.ty 44 = .slice 124 2 16 := by kernel_rfl
@[simp] theorem zero44 : E.T.zero 44 = some (.lst true 124 2 []) := by kernel_rfl
@[simp] theorem ty46 : E.T.ty 46 = .strct 7 false := by kernel_rfl
@[simp] theorem off46_0 : E.T.off 46 0 = some 0 := by kernel_rfl
@[simp] theorem fl46_0 : E.T.fl 46 0 = some (false, 1) := by kernel_rfl
@[simp] theorem off46_1 : E.T.off 46 1 = some 1 := by kernel_rfl
@[simp] theorem fl46_1 : E.T.fl 46 1 = some (false, 1) := by kernel_rfl
@[simp] theorem off46_2 : E.T.off 46 2 = some 2 := by kernel_rfl
@[simp] theorem fl46_2 : E.T.fl 46 2 = some (false, 1) := by kernel_rfl
@[simp] theorem off46_3 : E.T.off 46 3 = some 3 := by kernel_rfl
@[simp] theorem fl46_3 : E.T.fl 46 3 = some (false, 1) := by kernel_rfl
@[simp] theorem off46_4 : E.T.off 46 4 = some 4 := by kernel_rfl
@[simp] theorem fl46_4 : E.T.fl 46 4 = some (false, 1) := by kernel_rfl
@[simp] theorem off46_5 : E.T.off 46 5 = some 5 := by kernel_rfl
@[simp] theorem fl46_5 : E.T.fl 46 5 = some (false, 1) := by kernel_rfl
@[simp] theorem off46_6 : E.T.off 46 6 = some 6 := by kernel_rfl
@[simp] theorem fl46_6 : E.T.fl 46 6 = some (false, 1) := by kernel_rfl
@[simp] theorem zero46 : E.T.zero 46 = some (.agg [(.str []), (.int .i64 0), (.int .i64 0), (.int .i64 0), (.lst true 119 4 []), (.lst true 124 2 []), (.int .i64 0)]) := by kernel_rfl
@[simp] theorem ty47 : E.T.ty 47 = .one := by kernel_rfl
@[simp] theorem ty48 : E.T.ty 48 = .one := by kernel_rfl
@[simp] theorem ty49 : E.T.ty 49 = .strct 4 false := by kernel_rfl
@[simp] theorem off49_0 : E.T.off 49 0 = some 0 := by kernel_rfl
@[simp] theorem fl49_0 : E.T.fl 49 0 = some (false, 1) := by kernel_rfl
@[simp] theorem off49_1 : E.T.off 49 1 = some 1 := by kernel_rfl
@[simp] theorem fl49_1 : E.T.fl 49 1 = some (false, 1) := by kernel_rfl
@[simp] theorem off49_2 : E.T.off 49 2 = some 2 := by kernel_rfl
@[simp] theorem fl49_2 : E.T.fl 49 2 = some (false, 1) := by kernel_rfl
@[simp] theorem off49_3 : E.T.off 49 3 = some 3 := by kernel_rfl
@[simp] theorem fl49_3 : E.T.fl 49 3 = some (false, 1) := by kernel_rfl
@[simp] theorem zero49 : E.T.zero 49 = some (.agg [(.str []), (.int .i64 0), (.lst true 3 1 []), (.int .i64 0)]) := by kernel_rfl
@[simp] theorem ty51 : E.T.ty 51 = .one := by kernel_rfl
@[simp] theorem ty52 : E.T.ty 52 = .one := by kernel_rfl
@[simp] theorem ty53 : E.T.ty 53 = .slice 90 4 40 := by kernel_rfl
@[simp] theorem zero53 : E.T.zero 53 = some (.lst true 90 4 []) := by kernel_rfl
@[simp] theorem ty54 : E.T.ty 54 = .slice 121 2 16 := by kernel_rfl
@[simp] theorem zero54 : E.T.zero 54 = some (.lst true 121 2 []) := by kernel_rfl
@[simp] theorem ty56 : E.T.ty 56 = .strct 7 false := by kernel_rfl
@[simp] theorem off56_0 : E.T.off 56 0 = some 0 := by kernel_rfl
@[simp] theorem fl56_0 : E.T.fl 56 0 = some (false, 1) := by kernel_rfl
@[simp] theorem off56_1 : E.T.off 56 1 = some 1 := by kernel_rfl
@[simp] theorem fl56_1 : E.T.fl 56 1 = some (false, 1) := by kernel_rfl
@[simp] theorem off56_2 : E.T.off 56 2 = some 2 := by kernel_rfl
@[simp] theorem fl56_2 : E.T.fl 56 2 = some (false, 1) := by kernel_rfl
@[simp] theorem off56_3 : E.T.off 56 3 = some 3 := by kernel_rfl
@[simp] theorem fl56_3 : E.T.fl 56 3 = some (false, 1) := by kernel_rfl
@[simp] theorem off56_4 : E.T.off 56 4 = some 4 := by kernel_rfl
@[simp] theorem fl56_4 : E.T.fl 56 4 = some (false, 1) := by kernel_rfl
@[simp] theorem off56_5 : E.T.off 56 5 = some 5 := by kernel_rfl
@[simp] theorem fl56_5 : E.T.fl 56 5 = some (false, 1) := by kernel_rfl
@[simp] theorem off56_6 : E.T.off 56 6 = some 6 := by kernel_rfl
@[simp] theorem fl56_6 : E.T.fl 56 6 = some (false, 1) := by kernel_rfl
@[simp] theorem zero56 : E.T.zero 56 = some (.agg [(.str []), (.int .i64 0), (.int .i64 0), (.int .i64 0), (.lst true 90 4 []), (.lst true 121 2 []), (.int .i64 0)]) := by kernel_rfl
@[simp] theorem ty57 : E.T.ty 57 = .one := by kernel_rfl
@[simp] theorem ty58 : E.T.ty 58 = .one := by kernel_rfl
@[simp] theorem ty59 : E.T.ty 59 = .one := by kernel_rfl
@[simp] theorem ty60 : E.T.ty 60 = .one := by kernel_rfl
@[simp] theorem ty61 : E.T.ty 61 = .one := by kernel_rfl
@[simp] theorem ty62 : E.T.ty 62 = .one := by kernel_rfl
@[simp] theorem ty63 : E.T.ty 63 = .one := by kernel_rfl
@[simp] theorem ty64 : E.T.ty 64 = .one := by kernel_rfl
@[simp] theorem ty65 : E.T.ty 65 = .slice 132 2 16 := by kernel_rfl
@[simp] theorem zero65 : E.T.zero 65 = some (.lst true 132 2 []) := by kernel_rfl
@[simp] theorem ty67 : E.T.ty 67 = .strct 7 false := by kernel_rfl
@[simp] theorem off67_0 : E.T.off 67 0 = some 0 := by kernel_rfl
@[simp] theorem fl67_0 : E.T.fl 67 0 = some (false, 1) := by kernel_rfl
@[simp] theorem off67_1 : E.T.off 67 1 = some 1 := by kernel_rfl
@[simp] theorem fl67_1 : E.T.fl 67 1 = some (false, 1) := by kernel_rfl
@[simp] theorem off67_2 : E.T.off 67 2 = some 2 := by kernel_rfl
@[simp] theorem fl67_2 : E.T.fl 67 2 = some (false, 1) := by kernel_rfl
@[simp] theorem off67_3 : E.T.off 67 3 = some 3 := by kernel_rfl
@[simp] theorem fl67_3 : E.T.fl 67 3 = some (false, 1) := by kernel_rfl
@[simp] theorem off67_4 : E.T.off 67 4 = some 4 := by kernel_rfl
@[simp] theorem fl67_4 : E.T.fl 67 4 = some (false, 1) := by kernel_rfl
@[simp] theorem off67_5 : E.T.off 67 5 = some 5 := by kernel_rfl
@[simp] theorem fl67_5 : E.T.fl 67 5 = some (false, 1) := by kernel_rfl
@[simp] theorem off67_6 : E.T.off 67 6 = some 6 := by kernel_rfl
@[simp] theorem fl67_6 : E.T.fl 67 6 = some (false, 1) := by kernel_rfl
@[simp] theorem zero67 : E.T.zero 67 = some (.agg [(.int .i64 0), (.int .i64 0), (.int .i64 0), (.int .i64 0), (.int .i64 0), (.lst true 132 2 []), (.bool false)]) := by kernel_rfl
@[simp] theorem ty68 : E.T.ty 68 = .one := by kernel_rfl
@[simp] theorem ty69 : E.T.ty 69 = .one := by kernel_rfl
@[simp] theorem ty70 : E.T.ty 70 = .one := by kernel_rfl
@[simp] theorem ty71 : E.T.ty 71 = .slice 117 2 16 := by kernel_rfl
@[simp] theorem zero71 : E.T.zero 71 = some (.lst true 117 2 []) := by kernel_rfl
@[simp] theorem ty73 : E.T.ty 73 = .strct 7 false := by kernel_rfl
@[simp] theorem off73_0 : E.T.off 73 0 = some 0 := by kernel_rfl
@[simp] theorem fl73_0 : E.T.fl 73 0 = some (false, 1) := by kernel_rfl
@[simp] theorem off73_1 : E.T.off 73 1 = some 1 := by kernel_rfl
@[simp] theorem fl73_1 : E.T.fl 73 1 = some (false, 1) := by kernel_rfl
@[simp] theorem off73_2 : E.T.off 73 2 = some 2 := by kernel_rfl
@[simp] theorem fl73_2 : E.T.fl 73 2 = some (false, 1) := by kernel_rfl
@[simp] theorem off73_3 : E.T.off 73 3 = some 3 := by kernel_rfl
@[simp] theorem fl73_3 : E.T.fl 73 3 = some (false, 1) := by kernel_rfl
@[simp] theorem off73_4 : E.T.off 73 4 = some 4 := by kernel_rfl
@[simp] theorem fl73_4 : E.T.fl 73 4 = some (false, 1) := by kernel_rfl
@[simp] theorem off73_5 : E.T.off 73 5 = some 5 := by kernel_rfl
@[simp] theorem fl73_5 : E.T.fl 73 5 = some (false, 1) := by kernel_rfl
@[simp] theorem off73_6 : E.T.off 73 6 = some 6 := by kernel_rfl
@[simp] theorem fl73_6 : E.T.fl 73 6 = some (false, 1) := by kernel_rfl
@[simp] theorem zero73 : E.T.zero 73 = some (.agg [(.int .i64 0), (.int .i64 0), (.int .i64 0), (.int .i64 0), (.int .i64 0), (.lst true 117 2 []), (.bool false)]) := by kernel_rfl
@[simp] theorem ty74 : E.T.ty 74 = .one := by kernel_rfl
@[simp] theorem ty75 : E.T.ty 75 = .one := by kernel_rfl
@[simp] theorem ty76 : E.T.ty 76 = .one := by kernel_rfl
@[simp] theorem ty77 : E.T.ty 77 = .one := by kernel_rfl
@[simp] theorem ty78 : E.T.ty 78 = .one := by kernel_rfl
@[simp] theorem ty79 : E.T.ty 79 = .one := by kernel_rfl
@[simp] theorem ty80 : E.T.ty 80 = .one := by kernel_rfl
@[simp] theorem ty81 : E.T.ty 81 = .one := by kernel_rfl
@[simp] theorem ty82 : E.T.ty 82 = .one := by kernel_rfl
@[simp] theorem ty83 : E.T.ty 83 = .one := by kernel_rfl
@[simp] theorem ty84 : E.T.ty 84 = .one := by kernel_rfl
@[simp] theorem ty85 : E.T.ty 85 = .one := by kernel_rfl
@[simp] theorem ty86 : E.T.ty 86 = .one := by kernel_rfl
@[simp] theorem ty87 : E.T.ty 87 = .one := by kernel_rfl
@[simp] theorem ty88 : E.T.ty 88 = .one := by kernel_rfl
@[simp] theorem ty90 : E.T.ty 90 = .strct 4 true := by kernel_rfl
@[simp] theorem off90_0 : E.T.off 90 0 = some 0 := by kernel_rfl
@[simp] theorem fl90_0 : E.T.fl 90 0 = some (false, 1) := by kernel_rfl
@[simp] theorem off90_1 : E.T.off 90 1 = some 1 := by kernel_rfl
@[simp] theorem fl90_1 : E.T.fl 90 1 = some (false, 1) := by kernel_rfl
@[simp] theorem off90_2 : E.T.off 90 2 = some 2 := by kernel_rfl
@[simp] theorem fl90_2 : E.T.fl 90 2 = some (false, 1) := by kernel_rfl
@[simp] theorem off90_3 : E.T.off 90 3 = some 3 := by kernel_rfl
@[simp] theorem fl90_3 : E.T.fl 90 3 = some (false, 1) := by kernel_rfl
@[simp] theorem kinds90 : E.T.kinds 90 = [0, 0, 0, 1] := by kernel_rfl
@[simp] theorem zero90 : E.T.zero 90 = some (.agg [(.int .i64 0), (.int .i64 0), (.int .i64 0), (.str [])]) := by kernel_rfl
@[simp] theorem ty91 : E.T.ty 91 = .one := by kernel_rfl
@[simp] theorem ty92 : E.T.ty 92 = .one := by kernel_rfl
@[simp] theorem ty93 : E.T.ty 93 = .one := by kernel_rfl
@[simp] theorem ty94 : E.T.ty 94 = .one := by kernel_rfl
@[simp] theorem ty95 : E.T.ty 95 = .one := by kernel_rfl
@[simp] theorem ty96 : E.T.ty 96 = .one := by kernel_rfl
@[simp] theorem ty97 : E.T.ty 97 = .one := by kernel_rfl
@[simp] theorem ty98 : E.T.ty 98 = .one := by kernel_rfl
@[simp] theorem ty99 : E.T.ty 99 = .one := by kernel_rfl
@[simp] theorem ty100 : E.T.ty 100 = .one := by kernel_rfl
@[simp] theorem ty101 : E.T.ty 101 = .one := by kernel_rfl
@[simp] theorem ty103 : E.T.ty 103 = .strct 3 true := by kernel_rfl
@[simp] theorem off103_0 : E.T.off 103 0 = some 0 := by kernel_rfl
@[simp] theorem fl103_0 : E.T.fl 103 0 = some (false, 1) := by kernel_rfl
@[simp] theorem off103_1 : E.T.off 103 1 = some 1 := by kernel_rfl
@[simp] theorem fl103_1 : E.T.fl 103 1 = some (false, 1) := by kernel_rfl
@[simp] theorem off103_2 : E.T.off 103 2 = some 2 := by kernel_rfl
@[simp] theorem fl103_2 : E.T.fl 103 2 = some (false, 1) := by kernel_rfl
@[simp] theorem kinds103 : E.T.kinds 103 = [0, 0, 0] := by kernel_rfl
@[simp] theorem zero103 : E.T.zero 103 = some (.agg [(.int .i64 0), (.int .i64 0), (.int .i64 0)]) := by kernel_rfl
@[simp] theorem ty104 : E.T.ty 104 = .one := by kernel_rfl
@[simp] theorem ty105 : E.T.ty 105 = .one := by kernel_rfl
@[simp] theorem ty106 : E.T.ty 106 = .one := by kernel_rfl
@[simp] theorem ty107 : E.T.ty 107 = .one := by kernel_rfl
@[simp] theorem ty108 : E.T.ty 108 = .strct 3 true := by kernel_rfl
@[simp] theorem off108_0 : E.T.off 108 0 = some 0 := by kernel_rfl
@[simp] theorem fl108_0 : E.T.fl 108 0 = some (false, 1) := by kernel_rfl
@[simp] theorem off108_1 : E.T.off 108 1 = some 1 := by kernel_rfl
@[simp] theorem fl108_1 : E.T.fl 108 1 = some (false, 1) := by kernel_rfl
@[simp] theorem off108_2 : E.T.off 108 2 = some 2 := by kernel_rfl
@[simp] theorem fl108_2 : E.T.fl 108 2 = some (false, 1) := by kernel_rfl
@[simp] theorem kinds108 : E.T.kinds 108 = [0, 0, 0] := by kernel_rfl
@[simp] theorem zero108 : E.T.zero 108 = some (.agg [(.int .i64 0), (.int .i64 0), (.int .i64 0)]) := by kernel_rfl
@[simp] theorem ty109 : E.T.ty 109 = .one := by kernel_rfl
@[simp] theorem ty110 : E.T.ty 110 = .one := by kernel_rfl
@[simp] theorem ty111 : E.T.ty 111 = .one := by kernel_rfl
@[simp] theorem ty112 : E.T.ty 112 = .one := by kernel_rfl
@[simp] theorem ty113 : E.T.ty 113 = .one := by kernel_rfl
@[simp] theorem ty114 : E.T.ty 114 = .one := by kernel_rfl
@[simp] theorem ty115 : E.T.ty 115 = .one := by kernel_rfl
@[simp] theorem ty117 : E.T.ty 117 = .strct 2 true := by kernel_rfl
@[simp] theorem off117_0 : E.T.off 117 0 = some 0 := by kernel_rfl
@[simp] theorem fl117_0 : E.T.fl 117 0 = some (false, 1) := by kernel_rfl
@[simp] theorem off117_1 : E.T.off 117 1 = some 1 := by kernel_rfl
@[simp] theorem fl117_1 : E.T.fl 117 1 = some (false, 1) := by kernel_rfl
@[simp] theorem kinds117 : E.T.kinds 117 = [0, 0] := by kernel_rfl
@[simp] theorem zero117 : E.T.zero 117 = some (.agg [(.int .i64 0), (.int .i64 0)]) := by kernel_rfl
@[simp] theorem ty118 : E.T.ty 118 = .one := by kernel_rfl
@[simp] theorem ty119 : E.T.ty 119 = .strct 4 true := by kernel_rfl
@[simp] theorem off119_0 : E.T.off 119 0 = some 0 := by kernel_rfl
@[simp] theorem fl119_0 : E.T.fl 119 0 = some (false, 1) := by kernel_rfl
@[simp] theorem off119_1 : E.T.off 119 1 = some 1 := by kernel_rfl
@[simp] theorem fl119_1 : E.T.fl 119 1 = some (false, 1) := by kernel_rfl
@[simp] theorem off119_2 : E.T.off 119 2 = some 2 := by kernel_rfl
@[simp] theorem fl119_2 : E.T.fl 119 2 = some (false, 1) := by kernel_rfl
@[simp] theorem off119_3 : E.T.off 119 3 = some 3 := by kernel_rfl
@[simp] theorem fl119_3 : E.T.fl 119 3 = some (false, 1) := by kernel_rfl
@[simp] theorem kinds119 : E.T.kinds 119 = [0, 0, 0, 1] := by kernel_rfl
@[simp] theorem zero119 : E.T.zero 119 = some (.agg [(.int .i64 0), (.int .i64 0), (.int .i64 0), (.str [])]) := by kernel_rfl
@[simp] theorem ty121 : E.T.ty 121 = .strct 2 true := by kernel_rfl
@[simp] theorem off121_0 : E.T.off 121 0 = some 0 := by kernel_rfl
@[simp] theorem fl121_0 : E.T.fl 121 0 = some (false, 1) := by kernel_rfl
@[simp] theorem off121_1 : E.T.off 121 1 = some 1 := by kernel_rfl
@[simp] theorem fl121_1 : E.T.fl 121 1 = some (false, 1) := by kernel_rfl
@[simp] theorem kinds121 : E.T.kinds 121 = [0, 0] := by kernel_rfl
@[simp] theorem zero121 : E.T.zero 121 = some (.agg [(.int .i64 0), (.int .i64 0)]) := by kernel_rfl
@[simp] theorem ty122 : E.T.ty 122 = .one := by kernel_rfl
@[simp] theorem ty123 : E.T.ty 123 = .one := by kernel_rfl
@[simp] theorem ty124 : E.T.ty 124 = .strct 2 true := by kernel_rfl
@[simp] theorem off124_0 : E.T.off 124 0 = some 0 := by kernel_rfl
@[simp] theorem fl124_0 : E.T.fl 124 0 = some (false, 1) := by kernel_rfl
@[simp] theorem off124_1 : E.T.off 124 1 = some 1 := by kernel_rfl
@[simp] theorem fl124_1 : E.T.fl 124 1 = some (false, 1) := by kernel_rfl
@[simp] theorem kinds124 : E.T.kinds 124 = [0, 0] := by kernel_rfl
@[simp] theorem zero124 : E.T.zero 124 = some (.agg [(.int .i64 0), (.int .i64 0)]) := by kernel_rfl
@[simp] theorem ty125 : E.T.ty 125 = .one := by kernel_rfl
@[simp] theorem ty126 : E.T.ty 126 = .one := by kernel_rfl
@[simp] theorem ty127 : E.T.ty 127 = .one := by kernel_rfl
@[simp] theorem ty128 : E.T.ty 128 = .one := by kernel_rfl
@[simp] theorem ty129 : E.T.ty 129 = .one := by kernel_rfl
@[simp] theorem ty130 : E.T.ty 130 = .one := by kernel_rfl
@[simp] theorem ty131 : E.T.ty 131 = .one := by kernel_rfl
@[simp] theorem ty132 : E.T.ty 132 = .strct 2 true := by kernel_rfl
@[simp] theorem off132_0 : E.T.off 132 0 = some 0 := by kernel_rfl
@[simp] theorem fl132_0 : E.T.fl 132 0 = some (false, 1) := by kernel_rfl
@[simp] theorem off132_1 : E.T.off 132 1 = some 1 := by kernel_rfl
@[simp] theorem fl132_1 : E.T.fl 132 1 = some (false, 1) := by kernel_rfl
@[simp] theorem kinds132 : E.T.kinds 132 = [0, 0] := by kernel_rfl
@[simp] theorem zero132 : E.T.zero 132 = some (.agg [(.int .i64 0), (.int .i64 0)]) := by kernel_rfl
@[simp] theorem ty133 : E.T.ty 133 = .one := by kernel_rfl
@[simp] theorem ty134 : E.T.ty 134 = .one := by kernel_rfl
@[simp] theorem ty135 : E.T.ty 135 = .one := by kernel_rfl
@[simp] theorem ty136 : E.T.ty 136 = .one := by kernel_rfl
@[simp] theorem ty137 : E.T.ty 137 = .one := by kernel_rfl
@[simp] theorem ty138 : E.T.ty 138 = .slice 5 1 1 := by kernel_rfl
@[simp] theorem zero138 : E.T.zero 138 = some (.lst true 5 1 []) := by kernel_rfl
@[simp] theorem ty139 : E.T.ty 139 = .one := by kernel_rfl
@[simp] theorem ty140 : E.T.ty 140 = .one := by kernel_rfl
@[simp] theorem ty141 : E.T.ty 141 = .one := by kernel_rfl
@[simp] theorem ty142 : E.T.ty 142 = .one := by kernel_rfl
@[simp] theorem ty143 : E.T.ty 143 = .one := by kernel_rfl
@[simp] theorem ty149 : E.T.ty 149 = .one := by kernel_rfl
@[simp] theorem ty150 : E.T.ty 150 = .int .u32 := by kernel_rfl
@[simp] theorem zero150 : E.T.zero 150 = some (.int .u32 0) := by kernel_rfl
@[simp] theorem ty153 : E.T.ty 153 = .one := by kernel_rfl
@[simp] theorem ty154 : E.T.ty 154 = .one := by kernel_rfl
@[simp] theorem md3 : E.md 3 = [] := rfl
@[simp] theorem mv3 (t : Nat) : E.mv 3 t = false := rfl
@[simp] theorem fz3 : E.fz 3 = false := rfl
@[simp] theorem md4 : E.md 4 = [] := rfl
@[simp] theorem mv4 (t : Nat) : E.mv 4 t = false := rfl
@[simp] theorem fz4 : E.fz 4 = false := rfl
@[simp] theorem md5 : E.md 5 = [] := rfl
@[simp] theorem mv5 (t : Nat) : E.mv 5 t = false := rfl
@[simp] theorem fz5 : E.fz 5 = false := rfl
@[simp] theorem md6 : E.md 6 = [] := rfl
@[simp] theorem mv6 (t : Nat) : E.mv 6 t = false := rfl
@[simp] theorem fz6 : E.fz 6 = false := rfl
@[simp] theorem md7 : E.md 7 = [] := rfl
@[simp] theorem mv7 (t : Nat) : E.mv 7 t = (t == 5) := rfl
@[simp] theorem fz7 : E.fz 7 = false := rfl
@[simp] theorem md8 : E.md 8 = [] := rfl
@[simp] theorem mv8 (t : Nat) : E.mv 8 t = (t == 3) := rfl
@[simp] theorem fz8 : E.fz 8 = false := rfl
@[simp] theorem md9 : E.md 9 = [] := rfl
@[simp] theorem mv9 (t : Nat) : E.mv 9 t = false := rfl
@[simp] theorem fz9 : E.fz 9 = false := rfl
@[simp] theorem md10 : E.md 10 = [] := rfl
@[simp] theorem mv10 (t : Nat) : E.mv 10 t = (t == 5) := rfl
@[simp] theorem fz10 : E.fz 10 = false := rfl
@[simp] theorem md11 : E.md 11 = [] := rfl
@[simp] theorem mv11 (t : Nat) : E.mv 11 t = false := rfl
@[simp] theorem fz11 : E.fz 11 = false := rfl
@[simp] theorem md12 : E.md 12 = [] := rfl
@[simp] theorem mv12 (t : Nat) : E.mv 12 t = false := rfl
@[simp] theorem fz12 : E.fz 12 = false := rfl
@[simp] theorem md13 : E.md 13 = [4000, 3, 3, 40] := rfl
@[simp] theorem mv13 (t : Nat) : E.mv 13 t = false := rfl
@[simp] theorem fz13 : E.fz 13 = false := rfl
@[simp] theorem md14 : E.md 14 = [0] := rfl
@[simp] theorem mv14 (t : Nat) : E.mv 14 t = false := rfl
@[simp] theorem fz14 : E.fz 14 = false := rfl
@[simp] theorem md15 : E.md 15 = [] := rfl
@[simp] theorem mv15 (t : Nat) : E.mv 15 t = false := rfl
@[simp] theorem fz15 : E.fz 15 = false := rfl
@[simp] theorem md16 : E.md 16 = [] := rfl
@[simp] theorem mv16 (t : Nat) : E.mv 16 t = false := rfl
@[simp] theorem fz16 : E.fz 16 = false := rfl
@[simp] theorem md17 : E.md 17 = [] := rfl
@[simp] theorem mv17 (t : Nat) : E.mv 17 t = false := rfl
@[simp] theorem fz17 : E.fz 17 = false := rfl
@[simp] theorem md18 : E.md 18 = [] := rfl
@[simp] theorem mv18 (t : Nat) : E.mv 18 t = (t == 9) := rfl
@[simp] theorem fz18 : E.fz 18 = false := rfl
@[simp] theorem md19 : E.md 19 = [] := rfl
@[simp] theorem mv19 (t : Nat) : E.mv 19 t = (t == 3) := rfl
@[simp] theorem fz19 : E.fz 19 = false := rfl
@[simp] theorem md20 : E.md 20 = [] := rfl
@[simp] theorem mv20 (t : Nat) : E.mv 20 t = (t == 3) := rfl
@[simp] theorem fz20 : E.fz 20 = false := rfl
@[simp] theorem md21 : E.md 21 = [] := rfl
@[simp] theorem mv21 (t : Nat) : E.mv 21 t = (t == 10) := rfl
@[simp] theorem fz21 : E.fz 21 = false := rfl
@[simp] theorem md22 : E.md 22 = [] := rfl
@[simp] theorem mv22 (t : Nat) : E.mv 22 t = false := rfl
@[simp] theorem fz22 : E.fz 22 = false := rfl
@[simp] theorem md23 : E.md 23 = [] := rfl
@[simp] theorem mv23 (t : Nat) : E.mv 23 t = false := rfl
@[simp] theorem fz23 : E.fz 23 = false := rfl
@[simp] theorem md24 : E.md 24 = [4000, 2, 2, 62] := rfl
@[simp] theorem mv24 (t : Nat) : E.mv 24 t = false := rfl
@[simp] theorem fz24 : E.fz 24 = false := rfl
@[simp] theorem md25 : E.md 25 = [2000] := rfl
@[simp] theorem mv25 (t : Nat) : E.mv 25 t = false := rfl
@[simp] theorem fz25 : E.fz 25 = false := rfl
@[simp] theorem md26 : E.md 26 = [] := rfl
@[simp] theorem mv26 (t : Nat) : E.mv 26 t = false := rfl
@[simp] theorem fz26 : E.fz 26 = false := rfl
@[simp] theorem md27 : E.md 27 = [] := rfl
@[simp] theorem mv27 (t : Nat) : E.mv 27 t = false := rfl
@[simp] theorem fz27 : E.fz 27 = false := rfl
@[simp] theorem md28 : E.md 28 = [] := rfl
@[simp] theorem mv28 (t : Nat) : E.mv 28 t = false := rfl
@[simp] theorem fz28 : E.fz 28 = false := rfl
@[simp] theorem md29 : E.md 29 = [] := rfl
@[simp] theorem mv29 (t : Nat) : E.mv 29 t = false := rfl
@[simp] theorem fz29 : E.fz 29 = false := rfl
@[simp] theorem md30 : E.md 30 = [] := rfl
@[simp] theorem mv30 (t : Nat) : E.mv 30 t = false := rfl
@[simp] theorem fz30 : E.fz 30 = false := rfl
@[simp] theorem md31 : E.md 31 = [0] := rfl
@[simp] theorem mv31 (t : Nat) : E.mv 31 t = false := rfl
@[simp] theorem fz31 : E.fz 31 = false := rfl
@[simp] theorem md32 : E.md 32 = [] := rfl
@[simp] theorem mv32 (t : Nat) : E.mv 32 t = false := rfl
@[simp] theorem fz32 : E.fz 32 = false := rfl
@[simp] theorem md33 : E.md 33 = [] := rfl
@[simp] theorem mv33 (t : Nat) : E.mv 33 t = false := rfl
@[simp] theorem fz33 : E.fz 33 = false := rfl
@[simp] theorem md34 : E.md 34 = [] := rfl
@[simp] theorem mv34 (t : Nat) : E.mv 34 t = (t == 3) := rfl
@[simp] theorem fz34 : E.fz 34 = false := rfl
@[simp] theorem md35 : E.md 35 = [] := rfl
@[simp] theorem mv35 (t : Nat) : E.mv 35 t = (t == 1) := rfl
@[simp] theorem fz35 : E.fz 35 = false := rfl
@[simp] theorem md36 : E.md 36 = [0] := rfl
@[simp] theorem mv36 (t : Nat) : E.mv 36 t = false := rfl
@[simp] theorem fz36 : E.fz 36 = false := rfl
@[simp] theorem md37 : E.md 37 = [] := rfl
@[simp] theorem mv37 (t : Nat) : E.mv 37 t = false := rfl
@[simp] theorem fz37 : E.fz 37 = false := rfl
@[simp] theorem md38 : E.md 38 = [] := rfl
@[simp] theorem mv38 (t : Nat) : E.mv 38 t = false := rfl
@[simp] theorem fz38 : E.fz 38 = false := rfl
@[simp] theorem md39 : E.md 39 = [] := rfl
@[simp] theorem mv39 (t : Nat) : E.mv 39 t = false := rfl
@[simp] theorem fz39 : E.fz 39 = false := rfl
@[simp] theorem md40 : E.md 40 = [0] := rfl
@[simp] theorem mv40 (t : Nat) : E.mv 40 t = false := rfl
@[simp] theorem fz40 : E.fz 40 = false := rfl
@[simp] theorem md41 : E.md 41 = [0] := rfl
@[simp] theorem mv41 (t : Nat) : E.mv 41 t = false := rfl
@[simp] theorem fz41 : E.fz 41 = false := rfl
@[simp] theorem md42 : E.md 42 = [] := rfl
@[simp] theorem mv42 (t : Nat) : E.mv 42 t = false := rfl
@[simp] theorem fz42 : E.fz 42 = false := rfl
@[simp] theorem md43 : E.md 43 = [] := rfl
@[simp] theorem mv43 (t : Nat) : E.mv 43 t = false := rfl
@[simp] theorem fz43 : E.fz 43 = false := rfl
@[simp] theorem md44 : E.md 44 = [] := rfl
@[simp] theorem mv44 (t : Nat) : E.mv 44 t = false := rfl
@[simp] theorem fz44 : E.fz 44 = false := rfl
@[simp] theorem md45 : E.md 45 = [] := rfl
@[simp] theorem mv45 (t : Nat) : E.mv 45 t = false := rfl
@[simp] theorem fz45 : E.fz 45 = false := rfl
@[simp] theorem md46 : E.md 46 = [] := rfl
@[simp] theorem mv46 (t : Nat) : E.mv 46 t = false := rfl
@[simp] theorem fz46 : E.fz 46 = false := rfl
@[simp] theorem md47 : E.md 47 = [] := rfl
@[simp] theorem mv47 (t : Nat) : E.mv 47 t = false := rfl
@[simp] theorem fz47 : E.fz 47 = false := rfl
@[simp] theorem md48 : E.md 48 = [] := rfl
@[simp] theorem mv48 (t : Nat) : E.mv 48 t = false := rfl
@[simp] theorem fz48 : E.fz 48 = false := rfl
@[simp] theorem md49 : E.md 49 = [] := rfl
@[simp] theorem mv49 (t : Nat) : E.mv 49 t = (t == 3) := rfl
@[simp] theorem fz49 : E.fz 49 = false := rfl
@[simp] theorem md50 : E.md 50 = [] := rfl
@[simp] theorem mv50 (t : Nat) : E.mv 50 t = false := rfl
@[simp] theorem fz50 : E.fz 50 = false := rfl
@[simp] theorem md51 : E.md 51 = [] := rfl
@[simp] theorem mv51 (t : Nat) : E.mv 51 t = false := rfl
@[simp] theorem fz51 : E.fz 51 = false := rfl
@[simp] theorem md52 : E.md 52 = [] := rfl
@[simp] theorem mv52 (t : Nat) : E.mv 52 t = false := rfl
@[simp] theorem fz52 : E.fz 52 = false := rfl
@[simp] theorem md53 : E.md 53 = [] := rfl
@[simp] theorem mv53 (t : Nat) : E.mv 53 t = false := rfl
@[simp] theorem fz53 : E.fz 53 = false := rfl
@[simp] theorem md54 : E.md 54 = [] := rfl
@[simp] theorem mv54 (t : Nat) : E.mv 54 t = false := rfl
@[simp] theorem fz54 : E.fz 54 = false := rfl
@[simp] theorem md55 : E.md 55 = [] := rfl
@[simp] theorem mv55 (t : Nat) : E.mv 55 t = false := rfl
@[simp] theorem fz55 : E.fz 55 = false := rfl
@[simp] theorem md56 : E.md 56 = [] := rfl
@[simp] theorem mv56 (t : Nat) : E.mv 56 t = false := rfl
@[simp] theorem fz56 : E.fz 56 = false := rfl
@[simp] theorem md57 : E.md 57 = [] := rfl
@[simp] theorem mv57 (t : Nat) : E.mv 57 t = false := rfl
@[simp] theorem fz57 : E.fz 57 = false := rfl
@[simp] theorem md58 : E.md 58 = [] := rfl
@[simp] theorem mv58 (t : Nat) : E.mv 58 t = false := rfl
@[simp] theorem fz58 : E.fz 58 = false := rfl
@[simp] theorem md59 : E.md 59 = [] := rfl
@[simp] theorem mv59 (t : Nat) : E.mv 59 t = false := rfl
@[simp] theorem fz59 : E.fz 59 = false := rfl
@[simp] theorem md60 : E.md 60 = [] := rfl
@[simp] theorem mv60 (t : Nat) : E.mv 60 t = false := rfl
@[simp] theorem fz60 : E.fz 60 = false := rfl
@[simp] theorem md61 : E.md 61 = [] := rfl
@[simp] theorem mv61 (t : Nat) : E.mv 61 t = false := rfl
@[simp] theorem fz61 : E.fz 61 = false := rfl
@[simp] theorem md62 : E.md 62 = [0] := rfl
@[simp] theorem mv62 (t : Nat) : E.mv 62 t = false := rfl
@[simp] theorem fz62 : E.fz 62 = false := rfl
@[simp] theorem md63 : E.md 63 = [0] := rfl
@[simp] theorem mv63 (t : Nat) : E.mv 63 t = false := rfl
@[simp] theorem fz63 : E.fz 63 = false := rfl
@[simp] theorem md64 : E.md 64 = [0] := rfl
@[simp] theorem mv64 (t : Nat) : E.mv 64 t = false := rfl
@[simp] theorem fz64 : E.fz 64 = false := rfl
@[simp] theorem md65 : E.md 65 = [] := rfl
@[simp] theorem mv65 (t : Nat) : E.mv 65 t = false := rfl
@[simp] theorem fz65 : E.fz 65 = false := rfl
@[simp] theorem md66 : E.md 66 = [] := rfl
@[simp] theorem mv66 (t : Nat) : E.mv 66 t = false := rfl
@[simp] theorem fz66 : E.fz 66 = false := rfl
@[simp] theorem md67 : E.md 67 = [] := rfl
@[simp] theorem mv67 (t : Nat) : E.mv 67 t = false := rfl
@[simp] theorem fz67 : E.fz 67 = false := rfl
@[simp] theorem md68 : E.md 68 = [] := rfl
@[simp] theorem mv68 (t : Nat) : E.mv 68 t = false := rfl
@[simp] theorem fz68 : E.fz 68 = false := rfl
@[simp] theorem md69 : E.md 69 = [] := rfl
@[simp] theorem mv69 (t : Nat) : E.mv 69 t = false := rfl
@[simp] theorem fz69 : E.fz 69 = false := rfl
@[simp] theorem md70 : E.md 70 = [] := rfl
@[simp] theorem mv70 (t : Nat) : E.mv 70 t = false := rfl
@[simp] theorem fz70 : E.fz 70 = false := rfl
@[simp] theorem md71 : E.md 71 = [] := rfl
@[simp] theorem mv71 (t : Nat) : E.mv 71 t = false := rfl
@[simp] theorem fz71 : E.fz 71 = false := rfl
@[simp] theorem md72 : E.md 72 = [] := rfl
@[simp] theorem mv72 (t : Nat) : E.mv 72 t = (t == 3) := rfl
@[simp] theorem fz72 : E.fz 72 = false := rfl
@[simp] theorem md73 : E.md 73 = [] := rfl
@[simp] theorem mv73 (t : Nat) : E.mv 73 t = false := rfl
@[simp] theorem fz73 : E.fz 73 = false := rfl
@[simp] theorem md74 : E.md 74 = [] := rfl
@[simp] theorem mv74 (t : Nat) : E.mv 74 t = false := rfl
@[simp] theorem fz74 : E.fz 74 = false := rfl
@[simp] theorem md75 : E.md 75 = [1000] := rfl
@[simp] theorem mv75 (t : Nat) : E.mv 75 t = false := rfl
@[simp] theorem fz75 : E.fz 75 = false := rfl
@[simp] theorem md76 : E.md 76 = [] := rfl
@[simp] theorem mv76 (t : Nat) : E.mv 76 t = false := rfl
@[simp] theorem fz76 : E.fz 76 = false := rfl
@[simp] theorem md77 : E.md 77 = [] := rfl
@[simp] theorem mv77 (t : Nat) : E.mv 77 t = false := rfl
@[simp] theorem fz77 : E.fz 77 = false := rfl
@[simp] theorem md78 : E.md 78 = [] := rfl
@[simp] theorem mv78 (t : Nat) : E.mv 78 t = false := rfl
@[simp] theorem fz78 : E.fz 78 = false := rfl
@[simp] theorem md79 : E.md 79 = [] := rfl
@[simp] theorem mv79 (t : Nat) : E.mv 79 t = false := rfl
@[simp] theorem fz79 : E.fz 79 = false := rfl
@[simp] theorem md80 : E.md 80 = [] := rfl
@[simp] theorem mv80 (t : Nat) : E.mv 80 t = false := rfl
@[simp] theorem fz80 : E.fz 80 = false := rfl
@[simp] theorem md81 : E.md 81 = [] := rfl
@[simp] theorem mv81 (t : Nat) : E.mv 81 t = false := rfl
@[simp] theorem fz81 : E.fz 81 = false := rfl
@[simp] theorem md82 : E.md 82 = [] := rfl
@[simp] theorem mv82 (t : Nat) : E.mv 82 t = false := rfl
@[simp] theorem fz82 : E.fz 82 = false := rfl
@[simp] theorem md83 : E.md 83 = [] := rfl
@[simp] theorem mv83 (t : Nat) : E.mv 83 t = false := rfl
@[simp] theorem fz83 : E.fz 83 = false := rfl
@[simp] theorem md84 : E.md 84 = [] := rfl
@[simp] theorem mv84 (t : Nat) : E.mv 84 t = false := rfl
@[simp] theorem fz84 : E.fz 84 = false := rfl
@[simp] theorem md85 : E.md 85 = [] := rfl
@[simp] theorem mv85 (t : Nat) : E.mv 85 t = false := rfl
@[simp] theorem fz85 : E.fz 85 = false := rfl
@[simp] theorem md86 : E.md 86 = [] := rfl
@[simp] theorem mv86 (t : Nat) : E.mv 86 t = false := rfl
@[simp] theorem fz86 : E.fz 86 = false := rfl
@[simp] theorem md87 : E.md 87 = [] := rfl
@[simp] theorem mv87 (t : Nat) : E.mv 87 t = (t == 3) := rfl
@[simp] theorem fz87 : E.fz 87 = false := rfl
@[simp] theorem md88 : E.md 88 = [] := rfl
@[simp] theorem mv88 (t : Nat) : E.mv 88 t = (t == 3) := rfl
@[simp] theorem fz88 : E.fz 88 = false := rfl
@[simp] theorem md89 : E.md 89 = [] := rfl
@[simp] theorem mv89 (t : Nat) : E.mv 89 t = false := rfl
@[simp] theorem fz89 : E.fz 89 = false := rfl
@[simp] theorem md90 : E.md 90 = [] := rfl
@[simp] theorem mv90 (t : Nat) : E.mv 90 t = false := rfl
@[simp] theorem fz90 : E.fz 90 = false := rfl
@[simp] theorem md91 : E.md 91 = [] := rfl
@[simp] theorem mv91 (t : Nat) : E.mv 91 t = false := rfl
@[simp] theorem fz91 : E.fz 91 = false := rfl
@[simp] theorem md92 : E.md 92 = [] := rfl
@[simp] theorem mv92 (t : Nat) : E.mv 92 t = false := rfl
@[simp] theorem fz92 : E.fz 92 = false := rfl
@[simp] theorem md93 : E.md 93 = [] := rfl
@[simp] theorem mv93 (t : Nat) : E.mv 93 t = false := rfl
@[simp] theorem fz93 : E.fz 93 = false := rfl
@[simp] theorem md94 : E.md 94 = [] := rfl
@[simp] theorem mv94 (t : Nat) : E.mv 94 t = false := rfl
@[simp] theorem fz94 : E.fz 94 = false := rfl
@[simp] theorem md95 : E.md 95 = [] := rfl
@[simp] theorem mv95 (t : Nat) : E.mv 95 t = false := rfl
@[simp] theorem fz95 : E.fz 95 = false := rfl
@[simp] theorem md96 : E.md 96 = [] := rfl
@[simp] theorem mv96 (t : Nat) : E.mv 96 t = false := rfl
@[simp] theorem fz96 : E.fz 96 = false := rfl
@[simp] theorem md97 : E.md 97 = [] := rfl
@[simp] theorem mv97 (t : Nat) : E.mv 97 t = false := rfl
@[simp] theorem fz97 : E.fz 97 = false := rfl
@[simp] theorem md98 : E.md 98 = [] := rfl
@[simp] theorem mv98 (t : Nat) : E.mv 98 t = (t == 3) := rfl
@[simp] theorem fz98 : E.fz 98 = false := rfl
@[simp] theorem md99 : E.md 99 = [] := rfl
@[simp] theorem mv99 (t : Nat) : E.mv 99 t = false := rfl
@[simp] theorem fz99 : E.fz 99 = false := rfl
@[simp] theorem md100 : E.md 100 = [] := rfl
@[simp] theorem mv100 (t : Nat) : E.mv 100 t = false := rfl
@[simp] theorem fz100 : E.fz 100 = false := rfl
@[simp] theorem md101 : E.md 101 = [1000, 1002] := rfl
@[simp] theorem mv101 (t : Nat) : E.mv 101 t = false := rfl
@[simp] theorem fz101 : E.fz 101 = false := rfl
@[simp] theorem md102 : E.md 102 = [] := rfl
@[simp] theorem mv102 (t : Nat) : E.mv 102 t = false := rfl
@[simp] theorem fz102 : E.fz 102 = false := rfl
@[simp] theorem md103 : E.md 103 = [] := rfl
@[simp] theorem mv103 (t : Nat) : E.mv 103 t = false := rfl
@[simp] theorem fz103 : E.fz 103 = false := rfl
@[simp] theorem md104 : E.md 104 = [] := rfl
@[simp] theorem mv104 (t : Nat) : E.mv 104 t = false := rfl
@[simp] theorem fz104 : E.fz 104 = false := rfl
@[simp] theorem md105 : E.md 105 = [] := rfl
@[simp] theorem mv105 (t : Nat) : E.mv 105 t = false := rfl
@[simp] theorem fz105 : E.fz 105 = false := rfl
@[simp] theorem md106 : E.md 106 = [] := rfl
@[simp] theorem mv106 (t : Nat) : E.mv 106 t = false := rfl
@[simp] theorem fz106 : E.fz 106 = false := rfl
@[simp] theorem md107 : E.md 107 = [] := rfl
@[simp] theorem mv107 (t : Nat) : E.mv 107 t = false := rfl
@[simp] theorem fz107 : E.fz 107 = false := rfl
@[simp] theorem md108 : E.md 108 = [] := rfl
@[simp] theorem mv108 (t : Nat) : E.mv 108 t = false := rfl
@[simp] theorem fz108 : E.fz 108 = false := rfl
@[simp] theorem md109 : E.md 109 = [] := rfl
@[simp] theorem mv109 (t : Nat) : E.mv 109 t = false := rfl
@[simp] theorem fz109 : E.fz 109 = false := rfl
@[simp] theorem md110 : E.md 110 = [] := rfl
@[simp] theorem mv110 (t : Nat) : E.mv 110 t = false := rfl
@[simp] theorem fz110 : E.fz 110 = false := rfl
@[simp] theorem md111 : E.md 111 = [] := rfl
@[simp] theorem mv111 (t : Nat) : E.mv 111 t = false := rfl
@[simp] theorem fz111 : E.fz 111 = false := rfl
@[simp] theorem md112 : E.md 112 = [] := rfl
@[simp] theorem mv112 (t : Nat) : E.mv 112 t = false := rfl
@[simp] theorem fz112 : E.fz 112 = false := rfl
@[simp] theorem md113 : E.md 113 = [] := rfl
@[simp] theorem mv113 (t : Nat) : E.mv 113 t = false := rfl
@[simp] theorem fz113 : E.fz 113 = false := rfl
@[simp] theorem md114 : E.md 114 = [] := rfl
@[simp] theorem mv114 (t : Nat) : E.mv 114 t = false := rfl
@[simp] theorem fz114 : E.fz 114 = false := rfl
@[simp] theorem md115 : E.md 115 = [] := rfl
@[simp] theorem mv115 (t : Nat) : E.mv 115 t = false := rfl
@[simp] theorem fz115 : E.fz 115 = false := rfl
@[simp] theorem md116 : E.md 116 = [] := rfl
@[simp] theorem mv116 (t : Nat) : E.mv 116 t = false := rfl
@[simp] theorem fz116 : E.fz 116 = false := rfl
@[simp] theorem md117 : E.md 117 = [] := rfl
@[simp] theorem mv117 (t : Nat) : E.mv 117 t = false := rfl
@[simp] theorem fz117 : E.fz 117 = false := rfl
@[simp] theorem md118 : E.md 118 = [] := rfl
@[simp] theorem mv118 (t : Nat) : E.mv 118 t = false := rfl
@[simp] theorem fz118 : E.fz 118 = false := rfl
@[simp] theorem md119 : E.md 119 = [] := rfl
@[simp] theorem mv119 (t : Nat) : E.mv 119 t = false := rfl
@[simp] theorem fz119 : E.fz 119 = false := rfl
@[simp] theorem md120 : E.md 120 = [] := rfl
@[simp] theorem mv120 (t : Nat) : E.mv 120 t = false := rfl
@[simp] theorem fz120 : E.fz 120 = false := rfl
@[simp] theorem md121 : E.md 121 = [] := rfl
@[simp] theorem mv121 (t : Nat) : E.mv 121 t = false := rfl
@[simp] theorem fz121 : E.fz 121 = false := rfl
@[simp] theorem md122 : E.md 122 = [] := rfl
@[simp] theorem mv122 (t : Nat) : E.mv 122 t = false := rfl
@[simp] theorem fz122 : E.fz 122 = false := rfl
@[simp] theorem md123 : E.md 123 = [] := rfl
@[simp] theorem mv123 (t : Nat) : E.mv 123 t = false := rfl
@[simp] theorem fz123 : E.fz 123 = false := rfl
@[simp] theorem md124 : E.md 124 = [] := rfl
@[simp] theorem mv124 (t : Nat) : E.mv 124 t = false := rfl
@[simp] theorem fz124 : E.fz 124 = false := rfl
@[simp] theorem md125 : E.md 125 = [] := rfl
@[simp] theorem mv125 (t : Nat) : E.mv 125 t = false := rfl
@[simp] theorem fz125 : E.fz 125 = false := rfl
@[simp] theorem md126 : E.md 126 = [] := rfl
@[simp] theorem mv126 (t : Nat) : E.mv 126 t = false := rfl
@[simp] theorem fz126 : E.fz 126 = false := rfl
@[simp] theorem md127 : E.md 127 = [] := rfl
@[simp] theorem mv127 (t : Nat) : E.mv 127 t = false := rfl
@[simp] theorem fz127 : E.fz 127 = false := rfl
@[simp] theorem md128 : E.md 128 = [] := rfl
@[simp] theorem mv128 (t : Nat) : E.mv 128 t = false := rfl
@[simp] theorem fz128 : E.fz 128 = false := rfl
@[simp] theorem md129 : E.md 129 = [] := rfl
@[simp] theorem mv129 (t : Nat) : E.mv 129 t = false := rfl
@[simp] theorem fz129 : E.fz 129 = false := rfl
theorem ext113 : E.ext 113 = some extIndexByte := rfl
theorem ext101 : E.ext 101 = some (extInsert 3 103) := rfl
theorem extFn : ∀ f g args res, E.ext f = some g → g args = some res → FunOk E.P E.kn (E.md f) f args res ∧ resPlain res.1 = true := fun f g args res h hg => by
  simp only [E, extT] at h
  by_cases h113 : f = 113
  · subst h113
    obtain rfl := Option.some.inj h
    exact ext_indexByte (P := Try.prog) Try.func113 rfl rfl (by kernel_rfl) (by kernel_rfl) hg
  rw [if_neg h113] at h
  by_cases h101 : f = 101
  · subst h101
    obtain rfl := Option.some.inj h
    exact ext_insert' lays101 (by kernel_rfl) (by decide) hg
  rw [if_neg h101] at h
  cases h
theorem wrap13 : WrapTo Try.prog 13 3 40 := wrap_of (tbOf_ok Try.prog) Try.func13 (by kernel_rfl) rfl rfl rfl (by kernel_rfl) ty28
theorem wrap24 : WrapTo Try.prog 24 2 62 := wrap_of (tbOf_ok Try.prog) Try.func24 (by kernel_rfl) rfl rfl rfl (by kernel_rfl) ty40
theorem wraps : ∀ f q, wrapOf (E.md f) = some q → WrapTo E.P f q.2.1 q.2.2 := fun f q h => by
  have h' : wrapOf (mdT f) = some q := h
  unfold mdT at h'
  by_cases h101 : f = 101
  · rw [if_pos h101] at h'
    cases h'
  rw [if_neg h101] at h'
  by_cases h25 : f = 25
  · rw [if_pos h25] at h'
    cases h'
  rw [if_neg h25] at h'
  by_cases h40 : f = 40
  · rw [if_pos h40] at h'
    cases h'
  rw [if_neg h40] at h'
  by_cases h62 : f = 62
  · rw [if_pos h62] at h'
    cases h'
  rw [if_neg h62] at h'
  by_cases h63 : f = 63
  · rw [if_pos h63] at h'
    cases h'
  rw [if_neg h63] at h'
  by_cases h64 : f = 64
  · rw [if_pos h64] at h'
    cases h'
  rw [if_neg h64] at h'
  by_cases h41 : f = 41
  · rw [if_pos h41] at h'
    cases h'
  rw [if_neg h41] at h'
  by_cases h14 : f = 14
  · rw [if_pos h14] at h'
    cases h'
  rw [if_neg h14] at h'
  by_cases h75 : f = 75
  · rw [if_pos h75] at h'
    cases h'
  rw [if_neg h75] at h'
  by_cases h36 : f = 36
  · rw [if_pos h36] at h'
    cases h'
  rw [if_neg h36] at h'
  by_cases h31 : f = 31
  · rw [if_pos h31] at h'
    cases h'
  rw [if_neg h31] at h'
  by_cases h13 : f = 13
  · subst h13
    obtain rfl := Option.some.inj ((show wrapOf [4000, 3, 3, 40] = some q from h').symm.trans rfl) |>.symm
    exact wrap13
  rw [if_neg h13] at h'
  by_cases h24 : f = 24
  · subst h24
    obtain rfl := Option.some.inj ((show wrapOf [4000, 2, 2, 62] = some q from h').symm.trans rfl) |>.symm
    exact wrap24
  rw [if_neg h24] at h'
  cases h'
theorem extOk : ExtOk E := ⟨extFn, wraps⟩
end Go.Proofs.Ytfboojamiabmcaa
