/- The numbers and layouts of this seat's translation, by program. -/
import Derived.Test.YtfboojamiabmcaaDoorLfd
import Derived.Lib.LaidTab
import Derived.Stop.LaidErr
import Derived.Test.YtfboojamiabmcaaDoorProg
import Derived.KernelRfl
import GoSem.Extern.Table
set_option linter.unusedSectionVars false
set_option linter.all false
set_option linter.unusedVariables false
set_option maxRecDepth 100000
namespace Go.Proofs.YtfboojamiabmcaaDoor
open Go.Lft
def mdT (f : Nat) : List Nat := if f = 35 then [0] else if f = 57 then [1000] else if f = 36 then [0] else if f = 13 then [0] else []
def fzT (f : Nat) : Bool := false
def itoaMax : Nat := 1000
theorem itoaMax_le : 100 ≤ itoaMax ∧ itoaMax ≤ 1000 := by decide
def extT (f : Nat) : Option (List D → Option (D × List D)) := if f = 108 then some extIndexByte else if f = 57 then some (extJoin 9) else if f = 54 then some extItoaT else if f = 88 then some extCount else none
open Go.Shelf Go.Proofs in
def renS : Ren := { f := fun x => match x with | 1 => 1 | 2 => 2 | 129 => 110 | 137 => 79 | 138 => 76 | 143 => 77 | 146 => 31 | 156 => 57 | 165 => 72 | 166 => 73 | 169 => 74 | 171 => 54 | 172 => 78 | 195 => 86 | 197 => 87 | 205 => 117 | 217 => 92 | 218 => 88 | 219 => 89 | 221 => 61 | 224 => 101 | 225 => 100 | 240 => 84 | 241 => 85 | 243 => 71 | 244 => 90 | 245 => 91 | 246 => 83 | 247 => 103 | 260 => 99 | 266 => 108 | 267 => 102 | 268 => 75 | 276 => 97 | 277 => 98 | 279 => 104 | 280 => 105 | 281 => 106 | 282 => 107 | 283 => 93 | 284 => 94 | 285 => 95 | 286 => 96 | 287 => 115 | 314 => 114 | 316 => 116 | 317 => 109 | 318 => 111 | 319 => 112 | 320 => 113 | 321 => 120 | 322 => 121 | 337 => 118 | 338 => 119 | 347 => 122 | 348 => 123 | 349 => 124 | 350 => 125 | 351 => 126 | 352 => 127 | 353 => 128 | 354 => 129 | 355 => 130 | 356 => 131 | 357 => 132 | 358 => 133 | 359 => 134 | 360 => 135 | 361 => 136 | 362 => 137 | 363 => 140 | 364 => 138 | 365 => 139 | 366 => 141 | 367 => 151 | n => n, t := fun x => match x with | 0 => 0 | 1 => 1 | 2 => 2 | 3 => 3 | 4 => 4 | 5 => 5 | 7 => 7 | 8 => 8 | 9 => 9 | 10 => 10 | 11 => 11 | 12 => 12 | 13 => 13 | 14 => 14 | 15 => 15 | 16 => 16 | 17 => 17 | 18 => 18 | 20 => 20 | 21 => 21 | 27 => 99 | 28 => 55 | 30 => 64 | 31 => 51 | 34 => 85 | 37 => 73 | 46 => 120 | 47 => 131 | 51 => 129 | 52 => 144 | 53 => 111 | 54 => 112 | 55 => 100 | 61 => 61 | 67 => 78 | 68 => 52 | 69 => 140 | 70 => 89 | 71 => 90 | 72 => 91 | 73 => 92 | 74 => 93 | 75 => 94 | 76 => 95 | 77 => 96 | 80 => 97 | 81 => 156 | 83 => 44 | 84 => 104 | 85 => 122 | 86 => 123 | 101 => 84 | 103 => 106 | 104 => 40 | 105 => 107 | 106 => 108 | 108 => 143 | 111 => 68 | 113 => 83 | 114 => 119 | 119 => 132 | 127 => 105 | 128 => 109 | 131 => 81 | 137 => 133 | 139 => 135 | 143 => 146 | 144 => 147 | 145 => 148 | 146 => 136 | 150 => 98 | 151 => 137 | 164 => 116 | 165 => 117 | 166 => 118 | 168 => 124 | 169 => 125 | 170 => 126 | 171 => 110 | 172 => 113 | 173 => 114 | 174 => 115 | 175 => 138 | 176 => 139 | 209 => 141 | 210 => 142 | 211 => 127 | 212 => 128 | 213 => 130 | 214 => 145 | 232 => 149 | 233 => 150 | 238 => 151 | 239 => 152 | 240 => 153 | 241 => 154 | 242 => 155 | 245 => 159 | 248 => 162 | n => n, g := fun x => match x with | 1 => 0 | 3 => 2 | 4 => 3 | 15 => 4 | 16 => 5 | 17 => 1 | 18 => 6 | 19 => 7 | n => n }
open Go.Shelf Go.Proofs in
theorem lays57 : Lays.n156 Tryd.prog renS where
  mixed := by first | kernel_rfl | rfl | decide
  f156 := by first | kernel_rfl | rfl | decide
  f165 := by first | kernel_rfl | rfl | decide
  f166 := by first | kernel_rfl | rfl | decide
  f169 := by first | kernel_rfl | rfl | decide
  f240 := by first | kernel_rfl | rfl | decide
  f241 := by first | kernel_rfl | rfl | decide
  f276 := by first | kernel_rfl | rfl | decide
  f277 := by first | kernel_rfl | rfl | decide
  t0 := by first | kernel_rfl | rfl | decide
  a0 := fun _ => by first | rfl | kernel_rfl
  z0 := fun _ => by first | rfl | kernel_rfl
  v0 := fun _ => by first | rfl | kernel_rfl
  t3 := by first | kernel_rfl | rfl | decide
  a3 := fun _ => by first | rfl | kernel_rfl
  z3 := fun _ => by first | rfl | kernel_rfl
  v3 := fun _ => by first | rfl | kernel_rfl
  t4 := by first | kernel_rfl | rfl | decide
  a4 := fun _ => by first | rfl | kernel_rfl
  z4 := fun _ => by first | rfl | kernel_rfl
  v4 := fun _ => by first | rfl | kernel_rfl
  t9 := by first | kernel_rfl | rfl | decide
  a9 := fun _ => by first | rfl | kernel_rfl
  z9 := fun _ => by first | rfl | kernel_rfl
  v9 := fun _ => by first | rfl | kernel_rfl
  t20 := by first | kernel_rfl | rfl | decide
  a20 := fun _ => by first | rfl | kernel_rfl
  z20 := fun _ => by first | rfl | kernel_rfl
  v20 := fun _ => by first | rfl | kernel_rfl
  t31 := by first | kernel_rfl | rfl | decide
  a31 := fun _ => by first | rfl | kernel_rfl
  z31 := fun _ => by first | rfl | kernel_rfl
  v31 := fun _ => by first | rfl | kernel_rfl
  t37 := by first | kernel_rfl | rfl | decide
  a37 := fun _ => by first | rfl | kernel_rfl
  z37 := fun _ => by first | rfl | kernel_rfl
  v37 := fun _ => by first | rfl | kernel_rfl
  t70 := by first | kernel_rfl | rfl | decide
  a70 := fun _ => by first | rfl | kernel_rfl
  z70 := fun _ => by first | rfl | kernel_rfl
  v70 := fun _ => by first | rfl | kernel_rfl
  t72 := by first | kernel_rfl | rfl | decide
  a72 := fun _ => by first | rfl | kernel_rfl
  z72 := fun _ => by first | rfl | kernel_rfl
  v72 := fun _ => by first | rfl | kernel_rfl
  t75 := by first | kernel_rfl | rfl | decide
  a75 := fun _ => by first | rfl | kernel_rfl
  z75 := fun _ => by first | rfl | kernel_rfl
  v75 := fun _ => by first | rfl | kernel_rfl
  t76 := by first | kernel_rfl | rfl | decide
  a76 := fun _ => by first | rfl | kernel_rfl
  z76 := fun _ => by first | rfl | kernel_rfl
  v76 := fun _ => by first | rfl | kernel_rfl
  t127 := by first | kernel_rfl | rfl | decide
  a127 := fun _ => by first | rfl | kernel_rfl
  z127 := fun _ => by first | rfl | kernel_rfl
  v127 := fun _ => by first | rfl | kernel_rfl
  t164 := by first | kernel_rfl | rfl | decide
  a164 := fun _ => by first | rfl | kernel_rfl
  z164 := fun _ => by first | rfl | kernel_rfl
  v164 := fun _ => by first | rfl | kernel_rfl
open Go.Shelf Go.Proofs in
theorem extraS : Builder.Extra Tryd.prog renS where
  sizeBuilder := by first | kernel_rfl | rfl | decide
  liesBuilder := by first | kernel_rfl | rfl | decide
  t5 := by first | kernel_rfl | rfl | decide
  a5 := fun _ => by first | rfl | kernel_rfl
  z5 := fun _ => by first | rfl | kernel_rfl
  v5 := fun _ => by first | rfl | kernel_rfl
  infoByte := by first | kernel_rfl | rfl | decide
  cellsByte := by first | kernel_rfl | rfl | decide
  sizeByte := by first | kernel_rfl | rfl | decide
  neB5 := by first | kernel_rfl | rfl | decide
open Go.Shelf Go.Proofs in
theorem lays54 : LaysM.n171 Tryd.prog renS where
  mixed := by first | kernel_rfl | rfl | decide
  f129 := by first | kernel_rfl | rfl | decide
  f171 := by first | kernel_rfl | rfl | decide
  f243 := by first | kernel_rfl | rfl | decide
  f246 := by first | kernel_rfl | rfl | decide
  f283 := by first | kernel_rfl | rfl | decide
  f284 := by first | kernel_rfl | rfl | decide
  f285 := by first | kernel_rfl | rfl | decide
  f286 := by first | kernel_rfl | rfl | decide
  f317 := by first | kernel_rfl | rfl | decide
  f318 := by first | kernel_rfl | rfl | decide
  f319 := by first | kernel_rfl | rfl | decide
  f320 := by first | kernel_rfl | rfl | decide
  f337 := by first | kernel_rfl | rfl | decide
  f338 := by first | kernel_rfl | rfl | decide
  t0 := by first | kernel_rfl | rfl | decide
  a0 := fun _ => by first | rfl | kernel_rfl
  z0 := fun _ => by first | rfl | kernel_rfl
  v0 := fun _ => by first | rfl | kernel_rfl
  t2 := by first | kernel_rfl | rfl | decide
  a2 := fun _ => by first | rfl | kernel_rfl
  z2 := fun _ => by first | rfl | kernel_rfl
  v2 := fun _ => by first | rfl | kernel_rfl
  t3 := by first | kernel_rfl | rfl | decide
  a3 := fun _ => by first | rfl | kernel_rfl
  z3 := fun _ => by first | rfl | kernel_rfl
  v3 := fun _ => by first | rfl | kernel_rfl
  t4 := by first | kernel_rfl | rfl | decide
  a4 := fun _ => by first | rfl | kernel_rfl
  z4 := fun _ => by first | rfl | kernel_rfl
  v4 := fun _ => by first | rfl | kernel_rfl
  t5 := by first | kernel_rfl | rfl | decide
  a5 := fun _ => by first | rfl | kernel_rfl
  z5 := fun _ => by first | rfl | kernel_rfl
  v5 := fun _ => by first | rfl | kernel_rfl
  t9 := by first | kernel_rfl | rfl | decide
  a9 := fun _ => by first | rfl | kernel_rfl
  z9 := fun _ => by first | rfl | kernel_rfl
  v9 := fun _ => by first | rfl | kernel_rfl
  t20 := by first | kernel_rfl | rfl | decide
  a20 := fun _ => by first | rfl | kernel_rfl
  z20 := fun _ => by first | rfl | kernel_rfl
  v20 := fun _ => by first | rfl | kernel_rfl
  t37 := by first | kernel_rfl | rfl | decide
  a37 := fun _ => by first | rfl | kernel_rfl
  z37 := fun _ => by first | rfl | kernel_rfl
  v37 := fun _ => by first | rfl | kernel_rfl
  t46 := by first | kernel_rfl | rfl | decide
  a46 := fun _ => by first | rfl | kernel_rfl
  z46 := fun _ => by first | rfl | kernel_rfl
  v46 := fun _ => by first | rfl | kernel_rfl
  t51 := by first | kernel_rfl | rfl | decide
  a51 := fun _ => by first | rfl | kernel_rfl
  z51 := fun _ => by first | rfl | kernel_rfl
  v51 := fun _ => by first | rfl | kernel_rfl
  t53 := by first | kernel_rfl | rfl | decide
  a53 := fun _ => by first | rfl | kernel_rfl
  z53 := fun _ => by first | rfl | kernel_rfl
  v53 := fun _ => by first | rfl | kernel_rfl
  t171 := by first | kernel_rfl | rfl | decide
  a171 := fun _ => by first | rfl | kernel_rfl
  z171 := fun _ => by first | rfl | kernel_rfl
  v171 := fun _ => by first | rfl | kernel_rfl
  t173 := by first | kernel_rfl | rfl | decide
  a173 := fun _ => by first | rfl | kernel_rfl
  z173 := fun _ => by first | rfl | kernel_rfl
  v173 := fun _ => by first | rfl | kernel_rfl
  t212 := by first | kernel_rfl | rfl | decide
  a212 := fun _ => by first | rfl | kernel_rfl
  z212 := fun _ => by first | rfl | kernel_rfl
  v212 := fun _ => by first | rfl | kernel_rfl
  t213 := by first | kernel_rfl | rfl | decide
  a213 := fun _ => by first | rfl | kernel_rfl
  z213 := fun _ => by first | rfl | kernel_rfl
  t232 := by first | kernel_rfl | rfl | decide
  a232 := fun _ => by first | rfl | kernel_rfl
  z232 := fun _ => by first | rfl | kernel_rfl
  v232 := fun _ => by first | rfl | kernel_rfl
  t233 := by first | kernel_rfl | rfl | decide
  a233 := fun _ => by first | rfl | kernel_rfl
  z233 := fun _ => by first | rfl | kernel_rfl
  v233 := fun _ => by first | rfl | kernel_rfl
  g17 := by first | kernel_rfl | rfl | decide
  g18 := by first | kernel_rfl | rfl | decide
  g19 := by first | kernel_rfl | rfl | decide
  i0 := by first | kernel_rfl | rfl | decide
  i2 := by first | kernel_rfl | rfl | decide
  i3 := by first | kernel_rfl | rfl | decide
  i4 := by first | kernel_rfl | rfl | decide
  i5 := by first | kernel_rfl | rfl | decide
  i9 := by first | kernel_rfl | rfl | decide
  i20 := by first | kernel_rfl | rfl | decide
  i37 := by first | kernel_rfl | rfl | decide
  i46 := by first | kernel_rfl | rfl | decide
  i51 := by first | kernel_rfl | rfl | decide
  i53 := by first | kernel_rfl | rfl | decide
  i171 := by first | kernel_rfl | rfl | decide
  i173 := by first | kernel_rfl | rfl | decide
  i212 := by first | kernel_rfl | rfl | decide
  i232 := by first | kernel_rfl | rfl | decide
  i233 := by first | kernel_rfl | rfl | decide
  m17 := by first | kernel_rfl | rfl | decide
  m18 := by first | kernel_rfl | rfl | decide
  m19 := by first | kernel_rfl | rfl | decide
def mvT (f t : Nat) : Bool := if f = 7 then t == 3 else if f = 29 then t == 4 else if f = 33 then t == 4 else if f = 47 then t == 3 else if f = 48 then t == 3 else false
noncomputable def E : En := { P := Tryd.prog, T := tbOf Tryd.prog, md := mdT, fz := fzT, mv := mvT, ext := extT, kn := tab10 Tryd.prog }
@[simp] theorem E_P : E.P = Tryd.prog := rfl
@[simp] theorem ty1 : E.T.ty 1 = .one := by kernel_rfl
@[simp] theorem ty2 : E.T.ty 2 = .int .i64 := by kernel_rfl
@[simp] theorem zero2 : E.T.zero 2 = some (.int .i64 0) := by kernel_rfl
@[simp] theorem ty3 : E.T.ty 3 = .int .i64 := by kernel_rfl
@[simp] theorem zero3 : E.T.zero 3 = some (.int .i64 0) := by kernel_rfl
@[simp] theorem ty4 : E.T.ty 4 = .bool := by kernel_rfl
@[simp] theorem zero4 : E.T.zero 4 = some (.bool false) := by kernel_rfl
@[simp] theorem ty5 : E.T.ty 5 = .int .u8 := by kernel_rfl
@[simp] theorem zero5 : E.T.zero 5 = some (.int .u8 0) := by kernel_rfl
@[simp] theorem ty9 : E.T.ty 9 = .str := by kernel_rfl
@[simp] theorem zero9 : E.T.zero 9 = some (.str []) := by kernel_rfl
@[simp] theorem ty12 : E.T.ty 12 = .int .u64 := by kernel_rfl
@[simp] theorem zero12 : E.T.zero 12 = some (.int .u64 0) := by kernel_rfl
@[simp] theorem ty15 : E.T.ty 15 = .one := by kernel_rfl
@[simp] theorem ty16 : E.T.ty 16 = .one := by kernel_rfl
@[simp] theorem ty17 : E.T.ty 17 = .one := by kernel_rfl
@[simp] theorem ty20 : E.T.ty 20 = .iface := by kernel_rfl
@[simp] theorem zero20 : E.T.zero 20 = some (.ifc true) := by kernel_rfl
@[simp] theorem ty21 : E.T.ty 21 = .int .i32 := by kernel_rfl
@[simp] theorem zero21 : E.T.zero 21 = some (.int .i32 0) := by kernel_rfl
@[simp] theorem ty22 : E.T.ty 22 = .slice 66 4 40 := by kernel_rfl
@[simp] theorem zero22 : E.T.zero 22 = some (.lst true 66 4 []) := by kernel_rfl
@[simp] theorem ty23 : E.T.ty 23 = .slice 77 2 16 := by kernel_rfl
@[simp] theorem zero23 : E.T.zero 23 = some (.lst true 77 2 []) := by kernel_rfl
@[simp] theorem ty25 : E.T.ty 25 = .strct 7 false := by kernel_rfl
@[simp] theorem off25_0 : E.T.off 25 0 = some 0 := by kernel_rfl
@[simp] theorem fl25_0 : E.T.fl 25 0 = some (false, 1) := by kernel_rfl
@[simp] theorem off25_1 : E.T.off 25 1 = some 1 := by kernel_rfl
@[simp] theorem fl25_1 : E.T.fl 25 1 = some (false, 1) := by kernel_rfl
@[simp] theorem off25_2 : E.T.off 25 2 = some 2 := by kernel_rfl
@[simp] theorem fl25_2 : E.T.fl 25 2 = some (false, 1) := by kernel_rfl
@[simp] theorem off25_3 : E.T.off 25 3 = some 3 := by kernel_rfl
@[simp] theorem fl25_3 : E.T.fl 25 3 = some (false, 1) := by kernel_rfl
@[simp] theorem off25_4 : E.T.off 25 4 = some 4 := by kernel_rfl
@[simp] theorem fl25_4 : E.T.fl 25 4 = some (false, 1) := by kernel_rfl
@[simp] theorem off25_5 : E.T.off 25 5 = some 5 := by kernel_rfl
@[simp] theorem fl25_5 : E.T.fl 25 5 = some (false, 1) := by kernel_rfl
@[simp] theorem off25_6 : E.T.off 25 6 = some 6 := by kernel_rfl
@[simp] theorem fl25_6 : E.T.fl 25 6 = some (false, 1) := by kernel_rfl
@[simp] theorem zero25 : E.T.zero 25 = some (.agg [(.str []), (.int .i64 0), (.int .i64 0), (.int .i64 0), (.lst true 66 4 []), (.lst true 77 2 []), (.int .i64 0)]) := by kernel_rfl
@[simp] theorem ty26 : E.T.ty 26 = .one := by kernel_rfl
@[simp] theorem ty27 : E.T.ty 27 = .one := by kernel_rfl
@[simp] theorem ty28 : E.T.ty 28 = .slice 46 4 40 := by kernel_rfl
@[simp] theorem zero28 : E.T.zero 28 = some (.lst true 46 4 []) := by kernel_rfl
@[simp] theorem ty29 : E.T.ty 29 = .slice 70 2 16 := by kernel_rfl
@[simp] theorem zero29 : E.T.zero 29 = some (.lst true 70 2 []) := by kernel_rfl
@[simp] theorem ty31 : E.T.ty 31 = .strct 7 false := by kernel_rfl
@[simp] theorem off31_0 : E.T.off 31 0 = some 0 := by kernel_rfl
@[simp] theorem fl31_0 : E.T.fl 31 0 = some (false, 1) := by kernel_rfl
@[simp] theorem off31_1 : E.T.off 31 1 = some 1 := by kernel_rfl
@[simp] theorem fl31_1 : E.T.fl 31 1 = some (false, 1) := by kernel_rfl
@[simp] theorem off31_2 : E.T.off 31 2 = some 2 := by kernel_rfl
@[simp] theorem fl31_2 : E.T.fl 31 2 = some (false, 1) := by kernel_rfl
@[simp] theorem off31_3 : E.T.off 31 3 = some 3 := by kernel_rfl
@[simp] theorem fl31_3 : E.T.fl 31 3 = some (false, 1) := by kernel_rfl
@[simp] theorem off31_4 : E.T.off 31 4 = some 4 := by kernel_rfl
@[simp] theorem fl31_4 : E.T.fl 31 4 = some (false, 1) := by kernel_rfl
@[simp] theorem off31_5 : E.T.off 31 5 = some 5 := by kernel_rfl
@[simp] theorem fl31_5 : E.T.fl 31 5 = some (false, 1) := by kernel_rfl
@[simp] theorem off31_6 : E.T.off 31 6 = some 6 := by kernel_rfl
@[simp] theorem fl31_6 : E.T.fl 31 6 = some (false, 1) := by kernel_rfl
@[simp] theorem zero31 : E.T.zero 31 = some (.agg [(.str []), (.int .i64 0), (.int .i64 0), (.int .i64 0), (.lst true 46 4 []), (.lst true 70 2 []), (.int .i64 0)]) := by kernel_rfl
@[simp] theorem ty32 : E.T.ty 32 = .one := by kernel_rfl
@[simp] theorem ty33 : E.T.ty 33 = .one := by kernel_rfl
@[simp] theorem ty34 : E.T.ty 34 = .one := by kernel_rfl
@[simp] theorem ty35 : E.T.ty 35 = .slice 57 5 72 := by kernel_rfl
@[simp] theorem zero35 : E.T.zero 35 = some (.lst true 57 5 []) := by kernel_rfl
@[simp] theorem ty37 : E.T.ty 37 = .one := by kernel_rfl
@[simp] theorem ty38 : E.T.ty 38 = .one := by kernel_rfl
@[simp] theorem ty39 : E.T.ty 39 = .one := by kernel_rfl
@[simp] theorem ty40 : E.T.ty 40 = .one := by kernel_rfl
@[simp] theorem ty41 : E.T.ty 41 = .one := by kernel_rfl
@[simp] theorem ty42 : E.T.ty 42 = .one := by kernel_rfl
@[simp] theorem ty43 : E.T.ty 43 = .one := by kernel_rfl
@[simp] theorem ty44 : E.T.ty 44 = .one := by kernel_rfl
@[simp] theorem ty46 : E.T.ty 46 = .strct 4 true := by kernel_rfl
@[simp] theorem off46_0 : E.T.off 46 0 = some 0 := by kernel_rfl
@[simp] theorem fl46_0 : E.T.fl 46 0 = some (false, 1) := by kernel_rfl
@[simp] theorem off46_1 : E.T.off 46 1 = some 1 := by kernel_rfl
@[simp] theorem fl46_1 : E.T.fl 46 1 = some (false, 1) := by kernel_rfl
@[simp] theorem off46_2 : E.T.off 46 2 = some 2 := by kernel_rfl
@[simp] theorem fl46_2 : E.T.fl 46 2 = some (false, 1) := by kernel_rfl
@[simp] theorem off46_3 : E.T.off 46 3 = some 3 := by kernel_rfl
@[simp] theorem fl46_3 : E.T.fl 46 3 = some (false, 1) := by kernel_rfl
@[simp] theorem kinds46 : E.T.kinds 46 = [0, 0, 0, 1] := by kernel_rfl
@[simp] theorem zero46 : E.T.zero 46 = some (.agg [(.int .i64 0), (.int .i64 0), (.int .i64 0), (.str [])]) := by kernel_rfl
@[simp] theorem ty47 : E.T.ty 47 = .one := by kernel_rfl
@[simp] theorem ty48 : E.T.ty 48 = .one := by kernel_rfl
@[simp] theorem ty49 : E.T.ty 49 = .one := by kernel_rfl
@[simp] theorem ty50 : E.T.ty 50 = .one := by kernel_rfl
@[simp] theorem ty51 : E.T.ty 51 = .slice 9 1 16 := by kernel_rfl
@[simp] theorem zero51 : E.T.zero 51 = some (.lst true 9 1 []) := by kernel_rfl
@[simp] theorem ty52 : E.T.ty 52 = .one := by kernel_rfl
@[simp] theorem ty54 : E.T.ty 54 = .one := by kernel_rfl
@[simp] theorem ty55 : E.T.ty 55 = .slice 3 1 8 := by kernel_rfl
@[simp] theorem zero55 : E.T.zero 55 = some (.lst true 3 1 []) := by kernel_rfl
@[simp] theorem ty57 : E.T.ty 57 = .strct 5 false := by kernel_rfl
@[simp] theorem off57_0 : E.T.off 57 0 = some 0 := by kernel_rfl
@[simp] theorem fl57_0 : E.T.fl 57 0 = some (false, 1) := by kernel_rfl
@[simp] theorem off57_1 : E.T.off 57 1 = some 1 := by kernel_rfl
@[simp] theorem fl57_1 : E.T.fl 57 1 = some (false, 1) := by kernel_rfl
@[simp] theorem off57_2 : E.T.off 57 2 = some 2 := by kernel_rfl
@[simp] theorem fl57_2 : E.T.fl 57 2 = some (false, 1) := by kernel_rfl
@[simp] theorem off57_3 : E.T.off 57 3 = some 3 := by kernel_rfl
@[simp] theorem fl57_3 : E.T.fl 57 3 = some (false, 1) := by kernel_rfl
@[simp] theorem off57_4 : E.T.off 57 4 = some 4 := by kernel_rfl
@[simp] theorem fl57_4 : E.T.fl 57 4 = some (false, 1) := by kernel_rfl
@[simp] theorem zero57 : E.T.zero 57 = some (.agg [(.int .i64 0), (.int .i64 0), (.lst true 9 1 []), (.int .i64 0), (.lst true 3 1 [])]) := by kernel_rfl
@[simp] theorem ty59 : E.T.ty 59 = .one := by kernel_rfl
@[simp] theorem ty60 : E.T.ty 60 = .one := by kernel_rfl
@[simp] theorem ty61 : E.T.ty 61 = .one := by kernel_rfl
@[simp] theorem ty62 : E.T.ty 62 = .one := by kernel_rfl
@[simp] theorem ty63 : E.T.ty 63 = .one := by kernel_rfl
@[simp] theorem ty64 : E.T.ty 64 = .one := by kernel_rfl
@[simp] theorem ty65 : E.T.ty 65 = .one := by kernel_rfl
@[simp] theorem ty66 : E.T.ty 66 = .strct 4 true := by kernel_rfl
@[simp] theorem off66_0 : E.T.off 66 0 = some 0 := by kernel_rfl
@[simp] theorem fl66_0 : E.T.fl 66 0 = some (false, 1) := by kernel_rfl
@[simp] theorem off66_1 : E.T.off 66 1 = some 1 := by kernel_rfl
@[simp] theorem fl66_1 : E.T.fl 66 1 = some (false, 1) := by kernel_rfl
@[simp] theorem off66_2 : E.T.off 66 2 = some 2 := by kernel_rfl
@[simp] theorem fl66_2 : E.T.fl 66 2 = some (false, 1) := by kernel_rfl
@[simp] theorem off66_3 : E.T.off 66 3 = some 3 := by kernel_rfl
@[simp] theorem fl66_3 : E.T.fl 66 3 = some (false, 1) := by kernel_rfl
@[simp] theorem kinds66 : E.T.kinds 66 = [0, 0, 0, 1] := by kernel_rfl
@[simp] theorem zero66 : E.T.zero 66 = some (.agg [(.int .i64 0), (.int .i64 0), (.int .i64 0), (.str [])]) := by kernel_rfl
@[simp] theorem ty67 : E.T.ty 67 = .one := by kernel_rfl
@[simp] theorem ty68 : E.T.ty 68 = .one := by kernel_rfl
@[simp] theorem ty70 : E.T.ty 70 = .strct 2 true := by kernel_rfl
@[simp] theorem off70_0 : E.T.off 70 0 = some 0 := by kernel_rfl
@[simp] theorem fl70_0 : E.T.fl 70 0 = some (false, 1) := by kernel_rfl
@[simp] theorem off70_1 : E.T.off 70 1 = some 1 := by kernel_rfl
@[simp] theorem fl70_1 : E.T.fl 70 1 = some (false, 1) := by kernel_rfl
@[simp] theorem kinds70 : E.T.kinds 70 = [0, 0] := by kernel_rfl
@[simp] theorem zero70 : E.T.zero 70 = some (.agg [(.int .i64 0), (.int .i64 0)]) := by kernel_rfl
@[simp] theorem ty71 : E.T.ty 71 = .one := by kernel_rfl
@[simp] theorem ty72 : E.T.ty 72 = .one := by kernel_rfl
@[simp] theorem ty73 : E.T.ty 73 = .slice 5 1 1 := by kernel_rfl
@[simp] theorem zero73 : E.T.zero 73 = some (.lst true 5 1 []) := by kernel_rfl
@[simp] theorem ty74 : E.T.ty 74 = .one := by kernel_rfl
@[simp] theorem ty75 : E.T.ty 75 = .one := by kernel_rfl
@[simp] theorem ty76 : E.T.ty 76 = .one := by kernel_rfl
@[simp] theorem ty77 : E.T.ty 77 = .strct 2 true := by kernel_rfl
@[simp] theorem off77_0 : E.T.off 77 0 = some 0 := by kernel_rfl
@[simp] theorem fl77_0 : E.T.fl 77 0 = some (false, 1) := by kernel_rfl
@[simp] theorem off77_1 : E.T.off 77 1 = some 1 := by kernel_rfl
@[simp] theorem fl77_1 : E.T.fl 77 1 = some (false, 1) := by kernel_rfl
@[simp] theorem kinds77 : E.T.kinds 77 = [0, 0] := by kernel_rfl
@[simp] theorem zero77 : E.T.zero 77 = some (.agg [(.int .i64 0), (.int .i64 0)]) := by kernel_rfl
@[simp] theorem ty78 : E.T.ty 78 = .one := by kernel_rfl
@[simp] theorem ty79 : E.T.ty 79 = .one := by kernel_rfl
@[simp] theorem ty80 : E.T.ty 80 = .one := by kernel_rfl
@[simp] theorem ty82 : E.T.ty 82 = .one := by kernel_rfl
@[simp] theorem ty83 : E.T.ty 83 = .one := by kernel_rfl
@[simp] theorem ty84 : E.T.ty 84 = .one := by kernel_rfl
@[simp] theorem ty85 : E.T.ty 85 = .one := by kernel_rfl
@[simp] theorem ty86 : E.T.ty 86 = .one := by kernel_rfl
@[simp] theorem ty87 : E.T.ty 87 = .one := by kernel_rfl
@[simp] theorem ty88 : E.T.ty 88 = .one := by kernel_rfl
@[simp] theorem ty89 : E.T.ty 89 = .one := by kernel_rfl
@[simp] theorem ty92 : E.T.ty 92 = .one := by kernel_rfl
@[simp] theorem ty93 : E.T.ty 93 = .iface := by kernel_rfl
@[simp] theorem zero93 : E.T.zero 93 = some (.ifc true) := by kernel_rfl
@[simp] theorem ty94 : E.T.ty 94 = .iface := by kernel_rfl
@[simp] theorem zero94 : E.T.zero 94 = some (.ifc true) := by kernel_rfl
@[simp] theorem ty96 : E.T.ty 96 = .one := by kernel_rfl
@[simp] theorem ty97 : E.T.ty 97 = .one := by kernel_rfl
@[simp] theorem ty98 : E.T.ty 98 = .one := by kernel_rfl
@[simp] theorem ty99 : E.T.ty 99 = .one := by kernel_rfl
@[simp] theorem ty100 : E.T.ty 100 = .one := by kernel_rfl
@[simp] theorem ty101 : E.T.ty 101 = .one := by kernel_rfl
@[simp] theorem ty102 : E.T.ty 102 = .one := by kernel_rfl
@[simp] theorem ty103 : E.T.ty 103 = .one := by kernel_rfl
@[simp] theorem ty104 : E.T.ty 104 = .one := by kernel_rfl
@[simp] theorem ty105 : E.T.ty 105 = .one := by kernel_rfl
@[simp] theorem ty106 : E.T.ty 106 = .one := by kernel_rfl
@[simp] theorem ty108 : E.T.ty 108 = .one := by kernel_rfl
@[simp] theorem ty109 : E.T.ty 109 = .one := by kernel_rfl
@[simp] theorem ty111 : E.T.ty 111 = .int .u64 := by kernel_rfl
@[simp] theorem zero111 : E.T.zero 111 = some (.int .u64 0) := by kernel_rfl
@[simp] theorem ty112 : E.T.ty 112 = .one := by kernel_rfl
@[simp] theorem ty113 : E.T.ty 113 = .one := by kernel_rfl
@[simp] theorem ty115 : E.T.ty 115 = .one := by kernel_rfl
@[simp] theorem ty117 : E.T.ty 117 = .one := by kernel_rfl
@[simp] theorem ty118 : E.T.ty 118 = .one := by kernel_rfl
@[simp] theorem ty119 : E.T.ty 119 = .one := by kernel_rfl
@[simp] theorem ty120 : E.T.ty 120 = .int .u64 := by kernel_rfl
@[simp] theorem zero120 : E.T.zero 120 = some (.int .u64 0) := by kernel_rfl
@[simp] theorem ty123 : E.T.ty 123 = .one := by kernel_rfl
@[simp] theorem ty124 : E.T.ty 124 = .one := by kernel_rfl
@[simp] theorem ty125 : E.T.ty 125 = .one := by kernel_rfl
@[simp] theorem ty126 : E.T.ty 126 = .one := by kernel_rfl
@[simp] theorem ty127 : E.T.ty 127 = .one := by kernel_rfl
@[simp] theorem ty129 : E.T.ty 129 = .int .u32 := by kernel_rfl
@[simp] theorem zero129 : E.T.zero 129 = some (.int .u32 0) := by kernel_rfl
@[simp] theorem ty131 : E.T.ty 131 = .one := by kernel_rfl
@[simp] theorem ty137 : E.T.ty 137 = .one := by kernel_rfl
@[simp] theorem ty139 : E.T.ty 139 = .one := by kernel_rfl
@[simp] theorem ty140 : E.T.ty 140 = .one := by kernel_rfl
@[simp] theorem ty143 : E.T.ty 143 = .one := by kernel_rfl
@[simp] theorem ty144 : E.T.ty 144 = .one := by kernel_rfl
@[simp] theorem ty145 : E.T.ty 145 = .one := by kernel_rfl
@[simp] theorem ty146 : E.T.ty 146 = .one := by kernel_rfl
@[simp] theorem ty156 : E.T.ty 156 = .one := by kernel_rfl
@[simp] theorem ty159 : E.T.ty 159 = .one := by kernel_rfl
@[simp] theorem md3 : E.md 3 = [] := rfl
@[simp] theorem mv3 (t : Nat) : E.mv 3 t = false := rfl
@[simp] theorem fz3 : E.fz 3 = false := rfl
@[simp] theorem md4 : E.md 4 = [] := rfl
@[simp] theorem mv4 (t : Nat) : E.mv 4 t = false := rfl
@[simp] theorem fz4 : E.fz 4 = false := rfl
@[simp] theorem md5 : E.md 5 = [] := rfl
@[simp] theorem mv5 (t : Nat) : E.mv 5 t = false := rfl
@[simp] theorem fz5 : E.fz 5 = false := rfl
@[simp] theorem md6 : E.md 6 = [] := rfl
@[simp] theorem mv6 (t : Nat) : E.mv 6 t = false := rfl
@[simp] theorem fz6 : E.fz 6 = false := rfl
@[simp] theorem md7 : E.md 7 = [] := rfl
@[simp] theorem mv7 (t : Nat) : E.mv 7 t = (t == 3) := rfl
@[simp] theorem fz7 : E.fz 7 = false := rfl
@[simp] theorem md8 : E.md 8 = [] := rfl
@[simp] theorem mv8 (t : Nat) : E.mv 8 t = false := rfl
@[simp] theorem fz8 : E.fz 8 = false := rfl
@[simp] theorem md9 : E.md 9 = [] := rfl
@[simp] theorem mv9 (t : Nat) : E.mv 9 t = false := rfl
@[simp] theorem fz9 : E.fz 9 = false := rfl
@[simp] theorem md10 : E.md 10 = [] := rfl
@[simp] theorem mv10 (t : Nat) : E.mv 10 t = false := rfl
@[simp] theorem fz10 : E.fz 10 = false := rfl
@[simp] theorem md11 : E.md 11 = [] := rfl
@[simp] theorem mv11 (t : Nat) : E.mv 11 t = false := rfl
@[simp] theorem fz11 : E.fz 11 = false := rfl
@[simp] theorem md12 : E.md 12 = [] := rfl
@[simp] theorem mv12 (t : Nat) : E.mv 12 t = false := rfl
@[simp] theorem fz12 : E.fz 12 = false := rfl
@[simp] theorem md13 : E.md 13 = [0] := rfl
@[simp] theorem mv13 (t : Nat) : E.mv 13 t = false := rfl
@[simp] theorem fz13 : E.fz 13 = false := rfl
@[simp] theorem md14 : E.md 14 = [] := rfl
@[simp] theorem mv14 (t : Nat) : E.mv 14 t = false := rfl
@[simp] theorem fz14 : E.fz 14 = false := rfl
@[simp] theorem md15 : E.md 15 = [] := rfl
@[simp] theorem mv15 (t : Nat) : E.mv 15 t = false := rfl
@[simp] theorem fz15 : E.fz 15 = false := rfl
@[simp] theorem md16 : E.md 16 = [] := rfl
@[simp] theorem mv16 (t : Nat) : E.mv 16 t = false := rfl
@[simp] theorem fz16 : E.fz 16 = false := rfl
@[simp] theorem md17 : E.md 17 = [] := rfl
@[simp] theorem mv17 (t : Nat) : E.mv 17 t = false := rfl
@[simp] theorem fz17 : E.fz 17 = false := rfl
@[simp] theorem md18 : E.md 18 = [] := rfl
@[simp] theorem mv18 (t : Nat) : E.mv 18 t = false := rfl
@[simp] theorem fz18 : E.fz 18 = false := rfl
@[simp] theorem md19 : E.md 19 = [] := rfl
@[simp] theorem mv19 (t : Nat) : E.mv 19 t = false := rfl
@[simp] theorem fz19 : E.fz 19 = false := rfl
@[simp] theorem md20 : E.md 20 = [] := rfl
@[simp] theorem mv20 (t : Nat) : E.mv 20 t = false := rfl
@[simp] theorem fz20 : E.fz 20 = false := rfl
@[simp] theorem md21 : E.md 21 = [] := rfl
@[simp] theorem mv21 (t : Nat) : E.mv 21 t = false := rfl
@[simp] theorem fz21 : E.fz 21 = false := rfl
@[simp] theorem md22 : E.md 22 = [] := rfl
@[simp] theorem mv22 (t : Nat) : E.mv 22 t = false := rfl
@[simp] theorem fz22 : E.fz 22 = false := rfl
@[simp] theorem md23 : E.md 23 = [] := rfl
@[simp] theorem mv23 (t : Nat) : E.mv 23 t = false := rfl
@[simp] theorem fz23 : E.fz 23 = false := rfl
@[simp] theorem md24 : E.md 24 = [] := rfl
@[simp] theorem mv24 (t : Nat) : E.mv 24 t = false := rfl
@[simp] theorem fz24 : E.fz 24 = false := rfl
@[simp] theorem md25 : E.md 25 = [] := rfl
@[simp] theorem mv25 (t : Nat) : E.mv 25 t = false := rfl
@[simp] theorem fz25 : E.fz 25 = false := rfl
@[simp] theorem md26 : E.md 26 = [] := rfl
@[simp] theorem mv26 (t : Nat) : E.mv 26 t = false := rfl
@[simp] theorem fz26 : E.fz 26 = false := rfl
@[simp] theorem md27 : E.md 27 = [] := rfl
@[simp] theorem mv27 (t : Nat) : E.mv 27 t = false := rfl
@[simp] theorem fz27 : E.fz 27 = false := rfl
@[simp] theorem md28 : E.md 28 = [] := rfl
@[simp] theorem mv28 (t : Nat) : E.mv 28 t = false := rfl
@[simp] theorem fz28 : E.fz 28 = false := rfl
@[simp] theorem md29 : E.md 29 = [] := rfl
@[simp] theorem mv29 (t : Nat) : E.mv 29 t = (t == 4) := rfl
@[simp] theorem fz29 : E.fz 29 = false := rfl
@[simp] theorem md30 : E.md 30 = [] := rfl
@[simp] theorem mv30 (t : Nat) : E.mv 30 t = false := rfl
@[simp] theorem fz30 : E.fz 30 = false := rfl
@[simp] theorem md31 : E.md 31 = [] := rfl
@[simp] theorem mv31 (t : Nat) : E.mv 31 t = false := rfl
@[simp] theorem fz31 : E.fz 31 = false := rfl
@[simp] theorem md32 : E.md 32 = [] := rfl
@[simp] theorem mv32 (t : Nat) : E.mv 32 t = false := rfl
@[simp] theorem fz32 : E.fz 32 = false := rfl
@[simp] theorem md33 : E.md 33 = [] := rfl
@[simp] theorem mv33 (t : Nat) : E.mv 33 t = (t == 4) := rfl
@[simp] theorem fz33 : E.fz 33 = false := rfl
@[simp] theorem md34 : E.md 34 = [] := rfl
@[simp] theorem mv34 (t : Nat) : E.mv 34 t = false := rfl
@[simp] theorem fz34 : E.fz 34 = false := rfl
@[simp] theorem md35 : E.md 35 = [0] := rfl
@[simp] theorem mv35 (t : Nat) : E.mv 35 t = false := rfl
@[simp] theorem fz35 : E.fz 35 = false := rfl
@[simp] theorem md36 : E.md 36 = [0] := rfl
@[simp] theorem mv36 (t : Nat) : E.mv 36 t = false := rfl
@[simp] theorem fz36 : E.fz 36 = false := rfl
@[simp] theorem md37 : E.md 37 = [] := rfl
@[simp] theorem mv37 (t : Nat) : E.mv 37 t = false := rfl
@[simp] theorem fz37 : E.fz 37 = false := rfl
@[simp] theorem md38 : E.md 38 = [] := rfl
@[simp] theorem mv38 (t : Nat) : E.mv 38 t = false := rfl
@[simp] theorem fz38 : E.fz 38 = false := rfl
@[simp] theorem md39 : E.md 39 = [] := rfl
@[simp] theorem mv39 (t : Nat) : E.mv 39 t = false := rfl
@[simp] theorem fz39 : E.fz 39 = false := rfl
@[simp] theorem md40 : E.md 40 = [] := rfl
@[simp] theorem mv40 (t : Nat) : E.mv 40 t = false := rfl
@[simp] theorem fz40 : E.fz 40 = false := rfl
@[simp] theorem md41 : E.md 41 = [] := rfl
@[simp] theorem mv41 (t : Nat) : E.mv 41 t = false := rfl
@[simp] theorem fz41 : E.fz 41 = false := rfl
@[simp] theorem md42 : E.md 42 = [] := rfl
@[simp] theorem mv42 (t : Nat) : E.mv 42 t = false := rfl
@[simp] theorem fz42 : E.fz 42 = false := rfl
@[simp] theorem md43 : E.md 43 = [] := rfl
@[simp] theorem mv43 (t : Nat) : E.mv 43 t = false := rfl
@[simp] theorem fz43 : E.fz 43 = false := rfl
@[simp] theorem md44 : E.md 44 = [] := rfl
@[simp] theorem mv44 (t : Nat) : E.mv 44 t = false := rfl
@[simp] theorem fz44 : E.fz 44 = false := rfl
@[simp] theorem md45 : E.md 45 = [] := rfl
@[simp] theorem mv45 (t : Nat) : E.mv 45 t = false := rfl
@[simp] theorem fz45 : E.fz 45 = false := rfl
@[simp] theorem md46 : E.md 46 = [] := rfl
@[simp] theorem mv46 (t : Nat) : E.mv 46 t = false := rfl
@[simp] theorem fz46 : E.fz 46 = false := rfl
@[simp] theorem md47 : E.md 47 = [] := rfl
@[simp] theorem mv47 (t : Nat) : E.mv 47 t = (t == 3) := rfl
@[simp] theorem fz47 : E.fz 47 = false := rfl
@[simp] theorem md48 : E.md 48 = [] := rfl
@[simp] theorem mv48 (t : Nat) : E.mv 48 t = (t == 3) := rfl
@[simp] theorem fz48 : E.fz 48 = false := rfl
@[simp] theorem md49 : E.md 49 = [] := rfl
@[simp] theorem mv49 (t : Nat) : E.mv 49 t = false := rfl
@[simp] theorem fz49 : E.fz 49 = false := rfl
@[simp] theorem md50 : E.md 50 = [] := rfl
@[simp] theorem mv50 (t : Nat) : E.mv 50 t = false := rfl
@[simp] theorem fz50 : E.fz 50 = false := rfl
@[simp] theorem md51 : E.md 51 = [] := rfl
@[simp] theorem mv51 (t : Nat) : E.mv 51 t = false := rfl
@[simp] theorem fz51 : E.fz 51 = false := rfl
@[simp] theorem md52 : E.md 52 = [] := rfl
@[simp] theorem mv52 (t : Nat) : E.mv 52 t = false := rfl
@[simp] theorem fz52 : E.fz 52 = false := rfl
@[simp] theorem md53 : E.md 53 = [] := rfl
@[simp] theorem mv53 (t : Nat) : E.mv 53 t = false := rfl
@[simp] theorem fz53 : E.fz 53 = false := rfl
@[simp] theorem md54 : E.md 54 = [] := rfl
@[simp] theorem mv54 (t : Nat) : E.mv 54 t = false := rfl
@[simp] theorem fz54 : E.fz 54 = false := rfl
@[simp] theorem md55 : E.md 55 = [] := rfl
@[simp] theorem mv55 (t : Nat) : E.mv 55 t = false := rfl
@[simp] theorem fz55 : E.fz 55 = false := rfl
@[simp] theorem md56 : E.md 56 = [] := rfl
@[simp] theorem mv56 (t : Nat) : E.mv 56 t = false := rfl
@[simp] theorem fz56 : E.fz 56 = false := rfl
@[simp] theorem md57 : E.md 57 = [1000] := rfl
@[simp] theorem mv57 (t : Nat) : E.mv 57 t = false := rfl
@[simp] theorem fz57 : E.fz 57 = false := rfl
@[simp] theorem md58 : E.md 58 = [] := rfl
@[simp] theorem mv58 (t : Nat) : E.mv 58 t = false := rfl
@[simp] theorem fz58 : E.fz 58 = false := rfl
@[simp] theorem md59 : E.md 59 = [] := rfl
@[simp] theorem mv59 (t : Nat) : E.mv 59 t = false := rfl
@[simp] theorem fz59 : E.fz 59 = false := rfl
@[simp] theorem md60 : E.md 60 = [] := rfl
@[simp] theorem mv60 (t : Nat) : E.mv 60 t = false := rfl
@[simp] theorem fz60 : E.fz 60 = false := rfl
@[simp] theorem md61 : E.md 61 = [] := rfl
@[simp] theorem mv61 (t : Nat) : E.mv 61 t = false := rfl
@[simp] theorem fz61 : E.fz 61 = false := rfl
@[simp] theorem md62 : E.md 62 = [] := rfl
@[simp] theorem mv62 (t : Nat) : E.mv 62 t = false := rfl
@[simp] theorem fz62 : E.fz 62 = false := rfl
@[simp] theorem md63 : E.md 63 = [] := rfl
@[simp] theorem mv63 (t : Nat) : E.mv 63 t = false := rfl
@[simp] theorem fz63 : E.fz 63 = false := rfl
@[simp] theorem md64 : E.md 64 = [] := rfl
@[simp] theorem mv64 (t : Nat) : E.mv 64 t = false := rfl
@[simp] theorem fz64 : E.fz 64 = false := rfl
@[simp] theorem md65 : E.md 65 = [] := rfl
@[simp] theorem mv65 (t : Nat) : E.mv 65 t = false := rfl
@[simp] theorem fz65 : E.fz 65 = false := rfl
@[simp] theorem md66 : E.md 66 = [] := rfl
@[simp] theorem mv66 (t : Nat) : E.mv 66 t = false := rfl
@[simp] theorem fz66 : E.fz 66 = false := rfl
@[simp] theorem md67 : E.md 67 = [] := rfl
@[simp] theorem mv67 (t : Nat) : E.mv 67 t = false := rfl
@[simp] theorem fz67 : E.fz 67 = false := rfl
@[simp] theorem md68 : E.md 68 = [] := rfl
@[simp] theorem mv68 (t : Nat) : E.mv 68 t = false := rfl
@[simp] theorem fz68 : E.fz 68 = false := rfl
@[simp] theorem md69 : E.md 69 = [] := rfl
@[simp] theorem mv69 (t : Nat) : E.mv 69 t = false := rfl
@[simp] theorem fz69 : E.fz 69 = false := rfl
@[simp] theorem md70 : E.md 70 = [] := rfl
@[simp] theorem mv70 (t : Nat) : E.mv 70 t = false := rfl
@[simp] theorem fz70 : E.fz 70 = false := rfl
@[simp] theorem md71 : E.md 71 = [] := rfl
@[simp] theorem mv71 (t : Nat) : E.mv 71 t = false := rfl
@[simp] theorem fz71 : E.fz 71 = false := rfl
@[simp] theorem md72 : E.md 72 = [] := rfl
@[simp] theorem mv72 (t : Nat) : E.mv 72 t = false := rfl
@[simp] theorem fz72 : E.fz 72 = false := rfl
@[simp] theorem md73 : E.md 73 = [] := rfl
@[simp] theorem mv73 (t : Nat) : E.mv 73 t = false := rfl
@[simp] theorem fz73 : E.fz 73 = false := rfl
@[simp] theorem md74 : E.md 74 = [] := rfl
@[simp] theorem mv74 (t : Nat) : E.mv 74 t = false := rfl
@[simp] theorem fz74 : E.fz 74 = false := rfl
@[simp] theorem md75 : E.md 75 = [] := rfl
@[simp] theorem mv75 (t : Nat) : E.mv 75 t = false := rfl
@[simp] theorem fz75 : E.fz 75 = false := rfl
@[simp] theorem md76 : E.md 76 = [] := rfl
@[simp] theorem mv76 (t : Nat) : E.mv 76 t = false := rfl
@[simp] theorem fz76 : E.fz 76 = false := rfl
@[simp] theorem md77 : E.md 77 = [] := rfl
@[simp] theorem mv77 (t : Nat) : E.mv 77 t = false := rfl
@[simp] theorem fz77 : E.fz 77 = false := rfl
@[simp] theorem md78 : E.md 78 = [] := rfl
@[simp] theorem mv78 (t : Nat) : E.mv 78 t = false := rfl
@[simp] theorem fz78 : E.fz 78 = false := rfl
@[simp] theorem md79 : E.md 79 = [] := rfl
@[simp] theorem mv79 (t : Nat) : E.mv 79 t = false := rfl
@[simp] theorem fz79 : E.fz 79 = false := rfl
@[simp] theorem md80 : E.md 80 = [] := rfl
@[simp] theorem mv80 (t : Nat) : E.mv 80 t = false := rfl
@[simp] theorem fz80 : E.fz 80 = false := rfl
@[simp] theorem md81 : E.md 81 = [] := rfl
@[simp] theorem mv81 (t : Nat) : E.mv 81 t = false := rfl
@[simp] theorem fz81 : E.fz 81 = false := rfl
@[simp] theorem md82 : E.md 82 = [] := rfl
@[simp] theorem mv82 (t : Nat) : E.mv 82 t = false := rfl
@[simp] theorem fz82 : E.fz 82 = false := rfl
@[simp] theorem md83 : E.md 83 = [] := rfl
@[simp] theorem mv83 (t : Nat) : E.mv 83 t = false := rfl
@[simp] theorem fz83 : E.fz 83 = false := rfl
@[simp] theorem md84 : E.md 84 = [] := rfl
@[simp] theorem mv84 (t : Nat) : E.mv 84 t = false := rfl
@[simp] theorem fz84 : E.fz 84 = false := rfl
@[simp] theorem md85 : E.md 85 = [] := rfl
@[simp] theorem mv85 (t : Nat) : E.mv 85 t = false := rfl
@[simp] theorem fz85 : E.fz 85 = false := rfl
@[simp] theorem md86 : E.md 86 = [] := rfl
@[simp] theorem mv86 (t : Nat) : E.mv 86 t = false := rfl
@[simp] theorem fz86 : E.fz 86 = false := rfl
@[simp] theorem md87 : E.md 87 = [] := rfl
@[simp] theorem mv87 (t : Nat) : E.mv 87 t = false := rfl
@[simp] theorem fz87 : E.fz 87 = false := rfl
@[simp] theorem md88 : E.md 88 = [] := rfl
@[simp] theorem mv88 (t : Nat) : E.mv 88 t = false := rfl
@[simp] theorem fz88 : E.fz 88 = false := rfl
@[simp] theorem md89 : E.md 89 = [] := rfl
@[simp] theorem mv89 (t : Nat) : E.mv 89 t = false := rfl
@[simp] theorem fz89 : E.fz 89 = false := rfl
@[simp] theorem md90 : E.md 90 = [] := rfl
@[simp] theorem mv90 (t : Nat) : E.mv 90 t = false := rfl
@[simp] theorem fz90 : E.fz 90 = false := rfl
@[simp] theorem md91 : E.md 91 = [] := rfl
@[simp] theorem mv91 (t : Nat) : E.mv 91 t = false := rfl
@[simp] theorem fz91 : E.fz 91 = false := rfl
@[simp] theorem md92 : E.md 92 = [] := rfl
@[simp] theorem mv92 (t : Nat) : E.mv 92 t = false := rfl
@[simp] theorem fz92 : E.fz 92 = false := rfl
@[simp] theorem md93 : E.md 93 = [] := rfl
@[simp] theorem mv93 (t : Nat) : E.mv 93 t = false := rfl
@[simp] theorem fz93 : E.fz 93 = false := rfl
@[simp] theorem md94 : E.md 94 = [] := rfl
@[simp] theorem mv94 (t : Nat) : E.mv 94 t = false := rfl
@[simp] theorem fz94 : E.fz 94 = false := rfl
@[simp] theorem md95 : E.md 95 = [] := rfl
@[simp] theorem mv95 (t : Nat) : E.mv 95 t = false := rfl
@[simp] theorem fz95 : E.fz 95 = false := rfl
@[simp] theorem md96 : E.md 96 = [] := rfl
@[simp] theorem mv96 (t : Nat) : E.mv 96 t = false := rfl
@[simp] theorem fz96 : E.fz 96 = false := rfl
@[simp] theorem md97 : E.md 97 = [] := rfl
@[simp] theorem mv97 (t : Nat) : E.mv 97 t = false := rfl
@[simp] theorem fz97 : E.fz 97 = false := rfl
@[simp] theorem md98 : E.md 98 = [] := rfl
@[simp] theorem mv98 (t : Nat) : E.mv 98 t = false := rfl
@[simp] theorem fz98 : E.fz 98 = false := rfl
@[simp] theorem md99 : E.md 99 = [] := rfl
@[simp] theorem mv99 (t : Nat) : E.mv 99 t = false := rfl
@[simp] theorem fz99 : E.fz 99 = false := rfl
@[simp] theorem md100 : E.md 100 = [] := rfl
@[simp] theorem mv100 (t : Nat) : E.mv 100 t = false := rfl
@[simp] theorem fz100 : E.fz 100 = false := rfl
@[simp] theorem md101 : E.md 101 = [] := rfl
@[simp] theorem mv101 (t : Nat) : E.mv 101 t = false := rfl
@[simp] theorem fz101 : E.fz 101 = false := rfl
@[simp] theorem md102 : E.md 102 = [] := rfl
@[simp] theorem mv102 (t : Nat) : E.mv 102 t = false := rfl
@[simp] theorem fz102 : E.fz 102 = false := rfl
@[simp] theorem md103 : E.md 103 = [] := rfl
@[simp] theorem mv103 (t : Nat) : E.mv 103 t = false := rfl
@[simp] theorem fz103 : E.fz 103 = false := rfl
@[simp] theorem md104 : E.md 104 = [] := rfl
@[simp] theorem mv104 (t : Nat) : E.mv 104 t = false := rfl
@[simp] theorem fz104 : E.fz 104 = false := rfl
@[simp] theorem md105 : E.md 105 = [] := rfl
@[simp] theorem mv105 (t : Nat) : E.mv 105 t = false := rfl
@[simp] theorem fz105 : E.fz 105 = false := rfl
@[simp] theorem md106 : E.md 106 = [] := rfl
@[simp] theorem mv106 (t : Nat) : E.mv 106 t = false := rfl
@[simp] theorem fz106 : E.fz 106 = false := rfl
@[simp] theorem md107 : E.md 107 = [] := rfl
@[simp] theorem mv107 (t : Nat) : E.mv 107 t = false := rfl
@[simp] theorem fz107 : E.fz 107 = false := rfl
@[simp] theorem md108 : E.md 108 = [] := rfl
@[simp] theorem mv108 (t : Nat) : E.mv 108 t = false := rfl
@[simp] theorem fz108 : E.fz 108 = false := rfl
@[simp] theorem md109 : E.md 109 = [] := rfl
@[simp] theorem mv109 (t : Nat) : E.mv 109 t = false := rfl
@[simp] theorem fz109 : E.fz 109 = false := rfl
@[simp] theorem md110 : E.md 110 = [] := rfl
@[simp] theorem mv110 (t : Nat) : E.mv 110 t = false := rfl
@[simp] theorem fz110 : E.fz 110 = false := rfl
@[simp] theorem md111 : E.md 111 = [] := rfl
@[simp] theorem mv111 (t : Nat) : E.mv 111 t = false := rfl
@[simp] theorem fz111 : E.fz 111 = false := rfl
@[simp] theorem md112 : E.md 112 = [] := rfl
@[simp] theorem mv112 (t : Nat) : E.mv 112 t = false := rfl
@[simp] theorem fz112 : E.fz 112 = false := rfl
@[simp] theorem md113 : E.md 113 = [] := rfl
@[simp] theorem mv113 (t : Nat) : E.mv 113 t = false := rfl
@[simp] theorem fz113 : E.fz 113 = false := rfl
@[simp] theorem md114 : E.md 114 = [] := rfl
@[simp] theorem mv114 (t : Nat) : E.mv 114 t = false := rfl
@[simp] theorem fz114 : E.fz 114 = false := rfl
@[simp] theorem md115 : E.md 115 = [] := rfl
@[simp] theorem mv115 (t : Nat) : E.mv 115 t = false := rfl
@[simp] theorem fz115 : E.fz 115 = false := rfl
@[simp] theorem md116 : E.md 116 = [] := rfl
@[simp] theorem mv116 (t : Nat) : E.mv 116 t = false := rfl
@[simp] theorem fz116 : E.fz 116 = false := rfl
@[simp] theorem md117 : E.md 117 = [] := rfl
@[simp] theorem mv117 (t : Nat) : E.mv 117 t = false := rfl
@[simp] theorem fz117 : E.fz 117 = false := rfl
@[simp] theorem md118 : E.md 118 = [] := rfl
@[simp] theorem mv118 (t : Nat) : E.mv 118 t = false := rfl
@[simp] theorem fz118 : E.fz 118 = false := rfl
@[simp] theorem md119 : E.md 119 = [] := rfl
@[simp] theorem mv119 (t : Nat) : E.mv 119 t = false := rfl
@[simp] theorem fz119 : E.fz 119 = false := rfl
@[simp] theorem md120 : E.md 120 = [] := rfl
@[simp] theorem mv120 (t : Nat) : E.mv 120 t = false := rfl
@[simp] theorem fz120 : E.fz 120 = false := rfl
@[simp] theorem md121 : E.md 121 = [] := rfl
@[simp] theorem mv121 (t : Nat) : E.mv 121 t = false := rfl
@[simp] theorem fz121 : E.fz 121 = false := rfl
@[simp] theorem md122 : E.md 122 = [] := rfl
@[simp] theorem mv122 (t : Nat) : E.mv 122 t = false := rfl
@[simp] theorem fz122 : E.fz 122 = false := rfl
@[simp] theorem md123 : E.md 123 = [] := rfl
@[simp] theorem mv123 (t : Nat) : E.mv 123 t = false := rfl
@[simp] theorem fz123 : E.fz 123 = false := rfl
@[simp] theorem md124 : E.md 124 = [] := rfl
@[simp] theorem mv124 (t : Nat) : E.mv 124 t = false := rfl
@[simp] theorem fz124 : E.fz 124 = false := rfl
@[simp] theorem md125 : E.md 125 = [] := rfl
@[simp] theorem mv125 (t : Nat) : E.mv 125 t = false := rfl
@[simp] theorem fz125 : E.fz 125 = false := rfl
@[simp] theorem md126 : E.md 126 = [] := rfl
@[simp] theorem mv126 (t : Nat) : E.mv 126 t = false := rfl
@[simp] theorem fz126 : E.fz 126 = false := rfl
@[simp] theorem md127 : E.md 127 = [] := rfl
@[simp] theorem mv127 (t : Nat) : E.mv 127 t = false := rfl
@[simp] theorem fz127 : E.fz 127 = false := rfl
@[simp] theorem md128 : E.md 128 = [] := rfl
@[simp] theorem mv128 (t : Nat) : E.mv 128 t = false := rfl
@[simp] theorem fz128 : E.fz 128 = false := rfl
@[simp] theorem md129 : E.md 129 = [] := rfl
@[simp] theorem mv129 (t : Nat) : E.mv 129 t = false := rfl
@[simp] theorem fz129 : E.fz 129 = false := rfl
@[simp] theorem md130 : E.md 130 = [] := rfl
@[simp] theorem mv130 (t : Nat) : E.mv 130 t = false := rfl
@[simp] theorem fz130 : E.fz 130 = false := rfl
@[simp] theorem md131 : E.md 131 = [] := rfl
@[simp] theorem mv131 (t : Nat) : E.mv 131 t = false := rfl
@[simp] theorem fz131 : E.fz 131 = false := rfl
@[simp] theorem md132 : E.md 132 = [] := rfl
@[simp] theorem mv132 (t : Nat) : E.mv 132 t = false := rfl
@[simp] theorem fz132 : E.fz 132 = false := rfl
@[simp] theorem md133 : E.md 133 = [] := rfl
@[simp] theorem mv133 (t : Nat) : E.mv 133 t = false := rfl
@[simp] theorem fz133 : E.fz 133 = false := rfl
@[simp] theorem md134 : E.md 134 = [] := rfl
@[simp] theorem mv134 (t : Nat) : E.mv 134 t = false := rfl
@[simp] theorem fz134 : E.fz 134 = false := rfl
@[simp] theorem md135 : E.md 135 = [] := rfl
@[simp] theorem mv135 (t : Nat) : E.mv 135 t = false := rfl
@[simp] theorem fz135 : E.fz 135 = false := rfl
@[simp] theorem md136 : E.md 136 = [] := rfl
@[simp] theorem mv136 (t : Nat) : E.mv 136 t = false := rfl
@[simp] theorem fz136 : E.fz 136 = false := rfl
@[simp] theorem md137 : E.md 137 = [] := rfl
@[simp] theorem mv137 (t : Nat) : E.mv 137 t = false := rfl
@[simp] theorem fz137 : E.fz 137 = false := rfl
@[simp] theorem md138 : E.md 138 = [] := rfl
@[simp] theorem mv138 (t : Nat) : E.mv 138 t = false := rfl
@[simp] theorem fz138 : E.fz 138 = false := rfl
@[simp] theorem md139 : E.md 139 = [] := rfl
@[simp] theorem mv139 (t : Nat) : E.mv 139 t = false := rfl
@[simp] theorem fz139 : E.fz 139 = false := rfl
@[simp] theorem md140 : E.md 140 = [] := rfl
@[simp] theorem mv140 (t : Nat) : E.mv 140 t = false := rfl
@[simp] theorem fz140 : E.fz 140 = false := rfl
@[simp] theorem md141 : E.md 141 = [] := rfl
@[simp] theorem mv141 (t : Nat) : E.mv 141 t = false := rfl
@[simp] theorem fz141 : E.fz 141 = false := rfl
@[simp] theorem md142 : E.md 142 = [] := rfl
@[simp] theorem mv142 (t : Nat) : E.mv 142 t = false := rfl
@[simp] theorem fz142 : E.fz 142 = false := rfl
@[simp] theorem md143 : E.md 143 = [] := rfl
@[simp] theorem mv143 (t : Nat) : E.mv 143 t = false := rfl
@[simp] theorem fz143 : E.fz 143 = false := rfl
@[simp] theorem md144 : E.md 144 = [] := rfl
@[simp] theorem mv144 (t : Nat) : E.mv 144 t = false := rfl
@[simp] theorem fz144 : E.fz 144 = false := rfl
@[simp] theorem md145 : E.md 145 = [] := rfl
@[simp] theorem mv145 (t : Nat) : E.mv 145 t = false := rfl
@[simp] theorem fz145 : E.fz 145 = false := rfl
@[simp] theorem md146 : E.md 146 = [] := rfl
@[simp] theorem mv146 (t : Nat) : E.mv 146 t = false := rfl
@[simp] theorem fz146 : E.fz 146 = false := rfl
@[simp] theorem md147 : E.md 147 = [] := rfl
@[simp] theorem mv147 (t : Nat) : E.mv 147 t = false := rfl
@[simp] theorem fz147 : E.fz 147 = false := rfl
@[simp] theorem md148 : E.md 148 = [] := rfl
@[simp] theorem mv148 (t : Nat) : E.mv 148 t = false := rfl
@[simp] theorem fz148 : E.fz 148 = false := rfl
@[simp] theorem md149 : E.md 149 = [] := rfl
@[simp] theorem mv149 (t : Nat) : E.mv 149 t = false := rfl
@[simp] theorem fz149 : E.fz 149 = false := rfl
@[simp] theorem md150 : E.md 150 = [] := rfl
@[simp] theorem mv150 (t : Nat) : E.mv 150 t = false := rfl
@[simp] theorem fz150 : E.fz 150 = false := rfl
@[simp] theorem md151 : E.md 151 = [] := rfl
@[simp] theorem mv151 (t : Nat) : E.mv 151 t = false := rfl
@[simp] theorem fz151 : E.fz 151 = false := rfl
theorem ext108 : E.ext 108 = some extIndexByte := rfl
theorem ext57 : E.ext 57 = some (extJoin 9) := rfl
theorem ext54 : E.ext 54 = some extItoaT := rfl
theorem ext88 : E.ext 88 = some extCount := rfl
theorem tab10_of {rest : List (String × Go.DataW Unit)} {W : Go.World} (h : Go.laidMet Tryd.prog (("internal/strconv.uint64pow10", Go.Lib.tabData .u64 Go.Lib.pow10Tab) :: rest) W) : tab10 Tryd.prog W :=
  Go.Lib.tabIs_of_head (g := 1) (t := (Tryd.prog.globals[1]!).type) (e := 111) (n := 20) (by kernel_rfl) (by kernel_rfl) (by kernel_rfl) (by kernel_rfl) (by kernel_rfl) (by kernel_rfl) h
theorem extOk : ExtOk E := fun f g args res h hg => by
  simp only [E, extT] at h
  by_cases h108 : f = 108
  · subst h108
    obtain rfl := Option.some.inj h
    exact ext_indexByte (P := Tryd.prog) Tryd.func108 rfl rfl (by kernel_rfl) (by kernel_rfl) hg
  rw [if_neg h108] at h
  by_cases h57 : f = 57
  · subst h57
    obtain rfl := Option.some.inj h
    exact ext_join lays57 extraS hg
  rw [if_neg h57] at h
  by_cases h54 : f = 54
  · subst h54
    obtain rfl := Option.some.inj h
    exact ext_itoaT lays54 hg
  rw [if_neg h54] at h
  by_cases h88 : f = 88
  · subst h88
    obtain rfl := Option.some.inj h
    exact ext_count (P := Tryd.prog) Tryd.func88 rfl rfl (by kernel_rfl) (by kernel_rfl) hg
  rw [if_neg h88] at h
  cases h
end Go.Proofs.YtfboojamiabmcaaDoor
