/- The numbers and layouts of this seat's translation, by program. -/
import Derived.Test.YtomeglmblhfafaaGreatDoorLfd
import Derived.Lib.LaidTab
import Derived.Stop.LaidErr
import Derived.Test.YtomeglmblhfafaaGreatDoorProg
import Derived.KernelRfl
import GoSem.Extern.Table
set_option linter.unusedSectionVars false
set_option linter.all false
set_option linter.unusedVariables false
set_option maxRecDepth 100000
namespace Go.Proofs.YtomeglmblhfafaaGreatDoor
open Go.Lft
def mdT (f : Nat) : List Nat := if f = 142 then [0] else if f = 82 then [0] else if f = 125 then [0] else if f = 124 then [0] else if f = 170 then [0] else if f = 116 then [0] else if f = 144 then [0] else if f = 69 then [0] else if f = 94 then [0] else if f = 97 then [0] else if f = 47 then [0] else if f = 104 then [0] else if f = 61 then [0] else if f = 143 then [0] else if f = 83 then [0] else if f = 84 then [0] else if f = 85 then [0] else if f = 197 then [1000] else if f = 198 then [1000] else if f = 59 then [1000] else if f = 79 then [1000] else if f = 68 then [1000, 1002] else if f = 205 then [1000, 1002] else if f = 259 then [0] else if f = 159 then [1000] else if f = 139 then [1000] else if f = 78 then [0] else if f = 88 then [0] else []
def fzT (f : Nat) : Bool := false
def itoaMax : Nat := 1000
theorem itoaMax_le : 100 ≤ itoaMax ∧ itoaMax ≤ 1000 := by decide
def extT (f : Nat) : Option (List D → Option (D × List D)) := if f = 265 then some extIndexByte else if f = 259 then some extSort else if f = 138 then some extItoaT else none
open Go.Shelf Go.Proofs in
def sortRen : Ren := {
  f := fun x => match x with
    | 189 => 259
    | 125 => 286
    | 257 => 285
    | 128 => 308
    | 129 => 290
    | 294 => 299
    | 295 => 300
    | 296 => 301
    | 297 => 302
    | 298 => 303
    | 299 => 304
    | 216 => 305
    | 300 => 306
    | 301 => 307
    | 328 => 314
    | 329 => 315
    | 330 => 316
    | 331 => 317
    | 332 => 318
    | 215 => 319
    | 343 => 327
    | n => n
  t := fun x => match x with
    | 28 => 28
    | 3 => 3
    | 46 => 217
    | 0 => 0
    | 51 => 272
    | 53 => 251
    | 4 => 4
    | 183 => 288
    | 182 => 287
    | 131 => 152
    | 5 => 5
    | 9 => 9
    | 218 => 300
    | 222 => 304
    | 228 => 315
    | 229 => 316
    | n => n
  g := fun x => x }
open Go.Shelf Go.Proofs in
theorem sortLays : Lays.n189 Tryz.prog sortRen where
  mixed := by first | kernel_rfl | rfl
  f125 := by first | kernel_rfl | rfl
  f128 := by first | kernel_rfl | rfl
  f129 := by first | kernel_rfl | rfl
  f189 := by first | kernel_rfl | rfl
  f215 := by first | kernel_rfl | rfl
  f216 := by first | kernel_rfl | rfl
  f257 := by first | kernel_rfl | rfl
  f294 := by first | kernel_rfl | rfl
  f295 := by first | kernel_rfl | rfl
  f296 := by first | kernel_rfl | rfl
  f297 := by first | kernel_rfl | rfl
  f298 := by first | kernel_rfl | rfl
  f299 := by first | kernel_rfl | rfl
  f300 := by first | kernel_rfl | rfl
  f301 := by first | kernel_rfl | rfl
  f328 := by first | kernel_rfl | rfl
  f329 := by first | kernel_rfl | rfl
  f330 := by first | kernel_rfl | rfl
  f331 := by first | kernel_rfl | rfl
  f332 := by first | kernel_rfl | rfl
  f343 := by first | kernel_rfl | rfl
  t0 := by first | kernel_rfl | rfl
  a0 := fun _ => by first | rfl | kernel_rfl
  z0 := fun _ => by first | rfl | kernel_rfl
  v0 := fun _ => by first | rfl | kernel_rfl
  t3 := by first | kernel_rfl | rfl
  a3 := fun _ => by first | rfl | kernel_rfl
  z3 := fun _ => by first | rfl | kernel_rfl
  v3 := fun _ => by first | rfl | kernel_rfl
  t4 := by first | kernel_rfl | rfl
  a4 := fun _ => by first | rfl | kernel_rfl
  z4 := fun _ => by first | rfl | kernel_rfl
  v4 := fun _ => by first | rfl | kernel_rfl
  t5 := by first | kernel_rfl | rfl
  a5 := fun _ => by first | rfl | kernel_rfl
  z5 := fun _ => by first | rfl | kernel_rfl
  v5 := fun _ => by first | rfl | kernel_rfl
  t9 := by first | kernel_rfl | rfl
  a9 := fun _ => by first | rfl | kernel_rfl
  z9 := fun _ => by first | rfl | kernel_rfl
  v9 := fun _ => by first | rfl | kernel_rfl
  t28 := by first | kernel_rfl | rfl
  a28 := fun _ => by first | rfl | kernel_rfl
  z28 := fun _ => by first | rfl | kernel_rfl
  v28 := fun _ => by first | rfl | kernel_rfl
  t46 := by first | kernel_rfl | rfl
  a46 := fun _ => by first | rfl | kernel_rfl
  z46 := fun _ => by first | rfl | kernel_rfl
  v46 := fun _ => by first | rfl | kernel_rfl
  t51 := by first | kernel_rfl | rfl
  a51 := fun _ => by first | rfl | kernel_rfl
  z51 := fun _ => by first | rfl | kernel_rfl
  v51 := fun _ => by first | rfl | kernel_rfl
  t53 := by first | kernel_rfl | rfl
  a53 := fun _ => by first | rfl | kernel_rfl
  z53 := fun _ => by first | rfl | kernel_rfl
  v53 := fun _ => by first | rfl | kernel_rfl
  t131 := by first | kernel_rfl | rfl
  a131 := fun _ => by first | rfl | kernel_rfl
  z131 := fun _ => by first | rfl | kernel_rfl
  v131 := fun _ => by first | rfl | kernel_rfl
  t182 := by first | kernel_rfl | rfl
  a182 := fun _ => by first | rfl | kernel_rfl
  z182 := fun _ => by first | rfl | kernel_rfl
  v182 := fun _ => by first | rfl | kernel_rfl
  t183 := by first | kernel_rfl | rfl
  a183 := fun _ => by first | rfl | kernel_rfl
  z183 := fun _ => by first | rfl | kernel_rfl
  v183 := fun _ => by first | rfl | kernel_rfl
  t218 := by first | kernel_rfl | rfl
  a218 := fun _ => by first | rfl | kernel_rfl
  z218 := fun _ => by first | rfl | kernel_rfl
  v218 := fun _ => by first | rfl | kernel_rfl
  t222 := by first | kernel_rfl | rfl
  a222 := fun _ => by first | rfl | kernel_rfl
  z222 := fun _ => by first | rfl | kernel_rfl
  v222 := fun _ => by first | rfl | kernel_rfl
  t228 := by first | kernel_rfl | rfl
  a228 := fun _ => by first | rfl | kernel_rfl
  z228 := fun _ => by first | rfl | kernel_rfl
  v228 := fun _ => by first | rfl | kernel_rfl
  t229 := by first | kernel_rfl | rfl
  a229 := fun _ => by first | rfl | kernel_rfl
  z229 := fun _ => by first | rfl | kernel_rfl
  v229 := fun _ => by first | rfl | kernel_rfl
open Go.Shelf Go.Proofs in
def renS : Ren := { f := fun x => match x with | 1 => 1 | 2 => 2 | 103 => 179 | 104 => 180 | 111 => 187 | 119 => 333 | 120 => 332 | 125 => 286 | 128 => 308 | 129 => 290 | 137 => 194 | 138 => 219 | 143 => 220 | 144 => 260 | 145 => 231 | 146 => 98 | 151 => 329 | 152 => 331 | 156 => 159 | 160 => 309 | 165 => 215 | 166 => 216 | 169 => 217 | 171 => 138 | 172 => 221 | 189 => 259 | 195 => 253 | 197 => 254 | 205 => 298 | 206 => 262 | 207 => 263 | 210 => 228 | 211 => 229 | 215 => 319 | 216 => 305 | 217 => 238 | 218 => 255 | 219 => 256 | 220 => 264 | 221 => 160 | 224 => 278 | 225 => 277 | 227 => 322 | 228 => 328 | 231 => 320 | 232 => 321 | 233 => 323 | 234 => 324 | 235 => 325 | 236 => 326 | 240 => 251 | 241 => 252 | 243 => 202 | 244 => 257 | 245 => 258 | 246 => 240 | 247 => 280 | 257 => 285 | 260 => 276 | 266 => 265 | 267 => 279 | 268 => 218 | 271 => 330 | 276 => 274 | 277 => 275 | 279 => 281 | 280 => 282 | 281 => 283 | 282 => 284 | 283 => 266 | 284 => 267 | 285 => 268 | 286 => 269 | 287 => 296 | 294 => 299 | 295 => 300 | 296 => 301 | 297 => 302 | 298 => 303 | 299 => 304 | 300 => 306 | 301 => 307 | 314 => 295 | 316 => 297 | 317 => 289 | 318 => 291 | 319 => 292 | 320 => 293 | 321 => 312 | 322 => 313 | 328 => 314 | 329 => 315 | 330 => 316 | 331 => 317 | 332 => 318 | 337 => 310 | 338 => 311 | 343 => 327 | 347 => 334 | 348 => 335 | 349 => 336 | 350 => 337 | 351 => 338 | 352 => 339 | 353 => 340 | 354 => 341 | 355 => 342 | 356 => 343 | 357 => 344 | 358 => 345 | 359 => 346 | 360 => 347 | 361 => 348 | 362 => 349 | 363 => 352 | 364 => 350 | 365 => 351 | 366 => 353 | 367 => 363 | n => n, t := fun x => match x with | 0 => 0 | 1 => 1 | 2 => 2 | 3 => 3 | 4 => 4 | 5 => 5 | 7 => 7 | 8 => 8 | 9 => 9 | 10 => 10 | 11 => 11 | 12 => 12 | 13 => 13 | 14 => 14 | 15 => 15 | 16 => 16 | 17 => 17 | 18 => 18 | 20 => 20 | 21 => 21 | 22 => 84 | 23 => 295 | 24 => 198 | 25 => 199 | 27 => 230 | 28 => 28 | 31 => 37 | 34 => 106 | 35 => 248 | 37 => 22 | 40 => 321 | 41 => 318 | 43 => 205 | 46 => 217 | 47 => 269 | 51 => 272 | 52 => 294 | 53 => 251 | 54 => 252 | 55 => 210 | 59 => 233 | 60 => 234 | 61 => 136 | 63 => 319 | 64 => 320 | 67 => 182 | 69 => 201 | 70 => 220 | 71 => 221 | 72 => 222 | 73 => 223 | 74 => 224 | 75 => 225 | 76 => 226 | 77 => 227 | 80 => 228 | 81 => 327 | 83 => 57 | 84 => 239 | 85 => 263 | 86 => 264 | 101 => 77 | 103 => 200 | 104 => 115 | 105 => 245 | 106 => 246 | 108 => 285 | 111 => 134 | 112 => 291 | 113 => 183 | 114 => 261 | 115 => 307 | 116 => 308 | 117 => 309 | 118 => 310 | 119 => 275 | 122 => 306 | 123 => 311 | 124 => 312 | 127 => 244 | 128 => 247 | 131 => 152 | 134 => 268 | 137 => 276 | 139 => 278 | 143 => 297 | 144 => 298 | 145 => 299 | 146 => 279 | 150 => 229 | 151 => 280 | 164 => 258 | 165 => 259 | 166 => 260 | 168 => 265 | 169 => 266 | 170 => 267 | 171 => 250 | 172 => 253 | 173 => 254 | 174 => 255 | 175 => 281 | 176 => 282 | 181 => 286 | 182 => 287 | 183 => 288 | 184 => 289 | 185 => 290 | 186 => 292 | 187 => 293 | 209 => 283 | 210 => 284 | 211 => 270 | 212 => 271 | 213 => 273 | 214 => 296 | 218 => 300 | 219 => 301 | 220 => 302 | 221 => 303 | 222 => 304 | 223 => 305 | 228 => 315 | 229 => 316 | 230 => 317 | 232 => 313 | 233 => 314 | 238 => 322 | 239 => 323 | 240 => 324 | 241 => 325 | 242 => 326 | 245 => 330 | 248 => 333 | n => n, g := fun x => match x with | 1 => 0 | 3 => 2 | 4 => 3 | 15 => 4 | 16 => 5 | 17 => 1 | 18 => 6 | 19 => 7 | n => n }
open Go.Shelf Go.Proofs in
theorem lays138 : LaysM.n171 Tryz.prog renS where
  mixed := by first | kernel_rfl | rfl | decide
  f129 := by first | kernel_rfl | rfl | decide
  f171 := by first | kernel_rfl | rfl | decide
  f243 := by first | kernel_rfl | rfl | decide
  f246 := by first | kernel_rfl | rfl | decide
  f283 := by first | kernel_rfl | rfl | decide
  f284 := by first | kernel_rfl | rfl | decide
  f285 := by first | kernel_rfl | rfl | decide
  f286 := by first | kernel_rfl | rfl | decide
  f317 := by first | kernel_rfl | rfl | decide
  f318 := by first | kernel_rfl | rfl | decide
  f319 := by first | kernel_rfl | rfl | decide
  f320 := by first | kernel_rfl | rfl | decide
  f337 := by first | kernel_rfl | rfl | decide
  f338 := by first | kernel_rfl | rfl | decide
  t0 := by first | kernel_rfl | rfl | decide
  a0 := fun _ => by first | rfl | kernel_rfl
  z0 := fun _ => by first | rfl | kernel_rfl
  v0 := fun _ => by first | rfl | kernel_rfl
  t2 := by first | kernel_rfl | rfl | decide
  a2 := fun _ => by first | rfl | kernel_rfl
  z2 := fun _ => by first | rfl | kernel_rfl
  v2 := fun _ => by first | rfl | kernel_rfl
  t3 := by first | kernel_rfl | rfl | decide
  a3 := fun _ => by first | rfl | kernel_rfl
  z3 := fun _ => by first | rfl | kernel_rfl
  v3 := fun _ => by first | rfl | kernel_rfl
  t4 := by first | kernel_rfl | rfl | decide
  a4 := fun _ => by first | rfl | kernel_rfl
  z4 := fun _ => by first | rfl | kernel_rfl
  v4 := fun _ => by first | rfl | kernel_rfl
  t5 := by first | kernel_rfl | rfl | decide
  a5 := fun _ => by first | rfl | kernel_rfl
  z5 := fun _ => by first | rfl | kernel_rfl
  v5 := fun _ => by first | rfl | kernel_rfl
  t9 := by first | kernel_rfl | rfl | decide
  a9 := fun _ => by first | rfl | kernel_rfl
  z9 := fun _ => by first | rfl | kernel_rfl
  v9 := fun _ => by first | rfl | kernel_rfl
  t20 := by first | kernel_rfl | rfl | decide
  a20 := fun _ => by first | rfl | kernel_rfl
  z20 := fun _ => by first | rfl | kernel_rfl
  v20 := fun _ => by first | rfl | kernel_rfl
  t37 := by first | kernel_rfl | rfl | decide
  a37 := fun _ => by first | rfl | kernel_rfl
  z37 := fun _ => by first | rfl | kernel_rfl
  v37 := fun _ => by first | rfl | kernel_rfl
  t46 := by first | kernel_rfl | rfl | decide
  a46 := fun _ => by first | rfl | kernel_rfl
  z46 := fun _ => by first | rfl | kernel_rfl
  v46 := fun _ => by first | rfl | kernel_rfl
  t51 := by first | kernel_rfl | rfl | decide
  a51 := fun _ => by first | rfl | kernel_rfl
  z51 := fun _ => by first | rfl | kernel_rfl
  v51 := fun _ => by first | rfl | kernel_rfl
  t53 := by first | kernel_rfl | rfl | decide
  a53 := fun _ => by first | rfl | kernel_rfl
  z53 := fun _ => by first | rfl | kernel_rfl
  v53 := fun _ => by first | rfl | kernel_rfl
  t171 := by first | kernel_rfl | rfl | decide
  a171 := fun _ => by first | rfl | kernel_rfl
  z171 := fun _ => by first | rfl | kernel_rfl
  v171 := fun _ => by first | rfl | kernel_rfl
  t173 := by first | kernel_rfl | rfl | decide
  a173 := fun _ => by first | rfl | kernel_rfl
  z173 := fun _ => by first | rfl | kernel_rfl
  v173 := fun _ => by first | rfl | kernel_rfl
  t212 := by first | kernel_rfl | rfl | decide
  a212 := fun _ => by first | rfl | kernel_rfl
  z212 := fun _ => by first | rfl | kernel_rfl
  v212 := fun _ => by first | rfl | kernel_rfl
  t213 := by first | kernel_rfl | rfl | decide
  a213 := fun _ => by first | rfl | kernel_rfl
  z213 := fun _ => by first | rfl | kernel_rfl
  t232 := by first | kernel_rfl | rfl | decide
  a232 := fun _ => by first | rfl | kernel_rfl
  z232 := fun _ => by first | rfl | kernel_rfl
  v232 := fun _ => by first | rfl | kernel_rfl
  t233 := by first | kernel_rfl | rfl | decide
  a233 := fun _ => by first | rfl | kernel_rfl
  z233 := fun _ => by first | rfl | kernel_rfl
  v233 := fun _ => by first | rfl | kernel_rfl
  g17 := by first | kernel_rfl | rfl | decide
  g18 := by first | kernel_rfl | rfl | decide
  g19 := by first | kernel_rfl | rfl | decide
  i0 := by first | kernel_rfl | rfl | decide
  i2 := by first | kernel_rfl | rfl | decide
  i3 := by first | kernel_rfl | rfl | decide
  i4 := by first | kernel_rfl | rfl | decide
  i5 := by first | kernel_rfl | rfl | decide
  i9 := by first | kernel_rfl | rfl | decide
  i20 := by first | kernel_rfl | rfl | decide
  i37 := by first | kernel_rfl | rfl | decide
  i46 := by first | kernel_rfl | rfl | decide
  i51 := by first | kernel_rfl | rfl | decide
  i53 := by first | kernel_rfl | rfl | decide
  i171 := by first | kernel_rfl | rfl | decide
  i173 := by first | kernel_rfl | rfl | decide
  i212 := by first | kernel_rfl | rfl | decide
  i232 := by first | kernel_rfl | rfl | decide
  i233 := by first | kernel_rfl | rfl | decide
  m17 := by first | kernel_rfl | rfl | decide
  m18 := by first | kernel_rfl | rfl | decide
  m19 := by first | kernel_rfl | rfl | decide
def mvT (f t : Nat) : Bool := if f = 11 then t == 10 || t == 15 else if f = 15 then t == 3 else if f = 22 then t == 6 || t == 7 else if f = 27 then t == 5 else if f = 28 then t == 6 else if f = 30 then t == 9 else if f = 31 then t == 7 || t == 12 else if f = 34 then t == 5 else if f = 47 then t == 3 else if f = 50 then t == 3 else if f = 53 then t == 10 || t == 12 || t == 18 else if f = 54 then t == 7 else if f = 56 then t == 3 else if f = 61 then t == 4 || t == 5 else if f = 67 then t == 6 else if f = 74 then t == 6 || t == 8 || t == 11 else if f = 75 then t == 5 else if f = 77 then t == 1 else if f = 83 then t == 5 else if f = 84 then t == 4 || t == 5 else if f = 85 then t == 6 else if f = 86 then t == 4 || t == 11 || t == 14 || t == 16 || t == 23 || t == 27 || t == 29 else if f = 94 then t == 3 else if f = 97 then t == 5 else if f = 100 then t == 4 else if f = 104 then t == 3 else if f = 105 then t == 1 else if f = 106 then t == 1 else if f = 112 then t == 10 else if f = 113 then t == 8 || t == 9 else if f = 114 then t == 6 || t == 8 else if f = 115 then t == 13 || t == 16 else if f = 132 then t == 8 else if f = 133 then t == 13 else if f = 134 then t == 7 else if f = 137 then t == 5 else if f = 143 then t == 3 else if f = 145 then t == 3 else if f = 148 then t == 4 else if f = 149 then t == 3 else if f = 152 then t == 7 else if f = 154 then t == 6 else if f = 155 then t == 5 else if f = 165 then t == 6 || t == 9 || t == 11 else if f = 166 then t == 6 || t == 9 else if f = 167 then t == 10 || t == 16 else if f = 168 then t == 10 else if f = 183 then t == 6 else if f = 207 then t == 9 else if f = 212 then t == 7 else if f = 223 then t == 5 else if f = 322 then t == 2 else if f = 169 then t == 8 else if f = 102 then t == 1 else if f = 72 then t == 16 else if f = 23 then t == 1 else if f = 107 then t == 10 else false
noncomputable def E : En := { P := Tryz.prog, T := tbOf Tryz.prog, md := mdT, fz := fzT, mv := mvT, ext := extT, kn := tab10 Tryz.prog }
@[simp] theorem E_P : E.P = Tryz.prog := rfl
@[simp] theorem ty1 : E.T.ty 1 = .one := by kernel_rfl
@[simp] theorem ty2 : E.T.ty 2 = .int .i64 := by kernel_rfl
@[simp] theorem zero2 : E.T.zero 2 = some (.int .i64 0) := by kernel_rfl
@[simp] theorem ty3 : E.T.ty 3 = .int .i64 := by kernel_rfl
@[simp] theorem zero3 : E.T.zero 3 = some (.int .i64 0) := by kernel_rfl
@[simp] theorem ty4 : E.T.ty 4 = .bool := by kernel_rfl
@[simp] theorem zero4 : E.T.zero 4 = some (.bool false) := by kernel_rfl
@[simp] theorem ty5 : E.T.ty 5 = .int .u8 := by kernel_rfl
@[simp] theorem zero5 : E.T.zero 5 = some (.int .u8 0) := by kernel_rfl
@[simp] theorem ty9 : E.T.ty 9 = .str := by kernel_rfl
@[simp] theorem zero9 : E.T.zero 9 = some (.str []) := by kernel_rfl
@[simp] theorem ty12 : E.T.ty 12 = .int .u64 := by kernel_rfl
@[simp] theorem zero12 : E.T.zero 12 = some (.int .u64 0) := by kernel_rfl
@[simp] theorem ty15 : E.T.ty 15 = .one := by kernel_rfl
@[simp] theorem ty16 : E.T.ty 16 = .one := by kernel_rfl
@[simp] theorem ty17 : E.T.ty 17 = .one := by kernel_rfl
@[simp] theorem ty20 : E.T.ty 20 = .iface := by kernel_rfl
@[simp] theorem zero20 : E.T.zero 20 = some (.ifc true) := by kernel_rfl
@[simp] theorem ty21 : E.T.ty 21 = .int .i32 := by kernel_rfl
@[simp] theorem zero21 : E.T.zero 21 = some (.int .i32 0) := by kernel_rfl
@[simp] theorem ty22 : E.T.ty 22 = .slice 5 1 1 := by kernel_rfl
@[simp] theorem zero22 : E.T.zero 22 = some (.lst true 5 1 []) := by kernel_rfl
@[simp] theorem ty23 : E.T.ty 23 = .one := by kernel_rfl
@[simp] theorem ty24 : E.T.ty 24 = .slice 41 7 96 := by kernel_rfl
@[simp] theorem zero24 : E.T.zero 24 = some (.lst true 41 7 []) := by kernel_rfl
@[simp] theorem ty26 : E.T.ty 26 = .strct 2 false := by kernel_rfl
@[simp] theorem off26_0 : E.T.off 26 0 = some 0 := by kernel_rfl
@[simp] theorem fl26_0 : E.T.fl 26 0 = some (false, 1) := by kernel_rfl
@[simp] theorem off26_1 : E.T.off 26 1 = some 1 := by kernel_rfl
@[simp] theorem fl26_1 : E.T.fl 26 1 = some (false, 1) := by kernel_rfl
@[simp] theorem zero26 : E.T.zero 26 = some (.agg [(.lst true 41 7 []), (.int .i64 0)]) := by kernel_rfl
@[simp] theorem ty27 : E.T.ty 27 = .one := by kernel_rfl
@[simp] theorem ty28 : E.T.ty 28 = .slice 3 1 8 := by kernel_rfl
@[simp] theorem zero28 : E.T.zero 28 = some (.lst true 3 1 []) := by kernel_rfl
@[simp] theorem ty30 : E.T.ty 30 = .strct 4 false := by kernel_rfl
@[simp] theorem off30_0 : E.T.off 30 0 = some 0 := by kernel_rfl
@[simp] theorem fl30_0 : E.T.fl 30 0 = some (false, 1) := by kernel_rfl
@[simp] theorem off30_1 : E.T.off 30 1 = some 1 := by kernel_rfl
@[simp] theorem fl30_1 : E.T.fl 30 1 = some (false, 1) := by kernel_rfl
@[simp] theorem off30_2 : E.T.off 30 2 = some 2 := by kernel_rfl
@[simp] theorem fl30_2 : E.T.fl 30 2 = some (false, 1) := by kernel_rfl
@[simp] theorem off30_3 : E.T.off 30 3 = some 3 := by kernel_rfl
@[simp] theorem fl30_3 : E.T.fl 30 3 = some (false, 1) := by kernel_rfl
@[simp] theorem zero30 : E.T.zero 30 = some (.agg [(.str []), (.int .i64 0), (.lst true 3 1 []), (.int .i64 0)]) := by kernel_rfl
@[simp] theorem ty32 : E.T.ty 32 = .strct 5 false := by kernel_rfl
@[simp] theorem off32_0 : E.T.off 32 0 = some 0 := by kernel_rfl
@[simp] theorem fl32_0 : E.T.fl 32 0 = some (false, 1) := by kernel_rfl
@[simp] theorem off32_1 : E.T.off 32 1 = some 1 := by kernel_rfl
@[simp] theorem fl32_1 : E.T.fl 32 1 = some (true, 4) := by kernel_rfl
@[simp] theorem zero32 : E.T.zero 32 = some (.agg [(.bool false), (.agg [(.str []), (.int .i64 0), (.lst true 3 1 []), (.int .i64 0)])]) := by kernel_rfl
@[simp] theorem ty33 : E.T.ty 33 = .slice 48 7 72 := by kernel_rfl
@[simp] theorem zero33 : E.T.zero 33 = some (.lst true 48 7 []) := by kernel_rfl
@[simp] theorem ty34 : E.T.ty 34 = .slice 65 8 104 := by kernel_rfl
@[simp] theorem zero34 : E.T.zero 34 = some (.lst true 65 8 []) := by kernel_rfl
@[simp] theorem ty36 : E.T.ty 36 = .one := by kernel_rfl
@[simp] theorem ty37 : E.T.ty 37 = .slice 9 1 16 := by kernel_rfl
@[simp] theorem zero37 : E.T.zero 37 = some (.lst true 9 1 []) := by kernel_rfl
@[simp] theorem ty38 : E.T.ty 38 = .slice 108 4 40 := by kernel_rfl
@[simp] theorem zero38 : E.T.zero 38 = some (.lst true 108 4 []) := by kernel_rfl
@[simp] theorem ty39 : E.T.ty 39 = .slice 112 2 16 := by kernel_rfl
@[simp] theorem zero39 : E.T.zero 39 = some (.lst true 112 2 []) := by kernel_rfl
@[simp] theorem ty41 : E.T.ty 41 = .strct 7 false := by kernel_rfl
@[simp] theorem off41_0 : E.T.off 41 0 = some 0 := by kernel_rfl
@[simp] theorem fl41_0 : E.T.fl 41 0 = some (false, 1) := by kernel_rfl
@[simp] theorem off41_1 : E.T.off 41 1 = some 1 := by kernel_rfl
@[simp] theorem fl41_1 : E.T.fl 41 1 = some (false, 1) := by kernel_rfl
@[simp] theorem off41_2 : E.T.off 41 2 = some 2 := by kernel_rfl
@[simp] theorem fl41_2 : E.T.fl 41 2 = some (false, 1) := by kernel_rfl
@[simp] theorem off41_3 : E.T.off 41 3 = some 3 := by kernel_rfl
@[simp] theorem fl41_3 : E.T.fl 41 3 = some (false, 1) := by kernel_rfl
@[simp] theorem off41_4 : E.T.off 41 4 = some 4 := by kernel_rfl
@[simp] theorem fl41_4 : E.T.fl 41 4 = some (false, 1) := by kernel_rfl
@[simp] theorem off41_5 : E.T.off 41 5 = some 5 := by kernel_rfl
@[simp] theorem fl41_5 : E.T.fl 41 5 = some (false, 1) := by kernel_rfl
@[simp] theorem off41_6 : E.T.off 41 6 = some 6 := by kernel_rfl
@[simp] theorem fl41_6 : E.T.fl 41 6 = some (false, 1) := by kernel_rfl
@[simp] theorem zero41 : E.T.zero 41 = some (.agg [(.str []), (.int .i64 0), (.int .i64 0), (.int .i64 0), (.lst true 108 4 []), (.lst true 112 2 []), (.int .i64 0)]) := by kernel_rfl
@[simp] theorem ty43 : E.T.ty 43 = .one := by kernel_rfl
@[simp] theorem ty44 : E.T.ty 44 = .slice 104 3 24 := by kernel_rfl
@[simp] theorem zero44 : E.T.zero 44 = some (.lst true 104 3 []) := by kernel_rfl
@[simp] theorem ty45 : E.T.ty 45 = .one := by kernel_rfl
@[simp] theorem ty46 : E.T.ty 46 = .slice 161 2 16 := by kernel_rfl
@[simp] theorem zero46 : E.T.zero 46 = some (.lst true 161 2 []) := by kernel_rfl
@[simp] theorem ty48 : E.T.ty 48 = .strct 7 false := by kernel_rfl
@[simp] theorem off48_0 : E.T.off 48 0 = some 0 := by kernel_rfl
@[simp] theorem fl48_0 : E.T.fl 48 0 = some (false, 1) := by kernel_rfl
@[simp] theorem off48_1 : E.T.off 48 1 = some 1 := by kernel_rfl
@[simp] theorem fl48_1 : E.T.fl 48 1 = some (false, 1) := by kernel_rfl
@[simp] theorem off48_2 : E.T.off 48 2 = some 2 := by kernel_rfl
@[simp] theorem fl48_2 : E.T.fl 48 2 = some (false, 1) := by kernel_rfl
@[simp] theorem off48_3 : E.T.off 48 3 = some 3 := by kernel_rfl
@[simp] theorem fl48_3 : E.T.fl 48 3 = some (false, 1) := by kernel_rfl
@[simp] theorem off48_4 : E.T.off 48 4 = some 4 := by kernel_rfl
@[simp] theorem fl48_4 : E.T.fl 48 4 = some (false, 1) := by kernel_rfl
@[simp] theorem off48_5 : E.T.off 48 5 = some 5 := by kernel_rfl
@[simp] theorem fl48_5 : E.T.fl 48 5 = some (false, 1) := by kernel_rfl
@[simp] theorem off48_6 : E.T.off 48 6 = some 6 := by kernel_rfl
@[simp] theorem fl48_6 : E.T.fl 48 6 = some (false, 1) := by kernel_rfl
@[simp] theorem zero48 : E.T.zero 48 = some (.agg [(.int .i64 0), (.int .i64 0), (.int .i64 0), (.int .i64 0), (.int .i64 0), (.lst true 161 2 []), (.bool false)]) := by kernel_rfl
@[simp] theorem ty49 : E.T.ty 49 = .one := by kernel_rfl
@[simp] theorem ty50 : E.T.ty 50 = .one := by kernel_rfl
@[simp] theorem ty51 : E.T.ty 51 = .one := by kernel_rfl
@[simp] theorem ty52 : E.T.ty 52 = .one := by kernel_rfl
@[simp] theorem ty54 : E.T.ty 54 = .one := by kernel_rfl
@[simp] theorem ty56 : E.T.ty 56 = .one := by kernel_rfl
@[simp] theorem ty57 : E.T.ty 57 = .one := by kernel_rfl
@[simp] theorem ty58 : E.T.ty 58 = .one := by kernel_rfl
@[simp] theorem ty60 : E.T.ty 60 = .one := by kernel_rfl
@[simp] theorem ty61 : E.T.ty 61 = .one := by kernel_rfl
@[simp] theorem ty62 : E.T.ty 62 = .one := by kernel_rfl
@[simp] theorem ty63 : E.T.ty 63 = .one := by kernel_rfl
@[simp] theorem ty65 : E.T.ty 65 = .strct 8 false := by kernel_rfl
@[simp] theorem off65_0 : E.T.off 65 0 = some 0 := by kernel_rfl
@[simp] theorem fl65_0 : E.T.fl 65 0 = some (false, 1) := by kernel_rfl
@[simp] theorem off65_1 : E.T.off 65 1 = some 1 := by kernel_rfl
@[simp] theorem fl65_1 : E.T.fl 65 1 = some (false, 1) := by kernel_rfl
@[simp] theorem off65_2 : E.T.off 65 2 = some 2 := by kernel_rfl
@[simp] theorem fl65_2 : E.T.fl 65 2 = some (false, 1) := by kernel_rfl
@[simp] theorem off65_3 : E.T.off 65 3 = some 3 := by kernel_rfl
@[simp] theorem fl65_3 : E.T.fl 65 3 = some (false, 1) := by kernel_rfl
@[simp] theorem off65_4 : E.T.off 65 4 = some 4 := by kernel_rfl
@[simp] theorem fl65_4 : E.T.fl 65 4 = some (false, 1) := by kernel_rfl
@[simp] theorem off65_5 : E.T.off 65 5 = some 5 := by kernel_rfl
@[simp] theorem fl65_5 : E.T.fl 65 5 = some (false, 1) := by kernel_rfl
@[simp] theorem off65_6 : E.T.off 65 6 = some 6 := by kernel_rfl
@[simp] theorem fl65_6 : E.T.fl 65 6 = some (false, 1) := by kernel_rfl
@[simp] theorem off65_7 : E.T.off 65 7 = some 7 := by kernel_rfl
@[simp] theorem fl65_7 : E.T.fl 65 7 = some (false, 1) := by kernel_rfl
@[simp] theorem zero65 : E.T.zero 65 = some (.agg [(.int .i64 0), (.str []), (.str []), (.lst true 161 2 []), (.int .i64 0), (.int .i64 0), (.int .i64 0), (.str [])]) := by kernel_rfl
@[simp] theorem ty67 : E.T.ty 67 = .strct 4 false := by kernel_rfl
@[simp] theorem off67_0 : E.T.off 67 0 = some 0 := by kernel_rfl
@[simp] theorem fl67_0 : E.T.fl 67 0 = some (false, 1) := by kernel_rfl
@[simp] theorem off67_1 : E.T.off 67 1 = some 1 := by kernel_rfl
@[simp] theorem fl67_1 : E.T.fl 67 1 = some (false, 1) := by kernel_rfl
@[simp] theorem off67_2 : E.T.off 67 2 = some 2 := by kernel_rfl
@[simp] theorem fl67_2 : E.T.fl 67 2 = some (false, 1) := by kernel_rfl
@[simp] theorem off67_3 : E.T.off 67 3 = some 3 := by kernel_rfl
@[simp] theorem fl67_3 : E.T.fl 67 3 = some (false, 1) := by kernel_rfl
@[simp] theorem zero67 : E.T.zero 67 = some (.agg [(.str []), (.int .i64 0), (.int .i64 0), (.lst true 104 3 [])]) := by kernel_rfl
@[simp] theorem ty68 : E.T.ty 68 = .one := by kernel_rfl
@[simp] theorem ty69 : E.T.ty 69 = .one := by kernel_rfl
@[simp] theorem ty70 : E.T.ty 70 = .one := by kernel_rfl
@[simp] theorem ty72 : E.T.ty 72 = .one := by kernel_rfl
@[simp] theorem ty74 : E.T.ty 74 = .one := by kernel_rfl
@[simp] theorem ty75 : E.T.ty 75 = .one := by kernel_rfl
@[simp] theorem ty76 : E.T.ty 76 = .one := by kernel_rfl
@[simp] theorem ty77 : E.T.ty 77 = .one := by kernel_rfl
@[simp] theorem ty78 : E.T.ty 78 = .one := by kernel_rfl
@[simp] theorem ty79 : E.T.ty 79 = .one := by kernel_rfl
@[simp] theorem ty80 : E.T.ty 80 = .one := by kernel_rfl
@[simp] theorem ty81 : E.T.ty 81 = .slice 140 5 72 := by kernel_rfl
@[simp] theorem zero81 : E.T.zero 81 = some (.lst true 140 5 []) := by kernel_rfl
@[simp] theorem ty83 : E.T.ty 83 = .one := by kernel_rfl
@[simp] theorem ty84 : E.T.ty 84 = .one := by kernel_rfl
@[simp] theorem ty86 : E.T.ty 86 = .one := by kernel_rfl
@[simp] theorem ty87 : E.T.ty 87 = .one := by kernel_rfl
@[simp] theorem ty88 : E.T.ty 88 = .one := by kernel_rfl
@[simp] theorem ty89 : E.T.ty 89 = .one := by kernel_rfl
@[simp] theorem ty90 : E.T.ty 90 = .one := by kernel_rfl
@[simp] theorem ty91 : E.T.ty 91 = .one := by kernel_rfl
@[simp] theorem ty92 : E.T.ty 92 = .one := by kernel_rfl
@[simp] theorem ty93 : E.T.ty 93 = .one := by kernel_rfl
@[simp] theorem ty95 : E.T.ty 95 = .one := by kernel_rfl
@[simp] theorem ty97 : E.T.ty 97 = .one := by kernel_rfl
@[simp] theorem ty99 : E.T.ty 99 = .one := by kernel_rfl
@[simp] theorem ty100 : E.T.ty 100 = .one := by kernel_rfl
@[simp] theorem ty101 : E.T.ty 101 = .one := by kernel_rfl
@[simp] theorem ty102 : E.T.ty 102 = .one := by kernel_rfl
@[simp] theorem ty104 : E.T.ty 104 = .strct 3 true := by kernel_rfl
@[simp] theorem off104_0 : E.T.off 104 0 = some 0 := by kernel_rfl
@[simp] theorem fl104_0 : E.T.fl 104 0 = some (false, 1) := by kernel_rfl
@[simp] theorem off104_1 : E.T.off 104 1 = some 1 := by kernel_rfl
@[simp] theorem fl104_1 : E.T.fl 104 1 = some (false, 1) := by kernel_rfl
@[simp] theorem off104_2 : E.T.off 104 2 = some 2 := by kernel_rfl
@[simp] theorem fl104_2 : E.T.fl 104 2 = some (false, 1) := by kernel_rfl
@[simp] theorem kinds104 : E.T.kinds 104 = [0, 0, 0] := by kernel_rfl
@[simp] theorem zero104 : E.T.zero 104 = some (.agg [(.int .i64 0), (.int .i64 0), (.int .i64 0)]) := by kernel_rfl
@[simp] theorem ty105 : E.T.ty 105 = .one := by kernel_rfl
@[simp] theorem ty106 : E.T.ty 106 = .one := by kernel_rfl
@[simp] theorem ty108 : E.T.ty 108 = .strct 4 true := by kernel_rfl
@[simp] theorem off108_0 : E.T.off 108 0 = some 0 := by kernel_rfl
@[simp] theorem fl108_0 : E.T.fl 108 0 = some (false, 1) := by kernel_rfl
@[simp] theorem off108_1 : E.T.off 108 1 = some 1 := by kernel_rfl
@[simp] theorem fl108_1 : E.T.fl 108 1 = some (false, 1) := by kernel_rfl
@[simp] theorem off108_2 : E.T.off 108 2 = some 2 := by kernel_rfl
@[simp] theorem fl108_2 : E.T.fl 108 2 = some (false, 1) := by kernel_rfl
@[simp] theorem off108_3 : E.T.off 108 3 = some 3 := by kernel_rfl
@[simp] theorem fl108_3 : E.T.fl 108 3 = some (false, 1) := by kernel_rfl
@[simp] theorem kinds108 : E.T.kinds 108 = [0, 0, 0, 1] := by kernel_rfl
@[simp] theorem zero108 : E.T.zero 108 = some (.agg [(.int .i64 0), (.int .i64 0), (.int .i64 0), (.str [])]) := by kernel_rfl
@[simp] theorem ty109 : E.T.ty 109 = .one := by kernel_rfl
@[simp] theorem ty110 : E.T.ty 110 = .one := by kernel_rfl
@[simp] theorem ty112 : E.T.ty 112 = .strct 2 true := by kernel_rfl
@[simp] theorem off112_0 : E.T.off 112 0 = some 0 := by kernel_rfl
@[simp] theorem fl112_0 : E.T.fl 112 0 = some (false, 1) := by kernel_rfl
@[simp] theorem off112_1 : E.T.off 112 1 = some 1 := by kernel_rfl
@[simp] theorem fl112_1 : E.T.fl 112 1 = some (false, 1) := by kernel_rfl
@[simp] theorem kinds112 : E.T.kinds 112 = [0, 0] := by kernel_rfl
@[simp] theorem zero112 : E.T.zero 112 = some (.agg [(.int .i64 0), (.int .i64 0)]) := by kernel_rfl
@[simp] theorem ty113 : E.T.ty 113 = .one := by kernel_rfl
@[simp] theorem ty114 : E.T.ty 114 = .one := by kernel_rfl
@[simp] theorem ty115 : E.T.ty 115 = .one := by kernel_rfl
@[simp] theorem ty116 : E.T.ty 116 = .one := by kernel_rfl
@[simp] theorem ty117 : E.T.ty 117 = .one := by kernel_rfl
@[simp] theorem ty118 : E.T.ty 118 = .one := by kernel_rfl
@[simp] theorem ty119 : E.T.ty 119 = .one := by kernel_rfl
@[simp] theorem ty120 : E.T.ty 120 = .one := by kernel_rfl
@[simp] theorem ty121 : E.T.ty 121 = .one := by kernel_rfl
@[simp] theorem ty123 : E.T.ty 123 = .one := by kernel_rfl
@[simp] theorem ty124 : E.T.ty 124 = .one := by kernel_rfl
@[simp] theorem ty125 : E.T.ty 125 = .one := by kernel_rfl
@[simp] theorem ty126 : E.T.ty 126 = .one := by kernel_rfl
@[simp] theorem ty127 : E.T.ty 127 = .one := by kernel_rfl
@[simp] theorem ty128 : E.T.ty 128 = .one := by kernel_rfl
@[simp] theorem ty129 : E.T.ty 129 = .one := by kernel_rfl
@[simp] theorem ty130 : E.T.ty 130 = .one := by kernel_rfl
@[simp] theorem ty131 : E.T.ty 131 = .one := by kernel_rfl
@[simp] theorem ty132 : E.T.ty 132 = .one := by kernel_rfl
@[simp] theorem ty133 : E.T.ty 133 = .one := by kernel_rfl
@[simp] theorem ty134 : E.T.ty 134 = .one := by kernel_rfl
@[simp] theorem ty135 : E.T.ty 135 = .one := by kernel_rfl
@[simp] theorem ty136 : E.T.ty 136 = .one := by kernel_rfl
@[simp] theorem ty138 : E.T.ty 138 = .one := by kernel_rfl
@[simp] theorem ty140 : E.T.ty 140 = .strct 5 false := by kernel_rfl
@[simp] theorem off140_0 : E.T.off 140 0 = some 0 := by kernel_rfl
@[simp] theorem fl140_0 : E.T.fl 140 0 = some (false, 1) := by kernel_rfl
@[simp] theorem off140_1 : E.T.off 140 1 = some 1 := by kernel_rfl
@[simp] theorem fl140_1 : E.T.fl 140 1 = some (false, 1) := by kernel_rfl
@[simp] theorem off140_2 : E.T.off 140 2 = some 2 := by kernel_rfl
@[simp] theorem fl140_2 : E.T.fl 140 2 = some (false, 1) := by kernel_rfl
@[simp] theorem off140_3 : E.T.off 140 3 = some 3 := by kernel_rfl
@[simp] theorem fl140_3 : E.T.fl 140 3 = some (false, 1) := by kernel_rfl
@[simp] theorem off140_4 : E.T.off 140 4 = some 4 := by kernel_rfl
@[simp] theorem fl140_4 : E.T.fl 140 4 = some (false, 1) := by kernel_rfl
@[simp] theorem zero140 : E.T.zero 140 = some (.agg [(.int .i64 0), (.int .i64 0), (.lst true 9 1 []), (.int .i64 0), (.lst true 3 1 [])]) := by kernel_rfl
@[simp] theorem ty142 : E.T.ty 142 = .one := by kernel_rfl
@[simp] theorem ty143 : E.T.ty 143 = .one := by kernel_rfl
@[simp] theorem ty145 : E.T.ty 145 = .strct 3 false := by kernel_rfl
@[simp] theorem off145_0 : E.T.off 145 0 = some 0 := by kernel_rfl
@[simp] theorem fl145_0 : E.T.fl 145 0 = some (false, 1) := by kernel_rfl
@[simp] theorem off145_1 : E.T.off 145 1 = some 1 := by kernel_rfl
@[simp] theorem fl145_1 : E.T.fl 145 1 = some (false, 1) := by kernel_rfl
@[simp] theorem off145_2 : E.T.off 145 2 = some 2 := by kernel_rfl
@[simp] theorem fl145_2 : E.T.fl 145 2 = some (false, 1) := by kernel_rfl
@[simp] theorem zero145 : E.T.zero 145 = some (.agg [(.lst true 5 1 []), (.int .i64 0), (.int .i64 0)]) := by kernel_rfl
@[simp] theorem ty146 : E.T.ty 146 = .one := by kernel_rfl
@[simp] theorem ty147 : E.T.ty 147 = .one := by kernel_rfl
@[simp] theorem ty148 : E.T.ty 148 = .slice 192 3 32 := by kernel_rfl
@[simp] theorem zero148 : E.T.zero 148 = some (.lst true 192 3 []) := by kernel_rfl
@[simp] theorem ty150 : E.T.ty 150 = .one := by kernel_rfl
@[simp] theorem ty151 : E.T.ty 151 = .one := by kernel_rfl
@[simp] theorem ty153 : E.T.ty 153 = .one := by kernel_rfl
@[simp] theorem ty154 : E.T.ty 154 = .one := by kernel_rfl
@[simp] theorem ty156 : E.T.ty 156 = .one := by kernel_rfl
@[simp] theorem ty157 : E.T.ty 157 = .one := by kernel_rfl
@[simp] theorem ty159 : E.T.ty 159 = .one := by kernel_rfl
@[simp] theorem ty161 : E.T.ty 161 = .strct 2 true := by kernel_rfl
@[simp] theorem off161_0 : E.T.off 161 0 = some 0 := by kernel_rfl
@[simp] theorem fl161_0 : E.T.fl 161 0 = some (false, 1) := by kernel_rfl
@[simp] theorem off161_1 : E.T.off 161 1 = some 1 := by kernel_rfl
@[simp] theorem fl161_1 : E.T.fl 161 1 = some (false, 1) := by kernel_rfl
@[simp] theorem kinds161 : E.T.kinds 161 = [0, 0] := by kernel_rfl
@[simp] theorem zero161 : E.T.zero 161 = some (.agg [(.int .i64 0), (.int .i64 0)]) := by kernel_rfl
@[simp] theorem ty163 : E.T.ty 163 = .one := by kernel_rfl
@[simp] theorem ty164 : E.T.ty 164 = .one := by kernel_rfl
@[simp] theorem ty165 : E.T.ty 165 = .one := by kernel_rfl
@[simp] theorem ty166 : E.T.ty 166 = .one := by kernel_rfl
@[simp] theorem ty167 : E.T.ty 167 = .one := by kernel_rfl
@[simp] theorem ty168 : E.T.ty 168 = .one := by kernel_rfl
@[simp] theorem ty169 : E.T.ty 169 = .one := by kernel_rfl
@[simp] theorem ty170 : E.T.ty 170 = .one := by kernel_rfl
@[simp] theorem ty171 : E.T.ty 171 = .one := by kernel_rfl
@[simp] theorem ty172 : E.T.ty 172 = .one := by kernel_rfl
@[simp] theorem ty173 : E.T.ty 173 = .one := by kernel_rfl
@[simp] theorem ty174 : E.T.ty 174 = .one := by kernel_rfl
@[simp] theorem ty175 : E.T.ty 175 = .one := by kernel_rfl
@[simp] theorem ty176 : E.T.ty 176 = .one := by kernel_rfl
@[simp] theorem ty177 : E.T.ty 177 = .one := by kernel_rfl
@[simp] theorem ty178 : E.T.ty 178 = .one := by kernel_rfl
@[simp] theorem ty179 : E.T.ty 179 = .one := by kernel_rfl
@[simp] theorem ty180 : E.T.ty 180 = .one := by kernel_rfl
@[simp] theorem ty181 : E.T.ty 181 = .one := by kernel_rfl
@[simp] theorem ty182 : E.T.ty 182 = .one := by kernel_rfl
@[simp] theorem ty183 : E.T.ty 183 = .one := by kernel_rfl
@[simp] theorem ty184 : E.T.ty 184 = .one := by kernel_rfl
@[simp] theorem ty185 : E.T.ty 185 = .one := by kernel_rfl
@[simp] theorem ty186 : E.T.ty 186 = .one := by kernel_rfl
@[simp] theorem ty187 : E.T.ty 187 = .one := by kernel_rfl
@[simp] theorem ty188 : E.T.ty 188 = .one := by kernel_rfl
@[simp] theorem ty190 : E.T.ty 190 = .one := by kernel_rfl
@[simp] theorem ty192 : E.T.ty 192 = .strct 3 true := by kernel_rfl
@[simp] theorem off192_0 : E.T.off 192 0 = some 0 := by kernel_rfl
@[simp] theorem fl192_0 : E.T.fl 192 0 = some (false, 1) := by kernel_rfl
@[simp] theorem off192_1 : E.T.off 192 1 = some 1 := by kernel_rfl
@[simp] theorem fl192_1 : E.T.fl 192 1 = some (false, 1) := by kernel_rfl
@[simp] theorem off192_2 : E.T.off 192 2 = some 2 := by kernel_rfl
@[simp] theorem fl192_2 : E.T.fl 192 2 = some (false, 1) := by kernel_rfl
@[simp] theorem kinds192 : E.T.kinds 192 = [0, 0, 1] := by kernel_rfl
@[simp] theorem zero192 : E.T.zero 192 = some (.agg [(.int .i64 0), (.int .i64 0), (.str [])]) := by kernel_rfl
@[simp] theorem ty193 : E.T.ty 193 = .one := by kernel_rfl
@[simp] theorem ty195 : E.T.ty 195 = .one := by kernel_rfl
@[simp] theorem ty196 : E.T.ty 196 = .one := by kernel_rfl
@[simp] theorem ty197 : E.T.ty 197 = .one := by kernel_rfl
@[simp] theorem ty199 : E.T.ty 199 = .one := by kernel_rfl
@[simp] theorem ty200 : E.T.ty 200 = .one := by kernel_rfl
@[simp] theorem ty201 : E.T.ty 201 = .one := by kernel_rfl
@[simp] theorem ty202 : E.T.ty 202 = .one := by kernel_rfl
@[simp] theorem ty203 : E.T.ty 203 = .one := by kernel_rfl
@[simp] theorem ty204 : E.T.ty 204 = .one := by kernel_rfl
@[simp] theorem ty205 : E.T.ty 205 = .one := by kernel_rfl
@[simp] theorem ty206 : E.T.ty 206 = .one := by kernel_rfl
@[simp] theorem ty207 : E.T.ty 207 = .slice 4 1 1 := by kernel_rfl
@[simp] theorem zero207 : E.T.zero 207 = some (.lst true 4 1 []) := by kernel_rfl
@[simp] theorem ty208 : E.T.ty 208 = .one := by kernel_rfl
@[simp] theorem ty209 : E.T.ty 209 = .one := by kernel_rfl
@[simp] theorem ty210 : E.T.ty 210 = .one := by kernel_rfl
@[simp] theorem ty211 : E.T.ty 211 = .one := by kernel_rfl
@[simp] theorem ty212 : E.T.ty 212 = .one := by kernel_rfl
@[simp] theorem ty213 : E.T.ty 213 = .one := by kernel_rfl
@[simp] theorem ty214 : E.T.ty 214 = .one := by kernel_rfl
@[simp] theorem ty215 : E.T.ty 215 = .one := by kernel_rfl
@[simp] theorem ty216 : E.T.ty 216 = .one := by kernel_rfl
@[simp] theorem ty217 : E.T.ty 217 = .int .u64 := by kernel_rfl
@[simp] theorem zero217 : E.T.zero 217 = some (.int .u64 0) := by kernel_rfl
@[simp] theorem ty218 : E.T.ty 218 = .one := by kernel_rfl
@[simp] theorem ty219 : E.T.ty 219 = .one := by kernel_rfl
@[simp] theorem ty220 : E.T.ty 220 = .one := by kernel_rfl
@[simp] theorem ty223 : E.T.ty 223 = .one := by kernel_rfl
@[simp] theorem ty224 : E.T.ty 224 = .iface := by kernel_rfl
@[simp] theorem zero224 : E.T.zero 224 = some (.ifc true) := by kernel_rfl
@[simp] theorem ty225 : E.T.ty 225 = .iface := by kernel_rfl
@[simp] theorem zero225 : E.T.zero 225 = some (.ifc true) := by kernel_rfl
@[simp] theorem ty227 : E.T.ty 227 = .one := by kernel_rfl
@[simp] theorem ty228 : E.T.ty 228 = .one := by kernel_rfl
@[simp] theorem ty229 : E.T.ty 229 = .one := by kernel_rfl
@[simp] theorem ty230 : E.T.ty 230 = .one := by kernel_rfl
@[simp] theorem ty231 : E.T.ty 231 = .one := by kernel_rfl
@[simp] theorem ty232 : E.T.ty 232 = .one := by kernel_rfl
@[simp] theorem ty234 : E.T.ty 234 = .one := by kernel_rfl
@[simp] theorem ty235 : E.T.ty 235 = .one := by kernel_rfl
@[simp] theorem ty236 : E.T.ty 236 = .one := by kernel_rfl
@[simp] theorem ty237 : E.T.ty 237 = .one := by kernel_rfl
@[simp] theorem ty238 : E.T.ty 238 = .one := by kernel_rfl
@[simp] theorem ty239 : E.T.ty 239 = .one := by kernel_rfl
@[simp] theorem ty240 : E.T.ty 240 = .one := by kernel_rfl
@[simp] theorem ty242 : E.T.ty 242 = .one := by kernel_rfl
@[simp] theorem ty243 : E.T.ty 243 = .one := by kernel_rfl
@[simp] theorem ty244 : E.T.ty 244 = .one := by kernel_rfl
@[simp] theorem ty246 : E.T.ty 246 = .one := by kernel_rfl
@[simp] theorem ty247 : E.T.ty 247 = .one := by kernel_rfl
@[simp] theorem ty248 : E.T.ty 248 = .one := by kernel_rfl
@[simp] theorem ty249 : E.T.ty 249 = .one := by kernel_rfl
@[simp] theorem ty251 : E.T.ty 251 = .int .u64 := by kernel_rfl
@[simp] theorem zero251 : E.T.zero 251 = some (.int .u64 0) := by kernel_rfl
@[simp] theorem ty252 : E.T.ty 252 = .one := by kernel_rfl
@[simp] theorem ty253 : E.T.ty 253 = .one := by kernel_rfl
@[simp] theorem ty255 : E.T.ty 255 = .one := by kernel_rfl
@[simp] theorem ty257 : E.T.ty 257 = .one := by kernel_rfl
@[simp] theorem ty259 : E.T.ty 259 = .one := by kernel_rfl
@[simp] theorem ty260 : E.T.ty 260 = .one := by kernel_rfl
@[simp] theorem ty261 : E.T.ty 261 = .one := by kernel_rfl
@[simp] theorem ty264 : E.T.ty 264 = .one := by kernel_rfl
@[simp] theorem ty265 : E.T.ty 265 = .one := by kernel_rfl
@[simp] theorem ty266 : E.T.ty 266 = .one := by kernel_rfl
@[simp] theorem ty267 : E.T.ty 267 = .one := by kernel_rfl
@[simp] theorem ty268 : E.T.ty 268 = .one := by kernel_rfl
@[simp] theorem ty269 : E.T.ty 269 = .one := by kernel_rfl
@[simp] theorem ty270 : E.T.ty 270 = .one := by kernel_rfl
@[simp] theorem ty272 : E.T.ty 272 = .int .u32 := by kernel_rfl
@[simp] theorem zero272 : E.T.zero 272 = some (.int .u32 0) := by kernel_rfl
@[simp] theorem ty274 : E.T.ty 274 = .one := by kernel_rfl
@[simp] theorem ty280 : E.T.ty 280 = .one := by kernel_rfl
@[simp] theorem ty282 : E.T.ty 282 = .one := by kernel_rfl
@[simp] theorem ty285 : E.T.ty 285 = .one := by kernel_rfl
@[simp] theorem ty286 : E.T.ty 286 = .one := by kernel_rfl
@[simp] theorem ty289 : E.T.ty 289 = .one := by kernel_rfl
@[simp] theorem ty290 : E.T.ty 290 = .one := by kernel_rfl
@[simp] theorem ty291 : E.T.ty 291 = .one := by kernel_rfl
@[simp] theorem ty292 : E.T.ty 292 = .one := by kernel_rfl
@[simp] theorem ty293 : E.T.ty 293 = .one := by kernel_rfl
@[simp] theorem ty294 : E.T.ty 294 = .one := by kernel_rfl
@[simp] theorem ty295 : E.T.ty 295 = .one := by kernel_rfl
@[simp] theorem ty296 : E.T.ty 296 = .one := by kernel_rfl
@[simp] theorem ty297 : E.T.ty 297 = .one := by kernel_rfl
@[simp] theorem ty301 : E.T.ty 301 = .one := by kernel_rfl
@[simp] theorem ty302 : E.T.ty 302 = .one := by kernel_rfl
@[simp] theorem ty303 : E.T.ty 303 = .one := by kernel_rfl
@[simp] theorem ty304 : E.T.ty 304 = .one := by kernel_rfl
@[simp] theorem ty305 : E.T.ty 305 = .one := by kernel_rfl
@[simp] theorem ty306 : E.T.ty 306 = .one := by kernel_rfl
@[simp] theorem ty310 : E.T.ty 310 = .one := by kernel_rfl
@[simp] theorem ty311 : E.T.ty 311 = .one := by kernel_rfl
@[simp] theorem ty312 : E.T.ty 312 = .one := by kernel_rfl
@[simp] theorem ty315 : E.T.ty 315 = .one := by kernel_rfl
@[simp] theorem ty317 : E.T.ty 317 = .one := by kernel_rfl
@[simp] theorem ty318 : E.T.ty 318 = .one := by kernel_rfl
@[simp] theorem ty319 : E.T.ty 319 = .one := by kernel_rfl
@[simp] theorem ty320 : E.T.ty 320 = .one := by kernel_rfl
@[simp] theorem ty321 : E.T.ty 321 = .one := by kernel_rfl
@[simp] theorem ty327 : E.T.ty 327 = .one := by kernel_rfl
@[simp] theorem ty330 : E.T.ty 330 = .one := by kernel_rfl
@[simp] theorem md3 : E.md 3 = [] := rfl
@[simp] theorem mv3 (t : Nat) : E.mv 3 t = false := rfl
@[simp] theorem fz3 : E.fz 3 = false := rfl
@[simp] theorem md4 : E.md 4 = [] := rfl
@[simp] theorem mv4 (t : Nat) : E.mv 4 t = false := rfl
@[simp] theorem fz4 : E.fz 4 = false := rfl
@[simp] theorem md5 : E.md 5 = [] := rfl
@[simp] theorem mv5 (t : Nat) : E.mv 5 t = false := rfl
@[simp] theorem fz5 : E.fz 5 = false := rfl
@[simp] theorem md6 : E.md 6 = [] := rfl
@[simp] theorem mv6 (t : Nat) : E.mv 6 t = false := rfl
@[simp] theorem fz6 : E.fz 6 = false := rfl
@[simp] theorem md7 : E.md 7 = [] := rfl
@[simp] theorem mv7 (t : Nat) : E.mv 7 t = false := rfl
@[simp] theorem fz7 : E.fz 7 = false := rfl
@[simp] theorem md8 : E.md 8 = [] := rfl
@[simp] theorem mv8 (t : Nat) : E.mv 8 t = false := rfl
@[simp] theorem fz8 : E.fz 8 = false := rfl
@[simp] theorem md9 : E.md 9 = [] := rfl
@[simp] theorem mv9 (t : Nat) : E.mv 9 t = false := rfl
@[simp] theorem fz9 : E.fz 9 = false := rfl
@[simp] theorem md10 : E.md 10 = [] := rfl
@[simp] theorem mv10 (t : Nat) : E.mv 10 t = false := rfl
@[simp] theorem fz10 : E.fz 10 = false := rfl
@[simp] theorem md11 : E.md 11 = [] := rfl
@[simp] theorem mv11 (t : Nat) : E.mv 11 t = (t == 10 || t == 15) := rfl
@[simp] theorem fz11 : E.fz 11 = false := rfl
@[simp] theorem md12 : E.md 12 = [] := rfl
@[simp] theorem mv12 (t : Nat) : E.mv 12 t = false := rfl
@[simp] theorem fz12 : E.fz 12 = false := rfl
@[simp] theorem md13 : E.md 13 = [] := rfl
@[simp] theorem mv13 (t : Nat) : E.mv 13 t = false := rfl
@[simp] theorem fz13 : E.fz 13 = false := rfl
@[simp] theorem md14 : E.md 14 = [] := rfl
@[simp] theorem mv14 (t : Nat) : E.mv 14 t = false := rfl
@[simp] theorem fz14 : E.fz 14 = false := rfl
@[simp] theorem md15 : E.md 15 = [] := rfl
@[simp] theorem mv15 (t : Nat) : E.mv 15 t = (t == 3) := rfl
@[simp] theorem fz15 : E.fz 15 = false := rfl
@[simp] theorem md16 : E.md 16 = [] := rfl
@[simp] theorem mv16 (t : Nat) : E.mv 16 t = false := rfl
@[simp] theorem fz16 : E.fz 16 = false := rfl
@[simp] theorem md17 : E.md 17 = [] := rfl
@[simp] theorem mv17 (t : Nat) : E.mv 17 t = false := rfl
@[simp] theorem fz17 : E.fz 17 = false := rfl
@[simp] theorem md18 : E.md 18 = [] := rfl
@[simp] theorem mv18 (t : Nat) : E.mv 18 t = false := rfl
@[simp] theorem fz18 : E.fz 18 = false := rfl
@[simp] theorem md19 : E.md 19 = [] := rfl
@[simp] theorem mv19 (t : Nat) : E.mv 19 t = false := rfl
@[simp] theorem fz19 : E.fz 19 = false := rfl
@[simp] theorem md20 : E.md 20 = [] := rfl
@[simp] theorem mv20 (t : Nat) : E.mv 20 t = false := rfl
@[simp] theorem fz20 : E.fz 20 = false := rfl
@[simp] theorem md21 : E.md 21 = [] := rfl
@[simp] theorem mv21 (t : Nat) : E.mv 21 t = false := rfl
@[simp] theorem fz21 : E.fz 21 = false := rfl
@[simp] theorem md22 : E.md 22 = [] := rfl
@[simp] theorem mv22 (t : Nat) : E.mv 22 t = (t == 6 || t == 7) := rfl
@[simp] theorem fz22 : E.fz 22 = false := rfl
@[simp] theorem md23 : E.md 23 = [] := rfl
@[simp] theorem mv23 (t : Nat) : E.mv 23 t = (t == 1) := rfl
@[simp] theorem fz23 : E.fz 23 = false := rfl
@[simp] theorem md24 : E.md 24 = [] := rfl
@[simp] theorem mv24 (t : Nat) : E.mv 24 t = false := rfl
@[simp] theorem fz24 : E.fz 24 = false := rfl
@[simp] theorem md25 : E.md 25 = [] := rfl
@[simp] theorem mv25 (t : Nat) : E.mv 25 t = false := rfl
@[simp] theorem fz25 : E.fz 25 = false := rfl
@[simp] theorem md26 : E.md 26 = [] := rfl
@[simp] theorem mv26 (t : Nat) : E.mv 26 t = false := rfl
@[simp] theorem fz26 : E.fz 26 = false := rfl
@[simp] theorem md27 : E.md 27 = [] := rfl
@[simp] theorem mv27 (t : Nat) : E.mv 27 t = (t == 5) := rfl
@[simp] theorem fz27 : E.fz 27 = false := rfl
@[simp] theorem md28 : E.md 28 = [] := rfl
@[simp] theorem mv28 (t : Nat) : E.mv 28 t = (t == 6) := rfl
@[simp] theorem fz28 : E.fz 28 = false := rfl
@[simp] theorem md29 : E.md 29 = [] := rfl
@[simp] theorem mv29 (t : Nat) : E.mv 29 t = false := rfl
@[simp] theorem fz29 : E.fz 29 = false := rfl
@[simp] theorem md30 : E.md 30 = [] := rfl
@[simp] theorem mv30 (t : Nat) : E.mv 30 t = (t == 9) := rfl
@[simp] theorem fz30 : E.fz 30 = false := rfl
@[simp] theorem md31 : E.md 31 = [] := rfl
@[simp] theorem mv31 (t : Nat) : E.mv 31 t = (t == 7 || t == 12) := rfl
@[simp] theorem fz31 : E.fz 31 = false := rfl
@[simp] theorem md32 : E.md 32 = [] := rfl
@[simp] theorem mv32 (t : Nat) : E.mv 32 t = false := rfl
@[simp] theorem fz32 : E.fz 32 = false := rfl
@[simp] theorem md33 : E.md 33 = [] := rfl
@[simp] theorem mv33 (t : Nat) : E.mv 33 t = false := rfl
@[simp] theorem fz33 : E.fz 33 = false := rfl
@[simp] theorem md34 : E.md 34 = [] := rfl
@[simp] theorem mv34 (t : Nat) : E.mv 34 t = (t == 5) := rfl
@[simp] theorem fz34 : E.fz 34 = false := rfl
@[simp] theorem md35 : E.md 35 = [] := rfl
@[simp] theorem mv35 (t : Nat) : E.mv 35 t = false := rfl
@[simp] theorem fz35 : E.fz 35 = false := rfl
@[simp] theorem md36 : E.md 36 = [] := rfl
@[simp] theorem mv36 (t : Nat) : E.mv 36 t = false := rfl
@[simp] theorem fz36 : E.fz 36 = false := rfl
@[simp] theorem md37 : E.md 37 = [] := rfl
@[simp] theorem mv37 (t : Nat) : E.mv 37 t = false := rfl
@[simp] theorem fz37 : E.fz 37 = false := rfl
@[simp] theorem md38 : E.md 38 = [] := rfl
@[simp] theorem mv38 (t : Nat) : E.mv 38 t = false := rfl
@[simp] theorem fz38 : E.fz 38 = false := rfl
@[simp] theorem md39 : E.md 39 = [] := rfl
@[simp] theorem mv39 (t : Nat) : E.mv 39 t = false := rfl
@[simp] theorem fz39 : E.fz 39 = false := rfl
@[simp] theorem md40 : E.md 40 = [] := rfl
@[simp] theorem mv40 (t : Nat) : E.mv 40 t = false := rfl
@[simp] theorem fz40 : E.fz 40 = false := rfl
@[simp] theorem md41 : E.md 41 = [] := rfl
@[simp] theorem mv41 (t : Nat) : E.mv 41 t = false := rfl
@[simp] theorem fz41 : E.fz 41 = false := rfl
@[simp] theorem md42 : E.md 42 = [] := rfl
@[simp] theorem mv42 (t : Nat) : E.mv 42 t = false := rfl
@[simp] theorem fz42 : E.fz 42 = false := rfl
@[simp] theorem md43 : E.md 43 = [] := rfl
@[simp] theorem mv43 (t : Nat) : E.mv 43 t = false := rfl
@[simp] theorem fz43 : E.fz 43 = false := rfl
@[simp] theorem md44 : E.md 44 = [] := rfl
@[simp] theorem mv44 (t : Nat) : E.mv 44 t = false := rfl
@[simp] theorem fz44 : E.fz 44 = false := rfl
@[simp] theorem md45 : E.md 45 = [] := rfl
@[simp] theorem mv45 (t : Nat) : E.mv 45 t = false := rfl
@[simp] theorem fz45 : E.fz 45 = false := rfl
@[simp] theorem md46 : E.md 46 = [] := rfl
@[simp] theorem mv46 (t : Nat) : E.mv 46 t = false := rfl
@[simp] theorem fz46 : E.fz 46 = false := rfl
@[simp] theorem md47 : E.md 47 = [0] := rfl
@[simp] theorem mv47 (t : Nat) : E.mv 47 t = (t == 3) := rfl
@[simp] theorem fz47 : E.fz 47 = false := rfl
@[simp] theorem md48 : E.md 48 = [] := rfl
@[simp] theorem mv48 (t : Nat) : E.mv 48 t = false := rfl
@[simp] theorem fz48 : E.fz 48 = false := rfl
@[simp] theorem md49 : E.md 49 = [] := rfl
@[simp] theorem mv49 (t : Nat) : E.mv 49 t = false := rfl
@[simp] theorem fz49 : E.fz 49 = false := rfl
@[simp] theorem md50 : E.md 50 = [] := rfl
@[simp] theorem mv50 (t : Nat) : E.mv 50 t = (t == 3) := rfl
@[simp] theorem fz50 : E.fz 50 = false := rfl
@[simp] theorem md51 : E.md 51 = [] := rfl
@[simp] theorem mv51 (t : Nat) : E.mv 51 t = false := rfl
@[simp] theorem fz51 : E.fz 51 = false := rfl
@[simp] theorem md52 : E.md 52 = [] := rfl
@[simp] theorem mv52 (t : Nat) : E.mv 52 t = false := rfl
@[simp] theorem fz52 : E.fz 52 = false := rfl
@[simp] theorem md53 : E.md 53 = [] := rfl
@[simp] theorem mv53 (t : Nat) : E.mv 53 t = (t == 10 || t == 12 || t == 18) := rfl
@[simp] theorem fz53 : E.fz 53 = false := rfl
@[simp] theorem md54 : E.md 54 = [] := rfl
@[simp] theorem mv54 (t : Nat) : E.mv 54 t = (t == 7) := rfl
@[simp] theorem fz54 : E.fz 54 = false := rfl
@[simp] theorem md55 : E.md 55 = [] := rfl
@[simp] theorem mv55 (t : Nat) : E.mv 55 t = false := rfl
@[simp] theorem fz55 : E.fz 55 = false := rfl
@[simp] theorem md56 : E.md 56 = [] := rfl
@[simp] theorem mv56 (t : Nat) : E.mv 56 t = (t == 3) := rfl
@[simp] theorem fz56 : E.fz 56 = false := rfl
@[simp] theorem md57 : E.md 57 = [] := rfl
@[simp] theorem mv57 (t : Nat) : E.mv 57 t = false := rfl
@[simp] theorem fz57 : E.fz 57 = false := rfl
@[simp] theorem md58 : E.md 58 = [] := rfl
@[simp] theorem mv58 (t : Nat) : E.mv 58 t = false := rfl
@[simp] theorem fz58 : E.fz 58 = false := rfl
@[simp] theorem md59 : E.md 59 = [1000] := rfl
@[simp] theorem mv59 (t : Nat) : E.mv 59 t = false := rfl
@[simp] theorem fz59 : E.fz 59 = false := rfl
@[simp] theorem md60 : E.md 60 = [] := rfl
@[simp] theorem mv60 (t : Nat) : E.mv 60 t = false := rfl
@[simp] theorem fz60 : E.fz 60 = false := rfl
@[simp] theorem md61 : E.md 61 = [0] := rfl
@[simp] theorem mv61 (t : Nat) : E.mv 61 t = (t == 4 || t == 5) := rfl
@[simp] theorem fz61 : E.fz 61 = false := rfl
@[simp] theorem md62 : E.md 62 = [] := rfl
@[simp] theorem mv62 (t : Nat) : E.mv 62 t = false := rfl
@[simp] theorem fz62 : E.fz 62 = false := rfl
@[simp] theorem md63 : E.md 63 = [] := rfl
@[simp] theorem mv63 (t : Nat) : E.mv 63 t = false := rfl
@[simp] theorem fz63 : E.fz 63 = false := rfl
@[simp] theorem md64 : E.md 64 = [] := rfl
@[simp] theorem mv64 (t : Nat) : E.mv 64 t = false := rfl
@[simp] theorem fz64 : E.fz 64 = false := rfl
@[simp] theorem md65 : E.md 65 = [] := rfl
@[simp] theorem mv65 (t : Nat) : E.mv 65 t = false := rfl
@[simp] theorem fz65 : E.fz 65 = false := rfl
@[simp] theorem md66 : E.md 66 = [] := rfl
@[simp] theorem mv66 (t : Nat) : E.mv 66 t = false := rfl
@[simp] theorem fz66 : E.fz 66 = false := rfl
@[simp] theorem md67 : E.md 67 = [] := rfl
@[simp] theorem mv67 (t : Nat) : E.mv 67 t = (t == 6) := rfl
@[simp] theorem fz67 : E.fz 67 = false := rfl
@[simp] theorem md68 : E.md 68 = [1000, 1002] := rfl
@[simp] theorem mv68 (t : Nat) : E.mv 68 t = false := rfl
@[simp] theorem fz68 : E.fz 68 = false := rfl
@[simp] theorem md69 : E.md 69 = [0] := rfl
@[simp] theorem mv69 (t : Nat) : E.mv 69 t = false := rfl
@[simp] theorem fz69 : E.fz 69 = false := rfl
@[simp] theorem md70 : E.md 70 = [] := rfl
@[simp] theorem mv70 (t : Nat) : E.mv 70 t = false := rfl
@[simp] theorem fz70 : E.fz 70 = false := rfl
@[simp] theorem md71 : E.md 71 = [] := rfl
@[simp] theorem mv71 (t : Nat) : E.mv 71 t = false := rfl
@[simp] theorem fz71 : E.fz 71 = false := rfl
@[simp] theorem md72 : E.md 72 = [] := rfl
@[simp] theorem mv72 (t : Nat) : E.mv 72 t = (t == 16) := rfl
@[simp] theorem fz72 : E.fz 72 = false := rfl
@[simp] theorem md73 : E.md 73 = [] := rfl
@[simp] theorem mv73 (t : Nat) : E.mv 73 t = false := rfl
@[simp] theorem fz73 : E.fz 73 = false := rfl
@[simp] theorem md74 : E.md 74 = [] := rfl
@[simp] theorem mv74 (t : Nat) : E.mv 74 t = (t == 6 || t == 8 || t == 11) := rfl
@[simp] theorem fz74 : E.fz 74 = false := rfl
@[simp] theorem md75 : E.md 75 = [] := rfl
@[simp] theorem mv75 (t : Nat) : E.mv 75 t = (t == 5) := rfl
@[simp] theorem fz75 : E.fz 75 = false := rfl
@[simp] theorem md76 : E.md 76 = [] := rfl
@[simp] theorem mv76 (t : Nat) : E.mv 76 t = false := rfl
@[simp] theorem fz76 : E.fz 76 = false := rfl
@[simp] theorem md77 : E.md 77 = [] := rfl
@[simp] theorem mv77 (t : Nat) : E.mv 77 t = (t == 1) := rfl
@[simp] theorem fz77 : E.fz 77 = false := rfl
@[simp] theorem md78 : E.md 78 = [0] := rfl
@[simp] theorem mv78 (t : Nat) : E.mv 78 t = false := rfl
@[simp] theorem fz78 : E.fz 78 = false := rfl
@[simp] theorem md79 : E.md 79 = [1000] := rfl
@[simp] theorem mv79 (t : Nat) : E.mv 79 t = false := rfl
@[simp] theorem fz79 : E.fz 79 = false := rfl
@[simp] theorem md80 : E.md 80 = [] := rfl
@[simp] theorem mv80 (t : Nat) : E.mv 80 t = false := rfl
@[simp] theorem fz80 : E.fz 80 = false := rfl
@[simp] theorem md81 : E.md 81 = [] := rfl
@[simp] theorem mv81 (t : Nat) : E.mv 81 t = false := rfl
@[simp] theorem fz81 : E.fz 81 = false := rfl
@[simp] theorem md82 : E.md 82 = [0] := rfl
@[simp] theorem mv82 (t : Nat) : E.mv 82 t = false := rfl
@[simp] theorem fz82 : E.fz 82 = false := rfl
@[simp] theorem md83 : E.md 83 = [0] := rfl
@[simp] theorem mv83 (t : Nat) : E.mv 83 t = (t == 5) := rfl
@[simp] theorem fz83 : E.fz 83 = false := rfl
@[simp] theorem md84 : E.md 84 = [0] := rfl
@[simp] theorem mv84 (t : Nat) : E.mv 84 t = (t == 4 || t == 5) := rfl
@[simp] theorem fz84 : E.fz 84 = false := rfl
@[simp] theorem md85 : E.md 85 = [0] := rfl
@[simp] theorem mv85 (t : Nat) : E.mv 85 t = (t == 6) := rfl
@[simp] theorem fz85 : E.fz 85 = false := rfl
@[simp] theorem md86 : E.md 86 = [] := rfl
@[simp] theorem mv86 (t : Nat) : E.mv 86 t = (t == 4 || t == 11 || t == 14 || t == 16 || t == 23 || t == 27 || t == 29) := rfl
@[simp] theorem fz86 : E.fz 86 = false := rfl
@[simp] theorem md87 : E.md 87 = [] := rfl
@[simp] theorem mv87 (t : Nat) : E.mv 87 t = false := rfl
@[simp] theorem fz87 : E.fz 87 = false := rfl
@[simp] theorem md88 : E.md 88 = [0] := rfl
@[simp] theorem mv88 (t : Nat) : E.mv 88 t = false := rfl
@[simp] theorem fz88 : E.fz 88 = false := rfl
@[simp] theorem md89 : E.md 89 = [] := rfl
@[simp] theorem mv89 (t : Nat) : E.mv 89 t = false := rfl
@[simp] theorem fz89 : E.fz 89 = false := rfl
@[simp] theorem md90 : E.md 90 = [] := rfl
@[simp] theorem mv90 (t : Nat) : E.mv 90 t = false := rfl
@[simp] theorem fz90 : E.fz 90 = false := rfl
@[simp] theorem md91 : E.md 91 = [] := rfl
@[simp] theorem mv91 (t : Nat) : E.mv 91 t = false := rfl
@[simp] theorem fz91 : E.fz 91 = false := rfl
@[simp] theorem md92 : E.md 92 = [] := rfl
@[simp] theorem mv92 (t : Nat) : E.mv 92 t = false := rfl
@[simp] theorem fz92 : E.fz 92 = false := rfl
@[simp] theorem md93 : E.md 93 = [] := rfl
@[simp] theorem mv93 (t : Nat) : E.mv 93 t = false := rfl
@[simp] theorem fz93 : E.fz 93 = false := rfl
@[simp] theorem md94 : E.md 94 = [0] := rfl
@[simp] theorem mv94 (t : Nat) : E.mv 94 t = (t == 3) := rfl
@[simp] theorem fz94 : E.fz 94 = false := rfl
@[simp] theorem md95 : E.md 95 = [] := rfl
@[simp] theorem mv95 (t : Nat) : E.mv 95 t = false := rfl
@[simp] theorem fz95 : E.fz 95 = false := rfl
@[simp] theorem md96 : E.md 96 = [] := rfl
@[simp] theorem mv96 (t : Nat) : E.mv 96 t = false := rfl
@[simp] theorem fz96 : E.fz 96 = false := rfl
@[simp] theorem md97 : E.md 97 = [0] := rfl
@[simp] theorem mv97 (t : Nat) : E.mv 97 t = (t == 5) := rfl
@[simp] theorem fz97 : E.fz 97 = false := rfl
@[simp] theorem md98 : E.md 98 = [] := rfl
@[simp] theorem mv98 (t : Nat) : E.mv 98 t = false := rfl
@[simp] theorem fz98 : E.fz 98 = false := rfl
@[simp] theorem md99 : E.md 99 = [] := rfl
@[simp] theorem mv99 (t : Nat) : E.mv 99 t = false := rfl
@[simp] theorem fz99 : E.fz 99 = false := rfl
@[simp] theorem md100 : E.md 100 = [] := rfl
@[simp] theorem mv100 (t : Nat) : E.mv 100 t = (t == 4) := rfl
@[simp] theorem fz100 : E.fz 100 = false := rfl
@[simp] theorem md101 : E.md 101 = [] := rfl
@[simp] theorem mv101 (t : Nat) : E.mv 101 t = false := rfl
@[simp] theorem fz101 : E.fz 101 = false := rfl
@[simp] theorem md102 : E.md 102 = [] := rfl
@[simp] theorem mv102 (t : Nat) : E.mv 102 t = (t == 1) := rfl
@[simp] theorem fz102 : E.fz 102 = false := rfl
@[simp] theorem md103 : E.md 103 = [] := rfl
@[simp] theorem mv103 (t : Nat) : E.mv 103 t = false := rfl
@[simp] theorem fz103 : E.fz 103 = false := rfl
@[simp] theorem md104 : E.md 104 = [0] := rfl
@[simp] theorem mv104 (t : Nat) : E.mv 104 t = (t == 3) := rfl
@[simp] theorem fz104 : E.fz 104 = false := rfl
@[simp] theorem md105 : E.md 105 = [] := rfl
@[simp] theorem mv105 (t : Nat) : E.mv 105 t = (t == 1) := rfl
@[simp] theorem fz105 : E.fz 105 = false := rfl
@[simp] theorem md106 : E.md 106 = [] := rfl
@[simp] theorem mv106 (t : Nat) : E.mv 106 t = (t == 1) := rfl
@[simp] theorem fz106 : E.fz 106 = false := rfl
@[simp] theorem md107 : E.md 107 = [] := rfl
@[simp] theorem mv107 (t : Nat) : E.mv 107 t = (t == 10) := rfl
@[simp] theorem fz107 : E.fz 107 = false := rfl
@[simp] theorem md108 : E.md 108 = [] := rfl
@[simp] theorem mv108 (t : Nat) : E.mv 108 t = false := rfl
@[simp] theorem fz108 : E.fz 108 = false := rfl
@[simp] theorem md109 : E.md 109 = [] := rfl
@[simp] theorem mv109 (t : Nat) : E.mv 109 t = false := rfl
@[simp] theorem fz109 : E.fz 109 = false := rfl
@[simp] theorem md110 : E.md 110 = [] := rfl
@[simp] theorem mv110 (t : Nat) : E.mv 110 t = false := rfl
@[simp] theorem fz110 : E.fz 110 = false := rfl
@[simp] theorem md111 : E.md 111 = [] := rfl
@[simp] theorem mv111 (t : Nat) : E.mv 111 t = false := rfl
@[simp] theorem fz111 : E.fz 111 = false := rfl
@[simp] theorem md112 : E.md 112 = [] := rfl
@[simp] theorem mv112 (t : Nat) : E.mv 112 t = (t == 10) := rfl
@[simp] theorem fz112 : E.fz 112 = false := rfl
@[simp] theorem md113 : E.md 113 = [] := rfl
@[simp] theorem mv113 (t : Nat) : E.mv 113 t = (t == 8 || t == 9) := rfl
@[simp] theorem fz113 : E.fz 113 = false := rfl
@[simp] theorem md114 : E.md 114 = [] := rfl
@[simp] theorem mv114 (t : Nat) : E.mv 114 t = (t == 6 || t == 8) := rfl
@[simp] theorem fz114 : E.fz 114 = false := rfl
@[simp] theorem md115 : E.md 115 = [] := rfl
@[simp] theorem mv115 (t : Nat) : E.mv 115 t = (t == 13 || t == 16) := rfl
@[simp] theorem fz115 : E.fz 115 = false := rfl
@[simp] theorem md116 : E.md 116 = [0] := rfl
@[simp] theorem mv116 (t : Nat) : E.mv 116 t = false := rfl
@[simp] theorem fz116 : E.fz 116 = false := rfl
@[simp] theorem md117 : E.md 117 = [] := rfl
@[simp] theorem mv117 (t : Nat) : E.mv 117 t = false := rfl
@[simp] theorem fz117 : E.fz 117 = false := rfl
@[simp] theorem md118 : E.md 118 = [] := rfl
@[simp] theorem mv118 (t : Nat) : E.mv 118 t = false := rfl
@[simp] theorem fz118 : E.fz 118 = false := rfl
@[simp] theorem md119 : E.md 119 = [] := rfl
@[simp] theorem mv119 (t : Nat) : E.mv 119 t = false := rfl
@[simp] theorem fz119 : E.fz 119 = false := rfl
@[simp] theorem md120 : E.md 120 = [] := rfl
@[simp] theorem mv120 (t : Nat) : E.mv 120 t = false := rfl
@[simp] theorem fz120 : E.fz 120 = false := rfl
@[simp] theorem md121 : E.md 121 = [] := rfl
@[simp] theorem mv121 (t : Nat) : E.mv 121 t = false := rfl
@[simp] theorem fz121 : E.fz 121 = false := rfl
@[simp] theorem md122 : E.md 122 = [] := rfl
@[simp] theorem mv122 (t : Nat) : E.mv 122 t = false := rfl
@[simp] theorem fz122 : E.fz 122 = false := rfl
@[simp] theorem md123 : E.md 123 = [] := rfl
@[simp] theorem mv123 (t : Nat) : E.mv 123 t = false := rfl
@[simp] theorem fz123 : E.fz 123 = false := rfl
@[simp] theorem md124 : E.md 124 = [0] := rfl
@[simp] theorem mv124 (t : Nat) : E.mv 124 t = false := rfl
@[simp] theorem fz124 : E.fz 124 = false := rfl
@[simp] theorem md125 : E.md 125 = [0] := rfl
@[simp] theorem mv125 (t : Nat) : E.mv 125 t = false := rfl
@[simp] theorem fz125 : E.fz 125 = false := rfl
@[simp] theorem md126 : E.md 126 = [] := rfl
@[simp] theorem mv126 (t : Nat) : E.mv 126 t = false := rfl
@[simp] theorem fz126 : E.fz 126 = false := rfl
@[simp] theorem md127 : E.md 127 = [] := rfl
@[simp] theorem mv127 (t : Nat) : E.mv 127 t = false := rfl
@[simp] theorem fz127 : E.fz 127 = false := rfl
@[simp] theorem md128 : E.md 128 = [] := rfl
@[simp] theorem mv128 (t : Nat) : E.mv 128 t = false := rfl
@[simp] theorem fz128 : E.fz 128 = false := rfl
@[simp] theorem md129 : E.md 129 = [] := rfl
@[simp] theorem mv129 (t : Nat) : E.mv 129 t = false := rfl
@[simp] theorem fz129 : E.fz 129 = false := rfl
@[simp] theorem md130 : E.md 130 = [] := rfl
@[simp] theorem mv130 (t : Nat) : E.mv 130 t = false := rfl
@[simp] theorem fz130 : E.fz 130 = false := rfl
@[simp] theorem md131 : E.md 131 = [] := rfl
@[simp] theorem mv131 (t : Nat) : E.mv 131 t = false := rfl
@[simp] theorem fz131 : E.fz 131 = false := rfl
@[simp] theorem md132 : E.md 132 = [] := rfl
@[simp] theorem mv132 (t : Nat) : E.mv 132 t = (t == 8) := rfl
@[simp] theorem fz132 : E.fz 132 = false := rfl
@[simp] theorem md133 : E.md 133 = [] := rfl
@[simp] theorem mv133 (t : Nat) : E.mv 133 t = (t == 13) := rfl
@[simp] theorem fz133 : E.fz 133 = false := rfl
@[simp] theorem md134 : E.md 134 = [] := rfl
@[simp] theorem mv134 (t : Nat) : E.mv 134 t = (t == 7) := rfl
@[simp] theorem fz134 : E.fz 134 = false := rfl
@[simp] theorem md135 : E.md 135 = [] := rfl
@[simp] theorem mv135 (t : Nat) : E.mv 135 t = false := rfl
@[simp] theorem fz135 : E.fz 135 = false := rfl
@[simp] theorem md136 : E.md 136 = [] := rfl
@[simp] theorem mv136 (t : Nat) : E.mv 136 t = false := rfl
@[simp] theorem fz136 : E.fz 136 = false := rfl
@[simp] theorem md137 : E.md 137 = [] := rfl
@[simp] theorem mv137 (t : Nat) : E.mv 137 t = (t == 5) := rfl
@[simp] theorem fz137 : E.fz 137 = false := rfl
@[simp] theorem md138 : E.md 138 = [] := rfl
@[simp] theorem mv138 (t : Nat) : E.mv 138 t = false := rfl
@[simp] theorem fz138 : E.fz 138 = false := rfl
@[simp] theorem md139 : E.md 139 = [1000] := rfl
@[simp] theorem mv139 (t : Nat) : E.mv 139 t = false := rfl
@[simp] theorem fz139 : E.fz 139 = false := rfl
@[simp] theorem md140 : E.md 140 = [] := rfl
@[simp] theorem mv140 (t : Nat) : E.mv 140 t = false := rfl
@[simp] theorem fz140 : E.fz 140 = false := rfl
@[simp] theorem md141 : E.md 141 = [] := rfl
@[simp] theorem mv141 (t : Nat) : E.mv 141 t = false := rfl
@[simp] theorem fz141 : E.fz 141 = false := rfl
@[simp] theorem md142 : E.md 142 = [0] := rfl
@[simp] theorem mv142 (t : Nat) : E.mv 142 t = false := rfl
@[simp] theorem fz142 : E.fz 142 = false := rfl
@[simp] theorem md143 : E.md 143 = [0] := rfl
@[simp] theorem mv143 (t : Nat) : E.mv 143 t = (t == 3) := rfl
@[simp] theorem fz143 : E.fz 143 = false := rfl
@[simp] theorem md144 : E.md 144 = [0] := rfl
@[simp] theorem mv144 (t : Nat) : E.mv 144 t = false := rfl
@[simp] theorem fz144 : E.fz 144 = false := rfl
@[simp] theorem md145 : E.md 145 = [] := rfl
@[simp] theorem mv145 (t : Nat) : E.mv 145 t = (t == 3) := rfl
@[simp] theorem fz145 : E.fz 145 = false := rfl
@[simp] theorem md146 : E.md 146 = [] := rfl
@[simp] theorem mv146 (t : Nat) : E.mv 146 t = false := rfl
@[simp] theorem fz146 : E.fz 146 = false := rfl
@[simp] theorem md147 : E.md 147 = [] := rfl
@[simp] theorem mv147 (t : Nat) : E.mv 147 t = false := rfl
@[simp] theorem fz147 : E.fz 147 = false := rfl
@[simp] theorem md148 : E.md 148 = [] := rfl
@[simp] theorem mv148 (t : Nat) : E.mv 148 t = (t == 4) := rfl
@[simp] theorem fz148 : E.fz 148 = false := rfl
@[simp] theorem md149 : E.md 149 = [] := rfl
@[simp] theorem mv149 (t : Nat) : E.mv 149 t = (t == 3) := rfl
@[simp] theorem fz149 : E.fz 149 = false := rfl
@[simp] theorem md150 : E.md 150 = [] := rfl
@[simp] theorem mv150 (t : Nat) : E.mv 150 t = false := rfl
@[simp] theorem fz150 : E.fz 150 = false := rfl
@[simp] theorem md151 : E.md 151 = [] := rfl
@[simp] theorem mv151 (t : Nat) : E.mv 151 t = false := rfl
@[simp] theorem fz151 : E.fz 151 = false := rfl
@[simp] theorem md152 : E.md 152 = [] := rfl
@[simp] theorem mv152 (t : Nat) : E.mv 152 t = (t == 7) := rfl
@[simp] theorem fz152 : E.fz 152 = false := rfl
@[simp] theorem md153 : E.md 153 = [] := rfl
@[simp] theorem mv153 (t : Nat) : E.mv 153 t = false := rfl
@[simp] theorem fz153 : E.fz 153 = false := rfl
@[simp] theorem md154 : E.md 154 = [] := rfl
@[simp] theorem mv154 (t : Nat) : E.mv 154 t = (t == 6) := rfl
@[simp] theorem fz154 : E.fz 154 = false := rfl
@[simp] theorem md155 : E.md 155 = [] := rfl
@[simp] theorem mv155 (t : Nat) : E.mv 155 t = (t == 5) := rfl
@[simp] theorem fz155 : E.fz 155 = false := rfl
@[simp] theorem md156 : E.md 156 = [] := rfl
@[simp] theorem mv156 (t : Nat) : E.mv 156 t = false := rfl
@[simp] theorem fz156 : E.fz 156 = false := rfl
@[simp] theorem md157 : E.md 157 = [] := rfl
@[simp] theorem mv157 (t : Nat) : E.mv 157 t = false := rfl
@[simp] theorem fz157 : E.fz 157 = false := rfl
@[simp] theorem md158 : E.md 158 = [] := rfl
@[simp] theorem mv158 (t : Nat) : E.mv 158 t = false := rfl
@[simp] theorem fz158 : E.fz 158 = false := rfl
@[simp] theorem md159 : E.md 159 = [1000] := rfl
@[simp] theorem mv159 (t : Nat) : E.mv 159 t = false := rfl
@[simp] theorem fz159 : E.fz 159 = false := rfl
@[simp] theorem md160 : E.md 160 = [] := rfl
@[simp] theorem mv160 (t : Nat) : E.mv 160 t = false := rfl
@[simp] theorem fz160 : E.fz 160 = false := rfl
@[simp] theorem md161 : E.md 161 = [] := rfl
@[simp] theorem mv161 (t : Nat) : E.mv 161 t = false := rfl
@[simp] theorem fz161 : E.fz 161 = false := rfl
@[simp] theorem md162 : E.md 162 = [] := rfl
@[simp] theorem mv162 (t : Nat) : E.mv 162 t = false := rfl
@[simp] theorem fz162 : E.fz 162 = false := rfl
@[simp] theorem md163 : E.md 163 = [] := rfl
@[simp] theorem mv163 (t : Nat) : E.mv 163 t = false := rfl
@[simp] theorem fz163 : E.fz 163 = false := rfl
@[simp] theorem md164 : E.md 164 = [] := rfl
@[simp] theorem mv164 (t : Nat) : E.mv 164 t = false := rfl
@[simp] theorem fz164 : E.fz 164 = false := rfl
@[simp] theorem md165 : E.md 165 = [] := rfl
@[simp] theorem mv165 (t : Nat) : E.mv 165 t = (t == 6 || t == 9 || t == 11) := rfl
@[simp] theorem fz165 : E.fz 165 = false := rfl
@[simp] theorem md166 : E.md 166 = [] := rfl
@[simp] theorem mv166 (t : Nat) : E.mv 166 t = (t == 6 || t == 9) := rfl
@[simp] theorem fz166 : E.fz 166 = false := rfl
@[simp] theorem md167 : E.md 167 = [] := rfl
@[simp] theorem mv167 (t : Nat) : E.mv 167 t = (t == 10 || t == 16) := rfl
@[simp] theorem fz167 : E.fz 167 = false := rfl
@[simp] theorem md168 : E.md 168 = [] := rfl
@[simp] theorem mv168 (t : Nat) : E.mv 168 t = (t == 10) := rfl
@[simp] theorem fz168 : E.fz 168 = false := rfl
@[simp] theorem md169 : E.md 169 = [] := rfl
@[simp] theorem mv169 (t : Nat) : E.mv 169 t = (t == 8) := rfl
@[simp] theorem fz169 : E.fz 169 = false := rfl
@[simp] theorem md170 : E.md 170 = [0] := rfl
@[simp] theorem mv170 (t : Nat) : E.mv 170 t = false := rfl
@[simp] theorem fz170 : E.fz 170 = false := rfl
@[simp] theorem md171 : E.md 171 = [] := rfl
@[simp] theorem mv171 (t : Nat) : E.mv 171 t = false := rfl
@[simp] theorem fz171 : E.fz 171 = false := rfl
@[simp] theorem md172 : E.md 172 = [] := rfl
@[simp] theorem mv172 (t : Nat) : E.mv 172 t = false := rfl
@[simp] theorem fz172 : E.fz 172 = false := rfl
@[simp] theorem md173 : E.md 173 = [] := rfl
@[simp] theorem mv173 (t : Nat) : E.mv 173 t = false := rfl
@[simp] theorem fz173 : E.fz 173 = false := rfl
@[simp] theorem md174 : E.md 174 = [] := rfl
@[simp] theorem mv174 (t : Nat) : E.mv 174 t = false := rfl
@[simp] theorem fz174 : E.fz 174 = false := rfl
@[simp] theorem md175 : E.md 175 = [] := rfl
@[simp] theorem mv175 (t : Nat) : E.mv 175 t = false := rfl
@[simp] theorem fz175 : E.fz 175 = false := rfl
@[simp] theorem md176 : E.md 176 = [] := rfl
@[simp] theorem mv176 (t : Nat) : E.mv 176 t = false := rfl
@[simp] theorem fz176 : E.fz 176 = false := rfl
@[simp] theorem md177 : E.md 177 = [] := rfl
@[simp] theorem mv177 (t : Nat) : E.mv 177 t = false := rfl
@[simp] theorem fz177 : E.fz 177 = false := rfl
@[simp] theorem md178 : E.md 178 = [] := rfl
@[simp] theorem mv178 (t : Nat) : E.mv 178 t = false := rfl
@[simp] theorem fz178 : E.fz 178 = false := rfl
@[simp] theorem md179 : E.md 179 = [] := rfl
@[simp] theorem mv179 (t : Nat) : E.mv 179 t = false := rfl
@[simp] theorem fz179 : E.fz 179 = false := rfl
@[simp] theorem md180 : E.md 180 = [] := rfl
@[simp] theorem mv180 (t : Nat) : E.mv 180 t = false := rfl
@[simp] theorem fz180 : E.fz 180 = false := rfl
@[simp] theorem md181 : E.md 181 = [] := rfl
@[simp] theorem mv181 (t : Nat) : E.mv 181 t = false := rfl
@[simp] theorem fz181 : E.fz 181 = false := rfl
@[simp] theorem md182 : E.md 182 = [] := rfl
@[simp] theorem mv182 (t : Nat) : E.mv 182 t = false := rfl
@[simp] theorem fz182 : E.fz 182 = false := rfl
@[simp] theorem md183 : E.md 183 = [] := rfl
@[simp] theorem mv183 (t : Nat) : E.mv 183 t = (t == 6) := rfl
@[simp] theorem fz183 : E.fz 183 = false := rfl
@[simp] theorem md184 : E.md 184 = [] := rfl
@[simp] theorem mv184 (t : Nat) : E.mv 184 t = false := rfl
@[simp] theorem fz184 : E.fz 184 = false := rfl
@[simp] theorem md185 : E.md 185 = [] := rfl
@[simp] theorem mv185 (t : Nat) : E.mv 185 t = false := rfl
@[simp] theorem fz185 : E.fz 185 = false := rfl
@[simp] theorem md186 : E.md 186 = [] := rfl
@[simp] theorem mv186 (t : Nat) : E.mv 186 t = false := rfl
@[simp] theorem fz186 : E.fz 186 = false := rfl
@[simp] theorem md187 : E.md 187 = [] := rfl
@[simp] theorem mv187 (t : Nat) : E.mv 187 t = false := rfl
@[simp] theorem fz187 : E.fz 187 = false := rfl
@[simp] theorem md188 : E.md 188 = [] := rfl
@[simp] theorem mv188 (t : Nat) : E.mv 188 t = false := rfl
@[simp] theorem fz188 : E.fz 188 = false := rfl
@[simp] theorem md189 : E.md 189 = [] := rfl
@[simp] theorem mv189 (t : Nat) : E.mv 189 t = false := rfl
@[simp] theorem fz189 : E.fz 189 = false := rfl
@[simp] theorem md190 : E.md 190 = [] := rfl
@[simp] theorem mv190 (t : Nat) : E.mv 190 t = false := rfl
@[simp] theorem fz190 : E.fz 190 = false := rfl
@[simp] theorem md191 : E.md 191 = [] := rfl
@[simp] theorem mv191 (t : Nat) : E.mv 191 t = false := rfl
@[simp] theorem fz191 : E.fz 191 = false := rfl
@[simp] theorem md192 : E.md 192 = [] := rfl
@[simp] theorem mv192 (t : Nat) : E.mv 192 t = false := rfl
@[simp] theorem fz192 : E.fz 192 = false := rfl
@[simp] theorem md193 : E.md 193 = [] := rfl
@[simp] theorem mv193 (t : Nat) : E.mv 193 t = false := rfl
@[simp] theorem fz193 : E.fz 193 = false := rfl
@[simp] theorem md194 : E.md 194 = [] := rfl
@[simp] theorem mv194 (t : Nat) : E.mv 194 t = false := rfl
@[simp] theorem fz194 : E.fz 194 = false := rfl
@[simp] theorem md195 : E.md 195 = [] := rfl
@[simp] theorem mv195 (t : Nat) : E.mv 195 t = false := rfl
@[simp] theorem fz195 : E.fz 195 = false := rfl
@[simp] theorem md196 : E.md 196 = [] := rfl
@[simp] theorem mv196 (t : Nat) : E.mv 196 t = false := rfl
@[simp] theorem fz196 : E.fz 196 = false := rfl
@[simp] theorem md197 : E.md 197 = [1000] := rfl
@[simp] theorem mv197 (t : Nat) : E.mv 197 t = false := rfl
@[simp] theorem fz197 : E.fz 197 = false := rfl
@[simp] theorem md198 : E.md 198 = [1000] := rfl
@[simp] theorem mv198 (t : Nat) : E.mv 198 t = false := rfl
@[simp] theorem fz198 : E.fz 198 = false := rfl
@[simp] theorem md199 : E.md 199 = [] := rfl
@[simp] theorem mv199 (t : Nat) : E.mv 199 t = false := rfl
@[simp] theorem fz199 : E.fz 199 = false := rfl
@[simp] theorem md200 : E.md 200 = [] := rfl
@[simp] theorem mv200 (t : Nat) : E.mv 200 t = false := rfl
@[simp] theorem fz200 : E.fz 200 = false := rfl
@[simp] theorem md201 : E.md 201 = [] := rfl
@[simp] theorem mv201 (t : Nat) : E.mv 201 t = false := rfl
@[simp] theorem fz201 : E.fz 201 = false := rfl
@[simp] theorem md202 : E.md 202 = [] := rfl
@[simp] theorem mv202 (t : Nat) : E.mv 202 t = false := rfl
@[simp] theorem fz202 : E.fz 202 = false := rfl
@[simp] theorem md203 : E.md 203 = [] := rfl
@[simp] theorem mv203 (t : Nat) : E.mv 203 t = false := rfl
@[simp] theorem fz203 : E.fz 203 = false := rfl
@[simp] theorem md204 : E.md 204 = [] := rfl
@[simp] theorem mv204 (t : Nat) : E.mv 204 t = false := rfl
@[simp] theorem fz204 : E.fz 204 = false := rfl
@[simp] theorem md205 : E.md 205 = [1000, 1002] := rfl
@[simp] theorem mv205 (t : Nat) : E.mv 205 t = false := rfl
@[simp] theorem fz205 : E.fz 205 = false := rfl
@[simp] theorem md206 : E.md 206 = [] := rfl
@[simp] theorem mv206 (t : Nat) : E.mv 206 t = false := rfl
@[simp] theorem fz206 : E.fz 206 = false := rfl
@[simp] theorem md207 : E.md 207 = [] := rfl
@[simp] theorem mv207 (t : Nat) : E.mv 207 t = (t == 9) := rfl
@[simp] theorem fz207 : E.fz 207 = false := rfl
@[simp] theorem md208 : E.md 208 = [] := rfl
@[simp] theorem mv208 (t : Nat) : E.mv 208 t = false := rfl
@[simp] theorem fz208 : E.fz 208 = false := rfl
@[simp] theorem md209 : E.md 209 = [] := rfl
@[simp] theorem mv209 (t : Nat) : E.mv 209 t = false := rfl
@[simp] theorem fz209 : E.fz 209 = false := rfl
@[simp] theorem md210 : E.md 210 = [] := rfl
@[simp] theorem mv210 (t : Nat) : E.mv 210 t = false := rfl
@[simp] theorem fz210 : E.fz 210 = false := rfl
@[simp] theorem md211 : E.md 211 = [] := rfl
@[simp] theorem mv211 (t : Nat) : E.mv 211 t = false := rfl
@[simp] theorem fz211 : E.fz 211 = false := rfl
@[simp] theorem md212 : E.md 212 = [] := rfl
@[simp] theorem mv212 (t : Nat) : E.mv 212 t = (t == 7) := rfl
@[simp] theorem fz212 : E.fz 212 = false := rfl
@[simp] theorem md213 : E.md 213 = [] := rfl
@[simp] theorem mv213 (t : Nat) : E.mv 213 t = false := rfl
@[simp] theorem fz213 : E.fz 213 = false := rfl
@[simp] theorem md214 : E.md 214 = [] := rfl
@[simp] theorem mv214 (t : Nat) : E.mv 214 t = false := rfl
@[simp] theorem fz214 : E.fz 214 = false := rfl
@[simp] theorem md215 : E.md 215 = [] := rfl
@[simp] theorem mv215 (t : Nat) : E.mv 215 t = false := rfl
@[simp] theorem fz215 : E.fz 215 = false := rfl
@[simp] theorem md216 : E.md 216 = [] := rfl
@[simp] theorem mv216 (t : Nat) : E.mv 216 t = false := rfl
@[simp] theorem fz216 : E.fz 216 = false := rfl
@[simp] theorem md217 : E.md 217 = [] := rfl
@[simp] theorem mv217 (t : Nat) : E.mv 217 t = false := rfl
@[simp] theorem fz217 : E.fz 217 = false := rfl
@[simp] theorem md218 : E.md 218 = [] := rfl
@[simp] theorem mv218 (t : Nat) : E.mv 218 t = false := rfl
@[simp] theorem fz218 : E.fz 218 = false := rfl
@[simp] theorem md219 : E.md 219 = [] := rfl
@[simp] theorem mv219 (t : Nat) : E.mv 219 t = false := rfl
@[simp] theorem fz219 : E.fz 219 = false := rfl
@[simp] theorem md220 : E.md 220 = [] := rfl
@[simp] theorem mv220 (t : Nat) : E.mv 220 t = false := rfl
@[simp] theorem fz220 : E.fz 220 = false := rfl
@[simp] theorem md221 : E.md 221 = [] := rfl
@[simp] theorem mv221 (t : Nat) : E.mv 221 t = false := rfl
@[simp] theorem fz221 : E.fz 221 = false := rfl
@[simp] theorem md222 : E.md 222 = [] := rfl
@[simp] theorem mv222 (t : Nat) : E.mv 222 t = false := rfl
@[simp] theorem fz222 : E.fz 222 = false := rfl
@[simp] theorem md223 : E.md 223 = [] := rfl
@[simp] theorem mv223 (t : Nat) : E.mv 223 t = (t == 5) := rfl
@[simp] theorem fz223 : E.fz 223 = false := rfl
@[simp] theorem md224 : E.md 224 = [] := rfl
@[simp] theorem mv224 (t : Nat) : E.mv 224 t = false := rfl
@[simp] theorem fz224 : E.fz 224 = false := rfl
@[simp] theorem md225 : E.md 225 = [] := rfl
@[simp] theorem mv225 (t : Nat) : E.mv 225 t = false := rfl
@[simp] theorem fz225 : E.fz 225 = false := rfl
@[simp] theorem md226 : E.md 226 = [] := rfl
@[simp] theorem mv226 (t : Nat) : E.mv 226 t = false := rfl
@[simp] theorem fz226 : E.fz 226 = false := rfl
@[simp] theorem md227 : E.md 227 = [] := rfl
@[simp] theorem mv227 (t : Nat) : E.mv 227 t = false := rfl
@[simp] theorem fz227 : E.fz 227 = false := rfl
@[simp] theorem md228 : E.md 228 = [] := rfl
@[simp] theorem mv228 (t : Nat) : E.mv 228 t = false := rfl
@[simp] theorem fz228 : E.fz 228 = false := rfl
@[simp] theorem md229 : E.md 229 = [] := rfl
@[simp] theorem mv229 (t : Nat) : E.mv 229 t = false := rfl
@[simp] theorem fz229 : E.fz 229 = false := rfl
@[simp] theorem md230 : E.md 230 = [] := rfl
@[simp] theorem mv230 (t : Nat) : E.mv 230 t = false := rfl
@[simp] theorem fz230 : E.fz 230 = false := rfl
@[simp] theorem md231 : E.md 231 = [] := rfl
@[simp] theorem mv231 (t : Nat) : E.mv 231 t = false := rfl
@[simp] theorem fz231 : E.fz 231 = false := rfl
@[simp] theorem md232 : E.md 232 = [] := rfl
@[simp] theorem mv232 (t : Nat) : E.mv 232 t = false := rfl
@[simp] theorem fz232 : E.fz 232 = false := rfl
@[simp] theorem md233 : E.md 233 = [] := rfl
@[simp] theorem mv233 (t : Nat) : E.mv 233 t = false := rfl
@[simp] theorem fz233 : E.fz 233 = false := rfl
@[simp] theorem md234 : E.md 234 = [] := rfl
@[simp] theorem mv234 (t : Nat) : E.mv 234 t = false := rfl
@[simp] theorem fz234 : E.fz 234 = false := rfl
@[simp] theorem md235 : E.md 235 = [] := rfl
@[simp] theorem mv235 (t : Nat) : E.mv 235 t = false := rfl
@[simp] theorem fz235 : E.fz 235 = false := rfl
@[simp] theorem md236 : E.md 236 = [] := rfl
@[simp] theorem mv236 (t : Nat) : E.mv 236 t = false := rfl
@[simp] theorem fz236 : E.fz 236 = false := rfl
@[simp] theorem md237 : E.md 237 = [] := rfl
@[simp] theorem mv237 (t : Nat) : E.mv 237 t = false := rfl
@[simp] theorem fz237 : E.fz 237 = false := rfl
@[simp] theorem md238 : E.md 238 = [] := rfl
@[simp] theorem mv238 (t : Nat) : E.mv 238 t = false := rfl
@[simp] theorem fz238 : E.fz 238 = false := rfl
@[simp] theorem md239 : E.md 239 = [] := rfl
@[simp] theorem mv239 (t : Nat) : E.mv 239 t = false := rfl
@[simp] theorem fz239 : E.fz 239 = false := rfl
@[simp] theorem md240 : E.md 240 = [] := rfl
@[simp] theorem mv240 (t : Nat) : E.mv 240 t = false := rfl
@[simp] theorem fz240 : E.fz 240 = false := rfl
@[simp] theorem md241 : E.md 241 = [] := rfl
@[simp] theorem mv241 (t : Nat) : E.mv 241 t = false := rfl
@[simp] theorem fz241 : E.fz 241 = false := rfl
@[simp] theorem md242 : E.md 242 = [] := rfl
@[simp] theorem mv242 (t : Nat) : E.mv 242 t = false := rfl
@[simp] theorem fz242 : E.fz 242 = false := rfl
@[simp] theorem md243 : E.md 243 = [] := rfl
@[simp] theorem mv243 (t : Nat) : E.mv 243 t = false := rfl
@[simp] theorem fz243 : E.fz 243 = false := rfl
@[simp] theorem md244 : E.md 244 = [] := rfl
@[simp] theorem mv244 (t : Nat) : E.mv 244 t = false := rfl
@[simp] theorem fz244 : E.fz 244 = false := rfl
@[simp] theorem md245 : E.md 245 = [] := rfl
@[simp] theorem mv245 (t : Nat) : E.mv 245 t = false := rfl
@[simp] theorem fz245 : E.fz 245 = false := rfl
@[simp] theorem md246 : E.md 246 = [] := rfl
@[simp] theorem mv246 (t : Nat) : E.mv 246 t = false := rfl
@[simp] theorem fz246 : E.fz 246 = false := rfl
@[simp] theorem md247 : E.md 247 = [] := rfl
@[simp] theorem mv247 (t : Nat) : E.mv 247 t = false := rfl
@[simp] theorem fz247 : E.fz 247 = false := rfl
@[simp] theorem md248 : E.md 248 = [] := rfl
@[simp] theorem mv248 (t : Nat) : E.mv 248 t = false := rfl
@[simp] theorem fz248 : E.fz 248 = false := rfl
@[simp] theorem md249 : E.md 249 = [] := rfl
@[simp] theorem mv249 (t : Nat) : E.mv 249 t = false := rfl
@[simp] theorem fz249 : E.fz 249 = false := rfl
@[simp] theorem md250 : E.md 250 = [] := rfl
@[simp] theorem mv250 (t : Nat) : E.mv 250 t = false := rfl
@[simp] theorem fz250 : E.fz 250 = false := rfl
@[simp] theorem md251 : E.md 251 = [] := rfl
@[simp] theorem mv251 (t : Nat) : E.mv 251 t = false := rfl
@[simp] theorem fz251 : E.fz 251 = false := rfl
@[simp] theorem md252 : E.md 252 = [] := rfl
@[simp] theorem mv252 (t : Nat) : E.mv 252 t = false := rfl
@[simp] theorem fz252 : E.fz 252 = false := rfl
@[simp] theorem md253 : E.md 253 = [] := rfl
@[simp] theorem mv253 (t : Nat) : E.mv 253 t = false := rfl
@[simp] theorem fz253 : E.fz 253 = false := rfl
@[simp] theorem md254 : E.md 254 = [] := rfl
@[simp] theorem mv254 (t : Nat) : E.mv 254 t = false := rfl
@[simp] theorem fz254 : E.fz 254 = false := rfl
@[simp] theorem md255 : E.md 255 = [] := rfl
@[simp] theorem mv255 (t : Nat) : E.mv 255 t = false := rfl
@[simp] theorem fz255 : E.fz 255 = false := rfl
@[simp] theorem md256 : E.md 256 = [] := rfl
@[simp] theorem mv256 (t : Nat) : E.mv 256 t = false := rfl
@[simp] theorem fz256 : E.fz 256 = false := rfl
@[simp] theorem md257 : E.md 257 = [] := rfl
@[simp] theorem mv257 (t : Nat) : E.mv 257 t = false := rfl
@[simp] theorem fz257 : E.fz 257 = false := rfl
@[simp] theorem md258 : E.md 258 = [] := rfl
@[simp] theorem mv258 (t : Nat) : E.mv 258 t = false := rfl
@[simp] theorem fz258 : E.fz 258 = false := rfl
@[simp] theorem md259 : E.md 259 = [0] := rfl
@[simp] theorem mv259 (t : Nat) : E.mv 259 t = false := rfl
@[simp] theorem fz259 : E.fz 259 = false := rfl
@[simp] theorem md260 : E.md 260 = [] := rfl
@[simp] theorem mv260 (t : Nat) : E.mv 260 t = false := rfl
@[simp] theorem fz260 : E.fz 260 = false := rfl
@[simp] theorem md261 : E.md 261 = [] := rfl
@[simp] theorem mv261 (t : Nat) : E.mv 261 t = false := rfl
@[simp] theorem fz261 : E.fz 261 = false := rfl
@[simp] theorem md262 : E.md 262 = [] := rfl
@[simp] theorem mv262 (t : Nat) : E.mv 262 t = false := rfl
@[simp] theorem fz262 : E.fz 262 = false := rfl
@[simp] theorem md263 : E.md 263 = [] := rfl
@[simp] theorem mv263 (t : Nat) : E.mv 263 t = false := rfl
@[simp] theorem fz263 : E.fz 263 = false := rfl
@[simp] theorem md264 : E.md 264 = [] := rfl
@[simp] theorem mv264 (t : Nat) : E.mv 264 t = false := rfl
@[simp] theorem fz264 : E.fz 264 = false := rfl
@[simp] theorem md265 : E.md 265 = [] := rfl
@[simp] theorem mv265 (t : Nat) : E.mv 265 t = false := rfl
@[simp] theorem fz265 : E.fz 265 = false := rfl
@[simp] theorem md266 : E.md 266 = [] := rfl
@[simp] theorem mv266 (t : Nat) : E.mv 266 t = false := rfl
@[simp] theorem fz266 : E.fz 266 = false := rfl
@[simp] theorem md267 : E.md 267 = [] := rfl
@[simp] theorem mv267 (t : Nat) : E.mv 267 t = false := rfl
@[simp] theorem fz267 : E.fz 267 = false := rfl
@[simp] theorem md268 : E.md 268 = [] := rfl
@[simp] theorem mv268 (t : Nat) : E.mv 268 t = false := rfl
@[simp] theorem fz268 : E.fz 268 = false := rfl
@[simp] theorem md269 : E.md 269 = [] := rfl
@[simp] theorem mv269 (t : Nat) : E.mv 269 t = false := rfl
@[simp] theorem fz269 : E.fz 269 = false := rfl
@[simp] theorem md270 : E.md 270 = [] := rfl
@[simp] theorem mv270 (t : Nat) : E.mv 270 t = false := rfl
@[simp] theorem fz270 : E.fz 270 = false := rfl
@[simp] theorem md271 : E.md 271 = [] := rfl
@[simp] theorem mv271 (t : Nat) : E.mv 271 t = false := rfl
@[simp] theorem fz271 : E.fz 271 = false := rfl
@[simp] theorem md272 : E.md 272 = [] := rfl
@[simp] theorem mv272 (t : Nat) : E.mv 272 t = false := rfl
@[simp] theorem fz272 : E.fz 272 = false := rfl
@[simp] theorem md273 : E.md 273 = [] := rfl
@[simp] theorem mv273 (t : Nat) : E.mv 273 t = false := rfl
@[simp] theorem fz273 : E.fz 273 = false := rfl
@[simp] theorem md274 : E.md 274 = [] := rfl
@[simp] theorem mv274 (t : Nat) : E.mv 274 t = false := rfl
@[simp] theorem fz274 : E.fz 274 = false := rfl
@[simp] theorem md275 : E.md 275 = [] := rfl
@[simp] theorem mv275 (t : Nat) : E.mv 275 t = false := rfl
@[simp] theorem fz275 : E.fz 275 = false := rfl
@[simp] theorem md276 : E.md 276 = [] := rfl
@[simp] theorem mv276 (t : Nat) : E.mv 276 t = false := rfl
@[simp] theorem fz276 : E.fz 276 = false := rfl
@[simp] theorem md277 : E.md 277 = [] := rfl
@[simp] theorem mv277 (t : Nat) : E.mv 277 t = false := rfl
@[simp] theorem fz277 : E.fz 277 = false := rfl
@[simp] theorem md278 : E.md 278 = [] := rfl
@[simp] theorem mv278 (t : Nat) : E.mv 278 t = false := rfl
@[simp] theorem fz278 : E.fz 278 = false := rfl
@[simp] theorem md279 : E.md 279 = [] := rfl
@[simp] theorem mv279 (t : Nat) : E.mv 279 t = false := rfl
@[simp] theorem fz279 : E.fz 279 = false := rfl
@[simp] theorem md280 : E.md 280 = [] := rfl
@[simp] theorem mv280 (t : Nat) : E.mv 280 t = false := rfl
@[simp] theorem fz280 : E.fz 280 = false := rfl
@[simp] theorem md281 : E.md 281 = [] := rfl
@[simp] theorem mv281 (t : Nat) : E.mv 281 t = false := rfl
@[simp] theorem fz281 : E.fz 281 = false := rfl
@[simp] theorem md282 : E.md 282 = [] := rfl
@[simp] theorem mv282 (t : Nat) : E.mv 282 t = false := rfl
@[simp] theorem fz282 : E.fz 282 = false := rfl
@[simp] theorem md283 : E.md 283 = [] := rfl
@[simp] theorem mv283 (t : Nat) : E.mv 283 t = false := rfl
@[simp] theorem fz283 : E.fz 283 = false := rfl
@[simp] theorem md284 : E.md 284 = [] := rfl
@[simp] theorem mv284 (t : Nat) : E.mv 284 t = false := rfl
@[simp] theorem fz284 : E.fz 284 = false := rfl
@[simp] theorem md285 : E.md 285 = [] := rfl
@[simp] theorem mv285 (t : Nat) : E.mv 285 t = false := rfl
@[simp] theorem fz285 : E.fz 285 = false := rfl
@[simp] theorem md286 : E.md 286 = [] := rfl
@[simp] theorem mv286 (t : Nat) : E.mv 286 t = false := rfl
@[simp] theorem fz286 : E.fz 286 = false := rfl
@[simp] theorem md287 : E.md 287 = [] := rfl
@[simp] theorem mv287 (t : Nat) : E.mv 287 t = false := rfl
@[simp] theorem fz287 : E.fz 287 = false := rfl
@[simp] theorem md288 : E.md 288 = [] := rfl
@[simp] theorem mv288 (t : Nat) : E.mv 288 t = false := rfl
@[simp] theorem fz288 : E.fz 288 = false := rfl
@[simp] theorem md289 : E.md 289 = [] := rfl
@[simp] theorem mv289 (t : Nat) : E.mv 289 t = false := rfl
@[simp] theorem fz289 : E.fz 289 = false := rfl
@[simp] theorem md290 : E.md 290 = [] := rfl
@[simp] theorem mv290 (t : Nat) : E.mv 290 t = false := rfl
@[simp] theorem fz290 : E.fz 290 = false := rfl
@[simp] theorem md291 : E.md 291 = [] := rfl
@[simp] theorem mv291 (t : Nat) : E.mv 291 t = false := rfl
@[simp] theorem fz291 : E.fz 291 = false := rfl
@[simp] theorem md292 : E.md 292 = [] := rfl
@[simp] theorem mv292 (t : Nat) : E.mv 292 t = false := rfl
@[simp] theorem fz292 : E.fz 292 = false := rfl
@[simp] theorem md293 : E.md 293 = [] := rfl
@[simp] theorem mv293 (t : Nat) : E.mv 293 t = false := rfl
@[simp] theorem fz293 : E.fz 293 = false := rfl
@[simp] theorem md294 : E.md 294 = [] := rfl
@[simp] theorem mv294 (t : Nat) : E.mv 294 t = false := rfl
@[simp] theorem fz294 : E.fz 294 = false := rfl
@[simp] theorem md295 : E.md 295 = [] := rfl
@[simp] theorem mv295 (t : Nat) : E.mv 295 t = false := rfl
@[simp] theorem fz295 : E.fz 295 = false := rfl
@[simp] theorem md296 : E.md 296 = [] := rfl
@[simp] theorem mv296 (t : Nat) : E.mv 296 t = false := rfl
@[simp] theorem fz296 : E.fz 296 = false := rfl
@[simp] theorem md297 : E.md 297 = [] := rfl
@[simp] theorem mv297 (t : Nat) : E.mv 297 t = false := rfl
@[simp] theorem fz297 : E.fz 297 = false := rfl
@[simp] theorem md298 : E.md 298 = [] := rfl
@[simp] theorem mv298 (t : Nat) : E.mv 298 t = false := rfl
@[simp] theorem fz298 : E.fz 298 = false := rfl
@[simp] theorem md299 : E.md 299 = [] := rfl
@[simp] theorem mv299 (t : Nat) : E.mv 299 t = false := rfl
@[simp] theorem fz299 : E.fz 299 = false := rfl
@[simp] theorem md300 : E.md 300 = [] := rfl
@[simp] theorem mv300 (t : Nat) : E.mv 300 t = false := rfl
@[simp] theorem fz300 : E.fz 300 = false := rfl
@[simp] theorem md301 : E.md 301 = [] := rfl
@[simp] theorem mv301 (t : Nat) : E.mv 301 t = false := rfl
@[simp] theorem fz301 : E.fz 301 = false := rfl
@[simp] theorem md302 : E.md 302 = [] := rfl
@[simp] theorem mv302 (t : Nat) : E.mv 302 t = false := rfl
@[simp] theorem fz302 : E.fz 302 = false := rfl
@[simp] theorem md303 : E.md 303 = [] := rfl
@[simp] theorem mv303 (t : Nat) : E.mv 303 t = false := rfl
@[simp] theorem fz303 : E.fz 303 = false := rfl
@[simp] theorem md304 : E.md 304 = [] := rfl
@[simp] theorem mv304 (t : Nat) : E.mv 304 t = false := rfl
@[simp] theorem fz304 : E.fz 304 = false := rfl
@[simp] theorem md305 : E.md 305 = [] := rfl
@[simp] theorem mv305 (t : Nat) : E.mv 305 t = false := rfl
@[simp] theorem fz305 : E.fz 305 = false := rfl
@[simp] theorem md306 : E.md 306 = [] := rfl
@[simp] theorem mv306 (t : Nat) : E.mv 306 t = false := rfl
@[simp] theorem fz306 : E.fz 306 = false := rfl
@[simp] theorem md307 : E.md 307 = [] := rfl
@[simp] theorem mv307 (t : Nat) : E.mv 307 t = false := rfl
@[simp] theorem fz307 : E.fz 307 = false := rfl
@[simp] theorem md308 : E.md 308 = [] := rfl
@[simp] theorem mv308 (t : Nat) : E.mv 308 t = false := rfl
@[simp] theorem fz308 : E.fz 308 = false := rfl
@[simp] theorem md309 : E.md 309 = [] := rfl
@[simp] theorem mv309 (t : Nat) : E.mv 309 t = false := rfl
@[simp] theorem fz309 : E.fz 309 = false := rfl
@[simp] theorem md310 : E.md 310 = [] := rfl
@[simp] theorem mv310 (t : Nat) : E.mv 310 t = false := rfl
@[simp] theorem fz310 : E.fz 310 = false := rfl
@[simp] theorem md311 : E.md 311 = [] := rfl
@[simp] theorem mv311 (t : Nat) : E.mv 311 t = false := rfl
@[simp] theorem fz311 : E.fz 311 = false := rfl
@[simp] theorem md312 : E.md 312 = [] := rfl
@[simp] theorem mv312 (t : Nat) : E.mv 312 t = false := rfl
@[simp] theorem fz312 : E.fz 312 = false := rfl
@[simp] theorem md313 : E.md 313 = [] := rfl
@[simp] theorem mv313 (t : Nat) : E.mv 313 t = false := rfl
@[simp] theorem fz313 : E.fz 313 = false := rfl
@[simp] theorem md314 : E.md 314 = [] := rfl
@[simp] theorem mv314 (t : Nat) : E.mv 314 t = false := rfl
@[simp] theorem fz314 : E.fz 314 = false := rfl
@[simp] theorem md315 : E.md 315 = [] := rfl
@[simp] theorem mv315 (t : Nat) : E.mv 315 t = false := rfl
@[simp] theorem fz315 : E.fz 315 = false := rfl
@[simp] theorem md316 : E.md 316 = [] := rfl
@[simp] theorem mv316 (t : Nat) : E.mv 316 t = false := rfl
@[simp] theorem fz316 : E.fz 316 = false := rfl
@[simp] theorem md317 : E.md 317 = [] := rfl
@[simp] theorem mv317 (t : Nat) : E.mv 317 t = false := rfl
@[simp] theorem fz317 : E.fz 317 = false := rfl
@[simp] theorem md318 : E.md 318 = [] := rfl
@[simp] theorem mv318 (t : Nat) : E.mv 318 t = false := rfl
@[simp] theorem fz318 : E.fz 318 = false := rfl
@[simp] theorem md319 : E.md 319 = [] := rfl
@[simp] theorem mv319 (t : Nat) : E.mv 319 t = false := rfl
@[simp] theorem fz319 : E.fz 319 = false := rfl
@[simp] theorem md320 : E.md 320 = [] := rfl
@[simp] theorem mv320 (t : Nat) : E.mv 320 t = false := rfl
@[simp] theorem fz320 : E.fz 320 = false := rfl
@[simp] theorem md321 : E.md 321 = [] := rfl
@[simp] theorem mv321 (t : Nat) : E.mv 321 t = false := rfl
@[simp] theorem fz321 : E.fz 321 = false := rfl
@[simp] theorem md322 : E.md 322 = [] := rfl
@[simp] theorem mv322 (t : Nat) : E.mv 322 t = (t == 2) := rfl
@[simp] theorem fz322 : E.fz 322 = false := rfl
@[simp] theorem md323 : E.md 323 = [] := rfl
@[simp] theorem mv323 (t : Nat) : E.mv 323 t = false := rfl
@[simp] theorem fz323 : E.fz 323 = false := rfl
@[simp] theorem md324 : E.md 324 = [] := rfl
@[simp] theorem mv324 (t : Nat) : E.mv 324 t = false := rfl
@[simp] theorem fz324 : E.fz 324 = false := rfl
@[simp] theorem md325 : E.md 325 = [] := rfl
@[simp] theorem mv325 (t : Nat) : E.mv 325 t = false := rfl
@[simp] theorem fz325 : E.fz 325 = false := rfl
@[simp] theorem md326 : E.md 326 = [] := rfl
@[simp] theorem mv326 (t : Nat) : E.mv 326 t = false := rfl
@[simp] theorem fz326 : E.fz 326 = false := rfl
@[simp] theorem md327 : E.md 327 = [] := rfl
@[simp] theorem mv327 (t : Nat) : E.mv 327 t = false := rfl
@[simp] theorem fz327 : E.fz 327 = false := rfl
@[simp] theorem md328 : E.md 328 = [] := rfl
@[simp] theorem mv328 (t : Nat) : E.mv 328 t = false := rfl
@[simp] theorem fz328 : E.fz 328 = false := rfl
@[simp] theorem md329 : E.md 329 = [] := rfl
@[simp] theorem mv329 (t : Nat) : E.mv 329 t = false := rfl
@[simp] theorem fz329 : E.fz 329 = false := rfl
@[simp] theorem md330 : E.md 330 = [] := rfl
@[simp] theorem mv330 (t : Nat) : E.mv 330 t = false := rfl
@[simp] theorem fz330 : E.fz 330 = false := rfl
@[simp] theorem md331 : E.md 331 = [] := rfl
@[simp] theorem mv331 (t : Nat) : E.mv 331 t = false := rfl
@[simp] theorem fz331 : E.fz 331 = false := rfl
@[simp] theorem md332 : E.md 332 = [] := rfl
@[simp] theorem mv332 (t : Nat) : E.mv 332 t = false := rfl
@[simp] theorem fz332 : E.fz 332 = false := rfl
@[simp] theorem md333 : E.md 333 = [] := rfl
@[simp] theorem mv333 (t : Nat) : E.mv 333 t = false := rfl
@[simp] theorem fz333 : E.fz 333 = false := rfl
@[simp] theorem md334 : E.md 334 = [] := rfl
@[simp] theorem mv334 (t : Nat) : E.mv 334 t = false := rfl
@[simp] theorem fz334 : E.fz 334 = false := rfl
@[simp] theorem md335 : E.md 335 = [] := rfl
@[simp] theorem mv335 (t : Nat) : E.mv 335 t = false := rfl
@[simp] theorem fz335 : E.fz 335 = false := rfl
@[simp] theorem md336 : E.md 336 = [] := rfl
@[simp] theorem mv336 (t : Nat) : E.mv 336 t = false := rfl
@[simp] theorem fz336 : E.fz 336 = false := rfl
@[simp] theorem md337 : E.md 337 = [] := rfl
@[simp] theorem mv337 (t : Nat) : E.mv 337 t = false := rfl
@[simp] theorem fz337 : E.fz 337 = false := rfl
@[simp] theorem md338 : E.md 338 = [] := rfl
@[simp] theorem mv338 (t : Nat) : E.mv 338 t = false := rfl
@[simp] theorem fz338 : E.fz 338 = false := rfl
@[simp] theorem md339 : E.md 339 = [] := rfl
@[simp] theorem mv339 (t : Nat) : E.mv 339 t = false := rfl
@[simp] theorem fz339 : E.fz 339 = false := rfl
@[simp] theorem md340 : E.md 340 = [] := rfl
@[simp] theorem mv340 (t : Nat) : E.mv 340 t = false := rfl
@[simp] theorem fz340 : E.fz 340 = false := rfl
@[simp] theorem md341 : E.md 341 = [] := rfl
@[simp] theorem mv341 (t : Nat) : E.mv 341 t = false := rfl
@[simp] theorem fz341 : E.fz 341 = false := rfl
@[simp] theorem md342 : E.md 342 = [] := rfl
@[simp] theorem mv342 (t : Nat) : E.mv 342 t = false := rfl
@[simp] theorem fz342 : E.fz 342 = false := rfl
@[simp] theorem md343 : E.md 343 = [] := rfl
@[simp] theorem mv343 (t : Nat) : E.mv 343 t = false := rfl
@[simp] theorem fz343 : E.fz 343 = false := rfl
@[simp] theorem md344 : E.md 344 = [] := rfl
@[simp] theorem mv344 (t : Nat) : E.mv 344 t = false := rfl
@[simp] theorem fz344 : E.fz 344 = false := rfl
@[simp] theorem md345 : E.md 345 = [] := rfl
@[simp] theorem mv345 (t : Nat) : E.mv 345 t = false := rfl
@[simp] theorem fz345 : E.fz 345 = false := rfl
@[simp] theorem md346 : E.md 346 = [] := rfl
@[simp] theorem mv346 (t : Nat) : E.mv 346 t = false := rfl
@[simp] theorem fz346 : E.fz 346 = false := rfl
@[simp] theorem md347 : E.md 347 = [] := rfl
@[simp] theorem mv347 (t : Nat) : E.mv 347 t = false := rfl
@[simp] theorem fz347 : E.fz 347 = false := rfl
@[simp] theorem md348 : E.md 348 = [] := rfl
@[simp] theorem mv348 (t : Nat) : E.mv 348 t = false := rfl
@[simp] theorem fz348 : E.fz 348 = false := rfl
@[simp] theorem md349 : E.md 349 = [] := rfl
@[simp] theorem mv349 (t : Nat) : E.mv 349 t = false := rfl
@[simp] theorem fz349 : E.fz 349 = false := rfl
@[simp] theorem md350 : E.md 350 = [] := rfl
@[simp] theorem mv350 (t : Nat) : E.mv 350 t = false := rfl
@[simp] theorem fz350 : E.fz 350 = false := rfl
@[simp] theorem md351 : E.md 351 = [] := rfl
@[simp] theorem mv351 (t : Nat) : E.mv 351 t = false := rfl
@[simp] theorem fz351 : E.fz 351 = false := rfl
@[simp] theorem md352 : E.md 352 = [] := rfl
@[simp] theorem mv352 (t : Nat) : E.mv 352 t = false := rfl
@[simp] theorem fz352 : E.fz 352 = false := rfl
@[simp] theorem md353 : E.md 353 = [] := rfl
@[simp] theorem mv353 (t : Nat) : E.mv 353 t = false := rfl
@[simp] theorem fz353 : E.fz 353 = false := rfl
@[simp] theorem md354 : E.md 354 = [] := rfl
@[simp] theorem mv354 (t : Nat) : E.mv 354 t = false := rfl
@[simp] theorem fz354 : E.fz 354 = false := rfl
@[simp] theorem md355 : E.md 355 = [] := rfl
@[simp] theorem mv355 (t : Nat) : E.mv 355 t = false := rfl
@[simp] theorem fz355 : E.fz 355 = false := rfl
@[simp] theorem md356 : E.md 356 = [] := rfl
@[simp] theorem mv356 (t : Nat) : E.mv 356 t = false := rfl
@[simp] theorem fz356 : E.fz 356 = false := rfl
@[simp] theorem md357 : E.md 357 = [] := rfl
@[simp] theorem mv357 (t : Nat) : E.mv 357 t = false := rfl
@[simp] theorem fz357 : E.fz 357 = false := rfl
@[simp] theorem md358 : E.md 358 = [] := rfl
@[simp] theorem mv358 (t : Nat) : E.mv 358 t = false := rfl
@[simp] theorem fz358 : E.fz 358 = false := rfl
@[simp] theorem md359 : E.md 359 = [] := rfl
@[simp] theorem mv359 (t : Nat) : E.mv 359 t = false := rfl
@[simp] theorem fz359 : E.fz 359 = false := rfl
@[simp] theorem md360 : E.md 360 = [] := rfl
@[simp] theorem mv360 (t : Nat) : E.mv 360 t = false := rfl
@[simp] theorem fz360 : E.fz 360 = false := rfl
@[simp] theorem md361 : E.md 361 = [] := rfl
@[simp] theorem mv361 (t : Nat) : E.mv 361 t = false := rfl
@[simp] theorem fz361 : E.fz 361 = false := rfl
@[simp] theorem md362 : E.md 362 = [] := rfl
@[simp] theorem mv362 (t : Nat) : E.mv 362 t = false := rfl
@[simp] theorem fz362 : E.fz 362 = false := rfl
@[simp] theorem md363 : E.md 363 = [] := rfl
@[simp] theorem mv363 (t : Nat) : E.mv 363 t = false := rfl
@[simp] theorem fz363 : E.fz 363 = false := rfl
theorem ext265 : E.ext 265 = some extIndexByte := rfl
theorem ext259 : E.ext 259 = some extSort := rfl
theorem ext138 : E.ext 138 = some extItoaT := rfl
theorem tab10_of {rest : List (String × Go.DataW Unit)} {W : Go.World} (h : Go.laidMet Tryz.prog (("internal/strconv.uint64pow10", Go.Lib.tabData .u64 Go.Lib.pow10Tab) :: rest) W) : tab10 Tryz.prog W :=
  Go.Lib.tabIs_of_head (g := 1) (t := (Tryz.prog.globals[1]!).type) (e := 251) (n := 20) (by kernel_rfl) (by kernel_rfl) (by kernel_rfl) (by kernel_rfl) (by kernel_rfl) (by kernel_rfl) h
theorem extFn : ∀ f g args res, E.ext f = some g → g args = some res → FunOk E.P E.kn (E.md f) f args res ∧ resPlain res.1 = true := fun f g args res h hg => by
  simp only [E, extT] at h
  by_cases h265 : f = 265
  · subst h265
    obtain rfl := Option.some.inj h
    exact ext_indexByte (P := Tryz.prog) Tryz.func265 rfl rfl (by kernel_rfl) (by kernel_rfl) hg
  rw [if_neg h265] at h
  by_cases h259 : f = 259
  · subst h259
    obtain rfl := Option.some.inj h
    exact ext_sort sortLays hg
  rw [if_neg h259] at h
  by_cases h138 : f = 138
  · subst h138
    obtain rfl := Option.some.inj h
    exact ext_itoaT lays138 hg
  rw [if_neg h138] at h
  cases h
theorem wraps : ∀ f q, wrapOf (E.md f) = some q → WrapTo E.P f q.2.1 q.2.2 := fun f q h => by
  have h' : wrapOf (mdT f) = some q := h
  unfold mdT at h'
  by_cases h142 : f = 142
  · rw [if_pos h142] at h'
    cases h'
  rw [if_neg h142] at h'
  by_cases h82 : f = 82
  · rw [if_pos h82] at h'
    cases h'
  rw [if_neg h82] at h'
  by_cases h125 : f = 125
  · rw [if_pos h125] at h'
    cases h'
  rw [if_neg h125] at h'
  by_cases h124 : f = 124
  · rw [if_pos h124] at h'
    cases h'
  rw [if_neg h124] at h'
  by_cases h170 : f = 170
  · rw [if_pos h170] at h'
    cases h'
  rw [if_neg h170] at h'
  by_cases h116 : f = 116
  · rw [if_pos h116] at h'
    cases h'
  rw [if_neg h116] at h'
  by_cases h144 : f = 144
  · rw [if_pos h144] at h'
    cases h'
  rw [if_neg h144] at h'
  by_cases h69 : f = 69
  · rw [if_pos h69] at h'
    cases h'
  rw [if_neg h69] at h'
  by_cases h94 : f = 94
  · rw [if_pos h94] at h'
    cases h'
  rw [if_neg h94] at h'
  by_cases h97 : f = 97
  · rw [if_pos h97] at h'
    cases h'
  rw [if_neg h97] at h'
  by_cases h47 : f = 47
  · rw [if_pos h47] at h'
    cases h'
  rw [if_neg h47] at h'
  by_cases h104 : f = 104
  · rw [if_pos h104] at h'
    cases h'
  rw [if_neg h104] at h'
  by_cases h61 : f = 61
  · rw [if_pos h61] at h'
    cases h'
  rw [if_neg h61] at h'
  by_cases h143 : f = 143
  · rw [if_pos h143] at h'
    cases h'
  rw [if_neg h143] at h'
  by_cases h83 : f = 83
  · rw [if_pos h83] at h'
    cases h'
  rw [if_neg h83] at h'
  by_cases h84 : f = 84
  · rw [if_pos h84] at h'
    cases h'
  rw [if_neg h84] at h'
  by_cases h85 : f = 85
  · rw [if_pos h85] at h'
    cases h'
  rw [if_neg h85] at h'
  by_cases h197 : f = 197
  · rw [if_pos h197] at h'
    cases h'
  rw [if_neg h197] at h'
  by_cases h198 : f = 198
  · rw [if_pos h198] at h'
    cases h'
  rw [if_neg h198] at h'
  by_cases h59 : f = 59
  · rw [if_pos h59] at h'
    cases h'
  rw [if_neg h59] at h'
  by_cases h79 : f = 79
  · rw [if_pos h79] at h'
    cases h'
  rw [if_neg h79] at h'
  by_cases h68 : f = 68
  · rw [if_pos h68] at h'
    cases h'
  rw [if_neg h68] at h'
  by_cases h205 : f = 205
  · rw [if_pos h205] at h'
    cases h'
  rw [if_neg h205] at h'
  by_cases h259 : f = 259
  · rw [if_pos h259] at h'
    cases h'
  rw [if_neg h259] at h'
  by_cases h159 : f = 159
  · rw [if_pos h159] at h'
    cases h'
  rw [if_neg h159] at h'
  by_cases h139 : f = 139
  · rw [if_pos h139] at h'
    cases h'
  rw [if_neg h139] at h'
  by_cases h78 : f = 78
  · rw [if_pos h78] at h'
    cases h'
  rw [if_neg h78] at h'
  by_cases h88 : f = 88
  · rw [if_pos h88] at h'
    cases h'
  rw [if_neg h88] at h'
  cases h'
theorem extOk : ExtOk E := ⟨extFn, wraps⟩
end Go.Proofs.YtomeglmblhfafaaGreatDoor
