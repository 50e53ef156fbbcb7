/- Part of the proofs that laws of censuslaw24 return true for every input, where the tables that the rows list are laid. Texts: Shelf, Maps, KeyL, Key, Bld, BldL, InAdd, Sort, NetOf. -/
import Derived.Shelf.Strings.Builder1
import Derived.Shelf.Small.Bits
import Derived.Shelf.Strings.BuilderF
import Derived.Shelf.Strings.BuilderK
import Derived.Shelf.Strconv.Itoa0
import Derived.Shelf.Strconv.Itoa1
import Derived.Shelf.LaysM
import Derived.Shelf.Strconv.Itoa2
import Derived.Shelf.Strconv.Itoa3
import Derived.Shelf.Sort.Plain
import Derived.Shelf.Strconv.AppendUint10
import Derived.Shelf.Strconv.AppendInt10
import Derived.Shelf.Strconv.AppendIntPublic10
import Derived.Shelf.Slices.Equal
import Derived.Ground.Names2Prog
import Derived.Shelf.Slices.CompactI
import Derived.Test.YtkaojolofaanfaaGreatDoorProg
import Derived.Test.YtkaojolofaanfaaGreatDoorYA2
import Derived.Maps.OwnOps
import Derived.Maps.OwnSet
import Derived.Test.YtkaojolofaanfaaGreatDoorYA1
import Derived.Lib.ItoaNum
import Derived.Lib.AppendStr
import Derived.Deep.AppendLies
import Derived.Deep.RegionLaw
import Derived.StillTailTactics
import Derived.Sort.OwnSortedInts
set_option maxHeartbeats 8000000
set_option maxRecDepth 100000
set_option linter.unusedSimpArgs false
set_option linter.unusedVariables false
namespace Go.Proofs
open Go.Shelf
open Go.RowKit in
open Go.RowKit in
open Go.RowKit in
def Tryz.lays125_ren : Go.Shelf.Ren := ⟨fun | 125 => 195 | 128 => 226 | 129 => 227 | n => n, fun | 46 => 87 | 3 => 3 | 51 => 100 | 53 => 52 | 4 => 4 | 5 => 5 | 9 => 9 | n => n, fun | n => n⟩
theorem Tryz.lays125 : Go.Proofs.Lays.n125 Tryz.prog Tryz.lays125_ren := {
 mixed := by kernel_rfl
 f125 := Tryz.func195.trans (congrArg some (by kernel_rfl))
 f128 := Tryz.func226.trans (congrArg some (by kernel_rfl))
 f129 := Tryz.func227.trans (congrArg some (by kernel_rfl))
 t3 := Tryz.underlying3
 a3 := Tryz.isAgg3
 z3 := Tryz.sizeOf3
 v3 := Tryz.zeroValue3
 t4 := Tryz.underlying4
 a4 := Tryz.isAgg4
 z4 := Tryz.sizeOf4
 v4 := Tryz.zeroValue4
 t5 := Tryz.underlying5
 a5 := Tryz.isAgg5
 z5 := Tryz.sizeOf5
 v5 := Tryz.zeroValue5
 t9 := Tryz.underlying9
 a9 := Tryz.isAgg9
 z9 := Tryz.sizeOf9
 v9 := Tryz.zeroValue9
 t46 := Tryz.underlying87
 a46 := Tryz.isAgg87
 z46 := Tryz.sizeOf87
 v46 := Tryz.zeroValue87
 t51 := Tryz.underlying100
 a51 := Tryz.isAgg100
 z51 := Tryz.sizeOf100
 v51 := Tryz.zeroValue100
 t53 := Tryz.underlying52
 a53 := Tryz.isAgg52
 z53 := Tryz.sizeOf52
 v53 := Tryz.zeroValue52 }
theorem Tryz.bits_Len (x : Int) (w : World) (h0 : 0 <= x) (h1 : x <= 18446744073709551615) :
 Calls Tryz.prog 195 #[.int .u64 x] w fun e w' => e = .returned (.int .i64 (Lib.bitLen x.toNat)) /\ w' = w := Any.bits_Len Tryz.lays125 x w h0 h1
open Go.RowKit in
open Go.RowKit in
open Go.RowKit in
open Go.RowKit in
open Go.RowKit in
open Go.RowKit in
open Go.Lib in
open Go.Lib in
open Go.Lib in
open Go.Lib in
open Go.RowKit Go.Sort Go.Lib in
def Tryz.laysM246_ren : Go.Shelf.Ren := ⟨fun | 246 => 277 | 283 => 258 | 284 => 259 | 285 => 260 | 286 => 261 | 129 => 227 | 317 => 272 | 318 => 273 | 319 => 274 | 320 => 275 | 337 => 280 | 338 => 207 | n => n, fun | 2 => 2 | 3 => 3 | 9 => 9 | 4 => 4 | 171 => 258 | 0 => 0 | 53 => 52 | 37 => 154 | 5 => 5 | 173 => 260 | 212 => 271 | 51 => 100 | 20 => 20 | 213 => 272 | 46 => 87 | 232 => 278 | 233 => 222 | n => n, fun | 17 => 1 | 18 => 2 | 19 => 0 | n => n⟩
open Go.RowKit Go.Sort Go.Lib in
open Go.RowKit Go.Sort Go.Lib in
open Go.RowKit Go.Sort Go.Lib in
open Go.RowKit Go.Sort Go.Lib in
open Go.RowKit Go.Sort Go.Lib in
open Go.RowKit Go.Sort Go.Lib in
def Tryz.lays189_ren : Go.Shelf.Ren := ⟨fun | 189 => 150 | 125 => 195 | 257 => 194 | 128 => 226 | 129 => 227 | 294 => 217 | 295 => 218 | 296 => 219 | 297 => 220 | 298 => 221 | 299 => 222 | 216 => 223 | 300 => 224 | 301 => 225 | 328 => 235 | 329 => 236 | 330 => 237 | 331 => 238 | 332 => 239 | 215 => 240 | 343 => 257 | n => n, fun | 28 => 40 | 3 => 3 | 46 => 87 | 0 => 0 | 51 => 100 | 53 => 52 | 4 => 4 | 183 => 216 | 182 => 215 | 131 => 198 | 5 => 5 | 9 => 9 | 218 => 230 | 222 => 234 | 228 => 255 | 229 => 256 | n => n, fun | n => n⟩
theorem Tryz.lays189 : Go.Proofs.Lays.n189 Tryz.prog Tryz.lays189_ren := {
 mixed := by kernel_rfl
 f125 := Tryz.func195.trans (congrArg some (by kernel_rfl))
 f128 := Tryz.func226.trans (congrArg some (by kernel_rfl))
 f129 := Tryz.func227.trans (congrArg some (by kernel_rfl))
 f189 := Tryz.func150.trans (congrArg some (by kernel_rfl))
 f215 := Tryz.func240.trans (congrArg some (by kernel_rfl))
 f216 := Tryz.func223.trans (congrArg some (by kernel_rfl))
 f257 := Tryz.func194.trans (congrArg some (by kernel_rfl))
 f294 := Tryz.func217.trans (congrArg some (by kernel_rfl))
 f295 := Tryz.func218.trans (congrArg some (by kernel_rfl))
 f296 := Tryz.func219.trans (congrArg some (by kernel_rfl))
 f297 := Tryz.func220.trans (congrArg some (by kernel_rfl))
 f298 := Tryz.func221.trans (congrArg some (by kernel_rfl))
 f299 := Tryz.func222.trans (congrArg some (by kernel_rfl))
 f300 := Tryz.func224.trans (congrArg some (by kernel_rfl))
 f301 := Tryz.func225.trans (congrArg some (by kernel_rfl))
 f328 := Tryz.func235.trans (congrArg some (by kernel_rfl))
 f329 := Tryz.func236.trans (congrArg some (by kernel_rfl))
 f330 := Tryz.func237.trans (congrArg some (by kernel_rfl))
 f331 := Tryz.func238.trans (congrArg some (by kernel_rfl))
 f332 := Tryz.func239.trans (congrArg some (by kernel_rfl))
 f343 := Tryz.func257.trans (congrArg some (by kernel_rfl))
 t0 := Tryz.underlying0
 a0 := Tryz.isAgg0
 z0 := Tryz.sizeOf0
 v0 := Tryz.zeroValue0
 t3 := Tryz.underlying3
 a3 := Tryz.isAgg3
 z3 := Tryz.sizeOf3
 v3 := Tryz.zeroValue3
 t4 := Tryz.underlying4
 a4 := Tryz.isAgg4
 z4 := Tryz.sizeOf4
 v4 := Tryz.zeroValue4
 t5 := Tryz.underlying5
 a5 := Tryz.isAgg5
 z5 := Tryz.sizeOf5
 v5 := Tryz.zeroValue5
 t9 := Tryz.underlying9
 a9 := Tryz.isAgg9
 z9 := Tryz.sizeOf9
 v9 := Tryz.zeroValue9
 t28 := Tryz.underlying40
 a28 := Tryz.isAgg40
 z28 := Tryz.sizeOf40
 v28 := Tryz.zeroValue40
 t46 := Tryz.underlying87
 a46 := Tryz.isAgg87
 z46 := Tryz.sizeOf87
 v46 := Tryz.zeroValue87
 t51 := Tryz.underlying100
 a51 := Tryz.isAgg100
 z51 := Tryz.sizeOf100
 v51 := Tryz.zeroValue100
 t53 := Tryz.underlying52
 a53 := Tryz.isAgg52
 z53 := Tryz.sizeOf52
 v53 := Tryz.zeroValue52
 t131 := Tryz.underlying198
 a131 := Tryz.isAgg198
 z131 := Tryz.sizeOf198
 v131 := Tryz.zeroValue198
 t182 := Tryz.underlying215
 a182 := Tryz.isAgg215
 z182 := Tryz.sizeOf215
 v182 := Tryz.zeroValue215
 t183 := Tryz.underlying216
 a183 := Tryz.isAgg216
 z183 := Tryz.sizeOf216
 v183 := Tryz.zeroValue216
 t218 := Tryz.underlying230
 a218 := Tryz.isAgg230
 z218 := Tryz.sizeOf230
 v218 := Tryz.zeroValue230
 t222 := Tryz.underlying234
 a222 := Tryz.isAgg234
 z222 := Tryz.sizeOf234
 v222 := Tryz.zeroValue234
 t228 := Tryz.underlying255
 a228 := Tryz.isAgg255
 z228 := Tryz.sizeOf255
 v228 := Tryz.zeroValue255
 t229 := Tryz.underlying256
 a229 := Tryz.isAgg256
 z229 := Tryz.sizeOf256
 v229 := Tryz.zeroValue256 }
open Go.Sort Go.RowKit in
theorem Tryz.slices_Sort_int (blk off cap : Nat) (zs : List Int) (w : World) (hH : Holds (Value.int .i64) w blk off zs.toArray) (hblk : blk < w.heap.size) (hsz : zs.length < 4611686018427387904) :
 Calls Tryz.prog 150 #[.slice (some ⟨blk, off, none⟩) zs.length cap] w fun e w' =>
  e = .returned (.tuple #[]) /\ ∃ n os, w' = grow (putRow (Value.int .i64) (Sort.ahead w n) blk off (zs.mergeSort fun x y => decide (x <= y)).toArray) os := Any.slices_Sort_int Tryz.lays189 blk off cap zs w hH hblk hsz
open Go.RowKit Go.Sort Go.Lib in
open Go.RowKit Go.Sort Go.Lib in
open Go.RowKit Go.Sort Go.Lib in
def Tryz.laysM249_ren : Go.Shelf.Ren := ⟨fun | 249 => 228 | 288 => 241 | 283 => 258 | 284 => 259 | 285 => 260 | 286 => 261 | 129 => 227 | 317 => 272 | 318 => 273 | 319 => 274 | 320 => 275 | 337 => 280 | 338 => 207 | n => n, fun | 37 => 154 | 2 => 2 | 3 => 3 | 53 => 52 | 4 => 4 | 9 => 9 | 171 => 258 | 0 => 0 | 173 => 260 | 212 => 271 | 51 => 100 | 5 => 5 | 20 => 20 | 213 => 272 | 46 => 87 | 232 => 278 | 233 => 222 | n => n, fun | 17 => 1 | 18 => 2 | 19 => 0 | n => n⟩
open Go.RowKit Go.Sort Go.Lib in
def Tryz.laysM176_ren : Go.Shelf.Ren := ⟨fun | 176 => 203 | 249 => 228 | 288 => 241 | 283 => 258 | 284 => 259 | 285 => 260 | 286 => 261 | 129 => 227 | 317 => 272 | 318 => 273 | 319 => 274 | 320 => 275 | 337 => 280 | 338 => 207 | n => n, fun | 37 => 154 | 2 => 2 | 3 => 3 | 53 => 52 | 4 => 4 | 9 => 9 | 171 => 258 | 0 => 0 | 173 => 260 | 212 => 271 | 51 => 100 | 5 => 5 | 20 => 20 | 213 => 272 | 46 => 87 | 232 => 278 | 233 => 222 | n => n, fun | 17 => 1 | 18 => 2 | 19 => 0 | n => n⟩
theorem Tryz.laysM176 : Go.Proofs.LaysM.n176 Tryz.prog Tryz.laysM176_ren := {
 mixed := by kernel_rfl
 f129 := Tryz.func227.trans (congrArg some (by kernel_rfl))
 f176 := Tryz.func203.trans (congrArg some (by kernel_rfl))
 f249 := Tryz.func228.trans (congrArg some (by kernel_rfl))
 f283 := Tryz.func258.trans (congrArg some (by kernel_rfl))
 f284 := Tryz.func259.trans (congrArg some (by kernel_rfl))
 f285 := Tryz.func260.trans (congrArg some (by kernel_rfl))
 f286 := Tryz.func261.trans (congrArg some (by kernel_rfl))
 f288 := Tryz.func241.trans (congrArg some (by kernel_rfl))
 f317 := Tryz.func272.trans (congrArg some (by kernel_rfl))
 f318 := Tryz.func273.trans (congrArg some (by kernel_rfl))
 f319 := Tryz.func274.trans (congrArg some (by kernel_rfl))
 f320 := Tryz.func275.trans (congrArg some (by kernel_rfl))
 f337 := Tryz.func280.trans (congrArg some (by kernel_rfl))
 f338 := Tryz.func207.trans (congrArg some (by kernel_rfl))
 t0 := Tryz.underlying0
 a0 := Tryz.isAgg0
 z0 := Tryz.sizeOf0
 v0 := Tryz.zeroValue0
 t2 := Tryz.underlying2
 a2 := Tryz.isAgg2
 z2 := Tryz.sizeOf2
 v2 := Tryz.zeroValue2
 t3 := Tryz.underlying3
 a3 := Tryz.isAgg3
 z3 := Tryz.sizeOf3
 v3 := Tryz.zeroValue3
 t4 := Tryz.underlying4
 a4 := Tryz.isAgg4
 z4 := Tryz.sizeOf4
 v4 := Tryz.zeroValue4
 t5 := Tryz.underlying5
 a5 := Tryz.isAgg5
 z5 := Tryz.sizeOf5
 v5 := Tryz.zeroValue5
 t9 := Tryz.underlying9
 a9 := Tryz.isAgg9
 z9 := Tryz.sizeOf9
 v9 := Tryz.zeroValue9
 t20 := Tryz.underlying20
 a20 := Tryz.isAgg20
 z20 := Tryz.sizeOf20
 v20 := Tryz.zeroValue20
 t37 := Tryz.underlying154
 a37 := Tryz.isAgg154
 z37 := Tryz.sizeOf154
 v37 := Tryz.zeroValue154
 t46 := Tryz.underlying87
 a46 := Tryz.isAgg87
 z46 := Tryz.sizeOf87
 v46 := Tryz.zeroValue87
 t51 := Tryz.underlying100
 a51 := Tryz.isAgg100
 z51 := Tryz.sizeOf100
 v51 := Tryz.zeroValue100
 t53 := Tryz.underlying52
 a53 := Tryz.isAgg52
 z53 := Tryz.sizeOf52
 v53 := Tryz.zeroValue52
 t171 := Tryz.underlying258
 a171 := Tryz.isAgg258
 z171 := Tryz.sizeOf258
 v171 := Tryz.zeroValue258
 t173 := Tryz.underlying260
 a173 := Tryz.isAgg260
 z173 := Tryz.sizeOf260
 v173 := Tryz.zeroValue260
 t212 := Tryz.underlying271
 a212 := Tryz.isAgg271
 z212 := Tryz.sizeOf271
 v212 := Tryz.zeroValue271
 t213 := Tryz.underlying272
 a213 := Tryz.isAgg272
 z213 := Tryz.sizeOf272
 t232 := Tryz.underlying278
 a232 := Tryz.isAgg278
 z232 := Tryz.sizeOf278
 v232 := Tryz.zeroValue278
 t233 := Tryz.underlying222
 a233 := Tryz.isAgg222
 z233 := Tryz.sizeOf222
 v233 := Tryz.zeroValue222
 g17 := by kernel_rfl
 g18 := by kernel_rfl
 g19 := by kernel_rfl
 i0 := by kernel_rfl
 i2 := by kernel_rfl
 i3 := by kernel_rfl
 i4 := by kernel_rfl
 i5 := by kernel_rfl
 i9 := by kernel_rfl
 i20 := by kernel_rfl
 i37 := by kernel_rfl
 i46 := by kernel_rfl
 i51 := by kernel_rfl
 i53 := by kernel_rfl
 i171 := by kernel_rfl
 i173 := by kernel_rfl
 i212 := by kernel_rfl
 i232 := by kernel_rfl
 i233 := by kernel_rfl
 m17 := by kernel_rfl
 m18 := by kernel_rfl
 m19 := by kernel_rfl }
open Go.RowKit Go.Sort Go.Lib in
theorem Tryz.strconv_AppendInt_10 (B n : Nat) (i : Int) (h0 : -9223372036854775808 <= i) (h1 : i <= 9223372036854775807) (sv : Value) (xs : List Value) (w : World) (hown : w.ownsRow B 5 1 sv n xs) (hBw : B <= w.heap.size) (hlim : n + 21 <= 140737488355328) (htab : Lib.TabBelow Tryz.prog B w "internal/strconv.uint64pow10" .u64 Lib.pow10Tab) :
 Calls Tryz.prog 203 #[sv, .int .i64 i, .int .i64 10] w fun e w' => ∃ v', e = .returned v' /\ w'.ownsRow B 5 1 v' (n + (Lib.itoa i).length) (xs ++ Lib.byteCells (Lib.itoa i)) /\ Below B w w' /\ Lib.OthersKept 5 none w w' := Any.strconv_AppendInt_10 Tryz.laysM176 B n i h0 h1 sv xs w hown hBw hlim htab
open Go.RowKit Go.Lib in
open Go.RowKit Go.Lib in
def Tryz.laysNm220_ren : Go.Shelf.Ren := ⟨fun | 20 => 214 | n => n, fun | 22 => 40 | 3 => 3 | 4 => 4 | 0 => 0 | n => n, fun | n => n⟩
theorem Tryz.laysNm220 : Go.Proofs.Lays2.n20 Tryz.prog Tryz.laysNm220_ren := {
 mixed := by kernel_rfl
 f20 := Tryz.func214.trans (congrArg some (by kernel_rfl))
 t0 := Tryz.underlying0
 a0 := Tryz.isAgg0
 z0 := Tryz.sizeOf0
 v0 := Tryz.zeroValue0
 t3 := Tryz.underlying3
 a3 := Tryz.isAgg3
 z3 := Tryz.sizeOf3
 v3 := Tryz.zeroValue3
 t4 := Tryz.underlying4
 a4 := Tryz.isAgg4
 z4 := Tryz.sizeOf4
 v4 := Tryz.zeroValue4
 t22 := Tryz.underlying40
 a22 := Tryz.isAgg40
 z22 := Tryz.sizeOf40
 v22 := Tryz.zeroValue40
 i3 := by kernel_rfl }
open Go.RowKit Go.Lib Go.Sort in
open Go.RowKit Go.Lib Go.Sort in
theorem Tryz.slices_Compact_int (blk off cap : Nat) (zs : List Int) (w : World) (hH : Holds (Value.int .i64) w blk off zs.toArray) (hsz : zs.length <= 9223372036854775807) (hcap : zs.length <= cap) :
 Calls Tryz.prog 214 #[.slice (some ⟨blk, off, none⟩) zs.length cap] w fun e w' => e = .returned (.slice (some ⟨blk, off, none⟩) (Lib.compact zs).length cap) /\ ∃ q, w' = putRow (Value.int .i64) (Sort.ahead w q) blk off (Lib.compact zs ++ List.replicate (zs.length - (Lib.compact zs).length) 0).toArray := Any.slices_Compact_int Tryz.laysNm220 blk off cap zs w hH hsz hcap
open Go.RowKit Go.Lib Go.Sort in
theorem Tryz.slices_Compact_int_empty (a : Option Addr) (cap : Nat) (w : World) :
 Calls Tryz.prog 214 #[.slice a 0 cap] w fun e w' => e = .returned (.slice a 0 cap) /\ w' = w := Any.slices_Compact_int_empty Tryz.laysNm220 a cap w
end Go.Proofs
namespace Go.Proofs.YtkaojolofaanfaaGreatDoor
open Go.RowKit Cen
open Go.Maps (Keyed string_keyed int_keyed)
def MapL (k e : TypeId) (w : World) (b n : Nat) (f : Lit -> Option Lit) : Prop :=
 ∃ D : DataW Unit, w.ownsMap Tryz.prog k (plainElem Tryz.prog e) b n D /\ (∀ x, Maps.has D x = (f x).isSome) /\ ∀ x y, f x = some y -> ∀ z, D.atKey x z = .lit y
section
variable {k e : TypeId} {w : World} {b n : Nat} {f : Lit -> Option Lit}
theorem MapL.made (w : World) : MapL k e (w.alloc (.map #[] 0)) w.heap.size 0 (fun _ => none) :=
 ⟨.map [], World.ownsMap_made w _ _ _, fun _ => rfl, fun _ _ h => by simp at h⟩
theorem MapL.lt (h : MapL k e w b n f) : b < w.heap.size := let ⟨_, h1, _⟩ := h; h1.lt
theorem MapL.kept {M : Nat -> Prop} {w' : World} (h : MapL k e w b n f) (hk : Kp M w w') (hm : ¬ M b) : MapL k e w' b n f := by
 obtain ⟨D, ⟨es, clock, h1, h2⟩, h3, h4⟩ := h;exact ⟨D, ⟨es, clock, hk.heap h1 hm, h2⟩, h3, h4⟩
theorem MapL.later {w' : World} (h : MapL k e w b n f) (hb : Below w.heap.size w w') : MapL k e w' b n f := h.kept (Kp.below (M := fun _ => False) hb) id
theorem zg3 {x : Lit} (h : WideAt.IsKeyLit x) : x.sameKey x = true := by cases x <;> simp [Lit.sameKey, WideAt.IsKeyLit] at *
theorem MapL.put {w' : World} (D : DataW Unit) (h : w.ownsMap Tryz.prog k (plainElem Tryz.prog e) b n D) (h3 : ∀ x, Maps.has D x = (f x).isSome) (h4 : ∀ x y, f x = some y -> ∀ z, D.atKey x z = .lit y)
 {x y : Lit} (hx : WideAt.IsKeyLit x) (hw : w'.ownsMap Tryz.prog k (plainElem Tryz.prog e) b (n + 1) (D.put x (.lit y))) : MapL k e w' b (n + 1) (fun x' => if x'.sameKey x then some y else f x') := by
 refine ⟨_, hw, fun x' => ?_, fun x' y' hy z => ?_⟩
 ·by_cases e : x' = x
  ·subst e; simp [Maps.has_put_same h.isMap hx, zg3 hx]
  ·rw [Maps.has_put_other e, h3]; simp [Maps.sameKey_ne e]
 ·by_cases e : x' = x
  ·subst e; simp [zg3 hx] at hy; subst hy; exact Maps.atKey_put_same h.isMap hx _ _
  ·simp [Maps.sameKey_ne e] at hy; rw [Maps.atKey_put_other e]; exact h4 _ _ hy z
end
section
variable {ops : Array Oper} {rest : List Oper} {o : Oper} {a : Act} {Q : Exit -> Act -> World -> Prop} {w : World} {b n : Nat} {f : Lit -> Option Lit} {t k e : TypeId}
def zvc : Option Lit -> Int | some (.int _ c) => c | _ => 0
theorem zep (hg : o.guard = none) (m x : Operand) (hop : o.op = Op.lookup t m x true) (K : Keyed Tryz.prog k) (ht : Tryz.prog.underlying t = some (.map k e)) (he : Tryz.prog.underlying e = some (.int .i64)) (hz : ∀ w, (zeroValue e).run Tryz.prog w = .ok (.int .i64 0) w)
 (hm : a.eval m = .map (some b)) (hown : MapL k e w b n f) (key : Value) (kl : Lit) (hx : a.eval x = key) (hkey : keyOf Tryz.prog k key = some kl)
 (hK : wpList Tryz.prog ops Q rest (a.put o.dst (.tuple #[.int .i64 (zvc (f kl)), .bool (f kl).isSome])) w) : wpList Tryz.prog ops Q (o :: rest) a w := by
 obtain ⟨D, h1, h3, h4⟩ := hown
 refine wpList_lookup_own_ok_int w hg m x t hop k e .i64 K ht he (hz w) b n D hm h1 key kl hx hkey fun c hc _ => ?_
 have e2 : c = zvc (f kl) := by
  cases hf : f kl with
  | none =>
    have := Maps.atKey_of_not_has (D := D) (k := kl) (by rw [h3, hf]; rfl) (.lit (.int .i64 0));rw [this] at hc; simp at hc; rw [<- hc]; rfl
  | some y =>
    rw [h4 _ _ hf] at hc; simp at hc; rw [hc]; rfl
 rw [h3, e2]; exact hK
theorem zmy (hg : o.guard = none) (m x v : Operand) (hop : o.op = Op.mapUpdate t m x v) (K : Keyed Tryz.prog k) (ht : Tryz.prog.underlying t = some (.map k e))
 (hm : a.eval m = .map (some b)) (hown : MapL k e w b n f) (hn : n <= 1073741824) (key val : Value) (kl y : Lit) (hx : a.eval x = key) (hv : a.eval v = val) (hkey : keyOf Tryz.prog k key = some kl) (hi : WideAt.IsKeyLit kl)
 (hval : plainElem (H := Unit) Tryz.prog e val = some (.lit y, []))
 (hK : ∀ w', MapL k e w' b (n + 1) (fun x' => if x'.sameKey kl then some y else f x') -> w.grownBy w' (some b) -> wpList Tryz.prog ops Q rest (a.put o.dst undef) w') : wpList Tryz.prog ops Q (o :: rest) a w := by
 obtain ⟨D, h1, h3, h4⟩ := hown
 exact wpList_mapUpdate_own w hg m x v t hop k e K ht _ b n D hm h1 (by unfold maxLen; omega) key val kl hx hv hkey (.lit y) [] hval
  fun w' h5 h6 => hK w' (MapL.put D h1 h3 h4 hi h5) h6
end
end Go.Proofs.YtkaojolofaanfaaGreatDoor
namespace Cen
open Go
def zc9 (n : Int) : List UInt8 := Lib.itoa n ++ [32]
theorem zor (n : Int) (h0 : -65536 <= n) (h1 : n <= 65536) : (Lib.itoa n).length <= 20 := by
 have key : ∀ k : Nat, k < 10 ^ 7 -> (Lib.decDigits k).length <= 8 := fun k hk => by
  rw [Lib.decDigits_length]
  have h2 : ∀ (f m : Nat), m < 10 ^ f -> Lib.nDigits m <= f + 1 := by
   intro f
   induction f with
   | zero => intro m hm; rw [Lib.nDigits_small (by omega)]; omega
   | succ f ih =>
     intro m hm
     by_cases h10 : m < 10
     ·rw [Lib.nDigits_small h10]; omega
     ·rw [Lib.nDigits_big h10];have := ih (m / 10) (by rw [Nat.pow_succ] at hm; omega);omega
  exact h2 7 k hk
 unfold Lib.itoa
 split
 ·simp; have := key n.natAbs (by omega); omega
 ·have := key n.toNat (by omega); omega
theorem zrc (n : Int) (h0 : -65536 <= n) (h1 : n <= 65536) : (zc9 n).length <= 21 := by have := zor n h0 h1; simp [zc9]; omega
def zt2 : List UInt8 -> Nat := List.foldl (fun a c => 10 * a + (c.toNat - 48)) 0
theorem zpu (l : List UInt8) (c : UInt8) : zt2 (l ++ [c]) = 10 * zt2 l + (c.toNat - 48) := by simp [zt2]
theorem zc0 {k : Nat} (h : k < 10) : (UInt8.ofNat (48 + k)).toNat = 48 + k := by
 simp [UInt8.toNat_ofNat']; omega
theorem zfr (u : Nat) : zt2 (Lib.decDigits u) = u := by
 induction u using Nat.strongRecOn with
 | _ u ih =>
   rw [Lib.decDigits]
   split
   ·rename_i h; show 10 * 0 + ((UInt8.ofNat (48 + u)).toNat - 48) = u; rw [zc0 h]; omega
   ·rename_i h
    rw [zpu, ih (u / 10) (by omega), zc0 (by omega)];omega
theorem zb3 (u : Nat) : ∀ c ∈ Lib.decDigits u, 48 <= c.toNat /\ c.toNat <= 57 := by
 induction u using Nat.strongRecOn with
 | _ u ih =>
   rw [Lib.decDigits]
   split
   ·rename_i h; intro c hc; rw [List.mem_singleton.1 hc, zc0 h]; omega
   ·rename_i h
    intro c hc
    rcases List.mem_append.1 hc with h1 | h1
    ·exact ih (u / 10) (by omega) c h1
    ·rw [List.mem_singleton.1 h1, zc0 (by omega)]; omega
theorem zfq {u v : Nat} (h : Lib.decDigits u = Lib.decDigits v) : u = v := by rw [<- zfr u, h, zfr]
theorem zgx (u : Nat) : Lib.decDigits u ≠ [] := by
 rw [Lib.decDigits]; split <;> simp
theorem ztq {m n : Int} (h : Lib.itoa m = Lib.itoa n) : m = n := by
 unfold Lib.itoa at h
 by_cases h1 : m < 0 <;> by_cases h2 : n < 0
 ·rw [if_pos h1, if_pos h2] at h;have := zfq (List.cons.inj h).2;omega
 ·rw [if_pos h1, if_neg h2] at h;have := zb3 n.toNat 45 (by rw [<- h]; simp);exact absurd this.1 (by decide)
 ·rw [if_neg h1, if_pos h2] at h;have := zb3 m.toNat 45 (by rw [h]; simp);exact absurd this.1 (by decide)
 ·rw [if_neg h1, if_neg h2] at h;have := zfq h;omega
theorem zmi (n : Int) : (32 : UInt8) ∉ Lib.itoa n := by
 unfold Lib.itoa
 split
 ·intro h
  rcases List.mem_cons.1 h with h1 | h1
  ·exact absurd h1 (by decide)
  ·have := (zb3 _ _ h1).1; exact absurd this (by decide)
 ·intro h;have := (zb3 _ _ h).1; exact absurd this (by decide)
theorem cut32 {a b r s : List UInt8} (ha : (32 : UInt8) ∉ a) (hb : (32 : UInt8) ∉ b) (h : a ++ 32 :: r = b ++ 32 :: s) : a = b /\ r = s := by
 induction a generalizing b with
 | nil =>
   cases b with
   | nil => simpa using h
   | cons y b => simp at h hb; exact absurd h.1 hb.1
 | cons x a ih =>
   cases b with
   | nil => simp at h ha; exact absurd h.1.symm ha.1
   | cons y b =>
     simp only [List.cons_append, List.cons.injEq] at h;simp at ha hb;obtain ⟨h1, h2⟩ := ih ha.2 hb.2 h.2;exact ⟨by rw [h.1, h1], h2⟩
theorem zrb {m n : Int} {r s : List UInt8} (h : zc9 m ++ r = zc9 n ++ s) : m = n /\ r = s := by
 unfold zc9 at h;simp only [List.append_assoc, List.singleton_append] at h;obtain ⟨h1, h2⟩ := cut32 (zmi m) (zmi n) h;exact ⟨ztq h1, h2⟩
theorem zti (l : List Int) (h : ∀ x ∈ l, -65536 <= x /\ x <= 65536) : (l.flatMap zc9).length <= 21 * l.length := by
 induction l with
 | nil => simp
 | cons x l ih =>
   have h1 := zrc x (h x (by simp)).1 (h x (by simp)).2
   have h2 := ih fun y hy => h y (by simp [hy])
   simp only [List.flatMap_cons, List.length_append, List.length_cons]; omega
end Cen
namespace Go.Proofs.YtkaojolofaanfaaGreatDoor
open Go.RowKit Cen
abbrev Tab (w : World) : Prop := Lib.TabIs Tryz.prog w "internal/strconv.uint64pow10" .u64 Lib.pow10Tab
theorem Tab.keep {w w' : World} (h : Tab w) (hb : Below w.heap.size w w') : Tab w' := by
 unfold Tab Lib.TabIs World.var? at *;rw [show Tryz.prog.globalNamed "internal/strconv.uint64pow10" = some 1 from by kernel_rfl] at *;simp only [Option.bind_some] at *
 rcases Nat.lt_or_ge 1 w.heap.size with h' | h'
 ·rw [hb.block _ h']; exact h
 ·rw [Array.getElem?_eq_none h'] at h; simp at h
theorem zg9 (l m : List UInt8) : Lib.byteCells l ++ Lib.byteCells m = Lib.byteCells (l ++ m) := by simp [Lib.byteCells]
def small (x : Int) : Prop := -65536 <= x /\ x <= 65536
end Go.Proofs.YtkaojolofaanfaaGreatDoor
namespace Go.Proofs.YtkaojolofaanfaaGreatDoor
open Go.RowKit Cen
open Go.Maps (Keyed string_keyed int_keyed)
theorem OwnL.alloc {α : Type} {enc : α -> List Value} {e k : Nat} {w : World} {base : Nat} {v : Value} {l : List α} (h : OwnL enc e k w base v l) (o : Obj) : OwnL enc e k (w.alloc o) base v l := World.ownsRow.alloc h o
theorem OwnL.drew {α : Type} {enc : α -> List Value} {e k : Nat} {w : World} {base : Nat} {v : Value} {l : List α} (h : OwnL enc e k w base v l) : OwnL enc e k w.drew base v l := h
section
variable {P : Program} {ops : Array Oper} {o : Oper} {a : Act} {w : World} {K : Act -> World -> Prop} {Q : Exit -> Act -> World -> Prop} {EE : Prop}
theorem zbn {α : Type} {enc : α -> List Value} {t e k bytes : Nat} {z : Value} (E : Elem t e k bytes z) (hgd : o.guard = none) (s x : Operand) (ho : o.op = .call { callee := .builtin .append, args := #[s, x], argTypes := #[t, t] })
 (base : Nat) (v : Value) (l : List α) (y : α) (hs : a.eval s = v) (hown : OwnL enc e k w base v l) (bc : Nat) (hx : a.eval x = .slice (some ⟨bc, 0, none⟩) 1 1) (hk : (enc y).length = k)
 (hnews : ∀ j u, (enc y)[j]? = some u -> w.cell? ⟨bc, j, none⟩ = some u) (h1 : ∀ u ∈ enc y, u.oneCell' = true) (hl : l.length <= 1073741824) (hby : bytes <= 1000) (hbase : base <= w.heap.size)
 (h : ∀ g cap w', OwnL enc e k w' base (.slice (some ⟨g, 0, none⟩) (l.length + 1) cap) (l ++ [y]) -> w.grownBy w' v.ownBlock -> (v.ownBlock = some g \/ g = w.heap.size) -> K (a.put o.dst (.slice (some ⟨g, 0, none⟩) (l.length + 1) cap)) w') :
 if Region.wanted o (yielded ops a.tmps) = true then Oper.wp Tryz.prog o a w K Q else EE := by
 obtain ⟨ht, i, hi, hz, hsz, hby', hzs, h0⟩ := E;refine step_append_lies w hgd s x t ho base e i z k bytes ht hi hz hsz hby' hzs h0 v l.length (l.flatMap enc) hs hown ⟨bc, 0, none⟩ 1 1 (enc y) hx (by rw [hk]; omega) ?_ h1 (by omega) (by unfold maxLen; omega) ?_ hbase w.heap.size rfl ?_
 ·intro j u hj
  have e1 : (⟨bc, 0, none⟩ : Addr).add j = ⟨bc, j, none⟩ := by
   unfold Addr.add; split
   ·rename_i hj0; rw [hj0]
   ·simp
  rw [e1]; exact hnews j u hj
 ·have := Nat.mul_le_mul (show l.length + 1 <= 1073741825 by omega) hby; omega
 ·intro g cap w' h2 h3 h4 _;exact h g cap w' (by unfold OwnL; rw [List.length_append, List.flatMap_append]; simpa using h2) h3 h4
end
theorem zaz {W w' : World} {ob : Obj} {row : Option Nat} (h : ((W.alloc ob).drew).grownBy w' row) : W.grownBy w' row :=
 ⟨h.os, h.tape, h.output, Nat.le_trans (by simp [World.drew]) h.size, fun k hk hn => (h.block k (by simp [World.drew]; omega) hn).trans (Below.heap_alloc W ob k hk)⟩
theorem zw8 : Elem 22 67 3 40 (.agg #[.int .i64 0, .int .i64 0, .slice none 0 0]) := .mk Tryz.underlying22 (by kernel_rfl) rfl (by decide)
theorem OwnL.sliced {α : Type} {enc : α -> List Value} {e k : Nat} {w : World} {base : Nat} {v : Value} {l : List α} (h : OwnL enc e k w base v l) : ∃ a cap, v = .slice a l.length cap := by
 rcases h.shape with ⟨h1, h2⟩ | ⟨g, cap, h1, _⟩
 ·exact ⟨none, 0, by rw [h1, h2]; rfl⟩
 ·exact ⟨_, _, h1⟩
theorem zil : Keyed Tryz.prog 9 := string_keyed Tryz.underlying9
theorem zf9 (w : World) : (zeroValue 3).run Tryz.prog w = .ok (.int .i64 0) w := by kernel_rfl
end Go.Proofs.YtkaojolofaanfaaGreatDoor
namespace Cen
end Cen
namespace Cen
def nd (L : List Nd) (i : Int) : Nd := L.getD i.toNat default
def zcu (l : List Int) : List Int := l.mergeSort fun x y => decide (x <= y)
end Cen
namespace Cen
theorem zmw {l : List Int} {y : Int} : y ∈ zcu l ↔ y ∈ l := by unfold zcu; exact List.mem_mergeSort
end Cen
namespace Go.Proofs.YtkaojolofaanfaaGreatDoor
open Go.RowKit Cen
open Go.Maps (Keyed string_keyed int_keyed)
theorem zik : Keyed Tryz.prog 3 := int_keyed Tryz.underlying3
theorem OwnInts.lt {w : World} {base : Nat} {v : Value} {xs : List Int} (h : OwnInts w base v xs) : ∀ k, v.ownBlock = some k -> base <= k /\ k < w.heap.size := World.ownsRow.lt h
end Go.Proofs.YtkaojolofaanfaaGreatDoor
namespace Go.Proofs.YtkaojolofaanfaaGreatDoor
open Go.RowKit Cen
theorem zk4 (w : World) : Calls Tryz.prog 217 #[.slice none 0 0, .int .i64 0, .int .i64 0] w fun e w' => e = .returned (.tuple #[]) /\ w = w' := by
 go_enter Tryz.func217, Tryz.ntmps217;go_wp2;refine wp_loop_rounds 1 ?_;rw [rounds_succ];go_wp2
 go_end0
 exact ⟨rfl, rfl⟩
theorem zwj (l : Int) (w : World) : Calls Tryz.prog 194 #[.slice none 0 0, .int .i64 0, .int .i64 0, .int .i64 l] w fun e w' => e = .returned (.tuple #[]) /\ w = w' := by
 go_enter Tryz.func194, Tryz.ntmps194;go_wp2;refine wp_loop_rounds 1 ?_;rw [rounds_succ];go_wp2_with fail;refine (zk4 _).mono ?_;rintro e w1 ⟨rfl, rfl⟩;go_wp2;exact bodyPost_ret (v := .tuple #[]) (by simp [results, Tryz.results194, go_sem]) rfl ⟨rfl, rfl⟩
theorem zuo (w : World) : Calls Tryz.prog 150 #[.slice none 0 0] w fun e w' => e = .returned (.tuple #[]) /\ w = w' := by
 go_enter Tryz.func150, Tryz.ntmps150;go_wp2_with fail;refine (Tryz.bits_Len 0 w (by omega) (by omega)).mono ?_;rintro e w1 ⟨rfl, rfl⟩;go_wp2_with fail;refine (zwj _ _).mono ?_;rintro e w1 ⟨rfl, rfl⟩;go_wp2
 go_end0
 exact ⟨rfl, rfl⟩
theorem zun (base : Nat) (v : Value) (xs : List Int) (w : World) (h : OwnInts w base v xs) (hl : xs.length <= 1073741824) :
 Calls Tryz.prog 150 #[v] w fun e w' => e = .returned (.tuple #[]) /\ OwnInts w' base v (zcu xs) /\ w.grownBy w' v.ownBlock := by
 have hsl : (zcu xs).length = xs.length := by unfold zcu; exact List.length_mergeSort _
 rcases h.2 with ⟨hv, h0⟩ | ⟨g, cap, cur, hv, hg, hh, hn, hm, hs, ht⟩
 ·have : xs = [] := List.eq_nil_of_length_eq_zero h0;subst this; subst hv
  refine (zuo w).mono fun e w' ⟨h1, h2⟩ => ⟨h1, ?_, ?_⟩
  ·subst h2; unfold zcu; simpa using h
  ·subst h2; exact ⟨rfl, rfl, rfl, Nat.le_refl _, fun _ _ _ => rfl⟩
 ·subst hv;rw [Nat.mul_one] at ht
  refine (Tryz.slices_Sort_int g 0 cap xs w (Go.holds_of_blockI hh ht) (lt_of_block hh) (by omega)).mono fun e w' ⟨h1, n, os, h2⟩ => ⟨h1, ?_, ?_⟩
  ·rw [h2]
   show World.ownsRow _ _ _ _ _ _ _
   rw [hsl];exact Go.ownsRow_sortedI hsl hg hh hn hm hs
  ·rw [h2]; exact Go.grownBy_sortedI _
def I1 (x : Int) : List Value := [.int .i64 x]
theorem zlm (x : Int) : (I1 x).length = 1 := rfl
theorem zaq {w : World} {base : Nat} {v : Value} {xs : List Int} : OwnInts w base v xs ↔ OwnL I1 3 1 w base v xs := by
 have e : xs.map (Value.int .i64) = xs.flatMap I1 := by
  induction xs with
  | nil => rfl
  | cons x xs ih => simp [I1] at *; exact ih
 unfold OwnInts OwnL; rw [e]
theorem OwnL.cell1 {w : World} {base : Nat} {xs : List Int} {g cap n : Nat} (hn : n = xs.length) (h : OwnL I1 3 1 w base (.slice (some ⟨g, 0, none⟩) n cap) xs) (i : Nat) (hi : i < xs.length) :
 w.cell? ⟨g, i, none⟩ = some (.int .i64 xs[i]) := by
 have := h.cell hn zlm i 0 hi (by omega)
 simpa [I1] using this
section
variable {ops : Array Oper} {rest : List Oper} {o : Oper} {a : Act} {Q : Exit -> Act -> World -> Prop}
theorem zjf {α : Type} {enc : α -> List Value} {t e k bytes : Nat} {z : Value} {W : World} {C : Array Value} (E : Elem t e k bytes z) (hgd : o.guard = none) (s x : Operand) (ho : o.op = .call { callee := .builtin .append, args := #[s, x], argTypes := #[t, t] })
 (base : Nat) (v : Value) (l : List α) (y : α) (hs : a.eval s = v) (hown : OwnL enc e k W base v l) (hx : a.eval x = .slice (some ⟨W.heap.size, 0, none⟩) 1 1) (hk : (enc y).length = k)
 (hC : enc y = C.toList) (h1 : ∀ u ∈ enc y, u.oneCell' = true) (hl : l.length <= 1073741824) (hby : bytes <= 1000) (hbase : base <= W.heap.size)
 (h : ∀ g cap w', OwnL enc e k w' base (.slice (some ⟨g, 0, none⟩) (l.length + 1) cap) (l ++ [y]) -> W.grownBy w' v.ownBlock -> (v.ownBlock = some g \/ W.heap.size <= g) -> wpList Tryz.prog ops Q rest (a.put o.dst (.slice (some ⟨g, 0, none⟩) (l.length + 1) cap)) w') :
 wpList Tryz.prog ops Q (o :: rest) a (W.alloc (.cells C e)) := by
 obtain ⟨ht, i, hi, hz, hsz, hby', hzs, h0⟩ := E;refine wpList_append_lies _ hgd s x t ho base e i z k bytes ht hi hz hsz hby' hzs h0 v l.length (l.flatMap enc) hs (World.ownsRow.alloc hown _) ⟨W.heap.size, 0, none⟩ 1 1 (enc y) hx (by rw [hk]; omega) ?_ h1 (by omega) (by unfold maxLen; omega) ?_ (by simp; omega) (W.heap.size + 1) (by simp) ?_
 ·intro j u hj
  have e1 : (⟨W.heap.size, 0, none⟩ : Addr).add j = ⟨W.heap.size, j, none⟩ := by
   unfold Addr.add; split
   ·rename_i hj0; rw [hj0]
   ·simp
  rw [e1, World.cell?_alloc_at _ _ _ _ rfl, <- Array.getElem?_toList, <- hC]; exact hj
 ·have := Nat.mul_le_mul (show l.length + 1 <= 1073741825 by omega) hby; omega
 ·intro g cap w' h2 h3 h4 _;exact h g cap w' (by unfold OwnL; rw [List.length_append, List.flatMap_append]; simpa using h2) (za1 h3) (h4.imp id (fun e => by omega))
end
section
variable {w w' : World} {B bo : Nat} {n : Int} {m : Nat} {ats : List Int} {lv : Value} {LL : List (Nd × Value)}
end
end Go.Proofs.YtkaojolofaanfaaGreatDoor
