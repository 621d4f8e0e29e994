/- An evaluator of calls, and its soundness (EE). -/
import Derived.Test.YtkaahiddngmdbaaGreatDoorED
import Derived.Test.YtkaahiddngmdbaaGreatDoorProg
import Derived.Shelf.Strings.Builder1
import Derived.Shelf.Strings.Builder2
import Derived.Shelf.Strings.OnBuilder
import Derived.Shelf.Small.Bits
import Derived.Shelf.Strings.BuilderF
import Derived.Shelf.Utf8.RuneCount
import Derived.Shelf.Strconv.Itoa0
import Derived.Shelf.Strconv.Itoa1
import Derived.Shelf.LaysM
import Derived.Shelf.Strconv.Itoa2
import Derived.Shelf.Strconv.Itoa3
import Derived.Shelf.Strings.Search1
import Derived.Shelf.Strings.Search2
import Derived.Shelf.Strings.Search3
import Derived.Shelf.Strings.Count
import Derived.Shelf.Strings.Shaped
import Derived.Shelf.Strings.Prefix
import Derived.Shelf.Strings.Split
import Derived.Shelf.Strings.SplitShaped
import Derived.Shelf.Unicode.Decode
import Derived.Shelf.Strings.RuneCount
import Derived.Shelf.Strings.Explode
import Derived.Shelf.Bits.Mul64
import Derived.Shelf.Strings.Repeat
import Derived.Shelf.Unicode.DecodeSlow
import Derived.Shelf.Unicode.DecodeAny
import Derived.Ground.Names2Prog
import Derived.Shelf.Slices.Clone
import Derived.Shelf.Slices.CompactI
import Derived.Shelf.Slices.SearchI
import Derived.Shelf.Slices.Cells
import Derived.Ground.SlgnProg
import Derived.Shelf.SlicesE.Clone
set_option linter.unusedVariables false
set_option linter.unusedSimpArgs false
namespace Go.Ev
open Go.Proofs
theorem mixed_ : Tryz.prog.follows .mixedOrders = true := by kernel_rfl
noncomputable def nameOk (l : List Func) : Bool := List.rec true (fun fn _ ih => Bool.rec ih false (fn.name == "runtime.NumGoroutine")) l
theorem nameOk_ok {l : List Func} (h : nameOk l = true) : ∀ fn ∈ l, (fn.name == "runtime.NumGoroutine") = false := by
 induction l with
 | nil => intro fn h; cases h
 | cons a l ih =>
  intro fn hm
  have h : (Bool.rec (nameOk l) false (a.name == "runtime.NumGoroutine") : Bool) = true := h
  cases hb : (a.name == "runtime.NumGoroutine") with
  | true => rw [hb] at h; cases h
  | false =>
   rw [hb] at h
   rcases List.mem_cons.1 hm with rfl | hm
   · exact hb
   · exact ih h fn hm
theorem names_ : nameOk Tryz.prog.funcs.toList = true := by kernel_rfl
theorem named_ : Named Tryz.prog := fun f fn hf => nameOk_ok names_ fn (by
 obtain ⟨h, rfl⟩ := Array.getElem?_eq_some_iff.1 hf
 exact Array.mem_toList_iff.2 (Array.getElem_mem h))
end Go.Ev
namespace Go.Ev
open Go.Proofs
noncomputable def eqTx : List Nat := [3, 67, 9, 4, 5, 21, 174, 181, 292, 257, 255, 254, 236, 235, 322, 325, 496, 393, 334, 28, 20, 408, 351, 350, 34, 32, 140, 173, 354, 392, 407, 411, 450, 449, 492, 494, 508, 516, 522, 536, 538, 571, 586, 222, 207, 377, 298, 313]
noncomputable def noneF (f : Nat → Bool) (l : List Nat) : Bool := List.rec true (fun t _ ih => Bool.rec ih false (f t)) l
theorem noneF_ok {f : Nat → Bool} {l : List Nat} (h : noneF f l = true) : ∀ t ∈ l, f t = false := by
 induction l with
 | nil => intro u hu; cases hu
 | cons t l ih =>
  intro u hu
  have h : (Bool.rec (noneF f l) false (f t) : Bool) = true := h
  cases hb : f t with
  | true => rw [hb] at h; cases h
  | false =>
   rw [hb] at h
   rcases List.mem_cons.1 hu with rfl | hu
   · exact hb
   · exact ih h u hu
theorem eqT_of {P : Program} {l : List Nat} (h : noneF (fun t => Bool.or (P.stoodInHeld t) (P.eqGuardType P.depth t)) l = true) : EqT P l := fun t ht => Bool.or_eq_false_iff.1 (noneF_ok h t ht)
theorem eqT_ : EqT Tryz.prog eqTx := eqT_of (by kernel_rfl)
noncomputable def methsx : List (Nat × String × Nat) := [(423, "ratoon/agent.read", 444), (424, "ratoon/agent.read", 445)]
noncomputable def exS (o : Op) : T AV → St → OR :=
 Op.rec (motive := fun _ => T AV → St → OR)
  hMove hMove hPick (hAlloc Tryz.prog) hBox (hBuild Tryz.prog) (hBuildSlice Tryz.prog) (hUpdate Tryz.prog eqTx) (hLoad Tryz.prog) (hStore Tryz.prog)
  (fun _ _ _ => OR.fail) (fun _ _ _ => OR.fail) hNil (hBin Tryz.prog eqTx) hUn (hConv Tryz.prog) (fun _ _ _ _ => OR.fail) (hIface Tryz.prog) hFunc (hMakeMap Tryz.prog)
  (fun _ _ _ _ => OR.fail) (hMakeSlice Tryz.prog) (hSlice Tryz.prog) (hFieldAddr Tryz.prog) (hField Tryz.prog) (hIndexAddr Tryz.prog) (hIndex Tryz.prog) (hLookup Tryz.prog eqTx) (hUpdate Tryz.prog eqTx)
  (fun _ _ _ _ _ => OR.fail) (fun _ _ _ _ _ _ => OR.fail) (hRange Tryz.prog) hNext (fun _ _ _ => OR.fail) (hAssert Tryz.prog) hExtract (hCall Tryz.prog methsx)
  (fun _ _ _ => OR.fail) (hDefer Tryz.prog) hPanic (fun _ _ _ _ => OR.fail) (fun _ _ _ _ _ => OR.fail) (fun _ _ _ _ => OR.fail) o
theorem exS_eq : exS = exec Tryz.prog eqTx methsx := rfl
set_option maxRecDepth 100000 in
theorem meth1 (v : Value) (args : Array Value) (w : World) : (callMethod (.iface 423 v) "ratoon/agent.read" args).run Tryz.prog w = .ok (.enter 444 (#[v] ++ args)) w := by kernel_rfl
set_option maxRecDepth 100000 in
theorem meth2 (v : Value) (args : Array Value) (w : World) : (callMethod (.iface 424 v) "ratoon/agent.read" args).run Tryz.prog w = .ok (.enter 445 (#[v] ++ args)) w := by kernel_rfl
theorem meths_ : MethOk Tryz.prog methsx := fun t m f h v args w => by
 simp only [methsx, List.mem_cons, List.not_mem_nil, or_false, Prod.mk.injEq] at h
 rcases h with ⟨rfl, rfl, rfl⟩ | ⟨rfl, rfl, rfl⟩
 · exact meth1 v args w
 · exact meth2 v args w
theorem exOk_ : ExOk Tryz.prog exS := exS_eq ▸ exec_exOk eqT_ named_ meths_
theorem exLoc_ : ExLoc exS := exS_eq ▸ exec_loc
theorem E_ok {K : Nat → List AV → St → Option RV} (hK : KOk Tryz.prog K) (n : Nat) : IhOk Tryz.prog (ev exS Tryz.prog K n) := ev_ok exOk_ exLoc_ named_ mixed_ hK n
end Go.Ev
/-
 DERIVED: THE SHELF's CONTRACTS AT THIS DUMP, IN PLAIN WORDS (tools/lay-plain.mjs out of 'TryzShelf.lean', which tools/lay-shelf.mjs wrote): THE SAME DECLARATIONS UNDER THE SAME NAMES: 'import', 'namespace', 'open', 'def', 'theorem' AND NOTHING ELSE: no command of the shelf's: FOR A HAND-IN. Each laying: the table of numbers ('.._ren') and one theorem, a field a fact of the dump's own or the kernel's comparison; each contract: ONE APPLICATION.
-/
namespace Go.Proofs
open Go.Shelf
def Tryz.lays156_ren : Go.Shelf.Ren := ⟨fun | 156 => 268 | 165 => 88 | 166 => 89 | 169 => 91 | 240 => 189 | 241 => 190 | 276 => 273 | 277 => 274 | n => n, fun | 31 => 47 | 9 => 9 | 3 => 3 | 4 => 4 | 0 => 0 | 20 => 20 | 72 => 183 | 76 => 187 | 70 => 181 | 37 => 85 | 75 => 186 | 127 => 328 | 164 => 416 | 5 => 5 | 80 => 190 | n => n, fun | n => n⟩
theorem Tryz.lays156 : Go.Proofs.Lays.n156 Tryz.prog Tryz.lays156_ren := {
 mixed := by kernel_rfl
 f156 := Tryz.func268.trans (congrArg some (by kernel_rfl))
 f165 := Tryz.func88.trans (congrArg some (by kernel_rfl))
 f166 := Tryz.func89.trans (congrArg some (by kernel_rfl))
 f169 := Tryz.func91.trans (congrArg some (by kernel_rfl))
 f240 := Tryz.func189.trans (congrArg some (by kernel_rfl))
 f241 := Tryz.func190.trans (congrArg some (by kernel_rfl))
 f276 := Tryz.func273.trans (congrArg some (by kernel_rfl))
 f277 := Tryz.func274.trans (congrArg some (by kernel_rfl))
 t0 := Tryz.underlying0
 a0 := Tryz.isAgg0
 z0 := Tryz.sizeOf0
 v0 := Tryz.zeroValue0
 t3 := Tryz.underlying3
 a3 := Tryz.isAgg3
 z3 := Tryz.sizeOf3
 v3 := Tryz.zeroValue3
 t4 := Tryz.underlying4
 a4 := Tryz.isAgg4
 z4 := Tryz.sizeOf4
 v4 := Tryz.zeroValue4
 t9 := Tryz.underlying9
 a9 := Tryz.isAgg9
 z9 := Tryz.sizeOf9
 v9 := Tryz.zeroValue9
 t20 := Tryz.underlying20
 a20 := Tryz.isAgg20
 z20 := Tryz.sizeOf20
 v20 := Tryz.zeroValue20
 t31 := Tryz.underlying47
 a31 := Tryz.isAgg47
 z31 := Tryz.sizeOf47
 v31 := Tryz.zeroValue47
 t37 := Tryz.underlying85
 a37 := Tryz.isAgg85
 z37 := Tryz.sizeOf85
 v37 := Tryz.zeroValue85
 t70 := Tryz.underlying181
 a70 := Tryz.isAgg181
 z70 := Tryz.sizeOf181
 v70 := Tryz.zeroValue181
 t72 := Tryz.underlying183
 a72 := Tryz.isAgg183
 z72 := Tryz.sizeOf183
 v72 := Tryz.zeroValue183
 t75 := Tryz.underlying186
 a75 := Tryz.isAgg186
 z75 := Tryz.sizeOf186
 v75 := Tryz.zeroValue186
 t76 := Tryz.underlying187
 a76 := Tryz.isAgg187
 z76 := Tryz.sizeOf187
 v76 := Tryz.zeroValue187
 t127 := Tryz.underlying328
 a127 := Tryz.isAgg328
 z127 := Tryz.sizeOf328
 v127 := Tryz.zeroValue328
 t164 := Tryz.underlying416
 a164 := Tryz.isAgg416
 z164 := Tryz.sizeOf416
 v164 := Tryz.zeroValue416 }
theorem Tryz.Builder_Extra_156 : Builder.Extra Tryz.prog Tryz.lays156_ren := {
 sizeBuilder := by kernel_rfl
 liesBuilder := by kernel_rfl
 t5 := Tryz.underlying5
 a5 := Tryz.isAgg5
 z5 := Tryz.sizeOf5
 v5 := Tryz.zeroValue5
 infoByte := by kernel_rfl
 cellsByte := by kernel_rfl
 sizeByte := by kernel_rfl
 neB5 := by decide }
open Go.RowKit in
/-- No element: the empty string; the world is as it was. (Whatever the slice's address and capacity: a nil slice too.) (LAID: no walk: one application.) -/
theorem Tryz.strings_Join_none (a : Option Addr) (c : Nat) (sep : ByteArray) (w : World) :
 Calls Tryz.prog 268 #[.slice a 0 c, .string sep] w fun e w' => e = .returned (.string ⟨#[]⟩) ∧ w' = w := Any.strings_Join_none Tryz.lays156 Tryz.Builder_Extra_156 a c sep w
open Go.RowKit in
/-- strings.Join: "Join concatenates the elements of its first argument to create a single string. The separator string sep is placed between elements in the resulting string.": HOWEVER MANY ELEMENTS. Below the heap's end the world is as it was. (LAID: no walk: one application.) -/
theorem Tryz.strings_Join (bk o c : Nat) (xs : List ByteArray) (sep : ByteArray) (w : World) (hcells : ∀ (j : Nat) x, xs[j]? = some x → w.cell? ⟨bk, o + j, none⟩ = some (.string x)) (hbk : bk < w.heap.size) (hN : xs.length ≤ 140737488355328) (hcap : xs.length ≤ c) (hlen : (Lib.join (xs.map (·.data.toList)) sep.data.toList).length ≤ 140737488355328) :
 Calls Tryz.prog 268 #[.slice (some ⟨bk, o, none⟩) xs.length c, .string sep] w fun e w' => e = .returned (.string ⟨(Lib.join (xs.map (·.data.toList)) sep.data.toList).toArray⟩) ∧ Below w.heap.size w w' := Any.strings_Join Tryz.lays156 Tryz.Builder_Extra_156 bk o c xs sep w hcells hbk hN hcap hlen
def Tryz.laysM171_ren : Go.Shelf.Ren := ⟨fun | 171 => 33 | 243 => 85 | 246 => 185 | 283 => 269 | 284 => 270 | 285 => 271 | 286 => 272 | 129 => 319 | 317 => 318 | 318 => 320 | 319 => 321 | 320 => 322 | 337 => 377 | 338 => 378 | n => n, fun | 3 => 3 | 9 => 9 | 2 => 2 | 4 => 4 | 171 => 411 | 0 => 0 | 53 => 325 | 37 => 85 | 5 => 5 | 173 => 414 | 212 => 465 | 51 => 322 | 20 => 20 | 213 => 466 | 46 => 177 | 232 => 548 | 233 => 549 | n => n, fun | 17 => 0 | 18 => 4 | 19 => 5 | n => n⟩
theorem Tryz.laysM171 : Go.Proofs.LaysM.n171 Tryz.prog Tryz.laysM171_ren := {
 mixed := by kernel_rfl
 f129 := Tryz.func319.trans (congrArg some (by kernel_rfl))
 f171 := Tryz.func33.trans (congrArg some (by kernel_rfl))
 f243 := Tryz.func85.trans (congrArg some (by kernel_rfl))
 f246 := Tryz.func185.trans (congrArg some (by kernel_rfl))
 f283 := Tryz.func269.trans (congrArg some (by kernel_rfl))
 f284 := Tryz.func270.trans (congrArg some (by kernel_rfl))
 f285 := Tryz.func271.trans (congrArg some (by kernel_rfl))
 f286 := Tryz.func272.trans (congrArg some (by kernel_rfl))
 f317 := Tryz.func318.trans (congrArg some (by kernel_rfl))
 f318 := Tryz.func320.trans (congrArg some (by kernel_rfl))
 f319 := Tryz.func321.trans (congrArg some (by kernel_rfl))
 f320 := Tryz.func322.trans (congrArg some (by kernel_rfl))
 f337 := Tryz.func377.trans (congrArg some (by kernel_rfl))
 f338 := Tryz.func378.trans (congrArg some (by kernel_rfl))
 t0 := Tryz.underlying0
 a0 := Tryz.isAgg0
 z0 := Tryz.sizeOf0
 v0 := Tryz.zeroValue0
 t2 := Tryz.underlying2
 a2 := Tryz.isAgg2
 z2 := Tryz.sizeOf2
 v2 := Tryz.zeroValue2
 t3 := Tryz.underlying3
 a3 := Tryz.isAgg3
 z3 := Tryz.sizeOf3
 v3 := Tryz.zeroValue3
 t4 := Tryz.underlying4
 a4 := Tryz.isAgg4
 z4 := Tryz.sizeOf4
 v4 := Tryz.zeroValue4
 t5 := Tryz.underlying5
 a5 := Tryz.isAgg5
 z5 := Tryz.sizeOf5
 v5 := Tryz.zeroValue5
 t9 := Tryz.underlying9
 a9 := Tryz.isAgg9
 z9 := Tryz.sizeOf9
 v9 := Tryz.zeroValue9
 t20 := Tryz.underlying20
 a20 := Tryz.isAgg20
 z20 := Tryz.sizeOf20
 v20 := Tryz.zeroValue20
 t37 := Tryz.underlying85
 a37 := Tryz.isAgg85
 z37 := Tryz.sizeOf85
 v37 := Tryz.zeroValue85
 t46 := Tryz.underlying177
 a46 := Tryz.isAgg177
 z46 := Tryz.sizeOf177
 v46 := Tryz.zeroValue177
 t51 := Tryz.underlying322
 a51 := Tryz.isAgg322
 z51 := Tryz.sizeOf322
 v51 := Tryz.zeroValue322
 t53 := Tryz.underlying325
 a53 := Tryz.isAgg325
 z53 := Tryz.sizeOf325
 v53 := Tryz.zeroValue325
 t171 := Tryz.underlying411
 a171 := Tryz.isAgg411
 z171 := Tryz.sizeOf411
 v171 := Tryz.zeroValue411
 t173 := Tryz.underlying414
 a173 := Tryz.isAgg414
 z173 := Tryz.sizeOf414
 v173 := Tryz.zeroValue414
 t212 := Tryz.underlying465
 a212 := Tryz.isAgg465
 z212 := Tryz.sizeOf465
 v212 := Tryz.zeroValue465
 t213 := Tryz.underlying466
 a213 := Tryz.isAgg466
 z213 := Tryz.sizeOf466
 t232 := Tryz.underlying548
 a232 := Tryz.isAgg548
 z232 := Tryz.sizeOf548
 v232 := Tryz.zeroValue548
 t233 := Tryz.underlying549
 a233 := Tryz.isAgg549
 z233 := Tryz.sizeOf549
 v233 := Tryz.zeroValue549
 g17 := by kernel_rfl
 g18 := by kernel_rfl
 g19 := by kernel_rfl
 i0 := by kernel_rfl
 i2 := by kernel_rfl
 i3 := by kernel_rfl
 i4 := by kernel_rfl
 i5 := by kernel_rfl
 i9 := by kernel_rfl
 i20 := by kernel_rfl
 i37 := by kernel_rfl
 i46 := by kernel_rfl
 i51 := by kernel_rfl
 i53 := by kernel_rfl
 i171 := by kernel_rfl
 i173 := by kernel_rfl
 i212 := by kernel_rfl
 i232 := by kernel_rfl
 i233 := by kernel_rfl
 m17 := by kernel_rfl
 m18 := by kernel_rfl
 m19 := by kernel_rfl }
open Go.RowKit Go.Sort Go.Lib in
/-- strconv.Itoa: "Itoa is equivalent to FormatInt(int64(i), 10).": i's DECIMAL NUMERAL ('Lib.itoa': a '-' where i is negative, then the digits), FOR EVERY int. The world behind the call: the world before it, new blocks behind the heap (the library's 'var a [24]byte'), draws. (LAID: no walk: one application.) -/
theorem Tryz.strconv_Itoa (n : Int) (h0 : -9223372036854775808 ≤ n) (h1 : n ≤ 9223372036854775807) (w : World) (htab : Lib.TabIs Tryz.prog w "internal/strconv.uint64pow10" .u64 Lib.pow10Tab) :
 Calls Tryz.prog 33 #[.int .i64 n] w fun e w' => e = .returned (.string ⟨(Lib.itoa n).toArray⟩) ∧ ∃ k os, w' = grow (w.drewN k) os := Any.strconv_Itoa Tryz.laysM171 n h0 h1 w htab
def Tryz.lays146_ren : Go.Shelf.Ren := ⟨fun | 146 => 36 | 221 => 95 | 268 => 193 | 138 => 194 | 143 => 195 | 195 => 275 | 197 => 276 | 218 => 277 | 219 => 278 | 260 => 323 | 217 => 324 | 225 => 325 | 224 => 326 | 267 => 327 | 266 => 379 | 314 => 380 | n => n, fun | 9 => 9 | 31 => 47 | 3 => 3 | 4 => 4 | 0 => 0 | 105 => 419 | 21 => 21 | 5 => 5 | 46 => 177 | 119 => 509 | 139 => 512 | 138 => 511 | 146 => 323 | 51 => 322 | n => n, fun | 1 => 1 | 3 => 2 | 4 => 3 | n => n⟩
theorem Tryz.lays146 : Go.Proofs.Lays.n146 Tryz.prog Tryz.lays146_ren := {
 mixed := by kernel_rfl
 f138 := Tryz.func194.trans (congrArg some (by kernel_rfl))
 f143 := Tryz.func195.trans (congrArg some (by kernel_rfl))
 f146 := Tryz.func36.trans (congrArg some (by kernel_rfl))
 f195 := Tryz.func275.trans (congrArg some (by kernel_rfl))
 f197 := Tryz.func276.trans (congrArg some (by kernel_rfl))
 f217 := Tryz.func324.trans (congrArg some (by kernel_rfl))
 f218 := Tryz.func277.trans (congrArg some (by kernel_rfl))
 f219 := Tryz.func278.trans (congrArg some (by kernel_rfl))
 f221 := Tryz.func95.trans (congrArg some (by kernel_rfl))
 f224 := Tryz.func326.trans (congrArg some (by kernel_rfl))
 f225 := Tryz.func325.trans (congrArg some (by kernel_rfl))
 f260 := Tryz.func323.trans (congrArg some (by kernel_rfl))
 f266 := Tryz.func379.trans (congrArg some (by kernel_rfl))
 f267 := Tryz.func327.trans (congrArg some (by kernel_rfl))
 f268 := Tryz.func193.trans (congrArg some (by kernel_rfl))
 f314 := Tryz.func380.trans (congrArg some (by kernel_rfl))
 t0 := Tryz.underlying0
 a0 := Tryz.isAgg0
 z0 := Tryz.sizeOf0
 v0 := Tryz.zeroValue0
 t3 := Tryz.underlying3
 a3 := Tryz.isAgg3
 z3 := Tryz.sizeOf3
 v3 := Tryz.zeroValue3
 t4 := Tryz.underlying4
 a4 := Tryz.isAgg4
 z4 := Tryz.sizeOf4
 v4 := Tryz.zeroValue4
 t5 := Tryz.underlying5
 a5 := Tryz.isAgg5
 z5 := Tryz.sizeOf5
 v5 := Tryz.zeroValue5
 t9 := Tryz.underlying9
 a9 := Tryz.isAgg9
 z9 := Tryz.sizeOf9
 v9 := Tryz.zeroValue9
 t21 := Tryz.underlying21
 a21 := Tryz.isAgg21
 z21 := Tryz.sizeOf21
 v21 := Tryz.zeroValue21
 t31 := Tryz.underlying47
 a31 := Tryz.isAgg47
 z31 := Tryz.sizeOf47
 v31 := Tryz.zeroValue47
 t46 := Tryz.underlying177
 a46 := Tryz.isAgg177
 z46 := Tryz.sizeOf177
 v46 := Tryz.zeroValue177
 t51 := Tryz.underlying322
 a51 := Tryz.isAgg322
 z51 := Tryz.sizeOf322
 v51 := Tryz.zeroValue322
 t105 := Tryz.underlying419
 a105 := Tryz.isAgg419
 z105 := Tryz.sizeOf419
 v105 := Tryz.zeroValue419
 t119 := Tryz.underlying509
 a119 := Tryz.isAgg509
 z119 := Tryz.sizeOf509
 t138 := Tryz.underlying511
 a138 := Tryz.isAgg511
 z138 := Tryz.sizeOf511
 v138 := Tryz.zeroValue511
 t139 := Tryz.underlying512
 a139 := Tryz.isAgg512
 z139 := Tryz.sizeOf512
 v139 := Tryz.zeroValue512
 t146 := Tryz.underlying323
 a146 := Tryz.isAgg323
 z146 := Tryz.sizeOf323
 v146 := Tryz.zeroValue323
 g1 := by kernel_rfl
 g3 := by kernel_rfl
 g4 := by kernel_rfl }
open Go.RowKit Go.Lib in
/-- strings.Split. (LAID: no walk: one application.) -/
theorem Tryz.strings_Split (s sep : ByteArray) (m : Int) (w : World) (hs : s.size < 4294967281) (hm : w.cell? ⟨1, 0, none⟩ = some (.int .i64 m)) (h1 : 1 ≤ sep.size) :
 Calls Tryz.prog 36 #[.string s, .string sep] w fun e w' =>
  e = .returned (.slice (some ⟨w.heap.size, 0, none⟩) (Lib.countB s sep + 1) (Lib.countB s sep + 1)) ∧ w' = w.alloc (.cells ((Lib.splitB sep 0 (Lib.countB s sep) s).map Value.string).toArray 9) := Any.strings_Split Tryz.lays146 (by kernel_rfl) s sep m w hs hm h1
def Tryz.lays105_ren : Go.Shelf.Ren := ⟨fun | 105 => 34 | 212 => 86 | 99 => 87 | 165 => 88 | 166 => 89 | 170 => 90 | 169 => 91 | 263 => 186 | 264 => 187 | 206 => 188 | 240 => 189 | 241 => 190 | 276 => 273 | 277 => 274 | n => n, fun | 9 => 9 | 3 => 3 | 4 => 4 | 20 => 20 | 0 => 0 | 46 => 177 | 109 => 178 | 5 => 5 | 72 => 183 | 76 => 187 | 51 => 322 | 146 => 323 | 53 => 325 | 148 => 326 | 70 => 181 | 37 => 85 | 75 => 186 | 127 => 328 | 164 => 416 | 80 => 190 | n => n, fun | n => n⟩
theorem Tryz.lays105 : Go.Proofs.Lays.n105 Tryz.prog Tryz.lays105_ren := {
 mixed := by kernel_rfl
 f99 := Tryz.func87.trans (congrArg some (by kernel_rfl))
 f105 := Tryz.func34.trans (congrArg some (by kernel_rfl))
 f165 := Tryz.func88.trans (congrArg some (by kernel_rfl))
 f166 := Tryz.func89.trans (congrArg some (by kernel_rfl))
 f169 := Tryz.func91.trans (congrArg some (by kernel_rfl))
 f170 := Tryz.func90.trans (congrArg some (by kernel_rfl))
 f206 := Tryz.func188.trans (congrArg some (by kernel_rfl))
 f212 := Tryz.func86.trans (congrArg some (by kernel_rfl))
 f240 := Tryz.func189.trans (congrArg some (by kernel_rfl))
 f241 := Tryz.func190.trans (congrArg some (by kernel_rfl))
 f263 := Tryz.func186.trans (congrArg some (by kernel_rfl))
 f264 := Tryz.func187.trans (congrArg some (by kernel_rfl))
 f276 := Tryz.func273.trans (congrArg some (by kernel_rfl))
 f277 := Tryz.func274.trans (congrArg some (by kernel_rfl))
 t0 := Tryz.underlying0
 a0 := Tryz.isAgg0
 z0 := Tryz.sizeOf0
 v0 := Tryz.zeroValue0
 t3 := Tryz.underlying3
 a3 := Tryz.isAgg3
 z3 := Tryz.sizeOf3
 v3 := Tryz.zeroValue3
 t4 := Tryz.underlying4
 a4 := Tryz.isAgg4
 z4 := Tryz.sizeOf4
 v4 := Tryz.zeroValue4
 t5 := Tryz.underlying5
 a5 := Tryz.isAgg5
 z5 := Tryz.sizeOf5
 v5 := Tryz.zeroValue5
 t9 := Tryz.underlying9
 a9 := Tryz.isAgg9
 z9 := Tryz.sizeOf9
 v9 := Tryz.zeroValue9
 t20 := Tryz.underlying20
 a20 := Tryz.isAgg20
 z20 := Tryz.sizeOf20
 v20 := Tryz.zeroValue20
 t37 := Tryz.underlying85
 a37 := Tryz.isAgg85
 z37 := Tryz.sizeOf85
 v37 := Tryz.zeroValue85
 t46 := Tryz.underlying177
 a46 := Tryz.isAgg177
 z46 := Tryz.sizeOf177
 v46 := Tryz.zeroValue177
 t51 := Tryz.underlying322
 a51 := Tryz.isAgg322
 z51 := Tryz.sizeOf322
 v51 := Tryz.zeroValue322
 t53 := Tryz.underlying325
 a53 := Tryz.isAgg325
 z53 := Tryz.sizeOf325
 v53 := Tryz.zeroValue325
 t70 := Tryz.underlying181
 a70 := Tryz.isAgg181
 z70 := Tryz.sizeOf181
 v70 := Tryz.zeroValue181
 t72 := Tryz.underlying183
 a72 := Tryz.isAgg183
 z72 := Tryz.sizeOf183
 v72 := Tryz.zeroValue183
 t75 := Tryz.underlying186
 a75 := Tryz.isAgg186
 z75 := Tryz.sizeOf186
 v75 := Tryz.zeroValue186
 t76 := Tryz.underlying187
 a76 := Tryz.isAgg187
 z76 := Tryz.sizeOf187
 v76 := Tryz.zeroValue187
 t109 := Tryz.underlying178
 a109 := Tryz.isAgg178
 z109 := Tryz.sizeOf178
 v109 := Tryz.zeroValue178
 t127 := Tryz.underlying328
 a127 := Tryz.isAgg328
 z127 := Tryz.sizeOf328
 v127 := Tryz.zeroValue328
 t146 := Tryz.underlying323
 a146 := Tryz.isAgg323
 z146 := Tryz.sizeOf323
 v146 := Tryz.zeroValue323
 t148 := Tryz.underlying326
 a148 := Tryz.isAgg326
 z148 := Tryz.sizeOf326
 v148 := Tryz.zeroValue326
 t164 := Tryz.underlying416
 a164 := Tryz.isAgg416
 z164 := Tryz.sizeOf416
 v164 := Tryz.zeroValue416 }
theorem Tryz.Builder_Extra_105 : Builder.Extra Tryz.prog Tryz.lays105_ren := {
 sizeBuilder := by kernel_rfl
 liesBuilder := by kernel_rfl
 t5 := Tryz.underlying5
 a5 := Tryz.isAgg5
 z5 := Tryz.sizeOf5
 v5 := Tryz.zeroValue5
 infoByte := by kernel_rfl
 cellsByte := by kernel_rfl
 sizeByte := by kernel_rfl
 neB5 := by decide }
open Go.RowKit Go.Lib in
/-- **strings.Repeat: count ≥ 0, the result within one allocation: count copies of s.** (LAID: no walk: one application.) -/
theorem Tryz.strings_Repeat (s : ByteArray) (c : Nat) (w : World) (hc : c ≤ 9223372036854775807) (hlen : s.size * c ≤ 140737488355328) :
 Calls Tryz.prog 34 #[.string s, .int .i64 c] w fun e w' => e = .returned (.string ⟨(Lib.repeatL s.data.toList c).toArray⟩) ∧ Below w.heap.size w w' := Any.strings_Repeat Tryz.lays105 Tryz.Builder_Extra_105 s c w hc hlen
end Go.Proofs
namespace Go.Ev
open Go.Proofs

/-! ### plain: splitting at a byte -/
def splitL (c : UInt8) : List UInt8 → List (List UInt8)
 | [] => [[]]
 | x :: l => if x = c then [] :: splitL c l else match splitL c l with | [] => [[x]] | y :: ys => (x :: y) :: ys
theorem splitL_none {c : UInt8} : ∀ {x : List UInt8}, c ∉ x → splitL c x = [x]
 | [], _ => rfl
 | d :: x, h => by
  have hc : ¬ d = c := fun e => h (by simp [e])
  rw [splitL, if_neg hc, splitL_none (fun e => h (List.mem_cons_of_mem _ e))]
theorem splitL_cut {c : UInt8} {rest : List UInt8} : ∀ {x : List UInt8}, c ∉ x → splitL c (x ++ c :: rest) = x :: splitL c rest
 | [], _ => by simp [splitL]
 | d :: x, h => by
  have hc : ¬ d = c := fun e => h (by simp [e])
  rw [List.cons_append, splitL, if_neg hc, splitL_cut (fun e => h (List.mem_cons_of_mem _ e))]
theorem occ_one (s : List UInt8) (c : UInt8) (i : Nat) : Lib.occAt s [c] i = decide (s[i]? = some c) := by
 rw [Lib.occAt]
 by_cases h : i < s.length
 · rw [List.drop_eq_getElem_cons h, Bool.eq_iff_iff]
   simp [List.isPrefixOf, h]
   exact eq_comm
 · rw [List.drop_of_length_le (by omega)]
   simp [List.isPrefixOf, List.getElem?_eq_none (Nat.le_of_not_lt h)]
theorem mem_take {s : List UInt8} {c : UInt8} {i : Nat} (h : c ∈ s.take i) : ∃ j, j < i ∧ s[j]? = some c := by
 obtain ⟨j, hj⟩ := List.mem_iff_getElem?.1 h
 rw [List.getElem?_take] at hj
 split at hj
 · rename_i hlt; exact ⟨j, hlt, hj⟩
 · simp at hj
theorem split_one (c : UInt8) : ∀ (n : Nat) (s : List UInt8), s.length ≤ n → Lib.split s [c] = splitL c s := by
 intro n
 induction n with
 | zero =>
  intro s hs
  have : s = [] := List.length_eq_zero_iff.1 (by omega)
  subst this
  rfl
 | succ n ih =>
  intro s hs
  rcases Lib.index_spec s [c] with ⟨h1, h2⟩ | ⟨i, h1, h2, h3, h4⟩
  · rw [Lib.split, Lib.count_miss h1, Lib.splitK]
    refine (splitL_none fun hm => ?_).symm
    obtain ⟨j, hj⟩ := List.mem_iff_getElem?.1 hm
    have hl := (List.getElem?_eq_some_iff.1 hj).1
    have := h2 j (by omega)
    rw [occ_one] at this
    simp [hj] at this
  · rw [occ_one] at h3
    have hi : s[i]? = some c := by simpa using h3
    have hl := (List.getElem?_eq_some_iff.1 hi).1
    have he := (List.getElem?_eq_some_iff.1 hi).2
    have hcut : s = s.take i ++ c :: s.drop (i + 1) := by
     conv => lhs; rw [← List.take_append_drop i s, List.drop_eq_getElem_cons hl, he]
    have hno : c ∉ s.take i := fun hm => by
     obtain ⟨j, hj, h5⟩ := mem_take hm
     have := h4 j hj
     rw [occ_one] at this
     simp [h5] at this
    have hm : ¬ (Lib.index s [c] == -1) = true := fun e => by have := beq_iff_eq.1 e; omega
    have e : (Lib.index s [c]).toNat = i := by omega
    rw [Lib.split, Lib.count_hit (by simp) h1, Nat.add_comm, Lib.splitK, if_neg hm, e]
    conv => rhs; rw [hcut, splitL_cut hno]
    have := ih (s.drop (i + 1)) (by rw [List.length_drop]; omega)
    rw [Lib.split] at this
    simp only [Nat.add_zero, List.length_singleton]
    rw [this]

open Go.Shelf Go.RowKit Go.Lib Go.Sort in
theorem below_grown (B : Nat) (w : World) (q : Nat) (os : Array Obj) (hB : B ≤ w.heap.size) : RowKit.Below B w (grow (w.drewN q) os) :=
 ⟨rfl, rfl, rfl, by first | (simp [grow]; done) | (simp [grow]; omega), fun i hi => by
  show ((w.drewN q).heap ++ os)[i]? = _
  rw [Array.getElem?_append_left (by show i < w.heap.size; omega)]
  rfl⟩
/-- a call that leaves all that was there, and gives a plain value -/
theorem plain_call {P : Program} {f : Nat} {args : List AV} {s s' : St} {v : AV} (hx : Ext s s') (hm : s'.mem = s.mem) (hn : s'.next = s.next)
 (h : ∀ (M : Nat → Prop) e w xs, Rel e s M w → (∀ i, s'.X.testBit i = true → M i) → LRel e args xs → ∃ x, VRel e v x ∧ Calls P f xs.toArray w (fun en w' => en = .returned x ∧ RowKit.Below w.heap.size w w')) : CallOkR P f args s (.ret v s') := by
 intro s1 hs1
 cases hs1
 refine ⟨hx, fun M e w xs hw hr hM hl => ?_⟩
 obtain ⟨x, hv, hc⟩ := h M e w xs hr hM hl
 refine callsIn_wide.2 (hc.mono ?_)
 rintro en w' ⟨rfl, hb⟩
 refine ⟨e, hv, ⟨fun b B hb' hB => ?_, fun b b' B B' p p' h1 h2 h3 h4 => hr.inj b b' B B' p p' h1 h2 (hm ▸ h3) (hm ▸ h4), fun b hb' hle => hr.new b hb' (hn ▸ hle), hr.one, hr.glob.step rfl (fun _ _ h => .inl h) (fun i hi => hb.block i (Nat.lt_of_lt_of_le hi hr.glob.size)) hb.size⟩,
  ⟨e.le_refl, fun _ h h' => absurd h h', hb.size, fun k hk _ => hb.block k hk, fun b p h h' => (by rw [h] at h'; cases h'), ⟨hb.os, hb.output, hb.tape⟩⟩⟩
 rw [hm] at hB
 obtain ⟨p, hp, hBR⟩ := hr.blk b B hb' hB
 exact ⟨p, hp, hBR.keep e.le_refl (hb.block _ hBR.lt)⟩

/-! ### Itoa -/
noncomputable def digits (f : Nat) : Nat → List Nat → List Nat := Nat.rec (motive := fun _ => Nat → List Nat → List Nat) (fun _ l => l) (fun _ ih n l => Bool.rec (ih (Nat.div n 10) (Nat.add 48 (Nat.mod n 10) :: l)) (Nat.add 48 n :: l) (Nat.blt n 10)) f
theorem digits_ok : ∀ (f n : Nat) (l : List Nat), n < 10 ^ f → (digits f n l).map UInt8.ofNat = (if f = 0 then [] else Lib.decDigits n) ++ l.map UInt8.ofNat
 | 0, n, l, _ => rfl
 | f + 1, n, l, h => by
  show (Bool.rec (digits f (n / 10) ((48 + n % 10) :: l)) ((48 + n) :: l) (Nat.blt n 10) : List Nat).map UInt8.ofNat = _
  rw [if_neg (by omega), Lib.decDigits]
  cases hb : Nat.blt n 10 with
  | true =>
   have := blt_iff.1 hb
   rw [dif_pos this]; rfl
  | false =>
   have hn : ¬ n < 10 := fun h' => by rw [blt_iff.2 h'] at hb; cases hb
   rw [dif_neg hn]
   have hf : f ≠ 0 := fun e => by subst e; omega
   have := digits_ok f (n / 10) ((48 + n % 10) :: l) (by rw [Nat.pow_succ] at h; omega)
   rw [if_neg hf] at this
   show (digits f (n / 10) ((48 + n % 10) :: l)).map UInt8.ofNat = _
   rw [this]; simp
theorem tab_pow {e : Env} {w : World} (h : GOk e w) : Lib.TabIs Tryz.prog w "internal/strconv.uint64pow10" .u64 Lib.pow10Tab := by
 have h0 := h.is 0 (by rw [h.eq]; decide)
 rw [h.eq] at h0
 obtain ⟨elem, fr, h1⟩ := h0
 have hg : Tryz.prog.globalNamed "internal/strconv.uint64pow10" = some 0 := by kernel_rfl
 unfold Lib.TabIs World.var?
 rw [hg]
 show (match w.heap[0]? with | some (.cells cs _ _) => some cs | _ => none) = _
 rw [h1]
 simp [Lib.pow10Tab]
noncomputable def kItoa (args : List AV) (s : St) : Option RV := match args with
 | [.int .i64 (.ofNat n)] => Bool.rec none (some (.ret (.str (digits 12 n [])) s)) (Nat.blt n 1000000000)
 | _ => none
theorem kItoa_ok {args : List AV} {s : St} {r : RV} (h : kItoa args s = some r) : CallOkR Tryz.prog 33 args s r := by
 unfold kItoa at h
 split at h
 · rename_i n
   obtain ⟨hb, h⟩ := brec_some h
   cases h
   have hlt := blt_iff.1 hb
   refine plain_call (.refl _) rfl rfl fun M e w xs hr hM hl => ?_
   obtain ⟨y, ys, rfl, h1, h2⟩ := hl.of_cons
   obtain rfl := h2.of_nil
   simp only [VRel] at h1
   subst h1
   refine ⟨.string (bytes (digits 12 n [])), by simp only [VRel], (Tryz.strconv_Itoa (n : Int) (by omega) (by omega) w (tab_pow hr.glob)).mono ?_⟩
   rintro en w' ⟨rfl, k, os, rfl⟩
   refine ⟨?_, below_grown _ w k os (Nat.le_refl _)⟩
   have : (Lib.itoa (n : Int)) = (digits 12 n []).map UInt8.ofNat := by
    rw [digits_ok 12 n [] (by omega), if_neg (by omega), Lib.itoa, if_neg (by omega)]; simp
   rw [this]; rfl
 · cases h

/-! ### Repeat -/
noncomputable def repL (l : List Nat) (n : Nat) : List Nat := Nat.rec [] (fun _ ih => lapp l ih) n
theorem repL_ok (l : List Nat) : ∀ n, (repL l n).map UInt8.ofNat = Lib.repeatL (l.map UInt8.ofNat) n
 | 0 => rfl
 | n + 1 => by
  show (lapp l (repL l n)).map UInt8.ofNat = _
  rw [lapp_eq, List.map_append, repL_ok l n]; rfl
noncomputable def kRepeat (args : List AV) (s : St) : Option RV := match args with
 | [.str l, .int .i64 (.ofNat n)] => Bool.rec none (some (.ret (.str (repL l n)) s)) (Bool.and (Nat.blt n 1000) (Nat.blt (llen l) 1000))
 | _ => none
theorem kRepeat_ok {args : List AV} {s : St} {r : RV} (h : kRepeat args s = some r) : CallOkR Tryz.prog 34 args s r := by
 unfold kRepeat at h
 split at h
 · rename_i l n
   obtain ⟨hb, h⟩ := brec_some h
   cases h
   obtain ⟨hb1, hb2⟩ := and_true hb
   have hlt := blt_iff.1 hb1
   have hlt2 := blt_iff.1 hb2
   rw [llen_eq] at hlt2
   refine plain_call (.refl _) rfl rfl fun M e w xs hr hM hl => ?_
   obtain ⟨y, ys, rfl, h1, h2⟩ := hl.of_cons
   obtain ⟨z, zs, rfl, h3, h4⟩ := h2.of_cons
   obtain rfl := h4.of_nil
   simp only [VRel] at h1 h3
   subst h1 h3
   have hsz : (bytes l).size = l.length := by simp [bytes, ByteArray.size]
   refine ⟨.string (bytes (repL l n)), by simp only [VRel], (Tryz.strings_Repeat (bytes l) n w (by omega) (by rw [hsz]; exact Nat.le_trans (Nat.mul_le_mul (Nat.le_of_lt hlt2) (Nat.le_of_lt hlt)) (by decide))).mono ?_⟩
   rintro en w' ⟨rfl, hb⟩
   refine ⟨?_, hb⟩
   have : Lib.repeatL (bytes l).data.toList n = (repL l n).map UInt8.ofNat := by rw [repL_ok]; simp [bytes]
   rw [this]; rfl
 · cases h

/-! ### Join -/
theorem join_two (x y : List UInt8) (r : List (List UInt8)) (sep : List UInt8) : Lib.join (x :: y :: r) sep = x ++ sep ++ Lib.join (y :: r) sep := by
 rw [Lib.join_cons, Lib.join_cons]
 simp [Lib.joinTail]
noncomputable def joinS (sep : List Nat) (t : List AV) (x : AV) (ih : Option (List Nat)) : Option (List Nat) := match x, ih with
 | .str a, some r => some (List.rec a (fun _ _ _ => lapp a (lapp sep r)) t)
 | _, _ => none
noncomputable def joinL (sep : List Nat) (l : List AV) : Option (List Nat) := List.rec (motive := fun _ => Option (List Nat)) (some []) (fun x t ih => joinS sep t x ih) l
theorem joinL_ok (sep : List Nat) : ∀ (l : List AV) (r : List Nat), joinL sep l = some r → ∃ L : List (List Nat), l = L.map AV.str ∧ r.map UInt8.ofNat = Lib.join (L.map (List.map UInt8.ofNat)) (sep.map UInt8.ofNat)
 | [], r, h => by cases h; exact ⟨[], rfl, rfl⟩
 | x :: t, r, h => by
  have h : joinS sep t x (joinL sep t) = some r := h
  unfold joinS at h
  split at h
  · rename_i a r' hr _
    obtain ⟨L, rfl, hL⟩ := joinL_ok sep t r' hr
    cases L with
    | nil => cases h; exact ⟨[a], rfl, by simp [Lib.join_one]⟩
    | cons b L =>
     cases h
     refine ⟨a :: b :: L, rfl, ?_⟩
     show (lapp a (lapp sep r')).map UInt8.ofNat = Lib.join (a.map UInt8.ofNat :: b.map UInt8.ofNat :: L.map (List.map UInt8.ofNat)) _
     rw [lapp_eq, lapp_eq, List.map_append, List.map_append, hL, join_two]
     simp
  · cases h
noncomputable def kJoin (args : List AV) (s : St) : Option RV := match args with
 | [.nils, .str _] => some (.ret (.str []) s)
 | [.slice b o n c es, .str sep] => Option.rec none (fun q => Option.rec none (fun r => Bool.rec none (some (.ret (.str r) q.2)) (Bool.and (Nat.blt (llen r) 100000) (Nat.blt n 100000))) (joinL sep q.1)) (elemsA 1 (.slice b o n c es) n s)
 | _ => none
theorem kJoin_ok {args : List AV} {s : St} {r : RV} (h : kJoin args s = some r) : CallOkR Tryz.prog 268 args s r := by
 unfold kJoin at h
 split at h
 · rename_i sep
   cases h
   refine plain_call (.refl _) rfl rfl fun M e w xs hr hM hl => ?_
   obtain ⟨y, ys, rfl, h1, h2⟩ := hl.of_cons
   obtain ⟨z, zs, rfl, h3, h4⟩ := h2.of_cons
   obtain rfl := h4.of_nil
   simp only [VRel] at h1 h3
   subst h1 h3
   refine ⟨.string (bytes []), by simp only [VRel], (Tryz.strings_Join_none none 0 (bytes sep) w).mono ?_⟩
   rintro en w' ⟨rfl, rfl⟩
   exact ⟨rfl, RowKit.Below.refl _ _⟩
 · rename_i b o n c es sep
   obtain ⟨q, hq, h⟩ := orec h
   obtain ⟨r', hj, h⟩ := orec h
   obtain ⟨hb, h⟩ := brec_some h
   cases h
   obtain ⟨hb1, hb2⟩ := and_true hb
   have hlt := blt_iff.1 hb1
   have hlt2 := blt_iff.1 hb2
   rw [llen_eq] at hlt
   have hxt := elemsA_ext hq
   unfold elemsA at hq
   simp only [] at hq
   split at hq <;> first | (cases hq; done) | skip
   rename_i row ex hbm
   obtain ⟨hl0, hq⟩ := brec_some hq
   cases hq
   have hl1 := Nat.eq_of_beq_eq_true hl0
   rw [llen_eq, ltake_eq, ldrop_eq, show n.mul 1 = n from Nat.mul_one n] at hl1
   replace hj : joinL sep ((row.drop o).take n) = some r' := by rw [← ltake_eq, ← ldrop_eq, ← Nat.mul_one n]; exact hj
   obtain ⟨L, hL, hjo⟩ := joinL_ok sep _ _ hj
   refine plain_call hxt rfl rfl fun M e w xs hr hM hl => ?_
   obtain ⟨y, ys, rfl, h1, h2⟩ := hl.of_cons
   obtain ⟨z, zs, rfl, h3, h4⟩ := h2.of_cons
   obtain rfl := h4.of_nil
   simp only [VRel] at h1 h3
   subst h3
   obtain ⟨p, m, hp, rfl, k1, k2, k3⟩ := h1
   obtain ⟨p', hp', hB⟩ := hr.blk b _ (hM b (orB_same _ _)) hbm
   rw [hp] at hp'; cases hp'
   have hLn : L.length = n := by
    have := congrArg List.length hL
    rw [hl1, List.length_map] at this
    exact this.symm
   have hcells : ∀ (j : Nat) x, (L.map bytes)[j]? = some x → w.cell? ⟨p.1, o + j, none⟩ = some (.string x) := fun j x hx => by
    rw [List.getElem?_map] at hx
    obtain ⟨u, hu, rfl⟩ := Option.map_eq_some_iff.1 hx
    have hr2 : row[o + j]? = some (AV.str u) := by
     have h5 : ((row.drop o).take n)[j]? = some (AV.str u) := by rw [hL, List.getElem?_map, hu]; rfl
     rw [List.getElem?_take] at h5
     split at h5
     · rwa [List.getElem?_drop] at h5
     · cases h5
    obtain ⟨x, hx1, hx2⟩ := hB.cell hr2
    simp only [VRel] at hx2
    rw [hx1, hx2]
   have hjj : (Lib.join ((L.map bytes).map (·.data.toList)) (bytes sep).data.toList) = r'.map UInt8.ofNat := by
    rw [hjo, List.map_map]
    congr 1
   have hlen : (L.map bytes).length = n := by rw [List.length_map, hLn]
   have hc := Tryz.strings_Join p.1 o m (L.map bytes) (bytes sep) w hcells hB.lt (by omega) (by omega) (by rw [hjj, List.length_map]; omega)
   rw [hlen, hjj] at hc
   exact ⟨.string (bytes r'), by simp only [VRel], hc.mono fun en w' hh => ⟨hh.1, hh.2⟩⟩
 · cases h

/-! ### Split -/
noncomputable def splitN (c : Nat) (l : List Nat) : List (List Nat) :=
 List.rec (motive := fun _ => List (List Nat)) [[]] (fun b _ ih => Bool.rec (List.rec [[b]] (fun x xs _ => (b :: x) :: xs) ih) ([] :: ih) (Nat.beq b c)) l
theorem splitN_ok {c : Nat} (hc : c ≤ 255) : ∀ {l : List Nat}, (∀ b ∈ l, b ≤ 255) → (splitN c l).map (List.map UInt8.ofNat) = splitL (UInt8.ofNat c) (l.map UInt8.ofNat)
 | [], _ => rfl
 | b :: l, h => by
  have ih := splitN_ok hc (l := l) fun x hx => h x (List.mem_cons_of_mem _ hx)
  have hb := h b List.mem_cons_self
  show (Bool.rec (List.rec [[b]] (fun x xs _ => (b :: x) :: xs) (splitN c l)) ([] :: splitN c l) (Nat.beq b c) : List (List Nat)).map (List.map UInt8.ofNat) = splitL (UInt8.ofNat c) (UInt8.ofNat b :: l.map UInt8.ofNat)
  rw [splitL]
  cases hbc : Nat.beq b c with
  | true =>
   have := Nat.eq_of_beq_eq_true hbc
   subst this
   rw [if_pos rfl, ← ih]; rfl
  | false =>
   have hne : b ≠ c := fun e => by subst e; rw [Nat.beq_refl] at hbc; cases hbc
   have hne2 : ¬ UInt8.ofNat b = UInt8.ofNat c := fun e => hne (by
    have := congrArg UInt8.toNat e
    simp only [UInt8.toNat_ofNat'] at this
    omega)
   rw [if_neg hne2, ← ih]
   cases splitN c l with
   | nil => rfl
   | cons x xs => rfl
noncomputable def kSplit (args : List AV) (s : St) : Option RV := match args with
 | [.str l, .str [c]] => Bool.rec none (some (.ret (.slice s.next 0 (llen (splitN c l)) (some (llen (splitN c l))) 1) (s.new (.cells (lmap AV.str (splitN c l)) false)))) (Bool.and (Nat.ble c 255) (Bool.and (allByte l) (Nat.blt (llen l) 1000000)))
 | _ => none
theorem strs_rel (e : Env) : ∀ L : List (List Nat), LRel e (L.map AV.str) (L.map (Value.string ∘ bytes))
 | [] => .nil_
 | u :: L => .cons_ (by simp only [VRel]; rfl) (strs_rel e L)
theorem kSplit_ok {args : List AV} {s : St} {r : RV} (h : kSplit args s = some r) : CallOkR Tryz.prog 36 args s r := by
 unfold kSplit at h
 split at h
 · rename_i l c
   obtain ⟨hb, h⟩ := brec_some h
   cases h
   obtain ⟨hc, hb⟩ := and_true hb
   obtain ⟨hl, hb⟩ := and_true hb
   replace hc := Nat.le_of_ble_eq_true hc
   replace hl := allByte_ok hl
   have hlt := blt_iff.1 hb
   rw [llen_eq] at hlt
   intro s' hs'
   cases hs'
   refine ⟨new_ext _ _, fun M e w xs hw hr hM hx => ?_⟩
   obtain ⟨y, ys, rfl, h1, h2⟩ := hx.of_cons
   obtain ⟨z, zs, rfl, h3, h4⟩ := h2.of_cons
   obtain rfl := h4.of_nil
   simp only [VRel] at h1 h3
   subst h1 h3
   have hg := hr.glob.is 1 (by rw [hr.glob.eq]; decide)
   rw [hr.glob.eq] at hg
   obtain ⟨m, elem, fr, hg⟩ := hg
   have hm : w.cell? ⟨1, 0, none⟩ = some (.int .i64 m) := by simp [World.cell?, hg]
   have hsz : (bytes l).size = l.length := by simp [bytes, ByteArray.size]
   have hparts : Lib.splitB (bytes [c]) 0 (Lib.countB (bytes l) (bytes [c])) (bytes l) = (splitN c l).map bytes := by
    have h := Lib.splitB_data (bytes [c]) 0 (Lib.countB (bytes l) (bytes [c])) (bytes l)
    have h2 : Lib.splitK [UInt8.ofNat c] 0 (Lib.count (l.map UInt8.ofNat) [UInt8.ofNat c]) (l.map UInt8.ofNat) = splitL (UInt8.ofNat c) (l.map UInt8.ofNat) := split_one _ _ _ (Nat.le_refl _)
    have e1 : (bytes l).data.toList = l.map UInt8.ofNat := by simp [bytes]
    have e2 : (bytes [c]).data.toList = [UInt8.ofNat c] := by simp [bytes]
    have e3 : Lib.countB (bytes l) (bytes [c]) = Lib.count (l.map UInt8.ofNat) [UInt8.ofNat c] := by unfold Lib.countB; rw [e1, e2]
    rw [e1, e2, e3, h2, ← splitN_ok hc hl] at h
    rw [e3]
    refine (List.map_inj_right (f := fun x : ByteArray => x.data.toList) (fun a b hab => by
     cases a with | mk a => cases b with | mk b => exact congrArg ByteArray.mk (Array.toList_inj.1 hab))).1 ?_
    rw [h, List.map_map]
    congr 1
   have hlen : (splitN c l).length = Lib.countB (bytes l) (bytes [c]) + 1 := by
    have := Lib.splitB_all (bytes [c]) (by simp [bytes, ByteArray.size]) 0 _ (bytes l) rfl
    rw [hparts, List.length_map] at this
    exact this
   refine callsIn_wide.2 ((Tryz.strings_Split (bytes l) (bytes [c]) m w (by rw [hsz]; omega) hm (by simp [bytes, ByteArray.size])).mono ?_)
   rintro en w' ⟨rfl, rfl⟩
   rw [hparts, ← hlen, List.map_map]
   have hLd : Laid w (w.alloc (.cells (((splitN c l).map (Value.string ∘ bytes)).toArray) 9)) := ⟨by simp, fun i hi => by
    show (w.heap.push _)[i]? = _
    rw [Array.getElem?_push_lt hi, Array.getElem?_eq_getElem hi], ⟨rfl, rfl, rfl⟩⟩
   have hB : BRel (e.ext s.next (w.heap.size, (splitN c l).length)) (w.alloc (.cells (((splitN c l).map (Value.string ∘ bytes)).toArray) 9)) (w.heap.size, (splitN c l).length) (.cells (lmap AV.str (splitN c l)) false) := by
    refine ⟨((splitN c l).map (Value.string ∘ bytes)).toArray, 9, (0, 0), by show (w.heap.push _)[w.heap.size]? = _; simp, by simp, .inl (Nat.le_refl _), by rw [lmap_eq]; simp, (fun h => by cases h), ?_⟩
    rw [lmap_eq]
    simp only [List.length_map]
    rw [List.take_of_length_le (by simp)]
    exact strs_rel _ _
   obtain ⟨t1, t2⟩ := new_ok hr (hM _ (orB_same _ _)) hLd hB
   refine ⟨_, ?_, t1, t2⟩
   simp only [VRel]
   exact ⟨_, _, e.ext_same _ _, by rw [llen_eq], by rw [llen_eq]; exact Nat.le_refl _, (fun k hk => by cases hk; rw [llen_eq]), by simp⟩
 · cases h

/-- the library's calls -/
noncomputable def KL (f : Nat) (args : List AV) (s : St) : Option RV :=
 Bool.rec (Bool.rec (Bool.rec (Bool.rec none (kJoin args s) (Nat.beq f 268)) (kSplit args s) (Nat.beq f 36)) (kRepeat args s) (Nat.beq f 34)) (kItoa args s) (Nat.beq f 33)
theorem KL_ok : KOk Tryz.prog KL := fun f args s r h => by
 unfold KL at h
 cases h1 : Nat.beq f 33 with
 | true => rw [h1] at h; rw [Nat.eq_of_beq_eq_true h1]; exact kItoa_ok h
 | false =>
  rw [h1] at h
  cases h2 : Nat.beq f 34 with
  | true => rw [h2] at h; rw [Nat.eq_of_beq_eq_true h2]; exact kRepeat_ok h
  | false =>
   rw [h2] at h
   cases h3 : Nat.beq f 36 with
   | true => rw [h3] at h; rw [Nat.eq_of_beq_eq_true h3]; exact kSplit_ok h
   | false =>
    rw [h3] at h
    cases h4 : Nat.beq f 268 with
    | true => rw [h4] at h; rw [Nat.eq_of_beq_eq_true h4]; exact kJoin_ok h
    | false => rw [h4] at h; cases h
end Go.Ev
namespace Go.Ev
open Go.Proofs
theorem K0_ok : KOk Tryz.prog (fun _ _ _ => none) := fun _ _ _ _ h => by cases h
end Go.Ev
namespace Go.Ev
open Go.Proofs
noncomputable def k_hold : Known := ⟨61, [.agg [.int .i64 2, .slice 0 0 3 (some 3) 3, .slice 1 0 2 (some 2) 6], .int .i64 0], [([.int .i64 0, .int .i64 10, .int .i64 13, .int .i64 0, .int .i64 8, .int .i64 11, .int .i64 1, .int .i64 10, .int .i64 12], true), ([.str [115,104,105,112], .int .i64 1, .int .i64 0, .int .i64 90, .slice 2 0 3 (some 3) 1, .slice 3 0 3 (some 3) 1, .str [115,104,111,114,101], .int .i64 0, .int .i64 2, .int .i64 0, .slice 4 0 3 (some 3) 1, .slice 5 0 3 (some 3) 1], true), ([.int .i64 0, .int .i64 0, .int .i64 0], true), ([.int .i64 1, .int .i64 (-1), .int .i64 22], true), ([.int .i64 0, .int .i64 2, .int .i64 0], true), ([.int .i64 13, .int .i64 10, .int .i64 (-1)], true)], .tuple [.agg [.int .i64 20, .int .i64 22], .int .i64 0]⟩
end Go.Ev
namespace Go.Ev
open Go.Proofs
noncomputable def k_lot1 : Known := ⟨51, [.agg [.slice 0 0 3 (some 3) 3, .slice 1 0 4 (some 4) 4, .slice 2 0 1 (some 1) 2]], [([.str [110,105,110,101], .int .i64 9, .int .i64 1, .str [101,105,103,104,116], .int .i64 8, .int .i64 3, .str [115,101,118,101,110], .int .i64 7, .int .i64 3], true), ([.int .i64 9, .int .i64 10, .int .i64 0, .int .i64 0, .int .i64 8, .int .i64 9, .int .i64 1, .int .i64 2, .int .i64 7, .int .i64 8, .int .i64 0, .int .i64 4, .int .i64 6, .int .i64 7, .int .i64 2, .int .i64 2], true), ([.int .i64 3, .int .i64 18], true)], .tuple [.int .i64 0, .int .i64 0, .int .i64 0]⟩
theorem k_lot1_ok : KnownOk Tryz.prog k_lot1 := knownOk_of ((E_ok K0_ok 3000).call 51 k_lot1.args (rowsS k_lot1.rows)) (by kernel_rfl)
noncomputable def k_lot2 : Known2 := ⟨52, [.agg [.slice 0 0 3 (some 3) 3, .slice 1 0 4 (some 4) 4, .slice 2 0 1 (some 1) 2]], [([.str [110,105,110,101], .int .i64 9, .int .i64 1, .str [101,105,103,104,116], .int .i64 8, .int .i64 3, .str [115,101,118,101,110], .int .i64 7, .int .i64 3], true), ([.int .i64 9, .int .i64 10, .int .i64 0, .int .i64 0, .int .i64 8, .int .i64 9, .int .i64 1, .int .i64 2, .int .i64 7, .int .i64 8, .int .i64 0, .int .i64 4, .int .i64 6, .int .i64 7, .int .i64 2, .int .i64 2], true), ([.int .i64 3, .int .i64 18], true)], .tuple [.nils, .slice 0 0 2 none 1, .int .i64 0], [.int .i64 2, .int .i64 3]⟩
theorem k_lot2_ok : Known2Ok Tryz.prog k_lot2 := known2Ok_of 532 ((E_ok K0_ok 3000).call 52 k_lot2.args (rowsS k_lot2.rows)) (by kernel_rfl)
noncomputable def k_port : Known := ⟨56, [.agg [.int .i64 50, .int .i64 6, .int .i64 8, .slice 0 0 3 (some 3) 6]], [([.str [97,108,116,111], .int .i64 1, .int .i64 1, .int .i64 5, .int .i64 20, .int .i64 25, .str [98,97,106,111], .int .i64 2, .int .i64 1, .int .i64 4, .int .i64 30, .int .i64 30, .str [99,105,109,97], .int .i64 1, .int .i64 2, .int .i64 3, .int .i64 40, .int .i64 45], true)], .tuple [.int .i64 0, .int .i64 0, .int .i64 0]⟩
theorem k_port_ok : KnownOk Tryz.prog k_port := knownOk_of ((E_ok K0_ok 3000).call 56 k_port.args (rowsS k_port.rows)) (by kernel_rfl)
noncomputable def k_board : Known := ⟨60, [.agg [.int .i64 2, .slice 0 0 3 (some 3) 3, .slice 1 0 2 (some 2) 6]], [([.int .i64 0, .int .i64 10, .int .i64 13, .int .i64 0, .int .i64 8, .int .i64 11, .int .i64 1, .int .i64 10, .int .i64 12], true), ([.str [115,104,105,112], .int .i64 1, .int .i64 0, .int .i64 90, .slice 2 0 3 (some 3) 1, .slice 3 0 3 (some 3) 1, .str [115,104,111,114,101], .int .i64 0, .int .i64 2, .int .i64 0, .slice 4 0 3 (some 3) 1, .slice 5 0 3 (some 3) 1], true), ([.int .i64 0, .int .i64 0, .int .i64 0], true), ([.int .i64 1, .int .i64 (-1), .int .i64 22], true), ([.int .i64 0, .int .i64 2, .int .i64 0], true), ([.int .i64 13, .int .i64 10, .int .i64 (-1)], true)], .tuple [.int .i64 0, .int .i64 0, .int .i64 0]⟩
theorem k_board_ok : KnownOk Tryz.prog k_board := knownOk_of ((E_ok K0_ok 3000).call 60 k_board.args (rowsS k_board.rows)) (by kernel_rfl)
noncomputable def k_cargo : Known := ⟨63, [.agg [.slice 0 0 6 (some 6) 1, .int .i64 2, .slice 1 0 2 (some 2) 2, .slice 2 0 3 (some 3) 4, .nils]], [([.int .i64 0, .int .i64 0, .int .i64 0, .int .i64 1, .int .i64 0, .int .i64 0], true), ([.int .i64 1, .int .i64 2, .int .i64 1, .int .i64 1], true), ([.int .i64 0, .int .i64 0, .int .i64 4, .int .i64 5, .int .i64 0, .int .i64 0, .int .i64 10, .int .i64 10, .int .i64 1, .int .i64 2, .int .i64 6, .int .i64 6], true)], .tuple [.int .i64 0, .int .i64 0, .int .i64 0]⟩
theorem k_cargo_ok : KnownOk Tryz.prog k_cargo := knownOk_of ((E_ok K0_ok 3000).call 63 k_cargo.args (rowsS k_cargo.rows)) (by kernel_rfl)
end Go.Ev
namespace Go.Ev
open Go.Proofs
noncomputable def k_first : Known2 := ⟨64, [.agg [.slice 0 0 6 (some 6) 1, .int .i64 2, .slice 1 0 2 (some 2) 2, .slice 2 0 3 (some 3) 4, .nils], .int .i64 0], [([.int .i64 0, .int .i64 0, .int .i64 0, .int .i64 1, .int .i64 0, .int .i64 0], true), ([.int .i64 1, .int .i64 2, .int .i64 1, .int .i64 1], true), ([.int .i64 0, .int .i64 0, .int .i64 4, .int .i64 5, .int .i64 0, .int .i64 0, .int .i64 10, .int .i64 10, .int .i64 1, .int .i64 2, .int .i64 6, .int .i64 6], true)], .tuple [.slice 0 0 1 none 1, .int .i64 0], [.int .i64 0]⟩
theorem k_first_ok : Known2Ok Tryz.prog k_first := known2Ok_of 425 ((E_ok K0_ok 3000).call 64 k_first.args (rowsS k_first.rows)) (by kernel_rfl)
noncomputable def k_market : Known := ⟨66, [.agg [.slice 0 0 2 (some 2) 5, .slice 1 0 3 (some 3) 3, .slice 2 0 5 (some 5) 4]], [([.str [97,108,116,97], .int .i64 20, .int .i64 25, .int .i64 2, .int .i64 4, .str [98,97,106,97], .int .i64 10, .int .i64 10, .int .i64 3, .int .i64 6], true), ([.str [97,112,112,108,101], .int .i64 5, .int .i64 15, .str [98,101,114,114,121], .int .i64 5, .int .i64 10, .str [99,104,101,114,114,121], .int .i64 8, .int .i64 8], true), ([.int .i64 0, .int .i64 0, .int .i64 1, .int .i64 20, .int .i64 0, .int .i64 1, .int .i64 2, .int .i64 8, .int .i64 1, .int .i64 1, .int .i64 1, .int .i64 6, .int .i64 1, .int .i64 2, .int .i64 2, .int .i64 10, .int .i64 0, .int .i64 2, .int .i64 2, .int .i64 9], true)], .tuple [.int .i64 0, .int .i64 0, .int .i64 0]⟩
theorem k_market_ok : KnownOk Tryz.prog k_market := knownOk_of ((E_ok K0_ok 3000).call 66 k_market.args (rowsS k_market.rows)) (by kernel_rfl)
noncomputable def k_file : Known := ⟨68, [.agg [.slice 0 0 4 (some 4) 1, .slice 1 0 4 (some 4) 1, .slice 2 0 2 (some 2) 4, .slice 5 0 2 none 3, .nils]], [([.str [102,97,114,109], .str [108,105,110,101], .str [115,104,105,112], .str [104,111,117,115,101]], true), ([.int .i64 10, .int .i64 12, .int .i64 20, .int .i64 30], true), ([.slice 3 0 4 (some 4) 1, .int .i64 1, .int .i64 3, .int .i64 40, .slice 4 0 2 (some 2) 1, .int .i64 0, .int .i64 1, .int .i64 25], true), ([.int .i64 0, .int .i64 1, .int .i64 2, .int .i64 3], true), ([.int .i64 1, .int .i64 2], true), ([.int .i64 0, .int .i64 0, .int .i64 2, .int .i64 2, .int .i64 0, .int .i64 1], false)], .tuple [.int .i64 0, .int .i64 0, .int .i64 0]⟩
theorem k_file_ok : KnownOk Tryz.prog k_file := knownOk_of ((E_ok K0_ok 3000).call 68 k_file.args (rowsS k_file.rows)) (by kernel_rfl)
noncomputable def k_open : Known2 := ⟨69, [.agg [.slice 0 0 4 (some 4) 1, .slice 1 0 4 (some 4) 1, .slice 2 0 2 (some 2) 4, .slice 5 0 2 none 3, .nils]], [([.str [102,97,114,109], .str [108,105,110,101], .str [115,104,105,112], .str [104,111,117,115,101]], true), ([.int .i64 10, .int .i64 12, .int .i64 20, .int .i64 30], true), ([.slice 3 0 4 (some 4) 1, .int .i64 1, .int .i64 3, .int .i64 40, .slice 4 0 2 (some 2) 1, .int .i64 0, .int .i64 1, .int .i64 25], true), ([.int .i64 0, .int .i64 1, .int .i64 2, .int .i64 3], true), ([.int .i64 1, .int .i64 2], true), ([.int .i64 0, .int .i64 0, .int .i64 2, .int .i64 2, .int .i64 0, .int .i64 1], false)], .tuple [.slice 0 0 2 none 1, .int .i64 0], [.int .i64 0, .int .i64 1]⟩
theorem k_open_ok : Known2Ok Tryz.prog k_open := known2Ok_of 227 ((E_ok K0_ok 3000).call 69 k_open.args (rowsS k_open.rows)) (by kernel_rfl)
noncomputable def k_room : Known := ⟨71, [.agg [.int .i64 5, .int .i64 3, .int .i64 8, .slice 0 0 3 (some 3) 3, .int .i64 2, .slice 1 0 2 (some 2) 1, .nils]], [([.str [99,111,111,108], .int .i64 1, .int .i64 2, .str [119,97,114,109], .int .i64 5, .int .i64 7, .str [103,97,115], .int .i64 9, .int .i64 10], true), ([.int .i64 1, .int .i64 1], true)], .tuple [.int .i64 0, .int .i64 0, .int .i64 0]⟩
theorem k_room_ok : KnownOk Tryz.prog k_room := knownOk_of ((E_ok K0_ok 3000).call 71 k_room.args (rowsS k_room.rows)) (by kernel_rfl)
noncomputable def k_began : Known := ⟨72, [.agg [.int .i64 5, .int .i64 3, .int .i64 8, .slice 0 0 3 (some 3) 3, .int .i64 2, .slice 1 0 2 (some 2) 1, .nils]], [([.str [99,111,111,108], .int .i64 1, .int .i64 2, .str [119,97,114,109], .int .i64 5, .int .i64 7, .str [103,97,115], .int .i64 9, .int .i64 10], true), ([.int .i64 1, .int .i64 1], true)], .tuple [.agg [.int .i64 3, .int .i64 8], .int .i64 0]⟩
theorem k_began_ok : KnownOk Tryz.prog k_began := knownOk_of ((E_ok K0_ok 3000).call 72 k_began.args (rowsS k_began.rows)) (by kernel_rfl)
end Go.Ev
