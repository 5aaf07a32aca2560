/- Part of the proof. -/
import Derived.Test.YtomahddiclkepaaGreatDoorQw00
import Derived.Test.YtomahddiclkepaaGreatDoorRows
import Derived.WalkKit
import Derived.ProofKit
import Derived.OpenShut
import Derived.Below
import Derived.ChangeSame
import Derived.Carry
import Derived.Lib.SmallJoins
import Derived.Shelf.Strings.Builder1
import Derived.Shelf.Strings.Builder2
import Derived.Shelf.Strings.OnBuilder
import Derived.Shelf.Strings.TrimSpace
import Derived.Shelf.Small.Utf8
import Derived.Shelf.Small.Bits
import Derived.Shelf.Small.Strs
import Derived.Shelf.Small.Wraps
import Derived.Shelf.Strings.BuilderF
import Derived.Shelf.Strconv.Atoi
import Derived.Shelf.Strconv.Itoa0
import Derived.Shelf.Strconv.Itoa1
import Derived.Shelf.LaysM
import Derived.Shelf.Strconv.Itoa2
import Derived.Shelf.Strconv.Itoa3
import Derived.Shelf.Strconv.AtoiErrFast
import Derived.Shelf.Strconv.ParseIntEmpty
import Derived.Shelf.Strconv.AtoiFail
import Derived.Shelf.Strconv.Clone
import Derived.Shelf.Strconv.SyntaxError
import Derived.Shelf.LaysC
import Derived.Shelf.Strconv.ToError
import Derived.Shelf.Strconv.Lower
import Derived.Shelf.Strconv.ParseUint10
import Derived.Shelf.Strconv.ParseUint10Empty
import Derived.Shelf.Strconv.ParseUint10Any
import Derived.Shelf.Strconv.ParseInt10
import Derived.Shelf.Strconv.AtoiLong
import Derived.Shelf.Strconv.AtoiInnerAll
import Derived.Shelf.Strconv.RangeError
import Derived.Shelf.Strconv.ToErrorRange
import Derived.Shelf.Strconv.AtoiAll
import Derived.Shelf.Strconv.ErrVarAll
import Derived.Shelf.Strings.Search1
import Derived.Shelf.Strings.Search2
import Derived.Shelf.Strings.Search3
import Derived.Shelf.Strings.Cut
import Derived.Shelf.Strings.Count
import Derived.Shelf.Strings.Shaped
import Derived.Shelf.Sort.Plain
import Derived.Shelf.GgClosure.StringsIndexFunc
import Derived.Shelf.Strings.Prefix
import Derived.Shelf.Strings.Split
import Derived.Shelf.Strings.SplitShaped
import Derived.Shelf.Unicode.Latin
import Derived.Shelf.Unicode.DecodeSlow
import Derived.Shelf.Unicode.DecodeAny
import Derived.Shelf.Unicode.Is16White
import Derived.Shelf.Unicode.IsSpaceAny
import Derived.Shelf.Unicode.DecodeLast
import Derived.Shelf.Strings.TrimSpaceAny
import Derived.Shelf.Unicode.Is16WhiteD
import Derived.Shelf.Unicode.IsSpaceAnyD
import Derived.Shelf.Strings.FieldsFuncAny
import Derived.Shelf.Unicode.Is16Any
import Derived.Shelf.Unicode.Is32Any
import Derived.Shelf.Unicode.ExclAny
import Derived.Shelf.Slices.Turned
import Derived.Ground.Names2Prog
import Derived.Shelf.Slices.SearchI
import Derived.Shelf.Bytes.SlSearch0
import Derived.Shelf.Bytes.SlEqualAll
import Derived.Shelf.Bytes.Small
import Derived.Test.YtomahddiclkepaaGreatDoorProg
import Derived.WalkSpells
import Derived.WalkLawsBesides
import Derived.Lib.Hide
import Derived.Lib.IndexAny
import Derived.Deep.QuietTactic
import Derived.BigQuiet
import Derived.Test.YtomahddiclkepaaGreatDoorCiv0
import Derived.Test.YtomahddiclkepaaGreatDoorCivMath
import Derived.Lib.ItoaNum
import Derived.Lib.AppendIntMem
set_option maxHeartbeats 20000000
set_option maxRecDepth 1000000
set_option linter.unusedVariables false
set_option linter.unusedSimpArgs false
namespace Go.Proofs.YtomahddiclkepaaGreatDoor
open Go.ChangeShapes Go.WideShapes Go.ChangeAt Go.RowKit
theorem own : ownKnob Tryz.prog.godebug = none := by kernel_rfl
section
variable {H : Type} {enc : TypeId × Value -> H} {P : Program}
theorem post_of_below {f : Func} {s : ChangeSpec} {apart fresh handsOn again : Bool} {W W' : World} {args : Array Value} {v : Value} {ds gs : List (DataW H)} {before pa pv : List MemPlace}
 (hW : DataW.Whole enc P f.params.toList s.vars apart W args.toList ds gs before)
 (hres : ∀ (b : Nat) (sp : Nat -> Bool) (hd : Bool), DataW.TrodAll enc P W' b sp hd f.resultTypes.toList (v.resultList f.resultTypes.size) (s.fn H (ds ++ gs)).results [])
 (hargs : ∀ sp : Nat -> Bool, (∀ p ∈ before, sp p.block = true) -> DataW.TrodAll enc P W' 0 sp true f.params.toList args.toList (s.fn H (ds ++ gs)).args pa)
 (hvars : ∀ sp : Nat -> Bool, (∀ p ∈ before, sp p.block = true) -> DataW.TrodVars enc P W' sp s.vars (s.fn H (ds ++ gs)).vars pv)
 (hps : before = pa ++ pv) (hb : Below W.heap.size W W')
 (hok : ∀ (j : Nat) (t : TypeId) (r : Value), f.resultTypes[j]? = some t -> (v.resultList f.resultTypes.size)[j]? = some r -> Value.okWide P W' .any 0 t r) :
 s.post enc P f apart fresh handsOn again W args v W' := by
 have hlt : ∀ p ∈ before, p.block < W.heap.size := fun p hp => hW.lt p hp
 have hold : ∀ p ∈ before, (fun b => decide (b < W.heap.size)) p.block = true := fun p hp => by simpa using hlt p hp
 refine ⟨ds, gs, before, [], pa, pv, hW, hres _ _ _, hargs _ hold, hvars _ hold, World.keptBut_mono (fun p hp => ⟨hp, ?_⟩) (hb.frame (· ∈ before)), fun _ => ?_⟩
 ·rw [hps, List.mem_append] at hp
  exact Or.inr hp
 ·obtain ⟨_, _, _, _, _, hz, hn⟩ := hW
  refine ⟨hok, _, _, ([] ++ pa) ++ pv, ⟨[] ++ pa, pv, trodAll_append (hargs _ (fun _ _ => rfl)) (hres _ _ _), hvars _ (fun _ _ => rfl), rfl, ?_, ?_⟩, ?_⟩
  ·intro b off hp
   have hin : MemPlace.cell b off ∈ before := by rw [hps]; simpa using hp
   rw [hb.frozen (hlt _ hin)]
   exact hz b off hin
  ·intro ha
   have := hn ha
   rw [hps] at this
   simpa using this
  ·intro p hp _
   rw [hps]
   simpa using hp
end
end Go.Proofs.YtomahddiclkepaaGreatDoor
namespace Go.Proofs.YtomahddiclkepaaGreatDoor
open Go.ChangeShapes Go.WideShapes Go.ChangeAt Go.RowKit
theorem laidOut : laidOutB Tryz.prog = true := by kernel_rfl
theorem trodAll_stays {H : Type} {enc : TypeId × Value -> H} {P : Program} {W W' : World} {sp : Nat -> Bool} (hl : laidOutB P = true) (hb : Below W.heap.size W W') :
 ∀ (ts : List TypeId) (vs : List Value) (ds : List (DataW H)) (ps : List MemPlace), (ts.all fun t => P.readableRec t && decide (t < P.types.size)) = true -> (∀ p ∈ ps, p.block < W.heap.size) -> (∀ p ∈ ps, sp p.block = true) ->
  DataW.TrodAll enc P W 0 (fun _ => true) true ts vs ds ps -> DataW.TrodAll enc P W' 0 sp true ts vs ds ps
 | [], [], [], _, _, _, _, h => h
 | t :: ts, v :: vs, d :: ds, ps, hts, hlt, hsp, ⟨p, q, h1, h2, e⟩ => by
  simp only [List.all_cons, Bool.and_eq_true, decide_eq_true_eq] at hts
  refine ⟨p, q, ?_, trodAll_stays hl hb ts vs ds q hts.2 (fun x hx => hlt x (by rw [e]; exact List.mem_append_right _ hx)) (fun x hx => hsp x (by rw [e]; exact List.mem_append_right _ hx)) h2, e⟩
  exact WideElems.Trod_stays hl hts.1.1 hts.1.2 h1 (fun x hx => hb.same (hlt x (by rw [e]; exact List.mem_append_left _ hx))) (fun x hx => hsp x (by rw [e]; exact List.mem_append_left _ hx))
 | [], [], _ :: _, _, _, _, _, h => h.elim
 | [], _ :: _, _, _, _, _, _, h => h.elim
 | _ :: _, [], _, _, _, _, _, h => h.elim
 | _ :: _, _ :: _, [], _, _, _, _, h => h.elim
end Go.Proofs.YtomahddiclkepaaGreatDoor
namespace Go.Proofs
open Go.Shelf
def Tryz.lays156_ren : Go.Shelf.Ren := ⟨fun | 156 => 32 | 165 => 75 | 166 => 76 | 169 => 77 | 240 => 123 | 241 => 124 | 276 => 169 | 277 => 170 | n => n, fun | 31 => 83 | 9 => 9 | 3 => 3 | 4 => 4 | 0 => 0 | 20 => 20 | 72 => 156 | 76 => 160 | 70 => 154 | 37 => 73 | 75 => 159 | 127 => 206 | 164 => 252 | 5 => 5 | 80 => 162 | n => n, fun | n => n⟩
theorem Tryz.lays156 : Go.Proofs.Lays.n156 Tryz.prog Tryz.lays156_ren := {
 mixed := by kernel_rfl
 f156 := Tryz.func32.trans (congrArg some (by kernel_rfl))
 f165 := Tryz.func75.trans (congrArg some (by kernel_rfl))
 f166 := Tryz.func76.trans (congrArg some (by kernel_rfl))
 f169 := Tryz.func77.trans (congrArg some (by kernel_rfl))
 f240 := Tryz.func123.trans (congrArg some (by kernel_rfl))
 f241 := Tryz.func124.trans (congrArg some (by kernel_rfl))
 f276 := Tryz.func169.trans (congrArg some (by kernel_rfl))
 f277 := Tryz.func170.trans (congrArg some (by kernel_rfl))
 t0 := Tryz.underlying0
 a0 := Tryz.isAgg0
 z0 := Tryz.sizeOf0
 v0 := Tryz.zeroValue0
 t3 := Tryz.underlying3
 a3 := Tryz.isAgg3
 z3 := Tryz.sizeOf3
 v3 := Tryz.zeroValue3
 t4 := Tryz.underlying4
 a4 := Tryz.isAgg4
 z4 := Tryz.sizeOf4
 v4 := Tryz.zeroValue4
 t9 := Tryz.underlying9
 a9 := Tryz.isAgg9
 z9 := Tryz.sizeOf9
 v9 := Tryz.zeroValue9
 t20 := Tryz.underlying20
 a20 := Tryz.isAgg20
 z20 := Tryz.sizeOf20
 v20 := Tryz.zeroValue20
 t31 := Tryz.underlying83
 a31 := Tryz.isAgg83
 z31 := Tryz.sizeOf83
 v31 := Tryz.zeroValue83
 t37 := Tryz.underlying73
 a37 := Tryz.isAgg73
 z37 := Tryz.sizeOf73
 v37 := Tryz.zeroValue73
 t70 := Tryz.underlying154
 a70 := Tryz.isAgg154
 z70 := Tryz.sizeOf154
 v70 := Tryz.zeroValue154
 t72 := Tryz.underlying156
 a72 := Tryz.isAgg156
 z72 := Tryz.sizeOf156
 v72 := Tryz.zeroValue156
 t75 := Tryz.underlying159
 a75 := Tryz.isAgg159
 z75 := Tryz.sizeOf159
 v75 := Tryz.zeroValue159
 t76 := Tryz.underlying160
 a76 := Tryz.isAgg160
 z76 := Tryz.sizeOf160
 v76 := Tryz.zeroValue160
 t127 := Tryz.underlying206
 a127 := Tryz.isAgg206
 z127 := Tryz.sizeOf206
 v127 := Tryz.zeroValue206
 t164 := Tryz.underlying252
 a164 := Tryz.isAgg252
 z164 := Tryz.sizeOf252
 v164 := Tryz.zeroValue252 }
theorem Tryz.Builder_Extra_156 : Builder.Extra Tryz.prog Tryz.lays156_ren := {
 sizeBuilder := by kernel_rfl
 liesBuilder := by kernel_rfl
 t5 := Tryz.underlying5
 a5 := Tryz.isAgg5
 z5 := Tryz.sizeOf5
 v5 := Tryz.zeroValue5
 infoByte := by kernel_rfl
 cellsByte := by kernel_rfl
 sizeByte := by kernel_rfl
 neB5 := by decide }
open Go.RowKit in
theorem Tryz.strings_Join (bk o c : Nat) (xs : List ByteArray) (sep : ByteArray) (w : World) (hcells : ∀ (j : Nat) x, xs[j]? = some x -> w.cell? ⟨bk, o + j, none⟩ = some (.string x)) (hbk : bk < w.heap.size) (hN : xs.length <= 140737488355328) (hcap : xs.length <= c) (hlen : (Lib.join (xs.map (·.data.toList)) sep.data.toList).length <= 140737488355328) :
 Calls Tryz.prog 32 #[.slice (some ⟨bk, o, none⟩) xs.length c, .string sep] w fun e w' => e = .returned (.string ⟨(Lib.join (xs.map (·.data.toList)) sep.data.toList).toArray⟩) /\ Below w.heap.size w w' := Any.strings_Join Tryz.lays156 Tryz.Builder_Extra_156 bk o c xs sep w hcells hbk hN hcap hlen
def Tryz.lays163_ren : Go.Shelf.Ren := ⟨fun | 163 => 74 | 237 => 120 | 199 => 121 | 238 => 122 | 272 => 165 | 261 => 166 | 273 => 167 | 197 => 168 | 315 => 195 | 311 => 196 | 312 => 197 | 271 => 198 | 260 => 199 | 120 => 218 | n => n, fun | 9 => 9 | 37 => 73 | 3 => 3 | 0 => 0 | 5 => 5 | 4 => 4 | 40 => 204 | 119 => 205 | 21 => 21 | 51 => 244 | 141 => 248 | 105 => 250 | 196 => 276 | 193 => 273 | 198 => 279 | 49 => 277 | 194 => 274 | 201 => 282 | 226 => 299 | 46 => 197 | 227 => 300 | 139 => 303 | 138 => 302 | n => n, fun | 0 => 0 | 6 => 1 | 3 => 4 | 4 => 5 | n => n⟩
theorem Tryz.lays163 : Go.Proofs.Lays.n163 Tryz.prog Tryz.lays163_ren := {
 mixed := by kernel_rfl
 f120 := Tryz.func218.trans (congrArg some (by kernel_rfl))
 f163 := Tryz.func74.trans (congrArg some (by kernel_rfl))
 f197 := Tryz.func168.trans (congrArg some (by kernel_rfl))
 f199 := Tryz.func121.trans (congrArg some (by kernel_rfl))
 f237 := Tryz.func120.trans (congrArg some (by kernel_rfl))
 f238 := Tryz.func122.trans (congrArg some (by kernel_rfl))
 f260 := Tryz.func199.trans (congrArg some (by kernel_rfl))
 f261 := Tryz.func166.trans (congrArg some (by kernel_rfl))
 f271 := Tryz.func198.trans (congrArg some (by kernel_rfl))
 f272 := Tryz.func165.trans (congrArg some (by kernel_rfl))
 f273 := Tryz.func167.trans (congrArg some (by kernel_rfl))
 f311 := Tryz.func196.trans (congrArg some (by kernel_rfl))
 f312 := Tryz.func197.trans (congrArg some (by kernel_rfl))
 f315 := Tryz.func195.trans (congrArg some (by kernel_rfl))
 t0 := Tryz.underlying0
 a0 := Tryz.isAgg0
 z0 := Tryz.sizeOf0
 v0 := Tryz.zeroValue0
 t3 := Tryz.underlying3
 a3 := Tryz.isAgg3
 z3 := Tryz.sizeOf3
 v3 := Tryz.zeroValue3
 t4 := Tryz.underlying4
 a4 := Tryz.isAgg4
 z4 := Tryz.sizeOf4
 v4 := Tryz.zeroValue4
 t5 := Tryz.underlying5
 a5 := Tryz.isAgg5
 z5 := Tryz.sizeOf5
 v5 := Tryz.zeroValue5
 t9 := Tryz.underlying9
 a9 := Tryz.isAgg9
 z9 := Tryz.sizeOf9
 v9 := Tryz.zeroValue9
 t21 := Tryz.underlying21
 a21 := Tryz.isAgg21
 z21 := Tryz.sizeOf21
 v21 := Tryz.zeroValue21
 t37 := Tryz.underlying73
 a37 := Tryz.isAgg73
 z37 := Tryz.sizeOf73
 v37 := Tryz.zeroValue73
 t40 := Tryz.underlying204
 a40 := Tryz.isAgg204
 z40 := Tryz.sizeOf204
 v40 := Tryz.zeroValue204
 t46 := Tryz.underlying197
 a46 := Tryz.isAgg197
 z46 := Tryz.sizeOf197
 v46 := Tryz.zeroValue197
 t49 := Tryz.underlying277
 a49 := Tryz.isAgg277
 z49 := Tryz.sizeOf277
 v49 := Tryz.zeroValue277
 t51 := Tryz.underlying244
 a51 := Tryz.isAgg244
 z51 := Tryz.sizeOf244
 v51 := Tryz.zeroValue244
 t105 := Tryz.underlying250
 a105 := Tryz.isAgg250
 z105 := Tryz.sizeOf250
 v105 := Tryz.zeroValue250
 t119 := Tryz.underlying205
 a119 := Tryz.isAgg205
 z119 := Tryz.sizeOf205
 t138 := Tryz.underlying302
 a138 := Tryz.isAgg302
 z138 := Tryz.sizeOf302
 v138 := Tryz.zeroValue302
 t139 := Tryz.underlying303
 a139 := Tryz.isAgg303
 z139 := Tryz.sizeOf303
 v139 := Tryz.zeroValue303
 t141 := Tryz.underlying248
 a141 := Tryz.isAgg248
 z141 := Tryz.sizeOf248
 v141 := Tryz.zeroValue248
 t193 := Tryz.underlying273
 a193 := Tryz.isAgg273
 z193 := Tryz.sizeOf273
 v193 := Tryz.zeroValue273
 t194 := Tryz.underlying274
 a194 := Tryz.isAgg274
 z194 := Tryz.sizeOf274
 v194 := Tryz.zeroValue274
 t196 := Tryz.underlying276
 a196 := Tryz.isAgg276
 z196 := Tryz.sizeOf276
 v196 := Tryz.zeroValue276
 t198 := Tryz.underlying279
 a198 := Tryz.isAgg279
 z198 := Tryz.sizeOf279
 v198 := Tryz.zeroValue279
 t201 := Tryz.underlying282
 a201 := Tryz.isAgg282
 z201 := Tryz.sizeOf282
 v201 := Tryz.zeroValue282
 t226 := Tryz.underlying299
 a226 := Tryz.isAgg299
 z226 := Tryz.sizeOf299
 v226 := Tryz.zeroValue299
 t227 := Tryz.underlying300
 a227 := Tryz.isAgg300
 z227 := Tryz.sizeOf300
 v227 := Tryz.zeroValue300
 g0 := by kernel_rfl
 g3 := by kernel_rfl
 g4 := by kernel_rfl
 g6 := by kernel_rfl }
theorem Tryz.Space_Extra_163 : Space.Extra Tryz.prog Tryz.lays163_ren := {
 gNamed := by kernel_rfl }
open Go.RowKit in
theorem Tryz.strings_TrimSpace (s : ByteArray) (w : World) (hs : s.size <= 9223372036854775807) (hascii : ∀ (j : Nat) b, s.data.toList[j]? = some b -> b.toNat < 128) (htab : Lib.TabIs Tryz.prog w "strings.asciiSpace" .u8 Lib.asciiSpaceTab) :
 Calls Tryz.prog 74 #[.string s] w fun e w' => e = .returned (.string ⟨(Lib.trimSpace s.data.toList).toArray⟩) /\ w' = Lib.bytesWorld w 5 s := Any.strings_TrimSpace Tryz.lays163 Tryz.Space_Extra_163 s w hs hascii htab
def Tryz.lays137_ren : Go.Shelf.Ren := ⟨fun | 137 => 139 | 217 => 180 | 266 => 210 | n => n, fun | 9 => 9 | 5 => 5 | 3 => 3 | n => n, fun | n => n⟩
theorem Tryz.lays137 : Go.Proofs.Lays.n137 Tryz.prog Tryz.lays137_ren := {
 mixed := by kernel_rfl
 f137 := Tryz.func139.trans (congrArg some (by kernel_rfl))
 f217 := Tryz.func180.trans (congrArg some (by kernel_rfl))
 f266 := Tryz.func210.trans (congrArg some (by kernel_rfl))
 t3 := Tryz.underlying3
 a3 := Tryz.isAgg3
 z3 := Tryz.sizeOf3
 v3 := Tryz.zeroValue3
 t5 := Tryz.underlying5
 a5 := Tryz.isAgg5
 z5 := Tryz.sizeOf5
 v5 := Tryz.zeroValue5
 t9 := Tryz.underlying9
 a9 := Tryz.isAgg9
 z9 := Tryz.sizeOf9
 v9 := Tryz.zeroValue9 }
open Go.RowKit in
theorem Tryz.strings_IndexByte (s : ByteArray) (c : Int) (w : World) :
 Calls Tryz.prog 139 #[.string s, .int .u8 c] w fun e w' => e = .returned (.int .i64 (Lib.indexByte s.data.toList c.toNat.toUInt8)) /\ w' = w := Any.strings_IndexByte Tryz.lays137 s c w
def Tryz.lays103_ren : Go.Shelf.Ren := ⟨fun | 103 => 141 | 210 => 181 | 206 => 211 | n => n, fun | 9 => 9 | 4 => 4 | 24 => 220 | 3 => 3 | n => n, fun | n => n⟩
theorem Tryz.lays103 : Go.Proofs.Lays.n103 Tryz.prog Tryz.lays103_ren := {
 mixed := by kernel_rfl
 f103 := Tryz.func141.trans (congrArg some (by kernel_rfl))
 f206 := Tryz.func211.trans (congrArg some (by kernel_rfl))
 f210 := Tryz.func181.trans (congrArg some (by kernel_rfl))
 t3 := Tryz.underlying3
 a3 := Tryz.isAgg3
 z3 := Tryz.sizeOf3
 v3 := Tryz.zeroValue3
 t4 := Tryz.underlying4
 a4 := Tryz.isAgg4
 z4 := Tryz.sizeOf4
 v4 := Tryz.zeroValue4
 t9 := Tryz.underlying9
 a9 := Tryz.isAgg9
 z9 := Tryz.sizeOf9
 v9 := Tryz.zeroValue9
 t24 := Tryz.underlying220
 a24 := Tryz.isAgg220
 z24 := Tryz.sizeOf220
 v24 := Tryz.zeroValue220 }
open Go.RowKit in
theorem Tryz.strings_CutPrefix (s p : ByteArray) (w : World) :
 Calls Tryz.prog 141 #[.string s, .string p] w fun e w' => e = .returned (.tuple #[.string ⟨(Lib.trimPrefix s.data.toList p.data.toList).toArray⟩, .bool (Lib.hasPrefix s.data.toList p.data.toList)]) /\ w' = w := Any.strings_CutPrefix Tryz.lays103 s p w
def Tryz.laysM171_ren : Go.Shelf.Ren := ⟨fun | 171 => 73 | 243 => 119 | 246 => 164 | 283 => 191 | 284 => 192 | 285 => 193 | 286 => 194 | 129 => 163 | 317 => 214 | 318 => 215 | 319 => 216 | 320 => 217 | 337 => 224 | 338 => 225 | n => n, fun | 3 => 3 | 9 => 9 | 2 => 2 | 4 => 4 | 171 => 269 | 0 => 0 | 53 => 137 | 37 => 73 | 5 => 5 | 173 => 271 | 212 => 297 | 51 => 244 | 20 => 20 | 213 => 298 | 46 => 197 | 232 => 315 | 233 => 316 | n => n, fun | 17 => 3 | 18 => 8 | 19 => 9 | n => n⟩
theorem Tryz.laysM171 : Go.Proofs.LaysM.n171 Tryz.prog Tryz.laysM171_ren := {
 mixed := by kernel_rfl
 f129 := Tryz.func163.trans (congrArg some (by kernel_rfl))
 f171 := Tryz.func73.trans (congrArg some (by kernel_rfl))
 f243 := Tryz.func119.trans (congrArg some (by kernel_rfl))
 f246 := Tryz.func164.trans (congrArg some (by kernel_rfl))
 f283 := Tryz.func191.trans (congrArg some (by kernel_rfl))
 f284 := Tryz.func192.trans (congrArg some (by kernel_rfl))
 f285 := Tryz.func193.trans (congrArg some (by kernel_rfl))
 f286 := Tryz.func194.trans (congrArg some (by kernel_rfl))
 f317 := Tryz.func214.trans (congrArg some (by kernel_rfl))
 f318 := Tryz.func215.trans (congrArg some (by kernel_rfl))
 f319 := Tryz.func216.trans (congrArg some (by kernel_rfl))
 f320 := Tryz.func217.trans (congrArg some (by kernel_rfl))
 f337 := Tryz.func224.trans (congrArg some (by kernel_rfl))
 f338 := Tryz.func225.trans (congrArg some (by kernel_rfl))
 t0 := Tryz.underlying0
 a0 := Tryz.isAgg0
 z0 := Tryz.sizeOf0
 v0 := Tryz.zeroValue0
 t2 := Tryz.underlying2
 a2 := Tryz.isAgg2
 z2 := Tryz.sizeOf2
 v2 := Tryz.zeroValue2
 t3 := Tryz.underlying3
 a3 := Tryz.isAgg3
 z3 := Tryz.sizeOf3
 v3 := Tryz.zeroValue3
 t4 := Tryz.underlying4
 a4 := Tryz.isAgg4
 z4 := Tryz.sizeOf4
 v4 := Tryz.zeroValue4
 t5 := Tryz.underlying5
 a5 := Tryz.isAgg5
 z5 := Tryz.sizeOf5
 v5 := Tryz.zeroValue5
 t9 := Tryz.underlying9
 a9 := Tryz.isAgg9
 z9 := Tryz.sizeOf9
 v9 := Tryz.zeroValue9
 t20 := Tryz.underlying20
 a20 := Tryz.isAgg20
 z20 := Tryz.sizeOf20
 v20 := Tryz.zeroValue20
 t37 := Tryz.underlying73
 a37 := Tryz.isAgg73
 z37 := Tryz.sizeOf73
 v37 := Tryz.zeroValue73
 t46 := Tryz.underlying197
 a46 := Tryz.isAgg197
 z46 := Tryz.sizeOf197
 v46 := Tryz.zeroValue197
 t51 := Tryz.underlying244
 a51 := Tryz.isAgg244
 z51 := Tryz.sizeOf244
 v51 := Tryz.zeroValue244
 t53 := Tryz.underlying137
 a53 := Tryz.isAgg137
 z53 := Tryz.sizeOf137
 v53 := Tryz.zeroValue137
 t171 := Tryz.underlying269
 a171 := Tryz.isAgg269
 z171 := Tryz.sizeOf269
 v171 := Tryz.zeroValue269
 t173 := Tryz.underlying271
 a173 := Tryz.isAgg271
 z173 := Tryz.sizeOf271
 v173 := Tryz.zeroValue271
 t212 := Tryz.underlying297
 a212 := Tryz.isAgg297
 z212 := Tryz.sizeOf297
 v212 := Tryz.zeroValue297
 t213 := Tryz.underlying298
 a213 := Tryz.isAgg298
 z213 := Tryz.sizeOf298
 t232 := Tryz.underlying315
 a232 := Tryz.isAgg315
 z232 := Tryz.sizeOf315
 v232 := Tryz.zeroValue315
 t233 := Tryz.underlying316
 a233 := Tryz.isAgg316
 z233 := Tryz.sizeOf316
 v233 := Tryz.zeroValue316
 g17 := by kernel_rfl
 g18 := by kernel_rfl
 g19 := by kernel_rfl
 i0 := by kernel_rfl
 i2 := by kernel_rfl
 i3 := by kernel_rfl
 i4 := by kernel_rfl
 i5 := by kernel_rfl
 i9 := by kernel_rfl
 i20 := by kernel_rfl
 i37 := by kernel_rfl
 i46 := by kernel_rfl
 i51 := by kernel_rfl
 i53 := by kernel_rfl
 i171 := by kernel_rfl
 i173 := by kernel_rfl
 i212 := by kernel_rfl
 i232 := by kernel_rfl
 i233 := by kernel_rfl
 m17 := by kernel_rfl
 m18 := by kernel_rfl
 m19 := by kernel_rfl }
open Go.RowKit Go.Sort Go.Lib in
theorem Tryz.strconv_Itoa (n : Int) (h0 : -9223372036854775808 <= n) (h1 : n <= 9223372036854775807) (w : World) (htab : Lib.TabIs Tryz.prog w "internal/strconv.uint64pow10" .u64 Lib.pow10Tab) :
 Calls Tryz.prog 73 #[.int .i64 n] w fun e w' => e = .returned (.string ⟨(Lib.itoa n).toArray⟩) /\ ∃ k os, w' = grow (w.drewN k) os := Any.strconv_Itoa Tryz.laysM171 n h0 h1 w htab
def Tryz.laysC172_ren : Go.Shelf.Ren := ⟨fun | 172 => 137 | 244 => 176 | 245 => 177 | 247 => 203 | 279 => 204 | 280 => 205 | 281 => 206 | 282 => 207 | 287 => 220 | 316 => 221 | 171 => 73 | 205 => 222 | 321 => 226 | 322 => 227 | 243 => 119 | 246 => 164 | 283 => 191 | 284 => 192 | 285 => 193 | 286 => 194 | 129 => 163 | 317 => 214 | 318 => 215 | 319 => 216 | 320 => 217 | 337 => 224 | 338 => 225 | n => n, fun | 9 => 9 | 3 => 3 | 75 => 159 | 76 => 160 | 4 => 4 | 5 => 5 | 167 => 284 | 37 => 73 | 0 => 0 | 85 => 285 | 2 => 2 | 168 => 287 | 53 => 137 | 175 => 306 | 46 => 197 | 210 => 309 | 127 => 206 | 145 => 314 | 143 => 312 | 21 => 21 | 171 => 269 | 173 => 271 | 212 => 297 | 51 => 244 | 20 => 20 | 213 => 298 | 232 => 315 | 233 => 316 | 80 => 162 | n => n, fun | 15 => 6 | 16 => 7 | 17 => 3 | 18 => 8 | 19 => 9 | n => n⟩
theorem Tryz.laysC172 : Go.Proofs.LaysC.n172 Tryz.prog Tryz.laysC172_ren := {
 mixed := by kernel_rfl
 f129 := Tryz.func163.trans (congrArg some (by kernel_rfl))
 f171 := Tryz.func73.trans (congrArg some (by kernel_rfl))
 f172 := Tryz.func137.trans (congrArg some (by kernel_rfl))
 f205 := Tryz.func222.trans (congrArg some (by kernel_rfl))
 f243 := Tryz.func119.trans (congrArg some (by kernel_rfl))
 f244 := Tryz.func176.trans (congrArg some (by kernel_rfl))
 f245 := Tryz.func177.trans (congrArg some (by kernel_rfl))
 f246 := Tryz.func164.trans (congrArg some (by kernel_rfl))
 f247 := Tryz.func203.trans (congrArg some (by kernel_rfl))
 f279 := Tryz.func204.trans (congrArg some (by kernel_rfl))
 f280 := Tryz.func205.trans (congrArg some (by kernel_rfl))
 f281 := Tryz.func206.trans (congrArg some (by kernel_rfl))
 f282 := Tryz.func207.trans (congrArg some (by kernel_rfl))
 f283 := Tryz.func191.trans (congrArg some (by kernel_rfl))
 f284 := Tryz.func192.trans (congrArg some (by kernel_rfl))
 f285 := Tryz.func193.trans (congrArg some (by kernel_rfl))
 f286 := Tryz.func194.trans (congrArg some (by kernel_rfl))
 f287 := Tryz.func220.trans (congrArg some (by kernel_rfl))
 f316 := Tryz.func221.trans (congrArg some (by kernel_rfl))
 f317 := Tryz.func214.trans (congrArg some (by kernel_rfl))
 f318 := Tryz.func215.trans (congrArg some (by kernel_rfl))
 f319 := Tryz.func216.trans (congrArg some (by kernel_rfl))
 f320 := Tryz.func217.trans (congrArg some (by kernel_rfl))
 f321 := Tryz.func226.trans (congrArg some (by kernel_rfl))
 f322 := Tryz.func227.trans (congrArg some (by kernel_rfl))
 f337 := Tryz.func224.trans (congrArg some (by kernel_rfl))
 f338 := Tryz.func225.trans (congrArg some (by kernel_rfl))
 t0 := Tryz.underlying0
 a0 := Tryz.isAgg0
 z0 := Tryz.sizeOf0
 v0 := Tryz.zeroValue0
 t2 := Tryz.underlying2
 a2 := Tryz.isAgg2
 z2 := Tryz.sizeOf2
 v2 := Tryz.zeroValue2
 t3 := Tryz.underlying3
 a3 := Tryz.isAgg3
 z3 := Tryz.sizeOf3
 v3 := Tryz.zeroValue3
 t4 := Tryz.underlying4
 a4 := Tryz.isAgg4
 z4 := Tryz.sizeOf4
 v4 := Tryz.zeroValue4
 t5 := Tryz.underlying5
 a5 := Tryz.isAgg5
 z5 := Tryz.sizeOf5
 v5 := Tryz.zeroValue5
 t9 := Tryz.underlying9
 a9 := Tryz.isAgg9
 z9 := Tryz.sizeOf9
 v9 := Tryz.zeroValue9
 t20 := Tryz.underlying20
 a20 := Tryz.isAgg20
 z20 := Tryz.sizeOf20
 v20 := Tryz.zeroValue20
 t21 := Tryz.underlying21
 a21 := Tryz.isAgg21
 z21 := Tryz.sizeOf21
 v21 := Tryz.zeroValue21
 t37 := Tryz.underlying73
 a37 := Tryz.isAgg73
 z37 := Tryz.sizeOf73
 v37 := Tryz.zeroValue73
 t46 := Tryz.underlying197
 a46 := Tryz.isAgg197
 z46 := Tryz.sizeOf197
 v46 := Tryz.zeroValue197
 t51 := Tryz.underlying244
 a51 := Tryz.isAgg244
 z51 := Tryz.sizeOf244
 v51 := Tryz.zeroValue244
 t53 := Tryz.underlying137
 a53 := Tryz.isAgg137
 z53 := Tryz.sizeOf137
 v53 := Tryz.zeroValue137
 t75 := Tryz.underlying159
 a75 := Tryz.isAgg159
 z75 := Tryz.sizeOf159
 v75 := Tryz.zeroValue159
 t76 := Tryz.underlying160
 a76 := Tryz.isAgg160
 z76 := Tryz.sizeOf160
 v76 := Tryz.zeroValue160
 t85 := Tryz.underlying285
 a85 := Tryz.isAgg285
 z85 := Tryz.sizeOf285
 v85 := Tryz.zeroValue285
 t127 := Tryz.underlying206
 a127 := Tryz.isAgg206
 z127 := Tryz.sizeOf206
 v127 := Tryz.zeroValue206
 t143 := Tryz.underlying312
 a143 := Tryz.isAgg312
 z143 := Tryz.sizeOf312
 v143 := Tryz.zeroValue312
 t145 := Tryz.underlying314
 a145 := Tryz.isAgg314
 z145 := Tryz.sizeOf314
 v145 := Tryz.zeroValue314
 t167 := Tryz.underlying284
 a167 := Tryz.isAgg284
 z167 := Tryz.sizeOf284
 v167 := Tryz.zeroValue284
 t168 := Tryz.underlying287
 a168 := Tryz.isAgg287
 z168 := Tryz.sizeOf287
 v168 := Tryz.zeroValue287
 t171 := Tryz.underlying269
 a171 := Tryz.isAgg269
 z171 := Tryz.sizeOf269
 v171 := Tryz.zeroValue269
 t173 := Tryz.underlying271
 a173 := Tryz.isAgg271
 z173 := Tryz.sizeOf271
 v173 := Tryz.zeroValue271
 t175 := Tryz.underlying306
 a175 := Tryz.isAgg306
 z175 := Tryz.sizeOf306
 v175 := Tryz.zeroValue306
 t210 := Tryz.underlying309
 a210 := Tryz.isAgg309
 z210 := Tryz.sizeOf309
 v210 := Tryz.zeroValue309
 t212 := Tryz.underlying297
 a212 := Tryz.isAgg297
 z212 := Tryz.sizeOf297
 v212 := Tryz.zeroValue297
 t213 := Tryz.underlying298
 a213 := Tryz.isAgg298
 z213 := Tryz.sizeOf298
 t232 := Tryz.underlying315
 a232 := Tryz.isAgg315
 z232 := Tryz.sizeOf315
 v232 := Tryz.zeroValue315
 t233 := Tryz.underlying316
 a233 := Tryz.isAgg316
 z233 := Tryz.sizeOf316
 v233 := Tryz.zeroValue316
 g15 := by kernel_rfl
 g16 := by kernel_rfl
 g17 := by kernel_rfl
 g18 := by kernel_rfl
 g19 := by kernel_rfl
 t80 := Tryz.underlying162
 a80 := Tryz.isAgg162
 z80 := Tryz.sizeOf162
 v80 := Tryz.zeroValue162
 i0 := by kernel_rfl
 i2 := by kernel_rfl
 i3 := by kernel_rfl
 i4 := by kernel_rfl
 i5 := by kernel_rfl
 i9 := by kernel_rfl
 i20 := by kernel_rfl
 i21 := by kernel_rfl
 i37 := by kernel_rfl
 i46 := by kernel_rfl
 i51 := by kernel_rfl
 i53 := by kernel_rfl
 i75 := by kernel_rfl
 i76 := by kernel_rfl
 i80 := by kernel_rfl
 i85 := by kernel_rfl
 i127 := by kernel_rfl
 i143 := by kernel_rfl
 i145 := by kernel_rfl
 i167 := by kernel_rfl
 i168 := by kernel_rfl
 i171 := by kernel_rfl
 i173 := by kernel_rfl
 i175 := by kernel_rfl
 i210 := by kernel_rfl
 i212 := by kernel_rfl
 i232 := by kernel_rfl
 i233 := by kernel_rfl
 m15 := by kernel_rfl
 m16 := by kernel_rfl
 m17 := by kernel_rfl
 m18 := by kernel_rfl
 m19 := by kernel_rfl
 c0 := by kernel_rfl
 c2 := by kernel_rfl
 c3 := by kernel_rfl
 c4 := by kernel_rfl
 c5 := by kernel_rfl
 c9 := by kernel_rfl
 c20 := by kernel_rfl
 c21 := by kernel_rfl
 c37 := by kernel_rfl
 c46 := by kernel_rfl
 c51 := by kernel_rfl
 c53 := by kernel_rfl
 c75 := by kernel_rfl
 c76 := by kernel_rfl
 c80 := by kernel_rfl
 c85 := by kernel_rfl
 c127 := by kernel_rfl
 c143 := by kernel_rfl
 c145 := by kernel_rfl
 c167 := by kernel_rfl
 c168 := by kernel_rfl
 c171 := by kernel_rfl
 c173 := by kernel_rfl
 c175 := by kernel_rfl
 c210 := by kernel_rfl
 c212 := by kernel_rfl
 c213 := by kernel_rfl
 c232 := by kernel_rfl
 c233 := by kernel_rfl }
open Go.RowKit in
theorem Tryz.strconv_Atoi_ok (s : ByteArray) (hmax : s.size <= 9223372036854775806) (v : Int) (h : Lib.atoiAll s.data.toList = .ok v) (w : World) :
 Calls Tryz.prog 137 #[.string s] w fun e w' => e = .returned (.tuple #[.int .i64 v, .nilIface]) /\ (w' = w \/ ∃ t, w' = Lib.bytesWorld w 5 t) := Any.strconv_Atoi_ok Tryz.laysC172 s hmax v h w
def Tryz.lays144_ren : Go.Shelf.Ren := ⟨fun | 144 => 148 | 143 => 136 | 219 => 175 | 217 => 180 | 225 => 200 | 224 => 201 | 267 => 202 | 266 => 210 | 314 => 219 | n => n, fun | 9 => 9 | 4 => 4 | 3 => 3 | 5 => 5 | 46 => 197 | 146 => 304 | 51 => 244 | n => n, fun | 1 => 2 | n => n⟩
theorem Tryz.lays144 : Go.Proofs.Lays.n144 Tryz.prog Tryz.lays144_ren := {
 mixed := by kernel_rfl
 f143 := Tryz.func136.trans (congrArg some (by kernel_rfl))
 f144 := Tryz.func148.trans (congrArg some (by kernel_rfl))
 f217 := Tryz.func180.trans (congrArg some (by kernel_rfl))
 f219 := Tryz.func175.trans (congrArg some (by kernel_rfl))
 f224 := Tryz.func201.trans (congrArg some (by kernel_rfl))
 f225 := Tryz.func200.trans (congrArg some (by kernel_rfl))
 f266 := Tryz.func210.trans (congrArg some (by kernel_rfl))
 f267 := Tryz.func202.trans (congrArg some (by kernel_rfl))
 f314 := Tryz.func219.trans (congrArg some (by kernel_rfl))
 t3 := Tryz.underlying3
 a3 := Tryz.isAgg3
 z3 := Tryz.sizeOf3
 v3 := Tryz.zeroValue3
 t4 := Tryz.underlying4
 a4 := Tryz.isAgg4
 z4 := Tryz.sizeOf4
 v4 := Tryz.zeroValue4
 t5 := Tryz.underlying5
 a5 := Tryz.isAgg5
 z5 := Tryz.sizeOf5
 v5 := Tryz.zeroValue5
 t9 := Tryz.underlying9
 a9 := Tryz.isAgg9
 z9 := Tryz.sizeOf9
 v9 := Tryz.zeroValue9
 t46 := Tryz.underlying197
 a46 := Tryz.isAgg197
 z46 := Tryz.sizeOf197
 v46 := Tryz.zeroValue197
 t51 := Tryz.underlying244
 a51 := Tryz.isAgg244
 z51 := Tryz.sizeOf244
 v51 := Tryz.zeroValue244
 t146 := Tryz.underlying304
 a146 := Tryz.isAgg304
 z146 := Tryz.sizeOf304
 v146 := Tryz.zeroValue304
 g1 := by kernel_rfl }
open Go.RowKit Go.Lib in
theorem Tryz.strings_Contains_one (s : ByteArray) (c : UInt8) (w : World) :
 Calls Tryz.prog 148 #[.string s, .string ⟨#[c]⟩] w fun e w' => e = .returned (.bool (decide (0 <= Lib.indexByte s.data.toList c))) /\ w' = w := Any.strings_Contains_one Tryz.lays144 s c w
def Tryz.lays145_ren : Go.Shelf.Ren := ⟨fun | 145 => 179 | 220 => 209 | 219 => 175 | 217 => 180 | 225 => 200 | 224 => 201 | 267 => 202 | 266 => 210 | 314 => 219 | n => n, fun | 9 => 9 | 4 => 4 | 59 => 258 | 3 => 3 | 5 => 5 | 46 => 197 | 146 => 304 | 51 => 244 | n => n, fun | 1 => 2 | n => n⟩
theorem Tryz.lays145 : Go.Proofs.Lays.n145 Tryz.prog Tryz.lays145_ren := {
 mixed := by kernel_rfl
 f145 := Tryz.func179.trans (congrArg some (by kernel_rfl))
 f217 := Tryz.func180.trans (congrArg some (by kernel_rfl))
 f219 := Tryz.func175.trans (congrArg some (by kernel_rfl))
 f220 := Tryz.func209.trans (congrArg some (by kernel_rfl))
 f224 := Tryz.func201.trans (congrArg some (by kernel_rfl))
 f225 := Tryz.func200.trans (congrArg some (by kernel_rfl))
 f266 := Tryz.func210.trans (congrArg some (by kernel_rfl))
 f267 := Tryz.func202.trans (congrArg some (by kernel_rfl))
 f314 := Tryz.func219.trans (congrArg some (by kernel_rfl))
 t3 := Tryz.underlying3
 a3 := Tryz.isAgg3
 z3 := Tryz.sizeOf3
 v3 := Tryz.zeroValue3
 t4 := Tryz.underlying4
 a4 := Tryz.isAgg4
 z4 := Tryz.sizeOf4
 v4 := Tryz.zeroValue4
 t5 := Tryz.underlying5
 a5 := Tryz.isAgg5
 z5 := Tryz.sizeOf5
 v5 := Tryz.zeroValue5
 t9 := Tryz.underlying9
 a9 := Tryz.isAgg9
 z9 := Tryz.sizeOf9
 v9 := Tryz.zeroValue9
 t46 := Tryz.underlying197
 a46 := Tryz.isAgg197
 z46 := Tryz.sizeOf197
 v46 := Tryz.zeroValue197
 t51 := Tryz.underlying244
 a51 := Tryz.isAgg244
 z51 := Tryz.sizeOf244
 v51 := Tryz.zeroValue244
 t59 := Tryz.underlying258
 a59 := Tryz.isAgg258
 z59 := Tryz.sizeOf258
 v59 := Tryz.zeroValue258
 t146 := Tryz.underlying304
 a146 := Tryz.isAgg304
 z146 := Tryz.sizeOf304
 v146 := Tryz.zeroValue304
 g1 := by kernel_rfl }
open Go.RowKit Go.Lib in
theorem Tryz.strings_Cut (s sep : ByteArray) (m : Int) (w : World) (hs : s.size < 4294967281) (hm : w.cell? ⟨2, 0, none⟩ = some (.int .i64 m)) :
 Calls Tryz.prog 179 #[.string s, .string sep] w fun e w' => e = .returned (.tuple #[.string ⟨(Lib.cut s.data.toList sep.data.toList).1.toArray⟩, .string ⟨(Lib.cut s.data.toList sep.data.toList).2.1.toArray⟩, .bool (Lib.cut s.data.toList sep.data.toList).2.2]) /\ ∃ n, w' = w.drewN n := Any.strings_Cut Tryz.lays145 s sep m w hs hm
def Tryz.lays146_ren : Go.Shelf.Ren := ⟨fun | 146 => 36 | 221 => 89 | 268 => 134 | 138 => 135 | 143 => 136 | 195 => 173 | 197 => 168 | 218 => 174 | 219 => 175 | 260 => 199 | 217 => 180 | 225 => 200 | 224 => 201 | 267 => 202 | 266 => 210 | 314 => 219 | n => n, fun | 9 => 9 | 31 => 83 | 3 => 3 | 4 => 4 | 0 => 0 | 105 => 250 | 21 => 21 | 5 => 5 | 46 => 197 | 119 => 205 | 139 => 303 | 138 => 302 | 146 => 304 | 51 => 244 | n => n, fun | 1 => 2 | 3 => 4 | 4 => 5 | n => n⟩
theorem Tryz.lays146 : Go.Proofs.Lays.n146 Tryz.prog Tryz.lays146_ren := {
 mixed := by kernel_rfl
 f138 := Tryz.func135.trans (congrArg some (by kernel_rfl))
 f143 := Tryz.func136.trans (congrArg some (by kernel_rfl))
 f146 := Tryz.func36.trans (congrArg some (by kernel_rfl))
 f195 := Tryz.func173.trans (congrArg some (by kernel_rfl))
 f197 := Tryz.func168.trans (congrArg some (by kernel_rfl))
 f217 := Tryz.func180.trans (congrArg some (by kernel_rfl))
 f218 := Tryz.func174.trans (congrArg some (by kernel_rfl))
 f219 := Tryz.func175.trans (congrArg some (by kernel_rfl))
 f221 := Tryz.func89.trans (congrArg some (by kernel_rfl))
 f224 := Tryz.func201.trans (congrArg some (by kernel_rfl))
 f225 := Tryz.func200.trans (congrArg some (by kernel_rfl))
 f260 := Tryz.func199.trans (congrArg some (by kernel_rfl))
 f266 := Tryz.func210.trans (congrArg some (by kernel_rfl))
 f267 := Tryz.func202.trans (congrArg some (by kernel_rfl))
 f268 := Tryz.func134.trans (congrArg some (by kernel_rfl))
 f314 := Tryz.func219.trans (congrArg some (by kernel_rfl))
 t0 := Tryz.underlying0
 a0 := Tryz.isAgg0
 z0 := Tryz.sizeOf0
 v0 := Tryz.zeroValue0
 t3 := Tryz.underlying3
 a3 := Tryz.isAgg3
 z3 := Tryz.sizeOf3
 v3 := Tryz.zeroValue3
 t4 := Tryz.underlying4
 a4 := Tryz.isAgg4
 z4 := Tryz.sizeOf4
 v4 := Tryz.zeroValue4
 t5 := Tryz.underlying5
 a5 := Tryz.isAgg5
 z5 := Tryz.sizeOf5
 v5 := Tryz.zeroValue5
 t9 := Tryz.underlying9
 a9 := Tryz.isAgg9
 z9 := Tryz.sizeOf9
 v9 := Tryz.zeroValue9
 t21 := Tryz.underlying21
 a21 := Tryz.isAgg21
 z21 := Tryz.sizeOf21
 v21 := Tryz.zeroValue21
 t31 := Tryz.underlying83
 a31 := Tryz.isAgg83
 z31 := Tryz.sizeOf83
 v31 := Tryz.zeroValue83
 t46 := Tryz.underlying197
 a46 := Tryz.isAgg197
 z46 := Tryz.sizeOf197
 v46 := Tryz.zeroValue197
 t51 := Tryz.underlying244
 a51 := Tryz.isAgg244
 z51 := Tryz.sizeOf244
 v51 := Tryz.zeroValue244
 t105 := Tryz.underlying250
 a105 := Tryz.isAgg250
 z105 := Tryz.sizeOf250
 v105 := Tryz.zeroValue250
 t119 := Tryz.underlying205
 a119 := Tryz.isAgg205
 z119 := Tryz.sizeOf205
 t138 := Tryz.underlying302
 a138 := Tryz.isAgg302
 z138 := Tryz.sizeOf302
 v138 := Tryz.zeroValue302
 t139 := Tryz.underlying303
 a139 := Tryz.isAgg303
 z139 := Tryz.sizeOf303
 v139 := Tryz.zeroValue303
 t146 := Tryz.underlying304
 a146 := Tryz.isAgg304
 z146 := Tryz.sizeOf304
 v146 := Tryz.zeroValue304
 g1 := by kernel_rfl
 g3 := by kernel_rfl
 g4 := by kernel_rfl }
open Go.RowKit Go.Lib in
theorem Tryz.strings_Split (s sep : ByteArray) (m : Int) (w : World) (hs : s.size < 4294967281) (hm : w.cell? ⟨2, 0, none⟩ = some (.int .i64 m)) (h1 : 1 <= sep.size) :
 Calls Tryz.prog 36 #[.string s, .string sep] w fun e w' =>
  e = .returned (.slice (some ⟨w.heap.size, 0, none⟩) (Lib.countB s sep + 1) (Lib.countB s sep + 1)) /\ w' = w.alloc (.cells ((Lib.splitB sep 0 (Lib.countB s sep) s).map Value.string).toArray 9) := Any.strings_Split Tryz.lays146 (by kernel_rfl) s sep m w hs hm h1
def Tryz.lays229_ren : Go.Shelf.Ren := ⟨fun | 229 => 182 | n => n, fun | 9 => 9 | 40 => 204 | 31 => 83 | 152 => 291 | 3 => 3 | 0 => 0 | 4 => 4 | 21 => 21 | 154 => 293 | n => n, fun | n => n⟩
theorem Tryz.lays229 : Go.Proofs.Lays.n229 Tryz.prog Tryz.lays229_ren := {
 mixed := by kernel_rfl
 f229 := Tryz.func182.trans (congrArg some (by kernel_rfl))
 t0 := Tryz.underlying0
 a0 := Tryz.isAgg0
 z0 := Tryz.sizeOf0
 v0 := Tryz.zeroValue0
 t3 := Tryz.underlying3
 a3 := Tryz.isAgg3
 z3 := Tryz.sizeOf3
 v3 := Tryz.zeroValue3
 t4 := Tryz.underlying4
 a4 := Tryz.isAgg4
 z4 := Tryz.sizeOf4
 v4 := Tryz.zeroValue4
 t9 := Tryz.underlying9
 a9 := Tryz.isAgg9
 z9 := Tryz.sizeOf9
 v9 := Tryz.zeroValue9
 t21 := Tryz.underlying21
 a21 := Tryz.isAgg21
 z21 := Tryz.sizeOf21
 v21 := Tryz.zeroValue21
 t31 := Tryz.underlying83
 a31 := Tryz.isAgg83
 z31 := Tryz.sizeOf83
 v31 := Tryz.zeroValue83
 t40 := Tryz.underlying204
 a40 := Tryz.isAgg204
 z40 := Tryz.sizeOf204
 v40 := Tryz.zeroValue204
 t152 := Tryz.underlying291
 a152 := Tryz.isAgg291
 z152 := Tryz.sizeOf291
 v152 := Tryz.zeroValue291
 t154 := Tryz.underlying293
 a154 := Tryz.isAgg293
 z154 := Tryz.sizeOf293
 v154 := Tryz.zeroValue293 }
open Go.RowKit Go.Lib in
theorem Tryz.strings_FieldsFunc (g : Nat) (lb : Array Value) (eg : ∀ args w, (callFunc g args).run Tryz.prog w = .ok (.enter g args) w) (p : Nat -> Bool) (s : ByteArray) (w : World) (hs : s.size <= 4294967296) (hp : PredAt Tryz.prog g lb encR p w) :
 Calls Tryz.prog 182 #[.string s, .func (.func g) #[] lb] w fun e w' => ∃ A, e = .returned (.slice (some ⟨A, 0, none⟩) (Lib.goFieldsP p s).length (Lib.goFieldsP p s).length) /\ w.heap.size <= A /\
  w'.ownsRow w.heap.size 9 1 (.slice (some ⟨A, 0, none⟩) (Lib.goFieldsP p s).length (Lib.goFieldsP p s).length) (Lib.goFieldsP p s).length ((Lib.goFieldsP p s).map Value.string) /\ Below w.heap.size w w' := Any.strings_FieldsFunc Tryz.lays229 g lb eg p s w hs hp (by kernel_rfl) (by kernel_rfl)
def Tryz.lays109_ren : Go.Shelf.Ren := ⟨fun | 109 => 208 | n => n, fun | 31 => 83 | 9 => 9 | 3 => 3 | 0 => 0 | 4 => 4 | n => n, fun | n => n⟩
theorem Tryz.lays109 : Go.Proofs.Lays.n109 Tryz.prog Tryz.lays109_ren := {
 mixed := by kernel_rfl
 f109 := Tryz.func208.trans (congrArg some (by kernel_rfl))
 t0 := Tryz.underlying0
 a0 := Tryz.isAgg0
 z0 := Tryz.sizeOf0
 v0 := Tryz.zeroValue0
 t3 := Tryz.underlying3
 a3 := Tryz.isAgg3
 z3 := Tryz.sizeOf3
 v3 := Tryz.zeroValue3
 t4 := Tryz.underlying4
 a4 := Tryz.isAgg4
 z4 := Tryz.sizeOf4
 v4 := Tryz.zeroValue4
 t9 := Tryz.underlying9
 a9 := Tryz.isAgg9
 z9 := Tryz.sizeOf9
 v9 := Tryz.zeroValue9
 t31 := Tryz.underlying83
 a31 := Tryz.isAgg83
 z31 := Tryz.sizeOf83
 v31 := Tryz.zeroValue83 }
open Go.Lib in
theorem Tryz.slices_Index_string (b off n c : Nat) (zs : List ByteArray) (x : ByteArray) (w : World) (hz : n <= zs.length) (hbig : n <= 9223372036854775807) (hc : ∀ j, j < zs.length -> w.cell? ⟨b, off + j, none⟩ = some (.string (zs.getD j ByteArray.empty))) :
 Calls Tryz.prog 208 #[.slice (some ⟨b, off, none⟩) n c, .string x] w fun e w' => e = .returned (.int .i64 (Lib.idxOfS (zs.take n) x)) /\ w' = w := Any.slices_Index_string Tryz.lays109 b off n c zs x w hz hbig hc
def Tryz.laysnb115_ren : Go.Shelf.Ren := ⟨fun | 115 => 63 | n => n, fun | 37 => 73 | 4 => 4 | 9 => 9 | 5 => 5 | n => n, fun | n => n⟩
theorem Tryz.laysnb115 : Go.Proofs.Lays.nb115 Tryz.prog Tryz.laysnb115_ren := {
 mixed := by kernel_rfl
 f115 := Tryz.func63.trans (congrArg some (by kernel_rfl))
 t4 := Tryz.underlying4
 a4 := Tryz.isAgg4
 z4 := Tryz.sizeOf4
 v4 := Tryz.zeroValue4
 t9 := Tryz.underlying9
 a9 := Tryz.isAgg9
 z9 := Tryz.sizeOf9
 v9 := Tryz.zeroValue9
 t37 := Tryz.underlying73
 a37 := Tryz.isAgg73
 z37 := Tryz.sizeOf73
 v37 := Tryz.zeroValue73
 t5 := Tryz.underlying5
 a5 := Tryz.isAgg5
 z5 := Tryz.sizeOf5
 v5 := Tryz.zeroValue5 }
theorem Tryz.bytes_Equal_all (p1 p2 : Option Addr) (n c m d : Nat) (xs ys : List Int) (w : World) (hx : xs.length = n) (hy : ys.length = m) (h1 : Lib.BytesIn w p1 n xs) (h2 : Lib.BytesIn w p2 m ys) :
 Calls Tryz.prog 63 #[.slice p1 n c, .slice p2 m d] w fun e w' => e = .returned (.bool (Lib.bytesOf xs == Lib.bytesOf ys)) /\ w' = w := Any.bytes_Equal_all Tryz.laysnb115 p1 p2 n c m d xs ys w hx hy h1 h2
end Go.Proofs
namespace Go.Proofs.YtomahddiclkepaaGreatDoor
open Go.RowKit
theorem ret_int' {k : IntKind} {a b : Int} (h : a = b) : Ending.returned (.int k a) = .returned (.int k b) := by rw [h]
theorem ret_bool' {a b : Bool} (h : a = b) : Ending.returned (.bool a) = .returned (.bool b) := by rw [h]
def letterB (c : Int) : Bool := decide (97 <= c /\ c <= 122 \/ 65 <= c /\ c <= 90)
def digitB (c : Int) : Bool := decide (48 <= c /\ c <= 57)
theorem isLetter_any (c : Int) (w : World) :
 Calls Tryz.prog 115 #[.int .u8 c] w fun e w' => e = .returned (.bool (letterB c)) /\ w = w' := by
 by_cases h1 : 97 <= c <;> by_cases h2 : c <= 122 <;> by_cases h3 : 65 <= c <;> by_cases h4 : c <= 90 <;>
 first
 | omega
 | (go_enter Tryz.func115, Tryz.ntmps115
    go_wp2
    go_ret
    exact ⟨ret_bool' (by simp [letterB, h1, h2, h3, h4]), rfl⟩)
theorem isDigit_any (c : Int) (w : World) :
 Calls Tryz.prog 147 #[.int .u8 c] w fun e w' => e = .returned (.bool (digitB c)) /\ w = w' := by
 by_cases h1 : 48 <= c <;> by_cases h2 : c <= 57 <;>
 ·go_enter Tryz.func147, Tryz.ntmps147
  go_wp2
  go_ret
  exact ⟨ret_bool' (by simp [digitB, h1, h2]), rfl⟩
def signB (others : List UInt8) (c : UInt8) : Bool := letterB c.toNat || digitB c.toNat || others.contains c
def allB (s : ByteArray) (most : Int) (others : ByteArray) : Bool := s.data.toList.all (signB others.data.toList) && (!s.data.toList.isEmpty) && decide ((s.size : Int) <= most)
theorem drop_at (s : ByteArray) (k : Nat) (h : k < s.size) : s.data.toList.drop k = s[k] :: s.data.toList.drop (k + 1) := by
 rw [List.drop_eq_getElem_cons (by simpa using h)]; rfl
theorem extract_one (s : ByteArray) (k : Nat) (h : k < s.size) : s.extract k (k + 1) = ⟨#[s[k]]⟩ := by
 apply ByteArray.ext
 apply Array.toList_inj.1
 rw [Lib.extract_data]
 simp only [Nat.add_sub_cancel_left]
 rw [drop_at s k h]; rfl
theorem all_any (s others : ByteArray) (most : Int) (w : World) (hs : s.size <= maxLen) :
 Calls Tryz.prog 98 #[.string s, .int .i64 most, .string others] w fun e w' => e = .returned (.bool (allB s most others)) /\ w = w' := by
 unfold maxLen at hs
 go_enter Tryz.func98, Tryz.ntmps98
 go_wp2
 go_loop [10] (fun t => ∃ k : Nat, k <= s.size /\ t = .int .i64 k /\ s.data.toList.all (signB others.data.toList) = (s.data.toList.drop k).all (signB others.data.toList)) (fun t => s.size - (intOf t).toNat)
 case atStart => exact ⟨0, Nat.zero_le _, rfl, rfl⟩
 case round =>
  obtain ⟨k, hk, rfl, hall⟩ := hrel
  have HA := qH hall
  clear hall
  by_cases hlt : k < s.size
  ·have hd := qH (drop_at s k hlt)
   have he := qH (extract_one s k hlt)
   cases h1 : letterB (s[k].toNat : Int)
   ·cases h2 : digitB (s[k].toNat : Int)
    ·cases h3 : decide (0 <= Lib.indexByte others.data.toList s[k])
     ·have hf : Hid (signB others.data.toList s[k] = false) := by
       show signB _ _ = false
       unfold signB; rw [h1, h2, Lib.contains_iff_indexByte, h3]; rfl
      go_wp2_with (first | (go_at_call 115; refine (isLetter_any _ _).mono ?_; rintro e w' ⟨rfl, rfl⟩) | (go_at_call 147; refine (isDigit_any _ _).mono ?_; rintro e w' ⟨rfl, rfl⟩) | (go_at_call 148; rw [he.out]; refine (Tryz.strings_Contains_one _ _ _).mono ?_; rintro e w' ⟨rfl, rfl⟩))
      go_ret
      exact ⟨ret_bool' (by unfold allB; rw [HA.out, hd.out, List.all_cons, hf.out]; rfl), rfl⟩
     ·have hf : Hid (signB others.data.toList s[k] = true) := by
       show signB _ _ = true
       unfold signB; rw [h1, h2, Lib.contains_iff_indexByte, h3]; rfl
      go_wp2_with (first | (go_at_call 115; refine (isLetter_any _ _).mono ?_; rintro e w' ⟨rfl, rfl⟩) | (go_at_call 147; refine (isDigit_any _ _).mono ?_; rintro e w' ⟨rfl, rfl⟩) | (go_at_call 148; rw [he.out]; refine (Tryz.strings_Contains_one _ _ _).mono ?_; rintro e w' ⟨rfl, rfl⟩))
      go_round
      case rel => exact ⟨k + 1, by omega, by go_num, by rw [HA.out, hd.out, List.all_cons, hf.out, Bool.true_and]⟩
      case measure => simp [intOf]; omega
    ·have hf : Hid (signB others.data.toList s[k] = true) := by
      show signB _ _ = true
      unfold signB; rw [h1, h2]; rfl
     go_wp2_with (first | (go_at_call 115; refine (isLetter_any _ _).mono ?_; rintro e w' ⟨rfl, rfl⟩) | (go_at_call 147; refine (isDigit_any _ _).mono ?_; rintro e w' ⟨rfl, rfl⟩))
     go_round
     case rel => exact ⟨k + 1, by omega, by go_num, by rw [HA.out, hd.out, List.all_cons, hf.out, Bool.true_and]⟩
     case measure => simp [intOf]; omega
   ·have hf : Hid (signB others.data.toList s[k] = true) := by
     show signB _ _ = true
     unfold signB; rw [h1]; rfl
    go_wp2_with (first | (go_at_call 115; refine (isLetter_any _ _).mono ?_; rintro e w' ⟨rfl, rfl⟩))
    go_round
    case rel => exact ⟨k + 1, by omega, by go_num, by rw [HA.out, hd.out, List.all_cons, hf.out, Bool.true_and]⟩
    case measure => simp [intOf]; omega
  ·obtain rfl : k = s.size := by omega
   have hall : s.data.toList.all (signB others.data.toList) = true := by rw [HA.out, List.drop_of_length_le (by simp)]; rfl
   have HT := qH hall
   clear hall
   by_cases he : s.toList = []
   ·have hE : Hid (s.data.toList = []) := by show _ = _; rw [<- ByteArray.toList_eq, he]
    go_wp2
    go_ret
    exact ⟨ret_bool' (by unfold allB; rw [hE.out]; rfl), rfl⟩
   ·have he2 : s.toList.isEmpty = false := by simpa using he
    have hE : Hid (s.data.toList.isEmpty = false) := by show _ = _; rw [<- ByteArray.toList_eq, he2]
    by_cases hm : (s.size : Int) <= most
    ·go_wp2
     go_ret
     exact ⟨ret_bool' (by unfold allB; rw [HT.out, hE.out, decide_eq_true hm]; simp [he2]), rfl⟩
    ·go_wp2
     go_ret
     exact ⟨ret_bool' (by unfold allB; rw [HT.out, hE.out, decide_eq_false (by omega)]; simp [he2]), rfl⟩
def abbrB (s : ByteArray) : Bool := allB s 8 ⟨#[43, 45]⟩
theorem isAbbr_any (s : ByteArray) (w : World) (hs : s.size <= maxLen) :
 Calls Tryz.prog 44 #[.string s] w fun e w' => e = .returned (.bool (abbrB s)) /\ w = w' := by
 go_enter Tryz.func44, Tryz.ntmps44
 go_wp2_with fail
 refine (all_any _ _ _ _ hs).mono ?_
 rintro e w' ⟨rfl, rfl⟩
 go_wp2
 go_ret
 exact ⟨rfl, rfl⟩
end Go.Proofs.YtomahddiclkepaaGreatDoor
namespace Go.Proofs.YtomahddiclkepaaGreatDoor
open Go.RowKit Go.Joins
open Classical
def nameB (s : ByteArray) : Bool := allB s 20 ⟨#[95, 47, 45]⟩ && decide (∃ c, s.data.toList[0]? = some c /\ letterB c.toNat = true)
theorem isName_any (s : ByteArray) (w : World) (hs : s.size <= maxLen) :
 Calls Tryz.prog 64 #[.string s] w fun e w' => e = .returned (.bool (nameB s)) /\ w = w' := by
 obtain ⟨A, eA⟩ : ∃ A, allB s 20 ⟨#[95, 47, 45]⟩ = A := ⟨_, rfl⟩
 have HA := qH eA
 cases A with
 | false =>
  have HN : Hid (nameB s = false) := by show _ = _; unfold nameB; rw [eA]; simp
  clear eA
  go_enter Tryz.func64, Tryz.ntmps64
  go_wp2_with fail
  refine (all_any _ _ _ _ hs).mono ?_
  rw [HA.out]
  rintro e w' ⟨rfl, rfl⟩
  go_wp2
  go_ret
  exact ⟨ret_bool' HN.out.symm, rfl⟩
 | true =>
  have h0 : 0 < s.size := by
   unfold allB at eA
   simp only [Bool.and_eq_true, Bool.not_eq_true', decide_eq_true_eq] at eA
   have h2 := eA.1.2
   rcases Nat.eq_zero_or_pos s.size with h | h
   ·have : s.data.toList = [] := List.eq_nil_of_length_eq_zero (by simpa using h)
    rw [this] at h2; simp at h2
   ·exact h
  obtain ⟨c, ec⟩ : ∃ c, s[0] = c := ⟨_, rfl⟩
  have HN : Hid (nameB s = letterB c.toNat) := by
   show _ = _
   unfold nameB
   rw [eA, Bool.true_and]
   have hc : s.data.toList[0]? = some c := by
    rw [List.getElem?_eq_getElem (by simpa using h0)]
    exact congrArg some ec
   rw [hc]
   cases hl : letterB c.toNat
   ·exact decide_eq_false (by rintro ⟨d, hd, h⟩; injection hd with hd; subst hd; rw [hl] at h; cases h)
   ·exact decide_eq_true ⟨c, rfl, hl⟩
  clear eA
  go_enter Tryz.func64, Tryz.ntmps64
  go_wp2_with fail
  refine (all_any _ _ _ _ hs).mono ?_
  rw [HA.out]
  rintro e w' ⟨rfl, rfl⟩
  go_wp2_with fail
  refine (isLetter_any _ _).mono ?_
  rintro e w' ⟨rfl, rfl⟩
  go_wp2
  go_ret
  exact ⟨ret_bool' (by rw [HN.out, <- ec]), rfl⟩
end Go.Proofs.YtomahddiclkepaaGreatDoor
namespace Go.Proofs.YtomahddiclkepaaGreatDoor
open Go.RowKit
def withinB (n a b : Int) : Bool := decide (a <= n /\ n <= b)
theorem withinB_t {n a b : Int} (h : a <= n /\ n <= b) : withinB n a b = true := by simp [withinB, h]
theorem withinB_f {n a b : Int} (h : ¬ (a <= n /\ n <= b)) : withinB n a b = false := by unfold withinB; exact decide_eq_false h
theorem withinB_iff {n a b : Int} : withinB n a b = true ↔ a <= n /\ n <= b := by simp [withinB]
theorem day_within (n a b : Int) (w : World) :
 Calls Tryz.prog 125 #[.int .i64 n, .int .i64 a, .int .i64 b] w fun e w' => e = .returned (.bool (withinB n a b)) /\ w = w' := by
 by_cases h1 : a <= n <;> by_cases h2 : n <= b <;>
 ·go_enter Tryz.func125, Tryz.ntmps125
  go_wp2
  go_ret
  exact ⟨ret_bool (by simp [withinB, h1, h2]), rfl⟩
abbrev dayV (k wd n : Int) : Value := .agg #[.int .i64 k, .int .i64 wd, .int .i64 n]
def dayB (k wd n : Int) : Bool := decide ((k = 1 /\ wd = 0 /\ 1 <= n /\ n <= 31) \/ (k = 2 /\ 0 <= wd /\ wd <= 6 /\ n = 0) \/ ((k = 3 \/ k = 4) /\ 0 <= wd /\ wd <= 6 /\ 1 <= n /\ n <= 31))
theorem quiet_left {P : Program} {f : FuncId} {args : Array Value} {w : World} {n : Nat} {v : Value}
 (h : Calls P f args (w.drewN n) fun e w' => e = .returned v /\ w.drewN n = w') : Calls P f args (w.drewN n) fun e w'' => e = .returned v /\ ∃ m, w'' = w.drewN m :=
 h.mono fun _ _ ⟨he, hm⟩ => ⟨he, n, hm.symm⟩
theorem below_drewN {B : Nat} {a w : World} (h : Below B a w) (n : Nat) : Below B a (w.drewN n) := ⟨h.os, h.tape, h.output, h.size, h.block⟩
theorem Check_ok (k wd n : Int) (w : World) (h0 : dayB k wd n = true) :
 Calls Tryz.prog 79 #[dayV k wd n] w fun e w' => e = .returned (.int .i64 0) /\ Below w.heap.size w w' := by
 simp only [dayB, decide_eq_true_eq] at h0
 rcases h0 with ⟨rfl, rfl, h⟩ | ⟨rfl, h, h2, rfl⟩ | ⟨rfl | rfl, h⟩
 ·have t0 : withinB 0 0 6 = true := by decide
  have t2 : withinB n 1 31 = true := withinB_t (by omega)
  clear h
  go_enter Tryz.func79, Tryz.ntmps79
  go_wp2
  go_quiet ((go_at_call 125; exact quiet_left (day_within _ _ _ _)))
  go_wp2
  go_ret
  exact ⟨rfl, below_drewN ((Below.refl _ _).alloc (Nat.le_refl _) _) _⟩
 ·have t2 : withinB 0 1 31 = false := by decide
  have t1 : withinB wd 0 6 = true := withinB_t (by omega)
  clear h
  go_enter Tryz.func79, Tryz.ntmps79
  go_wp2
  go_quiet ((go_at_call 125; exact quiet_left (day_within _ _ _ _)))
  go_wp2
  go_ret
  exact ⟨rfl, below_drewN ((Below.refl _ _).alloc (Nat.le_refl _) _) _⟩
 ·have t1 : withinB wd 0 6 = true := withinB_t (by omega)
  have t2 : withinB n 1 31 = true := withinB_t (by omega)
  clear h
  go_enter Tryz.func79, Tryz.ntmps79
  go_wp2
  go_quiet ((go_at_call 125; exact quiet_left (day_within _ _ _ _)))
  go_wp2
  go_ret
  exact ⟨rfl, below_drewN ((Below.refl _ _).alloc (Nat.le_refl _) _) _⟩
 ·have t1 : withinB wd 0 6 = true := withinB_t (by omega)
  have t2 : withinB n 1 31 = true := withinB_t (by omega)
  clear h
  go_enter Tryz.func79, Tryz.ntmps79
  go_wp2
  go_quiet ((go_at_call 125; exact quiet_left (day_within _ _ _ _)))
  go_wp2
  go_ret
  exact ⟨rfl, below_drewN ((Below.refl _ _).alloc (Nat.le_refl _) _) _⟩
theorem Check_no (k wd n : Int) (w : World) (h0 : dayB k wd n = false) :
 Calls Tryz.prog 79 #[dayV k wd n] w fun e w' => e = .returned (.int .i64 1) /\ Below w.heap.size w w' := by
 simp only [dayB, decide_eq_false_iff_not] at h0
 have h : (k = 1 /\ wd ≠ 0) \/ (k = 1 /\ wd = 0 /\ ¬ (1 <= n /\ n <= 31)) \/ (k = 2 /\ ¬ (0 <= wd /\ wd <= 6)) \/ (k = 2 /\ (0 <= wd /\ wd <= 6) /\ n ≠ 0) \/ (k = 3 /\ ¬ (0 <= wd /\ wd <= 6)) \/ (k = 3 /\ (0 <= wd /\ wd <= 6) /\ ¬ (1 <= n /\ n <= 31)) \/
  (k = 4 /\ ¬ (0 <= wd /\ wd <= 6)) \/ (k = 4 /\ (0 <= wd /\ wd <= 6) /\ ¬ (1 <= n /\ n <= 31)) \/ (k ≠ 1 /\ k ≠ 2 /\ k ≠ 3 /\ k ≠ 4) := by omega
 clear h0
 rcases h with ⟨rfl, h⟩ | ⟨rfl, rfl, h⟩ | ⟨rfl, h⟩ | ⟨rfl, h1, h⟩ | ⟨rfl, h⟩ | ⟨rfl, h1, h⟩ | ⟨rfl, h⟩ | ⟨rfl, h1, h⟩ | h
 ·have t3 : (wd == 0) = false := by simp; omega
  clear h
  go_enter Tryz.func79, Tryz.ntmps79
  go_wp2
  go_quiet ((go_at_call 125; exact quiet_left (day_within _ _ _ _)))
  go_wp2
  go_ret
  exact ⟨rfl, below_drewN ((Below.refl _ _).alloc (Nat.le_refl _) _) _⟩
 ·have t2 : withinB n 1 31 = false := withinB_f (by omega)
  clear h
  go_enter Tryz.func79, Tryz.ntmps79
  go_wp2
  go_quiet ((go_at_call 125; exact quiet_left (day_within _ _ _ _)))
  go_wp2
  go_ret
  exact ⟨rfl, below_drewN ((Below.refl _ _).alloc (Nat.le_refl _) _) _⟩
 ·have t1 : withinB wd 0 6 = false := withinB_f (by omega)
  clear h
  go_enter Tryz.func79, Tryz.ntmps79
  go_wp2
  go_quiet ((go_at_call 125; exact quiet_left (day_within _ _ _ _)))
  go_wp2
  go_ret
  exact ⟨rfl, below_drewN ((Below.refl _ _).alloc (Nat.le_refl _) _) _⟩
 ·have t1 : withinB wd 0 6 = true := withinB_t (by omega)
  have t4 : (n == 0) = false := by simp; omega
  clear h
  go_enter Tryz.func79, Tryz.ntmps79
  go_wp2
  go_quiet ((go_at_call 125; exact quiet_left (day_within _ _ _ _)))
  go_wp2
  go_ret
  exact ⟨rfl, below_drewN ((Below.refl _ _).alloc (Nat.le_refl _) _) _⟩
 ·have t1 : withinB wd 0 6 = false := withinB_f (by omega)
  clear h
  go_enter Tryz.func79, Tryz.ntmps79
  go_wp2
  go_quiet ((go_at_call 125; exact quiet_left (day_within _ _ _ _)))
  go_wp2
  go_ret
  exact ⟨rfl, below_drewN ((Below.refl _ _).alloc (Nat.le_refl _) _) _⟩
 ·have t1 : withinB wd 0 6 = true := withinB_t (by omega)
  have t2 : withinB n 1 31 = false := withinB_f (by omega)
  clear h
  go_enter Tryz.func79, Tryz.ntmps79
  go_wp2
  go_quiet ((go_at_call 125; exact quiet_left (day_within _ _ _ _)))
  go_wp2
  go_ret
  exact ⟨rfl, below_drewN ((Below.refl _ _).alloc (Nat.le_refl _) _) _⟩
 ·have t1 : withinB wd 0 6 = false := withinB_f (by omega)
  clear h
  go_enter Tryz.func79, Tryz.ntmps79
  go_wp2
  go_quiet ((go_at_call 125; exact quiet_left (day_within _ _ _ _)))
  go_wp2
  go_ret
  exact ⟨rfl, below_drewN ((Below.refl _ _).alloc (Nat.le_refl _) _) _⟩
 ·have t1 : withinB wd 0 6 = true := withinB_t (by omega)
  have t2 : withinB n 1 31 = false := withinB_f (by omega)
  clear h
  go_enter Tryz.func79, Tryz.ntmps79
  go_wp2
  go_quiet ((go_at_call 125; exact quiet_left (day_within _ _ _ _)))
  go_wp2
  go_ret
  exact ⟨rfl, below_drewN ((Below.refl _ _).alloc (Nat.le_refl _) _) _⟩
 ·have t5 : (k == 1) = false := by simp; omega
  have t6 : (k == 2) = false := by simp; omega
  have t7 : (k == 3) = false := by simp; omega
  have t8 : (k == 4) = false := by simp; omega
  clear h
  go_enter Tryz.func79, Tryz.ntmps79
  go_wp2
  go_quiet ((go_at_call 125; exact quiet_left (day_within _ _ _ _)))
  go_wp2
  go_ret
  exact ⟨rfl, below_drewN ((Below.refl _ _).alloc (Nat.le_refl _) _) _⟩
end Go.Proofs.YtomahddiclkepaaGreatDoor
namespace Go.Proofs.YtomahddiclkepaaGreatDoor
open Go.RowKit Go.Joins
open Classical
structure Ru where
 (nm : ByteArray)
 (yf yt mo dk dw dn tm ck sv : Int)
 (lt : ByteArray)
def ruChk (r : Ru) : Int :=
 if nameB r.nm = false then 3 else
 if r.lt.toList ≠ [45] /\ abbrB r.lt = false then 3 else
 if ¬ (1900 <= r.yf /\ r.yf <= 2100) then 1 else
 if ¬ (r.yf <= r.yt /\ r.yt <= 2100) then 1 else
 if ¬ (1 <= r.mo /\ r.mo <= 12) then 1 else
 if dayB r.dk r.dw r.dn = false then 1 else
 if Civ.mlen 1901 r.mo < r.dn then 1 else
 if ¬ (-604800 <= r.tm /\ r.tm <= 604800) then 1 else
 if ¬ (0 <= r.ck /\ r.ck <= 2) then 1 else
 if ¬ (0 <= r.sv /\ r.sv <= 10800) then 1 else 0
structure OkRu (r : Ru) : Prop where
 nm : nameB r.nm = true
 lt : r.lt.toList = [45] \/ abbrB r.lt = true
 f1 : 1900 <= r.yf
 f2 : r.yf <= 2100
 t1 : r.yf <= r.yt
 t2 : r.yt <= 2100
 m1 : 1 <= r.mo
 m2 : r.mo <= 12
 d : dayB r.dk r.dw r.dn = true
 n : r.dn <= Civ.mlen 1901 r.mo
 a1 : -604800 <= r.tm
 a2 : r.tm <= 604800
 c1 : 0 <= r.ck
 c2 : r.ck <= 2
 s1 : 0 <= r.sv
 s2 : r.sv <= 10800
theorem ru_ok {r : Ru} (h : ruChk r = 0) : OkRu r := by
 unfold ruChk at h
 split at h
 ·omega
 rename_i h1
 split at h
 ·omega
 rename_i h2
 split at h
 ·omega
 rename_i h3
 split at h
 ·omega
 rename_i h4
 split at h
 ·omega
 rename_i h5
 split at h
 ·omega
 rename_i h6
 split at h
 ·omega
 rename_i h7
 split at h
 ·omega
 rename_i h8
 split at h
 ·omega
 rename_i h9
 split at h
 ·omega
 rename_i h10
 refine ⟨by simpa using h1, ?_, by omega, by omega, by omega, by omega, by omega, by omega, by simpa using h6, by omega, by omega, by omega, by omega, by omega, by omega, by omega⟩
 by_cases hl : r.lt.toList = [45]
 ·exact Or.inl hl
 ·right
  cases ha : abbrB r.lt
  ·exact absurd ⟨hl, ha⟩ h2
  ·rfl
theorem ok_ru {r : Ru} (o : OkRu r) : ruChk r = 0 := by
 unfold ruChk
 rw [if_neg (by rw [o.nm]; simp), if_neg (fun h => by
  rcases o.lt with h1 | h1
  ·exact h.1 h1
  ·rw [h1] at h; exact absurd h.2 (by simp)), if_neg (fun h => h ⟨o.f1, o.f2⟩), if_neg (fun h => h ⟨o.t1, o.t2⟩), if_neg (fun h => h ⟨o.m1, o.m2⟩), if_neg (by rw [o.d]; simp), if_neg (by have := o.n; omega), if_neg (fun h => h ⟨o.a1, o.a2⟩), if_neg (fun h => h ⟨o.c1, o.c2⟩), if_neg (fun h => h ⟨o.s1, o.s2⟩)]
end Go.Proofs.YtomahddiclkepaaGreatDoor
namespace Go.Proofs.YtomahddiclkepaaGreatDoor
open Go
def T2 (n : Int) : List UInt8 := [UInt8.ofNat (48 + (n / 10).toNat), UInt8.ofNat (48 + (n % 10).toNat)]
theorem T2_length (n : Int) : (T2 n).length = 2 := rfl
def txt (l : List UInt8) : ByteArray := ⟨l.toArray⟩
theorem txt_append (a b : List UInt8) : txt a ++ txt b = txt (a ++ b) := by
 apply ByteArray.ext
 simp [txt]
theorem txt_data (l : List UInt8) : (txt l).data.toList = l := by simp [txt]
theorem txt_size (l : List UInt8) : (txt l).size = l.length := by simp [txt, ByteArray.size]
theorem txt_inj {a b : List UInt8} (h : txt a = txt b) : a = b := by
 have := congrArg (fun s : ByteArray => s.data.toList) h
 simpa [txt] using this
def spanP (n : Int) : List UInt8 := Lib.itoa (n / 3600) ++ ([58] ++ (T2 (n / 60 % 60) ++ (if n % 60 = 0 then [] else [58] ++ T2 (n % 60))))
def spanT (n : Int) : List UInt8 := if n < 0 then 45 :: spanP (-n) else spanP n
def stampT (t : Int) : List UInt8 :=
 Lib.itoa (Civ.yy (t / 86400)) ++ ([45] ++ (T2 (Civ.mm (t / 86400)) ++ ([45] ++ (T2 (Civ.dd (t / 86400)) ++ ([84] ++ (T2 (t % 86400 / 3600) ++ ([58] ++ (T2 (t % 86400 / 60 % 60) ++ ([58] ++ T2 (t % 86400 % 60))))))))))
theorem dec_four (u : Nat) (h0 : 1000 <= u) (h1 : u < 10000) : Lib.decDigits u = [UInt8.ofNat (48 + u / 1000), UInt8.ofNat (48 + u / 100 % 10), UInt8.ofNat (48 + u / 10 % 10), UInt8.ofNat (48 + u % 10)] := by
 rw [Lib.decDigits, dif_neg (by omega), Lib.decDigits, dif_neg (by omega), Lib.decDigits, dif_neg (by omega), Lib.decDigits, dif_pos (by omega)]
 simp only [List.cons_append, List.nil_append]
 rw [show u / 10 / 10 / 10 = u / 1000 by omega, show u / 10 / 10 % 10 = u / 100 % 10 by omega]
theorem itoa_four {n : Int} (h0 : 1000 <= n) (h1 : n < 10000) : Lib.itoa n = T2 (n / 100) ++ T2 (n % 100) := by
 unfold Lib.itoa
 rw [if_neg (by omega), dec_four _ (by omega) (by omega)]
 have e1 : n.toNat / 1000 = (n / 100 / 10).toNat := by omega
 have e2 : n.toNat / 100 % 10 = (n / 100 % 10).toNat := by omega
 have e3 : n.toNat / 10 % 10 = (n % 100 / 10).toNat := by omega
 have e4 : n.toNat % 10 = (n % 100 % 10).toNat := by omega
 rw [e1, e2, e3, e4]
 rfl
theorem stamp_length (t : Int) (h1 : -135140 <= t / 86400) (h2 : t / 86400 <= 157053) : (stampT t).length = 19 := by
 obtain ⟨hv, _⟩ := Civ.date_valid (t / 86400) h1 h2
 obtain ⟨y1, y2, _⟩ := hv
 unfold stampT
 rw [itoa_four (by omega) (by omega)]
 simp [T2_length]
theorem digit_lt {a b : Nat} (ha : a < 10) (hb : b < 10) : UInt8.ofNat (48 + a) < UInt8.ofNat (48 + b) ↔ a < b := by
 rw [UInt8.lt_iff_toNat_lt]
 simp only [UInt8.toNat_ofNat']
 omega
theorem digit_inj {a b : Nat} (ha : a < 10) (hb : b < 10) (h : UInt8.ofNat (48 + a) = UInt8.ofNat (48 + b)) : a = b := by
 have := congrArg UInt8.toNat h
 simp only [UInt8.toNat_ofNat'] at this
 omega
theorem lex_append {a b c d : List UInt8} (hl : a.length = b.length) : a ++ c < b ++ d ↔ a < b \/ a = b /\ c < d := by
 induction a generalizing b with
 | nil =>
  cases b with
  | nil => simp
  | cons y s => simp at hl
 | cons x r ih =>
  cases b with
  | nil => simp at hl
  | cons y s =>
   have := ih (b := s) (by simpa using hl)
   simp only [List.cons_append, List.cons_lt_cons_iff, this, List.cons.injEq]
   constructor
   ·rintro (h | ⟨rfl, h | ⟨rfl, h⟩⟩)
    ·exact .inl (.inl h)
    ·exact .inl (.inr ⟨rfl, h⟩)
    ·exact .inr ⟨⟨rfl, rfl⟩, h⟩
   ·rintro ((h | ⟨rfl, h⟩) | ⟨⟨rfl, rfl⟩, h⟩)
    ·exact .inl h
    ·exact .inr ⟨rfl, .inl h⟩
    ·exact .inr ⟨rfl, .inr ⟨rfl, h⟩⟩
theorem T2_app (a b : Int) (c d : List UInt8) : T2 a ++ c < T2 b ++ d ↔ T2 a < T2 b \/ T2 a = T2 b /\ c < d := lex_append rfl
theorem same_head {a b c : List UInt8} : c ++ a < c ++ b ↔ a < b := by
 rw [lex_append rfl]
 constructor
 ·rintro (h | ⟨_, h⟩)
  ·exact absurd h (List.lt_irrefl c)
  ·exact h
 ·exact fun h => .inr ⟨rfl, h⟩
theorem T2_lt {a b : Int} (h0 : 0 <= a) (h1 : a < 100) (h2 : 0 <= b) (h3 : b < 100) : T2 a < T2 b ↔ a < b := by
 unfold T2
 simp only [List.cons_lt_cons_iff]
 rw [digit_lt (by omega) (by omega), digit_lt (by omega) (by omega)]
 constructor
 ·rintro (h | ⟨h, h' | ⟨_, h'⟩⟩)
  ·omega
  ·have := digit_inj (by omega) (by omega) h; omega
  ·exact absurd h' (by simp)
 ·intro h
  by_cases e : a / 10 = b / 10
  ·exact .inr ⟨by rw [e], .inl (by omega)⟩
  ·exact .inl (by omega)
theorem T2_inj {a b : Int} (h0 : 0 <= a) (h1 : a < 100) (h2 : 0 <= b) (h3 : b < 100) (h : T2 a = T2 b) : a = b := by
 unfold T2 at h
 injection h with h4 h5
 injection h5 with h5 _
 have := digit_inj (by omega) (by omega) h4
 have := digit_inj (by omega) (by omega) h5
 omega
theorem T2_eq {a b : Int} (h0 : 0 <= a) (h1 : a < 100) (h2 : 0 <= b) (h3 : b < 100) : T2 a = T2 b ↔ a = b := ⟨T2_inj h0 h1 h2 h3, fun h => by rw [h]⟩
theorem Y4_lt {a b : Int} (h0 : 1000 <= a) (h1 : a < 10000) (h2 : 1000 <= b) (h3 : b < 10000) : Lib.itoa a < Lib.itoa b ↔ a < b := by
 rw [itoa_four h0 h1, itoa_four h2 h3, T2_app, T2_lt (by omega) (by omega) (by omega) (by omega), T2_lt (by omega) (by omega) (by omega) (by omega), T2_eq (by omega) (by omega) (by omega) (by omega)]
 omega
theorem Y4_eq {a b : Int} (h0 : 1000 <= a) (h1 : a < 10000) (h2 : 1000 <= b) (h3 : b < 10000) : Lib.itoa a = Lib.itoa b ↔ a = b := by
 constructor
 ·intro h
  rw [itoa_four h0 h1, itoa_four h2 h3] at h
  have e := List.append_inj h rfl
  have := T2_inj (by omega) (by omega) (by omega) (by omega) e.1
  have := T2_inj (by omega) (by omega) (by omega) (by omega) e.2
  omega
 ·intro h; rw [h]
theorem Y4_length {a : Int} (h0 : 1000 <= a) (h1 : a < 10000) : (Lib.itoa a).length = 4 := by rw [itoa_four h0 h1]; rfl
def dateT (n : Int) : List UInt8 := Lib.itoa (Civ.yy n) ++ ([45] ++ (T2 (Civ.mm n) ++ ([45] ++ T2 (Civ.dd n))))
def clockT (r : Int) : List UInt8 := [84] ++ (T2 (r / 3600) ++ ([58] ++ (T2 (r / 60 % 60) ++ ([58] ++ T2 (r % 60)))))
theorem stamp_two (t : Int) : stampT t = dateT (t / 86400) ++ clockT (t % 86400) := by simp [stampT, dateT, clockT]
theorem dateT_length (n : Int) (h1 : -135140 <= n) (h2 : n <= 157053) : (dateT n).length = 10 := by
 obtain ⟨hv, _⟩ := Civ.date_valid n h1 h2
 obtain ⟨y1, y2, _⟩ := hv
 unfold dateT
 rw [List.length_append, Y4_length (by omega) (by omega)]
 rfl
theorem dateT_lt (n m : Int) (h1 : -135140 <= n) (h2 : n <= 157053) (h3 : -135140 <= m) (h4 : m <= 157053) : dateT n < dateT m ↔ n < m := by
 obtain ⟨hv, e⟩ := Civ.date_valid n h1 h2
 obtain ⟨hw, e'⟩ := Civ.date_valid m h3 h4
 have key := Civ.days_lt_iff hv hw
 rw [e, e'] at key
 rw [key]
 have b1 := Civ.mlen_bd (Civ.yy n) (Civ.mm n) hv.2.2.1 hv.2.2.2.1
 have b2 := Civ.mlen_bd (Civ.yy m) (Civ.mm m) hw.2.2.1 hw.2.2.2.1
 obtain ⟨v1, v2, v3, v4, v5, v6⟩ := hv
 obtain ⟨u1, u2, u3, u4, u5, u6⟩ := hw
 unfold dateT Civ.less
 rw [lex_append (by rw [Y4_length (by omega) (by omega), Y4_length (by omega) (by omega)]), same_head, T2_app, same_head, Y4_lt (by omega) (by omega) (by omega) (by omega), Y4_eq (by omega) (by omega) (by omega) (by omega),
  T2_lt (by omega) (by omega) (by omega) (by omega), T2_lt (by omega) (by omega) (by omega) (by omega), T2_eq (by omega) (by omega) (by omega) (by omega)]
theorem dateT_eq (n m : Int) (h1 : -135140 <= n) (h2 : n <= 157053) (h3 : -135140 <= m) (h4 : m <= 157053) : dateT n = dateT m ↔ n = m := by
 constructor
 ·intro h
  rcases Int.lt_trichotomy n m with h' | h' | h'
  ·have := (dateT_lt n m h1 h2 h3 h4).2 h'
   rw [h] at this
   exact absurd this (List.lt_irrefl _)
  ·exact h'
  ·have := (dateT_lt m n h3 h4 h1 h2).2 h'
   rw [h] at this
   exact absurd this (List.lt_irrefl _)
 ·intro h; rw [h]
theorem clockT_lt (r s : Int) (h1 : 0 <= r) (h2 : r < 86400) (h3 : 0 <= s) (h4 : s < 86400) : clockT r < clockT s ↔ r < s := by
 unfold clockT
 rw [same_head, T2_app, same_head, T2_app, same_head, T2_lt (by omega) (by omega) (by omega) (by omega), T2_lt (by omega) (by omega) (by omega) (by omega), T2_lt (by omega) (by omega) (by omega) (by omega),
  T2_eq (by omega) (by omega) (by omega) (by omega), T2_eq (by omega) (by omega) (by omega) (by omega)]
 omega
theorem stampT_lt (t u : Int) (h1 : -135140 <= t / 86400) (h2 : t / 86400 <= 157053) (h3 : -135140 <= u / 86400) (h4 : u / 86400 <= 157053) : stampT t < stampT u ↔ t < u := by
 rw [stamp_two, stamp_two, lex_append (by rw [dateT_length _ h1 h2, dateT_length _ h3 h4]), dateT_lt _ _ h1 h2 h3 h4, dateT_eq _ _ h1 h2 h3 h4, clockT_lt _ _ (by omega) (by omega) (by omega) (by omega)]
 omega
end Go.Proofs.YtomahddiclkepaaGreatDoor
namespace Go.Proofs.YtomahddiclkepaaGreatDoor
open Go.RowKit Go.Joins
def Tab10 (w : World) : Prop := Lib.TabIs Tryz.prog w "internal/strconv.uint64pow10" .u64 Lib.pow10Tab
theorem Tab10.below {w w' : World} (h : Tab10 w) (hb : Below w.heap.size w w') : Tab10 w' := (Lib.tabBelow_of_tabIs h) w' hb
theorem itoa_text (n : Int) (w : World) (h0 : -9223372036854775808 <= n) (h1 : n <= 9223372036854775807) (ht : Tab10 w) :
 Calls Tryz.prog 73 #[.int .i64 n] w fun e w' => e = .returned (.string (txt (Lib.itoa n))) /\ Below w.heap.size w w' :=
 (Tryz.strconv_Itoa n h0 h1 w ht).mono fun e w' ⟨he, k, os, hw⟩ => ⟨he, by rw [hw]; exact Lib.below_grow _ w (Nat.le_refl _) k os⟩
theorem und_bytes : Tryz.prog.underlying 73 = some (.slice 5) := by kernel_rfl
theorem two_any (n : Int) (w : World) (h0 : 0 <= n) (h1 : n < 100) :
 Calls Tryz.prog 102 #[.int .i64 n] w fun e w' => e = .returned (.string (txt (T2 n))) /\ Below w.heap.size w w' := by
 have hcv : (convert 73 9 (.slice (some ⟨w.heap.size, 0, none⟩) 2 2)).run Tryz.prog (w.alloc (.cells #[.int .u8 (48 + n / 10), .int .u8 (48 + n % 10)] 5)) = .ok (.string (strOfNums [48 + n / 10, 48 + n % 10])) (w.alloc (.cells #[.int .u8 (48 + n / 10), .int .u8 (48 + n % 10)] 5)) := by
  refine Lib.BytesIn.convert (xs := [48 + n / 10, 48 + n % 10]) (fun _ => ⟨w.heap.size, 0, rfl, fun i hi => ?_⟩) rfl 2 _ 5 _ und_bytes Tryz.underlying5 (by kernel_rfl)
  have e := heap_alloc_new w (.cells #[.int .u8 (48 + n / 10), .int .u8 (48 + n % 10)] 5)
  rw [cell_of_row _ _ _ _ _ _ e]
  have hi2 : i < 2 := hi
  have : i = 0 \/ i = 1 := by omega
  rcases this with rfl | rfl <;> rfl
 have hs : strOfNums [48 + n / 10, 48 + n % 10] = txt (T2 n) := by
  simp only [strOfNums, txt, T2, List.map_cons, List.map_nil]
  rw [show (48 + n / 10).toNat = 48 + (n / 10).toNat by omega, show (48 + n % 10).toNat = 48 + (n % 10).toNat by omega]
 rw [hs] at hcv
 clear hs
 go_enter Tryz.func102, Tryz.ntmps102
 go_wp2
 go_ret
 exact ⟨rfl, (Below.refl _ _).alloc (Nat.le_refl _) _⟩
theorem below_drewN' {B : Nat} {a w : World} (h : Below B a w) (n : Nat) : Below B a (w.drewN n) := ⟨h.os, h.tape, h.output, h.size, h.block⟩
theorem ret_2 {a b c d : Int} (h : a = b) (h2 : c = d) : Ending.returned (.tuple #[.int .i64 a, .int .i64 c]) = .returned (.tuple #[.int .i64 b, .int .i64 d]) := by rw [h, h2]
theorem itoa_len3 {n : Int} (h0 : 0 <= n) (h1 : n < 1000) : (Lib.itoa n).length <= 3 := by
 unfold Lib.itoa
 rw [if_neg (by omega), Lib.decDigits_length]
 by_cases a : n.toNat < 10
 ·rw [Lib.nDigits_small a]; omega
 ·rw [Lib.nDigits_big a]
  by_cases b : n.toNat / 10 < 10
  ·rw [Lib.nDigits_small b]; omega
  ·rw [Lib.nDigits_big b, Lib.nDigits_small (by omega)]; omega
theorem cat1 (p a b : List UInt8) : txt p ++ txt a ++ ⟨#[58]⟩ ++ txt b = txt (p ++ (a ++ ([58] ++ (b ++ [])))) := by
 rw [show (⟨#[58]⟩ : ByteArray) = txt [58] from rfl, txt_append, txt_append, txt_append]; simp
theorem cat2 (p a b c : List UInt8) : txt p ++ txt a ++ ⟨#[58]⟩ ++ txt b ++ (⟨#[58]⟩ ++ txt c) = txt (p ++ (a ++ ([58] ++ (b ++ ([58] ++ c))))) := by
 rw [show (⟨#[58]⟩ : ByteArray) = txt [58] from rfl, txt_append, txt_append, txt_append, txt_append, txt_append]; simp
end Go.Proofs.YtomahddiclkepaaGreatDoor
