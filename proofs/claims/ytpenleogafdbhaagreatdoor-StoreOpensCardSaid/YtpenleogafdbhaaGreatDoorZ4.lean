/-
  Layings of shelf contracts at this dump, in plain words (out of lay-shelf.mjs and lay-plain.mjs).
  Why nothing can be done with a name.
  Bytes in memory; append.
  Append of the disk.
  Sync and Remove of the disk.
  The sum of bytes.
  Numbers in eight bytes.
  A block.
  Blocks read.
  A torn block is none.
-/
import Derived.Test.YtpenleogafdbhaaGreatDoorZ3
import Derived.Shelf.Small.Bits
import Derived.Shelf.Small.Strs
import Derived.Shelf.Small.Wraps
import Derived.Shelf.Strconv.Atoi
import Derived.Shelf.Strconv.Itoa0
import Derived.Shelf.Strconv.Itoa1
import Derived.Shelf.LaysM
import Derived.Shelf.Strconv.Itoa2
import Derived.Shelf.Strconv.Itoa3
import Derived.Shelf.Strings.Search1
import Derived.Shelf.Strings.Search2
import Derived.Shelf.Strings.Search3
import Derived.Shelf.Strings.Count
import Derived.Shelf.Strings.Prefix
import Derived.Shelf.Strings.Split
import Derived.Shelf.Slices.Turned
import Derived.Shelf.Slices.Clone
import Derived.Shelf.Slices.CompactS
import Derived.Shelf.Slices.Cells
import Derived.Shelf.SlicesE.Clone
import Derived.Maps.AppendAt
import Derived.BigQuiet
namespace Go.Proofs
open Go.Shelf
def Tryz.lays106_ren : Go.Shelf.Ren := ⟨fun | 106 => 199 | 213 => 218 | 265 => 239 | n => n, fun | 9 => 9 | 3 => 3 | n => n, fun | n => n⟩
theorem Tryz.lays106 : Go.Proofs.Lays.n106 Tryz.prog Tryz.lays106_ren := {
  mixed := by kernel_rfl
  f106 := Tryz.func199.trans (congrArg some (by kernel_rfl))
  f213 := Tryz.func218.trans (congrArg some (by kernel_rfl))
  f265 := Tryz.func239.trans (congrArg some (by kernel_rfl))
  t3 := Tryz.underlying3
  a3 := Tryz.isAgg3
  z3 := Tryz.sizeOf3
  v3 := Tryz.zeroValue3
  t9 := Tryz.underlying9
  a9 := Tryz.isAgg9
  z9 := Tryz.sizeOf9
  v9 := Tryz.zeroValue9 }
open Go.RowKit in
theorem Tryz.strings_Compare (a b : ByteArray) (w : World) :
    Calls Tryz.prog 199 #[.string a, .string b] w fun e w' => e = .returned (.int .i64 (Lib.compareBytes a.data.toList b.data.toList)) ∧ w' = w := Any.strings_Compare Tryz.lays106 a b w
def Tryz.lays103_ren : Go.Shelf.Ren := ⟨fun | 103 => 124 | 210 => 157 | 206 => 187 | n => n, fun | 9 => 9 | 4 => 4 | 24 => 153 | 3 => 3 | n => n, fun | n => n⟩
theorem Tryz.lays103 : Go.Proofs.Lays.n103 Tryz.prog Tryz.lays103_ren := {
  mixed := by kernel_rfl
  f103 := Tryz.func124.trans (congrArg some (by kernel_rfl))
  f206 := Tryz.func187.trans (congrArg some (by kernel_rfl))
  f210 := Tryz.func157.trans (congrArg some (by kernel_rfl))
  t3 := Tryz.underlying3
  a3 := Tryz.isAgg3
  z3 := Tryz.sizeOf3
  v3 := Tryz.zeroValue3
  t4 := Tryz.underlying4
  a4 := Tryz.isAgg4
  z4 := Tryz.sizeOf4
  v4 := Tryz.zeroValue4
  t9 := Tryz.underlying9
  a9 := Tryz.isAgg9
  z9 := Tryz.sizeOf9
  v9 := Tryz.zeroValue9
  t24 := Tryz.underlying153
  a24 := Tryz.isAgg153
  z24 := Tryz.sizeOf153
  v24 := Tryz.zeroValue153 }
open Go.RowKit in
theorem Tryz.strings_CutPrefix (s p : ByteArray) (w : World) :
    Calls Tryz.prog 124 #[.string s, .string p] w fun e w' => e = .returned (.tuple #[.string ⟨(Lib.trimPrefix s.data.toList p.data.toList).toArray⟩, .bool (Lib.hasPrefix s.data.toList p.data.toList)]) ∧ w' = w := Any.strings_CutPrefix Tryz.lays103 s p w
def Tryz.lays172_ren : Go.Shelf.Ren := ⟨fun | 172 => 125 | 244 => 158 | 245 => 159 | 247 => 188 | 279 => 189 | 280 => 190 | 281 => 191 | 282 => 192 | 287 => 206 | 316 => 207 | 171 => 126 | 205 => 208 | 321 => 220 | 322 => 221 | 243 => 160 | 246 => 193 | 283 => 209 | 284 => 210 | 285 => 211 | 286 => 212 | 129 => 186 | 317 => 222 | 318 => 223 | 319 => 224 | 320 => 225 | 337 => 240 | 338 => 241 | n => n, fun | 9 => 9 | 3 => 3 | 75 => 180 | 76 => 181 | 4 => 4 | 5 => 5 | 167 => 237 | 37 => 59 | 0 => 0 | 85 => 238 | 2 => 2 | 168 => 240 | 53 => 184 | 175 => 254 | 46 => 212 | 210 => 258 | 127 => 272 | 145 => 275 | 143 => 273 | 21 => 21 | 171 => 260 | 173 => 262 | 212 => 277 | 51 => 235 | 20 => 20 | 213 => 278 | 232 => 292 | 233 => 293 | 80 => 295 | n => n, fun | 15 => 0 | 16 => 1 | 17 => 2 | 18 => 6 | 19 => 7 | n => n⟩
theorem Tryz.lays172 : Go.Proofs.Lays.n172 Tryz.prog Tryz.lays172_ren := {
  mixed := by kernel_rfl
  f129 := Tryz.func186.trans (congrArg some (by kernel_rfl))
  f171 := Tryz.func126.trans (congrArg some (by kernel_rfl))
  f172 := Tryz.func125.trans (congrArg some (by kernel_rfl))
  f205 := Tryz.func208.trans (congrArg some (by kernel_rfl))
  f243 := Tryz.func160.trans (congrArg some (by kernel_rfl))
  f244 := Tryz.func158.trans (congrArg some (by kernel_rfl))
  f245 := Tryz.func159.trans (congrArg some (by kernel_rfl))
  f246 := Tryz.func193.trans (congrArg some (by kernel_rfl))
  f247 := Tryz.func188.trans (congrArg some (by kernel_rfl))
  f279 := Tryz.func189.trans (congrArg some (by kernel_rfl))
  f280 := Tryz.func190.trans (congrArg some (by kernel_rfl))
  f281 := Tryz.func191.trans (congrArg some (by kernel_rfl))
  f282 := Tryz.func192.trans (congrArg some (by kernel_rfl))
  f283 := Tryz.func209.trans (congrArg some (by kernel_rfl))
  f284 := Tryz.func210.trans (congrArg some (by kernel_rfl))
  f285 := Tryz.func211.trans (congrArg some (by kernel_rfl))
  f286 := Tryz.func212.trans (congrArg some (by kernel_rfl))
  f287 := Tryz.func206.trans (congrArg some (by kernel_rfl))
  f316 := Tryz.func207.trans (congrArg some (by kernel_rfl))
  f317 := Tryz.func222.trans (congrArg some (by kernel_rfl))
  f318 := Tryz.func223.trans (congrArg some (by kernel_rfl))
  f319 := Tryz.func224.trans (congrArg some (by kernel_rfl))
  f320 := Tryz.func225.trans (congrArg some (by kernel_rfl))
  f321 := Tryz.func220.trans (congrArg some (by kernel_rfl))
  f322 := Tryz.func221.trans (congrArg some (by kernel_rfl))
  f337 := Tryz.func240.trans (congrArg some (by kernel_rfl))
  f338 := Tryz.func241.trans (congrArg some (by kernel_rfl))
  t0 := Tryz.underlying0
  a0 := Tryz.isAgg0
  z0 := Tryz.sizeOf0
  v0 := Tryz.zeroValue0
  t2 := Tryz.underlying2
  a2 := Tryz.isAgg2
  z2 := Tryz.sizeOf2
  v2 := Tryz.zeroValue2
  t3 := Tryz.underlying3
  a3 := Tryz.isAgg3
  z3 := Tryz.sizeOf3
  v3 := Tryz.zeroValue3
  t4 := Tryz.underlying4
  a4 := Tryz.isAgg4
  z4 := Tryz.sizeOf4
  v4 := Tryz.zeroValue4
  t5 := Tryz.underlying5
  a5 := Tryz.isAgg5
  z5 := Tryz.sizeOf5
  v5 := Tryz.zeroValue5
  t9 := Tryz.underlying9
  a9 := Tryz.isAgg9
  z9 := Tryz.sizeOf9
  v9 := Tryz.zeroValue9
  t20 := Tryz.underlying20
  a20 := Tryz.isAgg20
  z20 := Tryz.sizeOf20
  v20 := Tryz.zeroValue20
  t21 := Tryz.underlying21
  a21 := Tryz.isAgg21
  z21 := Tryz.sizeOf21
  v21 := Tryz.zeroValue21
  t37 := Tryz.underlying59
  a37 := Tryz.isAgg59
  z37 := Tryz.sizeOf59
  v37 := Tryz.zeroValue59
  t46 := Tryz.underlying212
  a46 := Tryz.isAgg212
  z46 := Tryz.sizeOf212
  v46 := Tryz.zeroValue212
  t51 := Tryz.underlying235
  a51 := Tryz.isAgg235
  z51 := Tryz.sizeOf235
  v51 := Tryz.zeroValue235
  t53 := Tryz.underlying184
  a53 := Tryz.isAgg184
  z53 := Tryz.sizeOf184
  v53 := Tryz.zeroValue184
  t75 := Tryz.underlying180
  a75 := Tryz.isAgg180
  z75 := Tryz.sizeOf180
  v75 := Tryz.zeroValue180
  t76 := Tryz.underlying181
  a76 := Tryz.isAgg181
  z76 := Tryz.sizeOf181
  v76 := Tryz.zeroValue181
  t85 := Tryz.underlying238
  a85 := Tryz.isAgg238
  z85 := Tryz.sizeOf238
  v85 := Tryz.zeroValue238
  t127 := Tryz.underlying272
  a127 := Tryz.isAgg272
  z127 := Tryz.sizeOf272
  v127 := Tryz.zeroValue272
  t143 := Tryz.underlying273
  a143 := Tryz.isAgg273
  z143 := Tryz.sizeOf273
  v143 := Tryz.zeroValue273
  t145 := Tryz.underlying275
  a145 := Tryz.isAgg275
  z145 := Tryz.sizeOf275
  v145 := Tryz.zeroValue275
  t167 := Tryz.underlying237
  a167 := Tryz.isAgg237
  z167 := Tryz.sizeOf237
  v167 := Tryz.zeroValue237
  t168 := Tryz.underlying240
  a168 := Tryz.isAgg240
  z168 := Tryz.sizeOf240
  v168 := Tryz.zeroValue240
  t171 := Tryz.underlying260
  a171 := Tryz.isAgg260
  z171 := Tryz.sizeOf260
  v171 := Tryz.zeroValue260
  t173 := Tryz.underlying262
  a173 := Tryz.isAgg262
  z173 := Tryz.sizeOf262
  v173 := Tryz.zeroValue262
  t175 := Tryz.underlying254
  a175 := Tryz.isAgg254
  z175 := Tryz.sizeOf254
  v175 := Tryz.zeroValue254
  t210 := Tryz.underlying258
  a210 := Tryz.isAgg258
  z210 := Tryz.sizeOf258
  v210 := Tryz.zeroValue258
  t212 := Tryz.underlying277
  a212 := Tryz.isAgg277
  z212 := Tryz.sizeOf277
  v212 := Tryz.zeroValue277
  t213 := Tryz.underlying278
  a213 := Tryz.isAgg278
  z213 := Tryz.sizeOf278
  t232 := Tryz.underlying292
  a232 := Tryz.isAgg292
  z232 := Tryz.sizeOf292
  v232 := Tryz.zeroValue292
  t233 := Tryz.underlying293
  a233 := Tryz.isAgg293
  z233 := Tryz.sizeOf293
  v233 := Tryz.zeroValue293
  g15 := by kernel_rfl
  g16 := by kernel_rfl
  g17 := by kernel_rfl
  g18 := by kernel_rfl
  g19 := by kernel_rfl }
open Go.RowKit in
theorem Tryz.strconv_Atoi (s : ByteArray) (n : Int) (hl : s.size ≤ 18) (h : Lib.atoi s.data.toList = some n) (w : World) :
    Calls Tryz.prog 125 #[.string s] w fun e w' => e = .returned (.tuple #[.int .i64 n, .nilIface]) ∧ ∃ t, w' = Lib.bytesWorld w 5 t := Any.strconv_Atoi Tryz.lays172 s n hl h w
def Tryz.laysM171_ren : Go.Shelf.Ren := ⟨fun | 171 => 126 | 243 => 160 | 246 => 193 | 283 => 209 | 284 => 210 | 285 => 211 | 286 => 212 | 129 => 186 | 317 => 222 | 318 => 223 | 319 => 224 | 320 => 225 | 337 => 240 | 338 => 241 | n => n, fun | 3 => 3 | 9 => 9 | 2 => 2 | 4 => 4 | 171 => 260 | 0 => 0 | 53 => 184 | 37 => 59 | 5 => 5 | 173 => 262 | 212 => 277 | 51 => 235 | 20 => 20 | 213 => 278 | 46 => 212 | 232 => 292 | 233 => 293 | n => n, fun | 17 => 2 | 18 => 6 | 19 => 7 | n => n⟩
theorem Tryz.laysM171 : Go.Proofs.LaysM.n171 Tryz.prog Tryz.laysM171_ren := {
  mixed := by kernel_rfl
  f129 := Tryz.func186.trans (congrArg some (by kernel_rfl))
  f171 := Tryz.func126.trans (congrArg some (by kernel_rfl))
  f243 := Tryz.func160.trans (congrArg some (by kernel_rfl))
  f246 := Tryz.func193.trans (congrArg some (by kernel_rfl))
  f283 := Tryz.func209.trans (congrArg some (by kernel_rfl))
  f284 := Tryz.func210.trans (congrArg some (by kernel_rfl))
  f285 := Tryz.func211.trans (congrArg some (by kernel_rfl))
  f286 := Tryz.func212.trans (congrArg some (by kernel_rfl))
  f317 := Tryz.func222.trans (congrArg some (by kernel_rfl))
  f318 := Tryz.func223.trans (congrArg some (by kernel_rfl))
  f319 := Tryz.func224.trans (congrArg some (by kernel_rfl))
  f320 := Tryz.func225.trans (congrArg some (by kernel_rfl))
  f337 := Tryz.func240.trans (congrArg some (by kernel_rfl))
  f338 := Tryz.func241.trans (congrArg some (by kernel_rfl))
  t0 := Tryz.underlying0
  a0 := Tryz.isAgg0
  z0 := Tryz.sizeOf0
  v0 := Tryz.zeroValue0
  t2 := Tryz.underlying2
  a2 := Tryz.isAgg2
  z2 := Tryz.sizeOf2
  v2 := Tryz.zeroValue2
  t3 := Tryz.underlying3
  a3 := Tryz.isAgg3
  z3 := Tryz.sizeOf3
  v3 := Tryz.zeroValue3
  t4 := Tryz.underlying4
  a4 := Tryz.isAgg4
  z4 := Tryz.sizeOf4
  v4 := Tryz.zeroValue4
  t5 := Tryz.underlying5
  a5 := Tryz.isAgg5
  z5 := Tryz.sizeOf5
  v5 := Tryz.zeroValue5
  t9 := Tryz.underlying9
  a9 := Tryz.isAgg9
  z9 := Tryz.sizeOf9
  v9 := Tryz.zeroValue9
  t20 := Tryz.underlying20
  a20 := Tryz.isAgg20
  z20 := Tryz.sizeOf20
  v20 := Tryz.zeroValue20
  t37 := Tryz.underlying59
  a37 := Tryz.isAgg59
  z37 := Tryz.sizeOf59
  v37 := Tryz.zeroValue59
  t46 := Tryz.underlying212
  a46 := Tryz.isAgg212
  z46 := Tryz.sizeOf212
  v46 := Tryz.zeroValue212
  t51 := Tryz.underlying235
  a51 := Tryz.isAgg235
  z51 := Tryz.sizeOf235
  v51 := Tryz.zeroValue235
  t53 := Tryz.underlying184
  a53 := Tryz.isAgg184
  z53 := Tryz.sizeOf184
  v53 := Tryz.zeroValue184
  t171 := Tryz.underlying260
  a171 := Tryz.isAgg260
  z171 := Tryz.sizeOf260
  v171 := Tryz.zeroValue260
  t173 := Tryz.underlying262
  a173 := Tryz.isAgg262
  z173 := Tryz.sizeOf262
  v173 := Tryz.zeroValue262
  t212 := Tryz.underlying277
  a212 := Tryz.isAgg277
  z212 := Tryz.sizeOf277
  v212 := Tryz.zeroValue277
  t213 := Tryz.underlying278
  a213 := Tryz.isAgg278
  z213 := Tryz.sizeOf278
  t232 := Tryz.underlying292
  a232 := Tryz.isAgg292
  z232 := Tryz.sizeOf292
  v232 := Tryz.zeroValue292
  t233 := Tryz.underlying293
  a233 := Tryz.isAgg293
  z233 := Tryz.sizeOf293
  v233 := Tryz.zeroValue293
  g17 := by kernel_rfl
  g18 := by kernel_rfl
  g19 := by kernel_rfl
  i0 := by kernel_rfl
  i2 := by kernel_rfl
  i3 := by kernel_rfl
  i4 := by kernel_rfl
  i5 := by kernel_rfl
  i9 := by kernel_rfl
  i20 := by kernel_rfl
  i37 := by kernel_rfl
  i46 := by kernel_rfl
  i51 := by kernel_rfl
  i53 := by kernel_rfl
  i171 := by kernel_rfl
  i173 := by kernel_rfl
  i212 := by kernel_rfl
  i232 := by kernel_rfl
  i233 := by kernel_rfl
  m17 := by kernel_rfl
  m18 := by kernel_rfl
  m19 := by kernel_rfl }
open Go.RowKit Go.Sort Go.Lib in
theorem Tryz.strconv_Itoa (n : Int) (h0 : -9223372036854775808 ≤ n) (h1 : n ≤ 9223372036854775807) (w : World) (htab : Lib.TabIs Tryz.prog w "internal/strconv.uint64pow10" .u64 Lib.pow10Tab) :
    Calls Tryz.prog 126 #[.int .i64 n] w fun e w' => e = .returned (.string ⟨(Lib.itoa n).toArray⟩) ∧ ∃ k os, w' = grow (w.drewN k) os := Any.strconv_Itoa Tryz.laysM171 n h0 h1 w htab
def Tryz.lays171_ren : Go.Shelf.Ren := ⟨fun | 171 => 126 | 243 => 160 | 246 => 193 | 283 => 209 | 284 => 210 | 285 => 211 | 286 => 212 | 129 => 186 | 317 => 222 | 318 => 223 | 319 => 224 | 320 => 225 | 337 => 240 | 338 => 241 | n => n, fun | 3 => 3 | 9 => 9 | 2 => 2 | 4 => 4 | 171 => 260 | 0 => 0 | 53 => 184 | 37 => 59 | 5 => 5 | 173 => 262 | 212 => 277 | 51 => 235 | 20 => 20 | 213 => 278 | 46 => 212 | 232 => 292 | 233 => 293 | n => n, fun | 17 => 2 | 18 => 6 | 19 => 7 | n => n⟩
theorem Tryz.lays171 : Go.Proofs.Lays.n171 Tryz.prog Tryz.lays171_ren := {
  mixed := by kernel_rfl
  f129 := Tryz.func186.trans (congrArg some (by kernel_rfl))
  f171 := Tryz.func126.trans (congrArg some (by kernel_rfl))
  f243 := Tryz.func160.trans (congrArg some (by kernel_rfl))
  f246 := Tryz.func193.trans (congrArg some (by kernel_rfl))
  f283 := Tryz.func209.trans (congrArg some (by kernel_rfl))
  f284 := Tryz.func210.trans (congrArg some (by kernel_rfl))
  f285 := Tryz.func211.trans (congrArg some (by kernel_rfl))
  f286 := Tryz.func212.trans (congrArg some (by kernel_rfl))
  f317 := Tryz.func222.trans (congrArg some (by kernel_rfl))
  f318 := Tryz.func223.trans (congrArg some (by kernel_rfl))
  f319 := Tryz.func224.trans (congrArg some (by kernel_rfl))
  f320 := Tryz.func225.trans (congrArg some (by kernel_rfl))
  f337 := Tryz.func240.trans (congrArg some (by kernel_rfl))
  f338 := Tryz.func241.trans (congrArg some (by kernel_rfl))
  t0 := Tryz.underlying0
  a0 := Tryz.isAgg0
  z0 := Tryz.sizeOf0
  v0 := Tryz.zeroValue0
  t2 := Tryz.underlying2
  a2 := Tryz.isAgg2
  z2 := Tryz.sizeOf2
  v2 := Tryz.zeroValue2
  t3 := Tryz.underlying3
  a3 := Tryz.isAgg3
  z3 := Tryz.sizeOf3
  v3 := Tryz.zeroValue3
  t4 := Tryz.underlying4
  a4 := Tryz.isAgg4
  z4 := Tryz.sizeOf4
  v4 := Tryz.zeroValue4
  t5 := Tryz.underlying5
  a5 := Tryz.isAgg5
  z5 := Tryz.sizeOf5
  v5 := Tryz.zeroValue5
  t9 := Tryz.underlying9
  a9 := Tryz.isAgg9
  z9 := Tryz.sizeOf9
  v9 := Tryz.zeroValue9
  t20 := Tryz.underlying20
  a20 := Tryz.isAgg20
  z20 := Tryz.sizeOf20
  v20 := Tryz.zeroValue20
  t37 := Tryz.underlying59
  a37 := Tryz.isAgg59
  z37 := Tryz.sizeOf59
  v37 := Tryz.zeroValue59
  t46 := Tryz.underlying212
  a46 := Tryz.isAgg212
  z46 := Tryz.sizeOf212
  v46 := Tryz.zeroValue212
  t51 := Tryz.underlying235
  a51 := Tryz.isAgg235
  z51 := Tryz.sizeOf235
  v51 := Tryz.zeroValue235
  t53 := Tryz.underlying184
  a53 := Tryz.isAgg184
  z53 := Tryz.sizeOf184
  v53 := Tryz.zeroValue184
  t171 := Tryz.underlying260
  a171 := Tryz.isAgg260
  z171 := Tryz.sizeOf260
  v171 := Tryz.zeroValue260
  t173 := Tryz.underlying262
  a173 := Tryz.isAgg262
  z173 := Tryz.sizeOf262
  v173 := Tryz.zeroValue262
  t212 := Tryz.underlying277
  a212 := Tryz.isAgg277
  z212 := Tryz.sizeOf277
  v212 := Tryz.zeroValue277
  t213 := Tryz.underlying278
  a213 := Tryz.isAgg278
  z213 := Tryz.sizeOf278
  t232 := Tryz.underlying292
  a232 := Tryz.isAgg292
  z232 := Tryz.sizeOf292
  v232 := Tryz.zeroValue292
  t233 := Tryz.underlying293
  a233 := Tryz.isAgg293
  z233 := Tryz.sizeOf293
  v233 := Tryz.zeroValue293
  g17 := by kernel_rfl
  g18 := by kernel_rfl
  g19 := by kernel_rfl }
open Go.RowKit Go.Sort Go.Lib in
theorem Tryz.strconv_Itoa_small (i : Nat) (hi : i < 100) (w : World) :
    Calls Tryz.prog 126 #[.int .i64 i] w fun e w' => e = .returned (.string ⟨(Lib.decDigits i).toArray⟩) ∧ w' = w := Any.strconv_Itoa_small Tryz.lays171 i hi w
def Tryz.lays146_ren : Go.Shelf.Ren := ⟨fun | 146 => 127 | 221 => 161 | 268 => 194 | 138 => 195 | 143 => 196 | 195 => 213 | 197 => 214 | 218 => 215 | 219 => 216 | 260 => 226 | 217 => 227 | 225 => 228 | 224 => 229 | 267 => 230 | 266 => 242 | 314 => 243 | n => n, fun | 9 => 9 | 31 => 99 | 3 => 3 | 4 => 4 | 0 => 0 | 105 => 264 | 21 => 21 | 5 => 5 | 46 => 212 | 119 => 284 | 139 => 287 | 138 => 286 | 146 => 288 | 51 => 235 | n => n, fun | 1 => 3 | 3 => 4 | 4 => 5 | n => n⟩
theorem Tryz.lays146 : Go.Proofs.Lays.n146 Tryz.prog Tryz.lays146_ren := {
  mixed := by kernel_rfl
  f138 := Tryz.func195.trans (congrArg some (by kernel_rfl))
  f143 := Tryz.func196.trans (congrArg some (by kernel_rfl))
  f146 := Tryz.func127.trans (congrArg some (by kernel_rfl))
  f195 := Tryz.func213.trans (congrArg some (by kernel_rfl))
  f197 := Tryz.func214.trans (congrArg some (by kernel_rfl))
  f217 := Tryz.func227.trans (congrArg some (by kernel_rfl))
  f218 := Tryz.func215.trans (congrArg some (by kernel_rfl))
  f219 := Tryz.func216.trans (congrArg some (by kernel_rfl))
  f221 := Tryz.func161.trans (congrArg some (by kernel_rfl))
  f224 := Tryz.func229.trans (congrArg some (by kernel_rfl))
  f225 := Tryz.func228.trans (congrArg some (by kernel_rfl))
  f260 := Tryz.func226.trans (congrArg some (by kernel_rfl))
  f266 := Tryz.func242.trans (congrArg some (by kernel_rfl))
  f267 := Tryz.func230.trans (congrArg some (by kernel_rfl))
  f268 := Tryz.func194.trans (congrArg some (by kernel_rfl))
  f314 := Tryz.func243.trans (congrArg some (by kernel_rfl))
  t0 := Tryz.underlying0
  a0 := Tryz.isAgg0
  z0 := Tryz.sizeOf0
  v0 := Tryz.zeroValue0
  t3 := Tryz.underlying3
  a3 := Tryz.isAgg3
  z3 := Tryz.sizeOf3
  v3 := Tryz.zeroValue3
  t4 := Tryz.underlying4
  a4 := Tryz.isAgg4
  z4 := Tryz.sizeOf4
  v4 := Tryz.zeroValue4
  t5 := Tryz.underlying5
  a5 := Tryz.isAgg5
  z5 := Tryz.sizeOf5
  v5 := Tryz.zeroValue5
  t9 := Tryz.underlying9
  a9 := Tryz.isAgg9
  z9 := Tryz.sizeOf9
  v9 := Tryz.zeroValue9
  t21 := Tryz.underlying21
  a21 := Tryz.isAgg21
  z21 := Tryz.sizeOf21
  v21 := Tryz.zeroValue21
  t31 := Tryz.underlying99
  a31 := Tryz.isAgg99
  z31 := Tryz.sizeOf99
  v31 := Tryz.zeroValue99
  t46 := Tryz.underlying212
  a46 := Tryz.isAgg212
  z46 := Tryz.sizeOf212
  v46 := Tryz.zeroValue212
  t51 := Tryz.underlying235
  a51 := Tryz.isAgg235
  z51 := Tryz.sizeOf235
  v51 := Tryz.zeroValue235
  t105 := Tryz.underlying264
  a105 := Tryz.isAgg264
  z105 := Tryz.sizeOf264
  v105 := Tryz.zeroValue264
  t119 := Tryz.underlying284
  a119 := Tryz.isAgg284
  z119 := Tryz.sizeOf284
  t138 := Tryz.underlying286
  a138 := Tryz.isAgg286
  z138 := Tryz.sizeOf286
  v138 := Tryz.zeroValue286
  t139 := Tryz.underlying287
  a139 := Tryz.isAgg287
  z139 := Tryz.sizeOf287
  v139 := Tryz.zeroValue287
  t146 := Tryz.underlying288
  a146 := Tryz.isAgg288
  z146 := Tryz.sizeOf288
  v146 := Tryz.zeroValue288
  g1 := by kernel_rfl
  g3 := by kernel_rfl
  g4 := by kernel_rfl }
open Go.RowKit Go.Lib in
theorem Tryz.strings_Split (s sep : ByteArray) (m : Int) (w : World) (hs : s.size < 4294967281) (hm : w.cell? ⟨3, 0, none⟩ = some (.int .i64 m)) (h1 : 1 ≤ sep.size) :
    Calls Tryz.prog 127 #[.string s, .string sep] w fun e w' =>
      e = .returned (.slice (some ⟨w.heap.size, 0, none⟩) (Lib.countB s sep + 1) (Lib.countB s sep + 1)) ∧ w' = w.alloc (.cells ((Lib.splitB sep 0 (Lib.countB s sep) s).map Value.string).toArray 9) := Any.strings_Split Tryz.lays146 (by kernel_rfl) s sep m w hs hm h1
def Tryz.lays110_ren : Go.Shelf.Ren := ⟨fun | 110 => 72 | 109 => 136 | n => n, fun | 31 => 99 | 9 => 9 | 4 => 4 | 3 => 3 | 0 => 0 | n => n, fun | n => n⟩
theorem Tryz.lays110 : Go.Proofs.Lays.n110 Tryz.prog Tryz.lays110_ren := {
  mixed := by kernel_rfl
  f109 := Tryz.func136.trans (congrArg some (by kernel_rfl))
  f110 := Tryz.func72.trans (congrArg some (by kernel_rfl))
  t0 := Tryz.underlying0
  a0 := Tryz.isAgg0
  z0 := Tryz.sizeOf0
  v0 := Tryz.zeroValue0
  t3 := Tryz.underlying3
  a3 := Tryz.isAgg3
  z3 := Tryz.sizeOf3
  v3 := Tryz.zeroValue3
  t4 := Tryz.underlying4
  a4 := Tryz.isAgg4
  z4 := Tryz.sizeOf4
  v4 := Tryz.zeroValue4
  t9 := Tryz.underlying9
  a9 := Tryz.isAgg9
  z9 := Tryz.sizeOf9
  v9 := Tryz.zeroValue9
  t31 := Tryz.underlying99
  a31 := Tryz.isAgg99
  z31 := Tryz.sizeOf99
  v31 := Tryz.zeroValue99 }
open Go.Lib in
theorem Tryz.slices_Contains_string (b off n c : Nat) (zs : List ByteArray) (x : ByteArray) (w : World) (hz : n ≤ zs.length) (hbig : n ≤ 9223372036854775807) (hc : ∀ j, j < zs.length → w.cell? ⟨b, off + j, none⟩ = some (.string (zs.getD j ByteArray.empty))) :
    Calls Tryz.prog 72 #[.slice (some ⟨b, off, none⟩) n c, .string x] w fun e w' => e = .returned (.bool (Lib.containsS (zs.take n) x)) ∧ w' = w := Any.slices_Contains_string Tryz.lays110 b off n c zs x w hz hbig hc
open Go.Lib in
theorem Tryz.slices_Contains_string_empty (a : Option Addr) (c : Nat) (x : ByteArray) (w : World) :
    Calls Tryz.prog 72 #[.slice a 0 c, .string x] w fun e w' => e = .returned (.bool false) ∧ w' = w := Any.slices_Contains_string_empty Tryz.lays110 a c x w
def Tryz.laysNm215_ren : Go.Shelf.Ren := ⟨fun | 15 => 138 | n => n, fun | 22 => 25 | 3 => 3 | 4 => 4 | n => n, fun | n => n⟩
theorem Tryz.laysNm215 : Go.Proofs.Lays2.n15 Tryz.prog Tryz.laysNm215_ren := {
  mixed := by kernel_rfl
  f15 := Tryz.func138.trans (congrArg some (by kernel_rfl))
  t3 := Tryz.underlying3
  a3 := Tryz.isAgg3
  z3 := Tryz.sizeOf3
  v3 := Tryz.zeroValue3
  t4 := Tryz.underlying4
  a4 := Tryz.isAgg4
  z4 := Tryz.sizeOf4
  v4 := Tryz.zeroValue4
  t22 := Tryz.underlying25
  a22 := Tryz.isAgg25
  z22 := Tryz.sizeOf25
  v22 := Tryz.zeroValue25
  i3 := by kernel_rfl }
open Go.RowKit Go.Lib in
theorem Tryz.slices_Clone_int (b off n c : Nat) (zs : List Int) (w : World) (hz : n ≤ zs.length) (hbig : n * 8 ≤ 140737488355328) (hc : ∀ j, j < zs.length → w.cell? ⟨b, off + j, none⟩ = some (.int .i64 (zs.getD j 0))) :
    Calls Tryz.prog 138 #[.slice (some ⟨b, off, none⟩) n c] w fun e w' => ∃ v', e = .returned v' ∧ w'.ownsRow w.heap.size 3 1 v' n ((zs.take n).map (Value.int .i64)) ∧ v' ≠ .slice none 0 0 ∧ Below w.heap.size w w' := Any.slices_Clone_int Tryz.laysNm215 b off n c zs w hz hbig hc
open Go.RowKit Go.Lib in
theorem Tryz.slices_Clone_int_nil (n c : Nat) (w : World) :
    Calls Tryz.prog 138 #[.slice none n c] w fun e w' => e = .returned (.slice none 0 0) ∧ w' = w := Any.slices_Clone_int_nil Tryz.laysNm215 n c w
def Tryz.laysNm216_ren : Go.Shelf.Ren := ⟨fun | 16 => 146 | n => n, fun | 24 => 99 | 9 => 9 | 4 => 4 | n => n, fun | n => n⟩
theorem Tryz.laysNm216 : Go.Proofs.Lays2.n16 Tryz.prog Tryz.laysNm216_ren := {
  mixed := by kernel_rfl
  f16 := Tryz.func146.trans (congrArg some (by kernel_rfl))
  t4 := Tryz.underlying4
  a4 := Tryz.isAgg4
  z4 := Tryz.sizeOf4
  v4 := Tryz.zeroValue4
  t9 := Tryz.underlying9
  a9 := Tryz.isAgg9
  z9 := Tryz.sizeOf9
  v9 := Tryz.zeroValue9
  t24 := Tryz.underlying99
  a24 := Tryz.isAgg99
  z24 := Tryz.sizeOf99
  v24 := Tryz.zeroValue99
  i9 := by kernel_rfl }
open Go.RowKit Go.Lib in
theorem Tryz.slices_Clone_string (b off n c : Nat) (zs : List ByteArray) (w : World) (hz : n ≤ zs.length) (hbig : n * 16 ≤ 140737488355328) (hc : ∀ j, j < zs.length → w.cell? ⟨b, off + j, none⟩ = some (.string (zs.getD j ByteArray.empty))) :
    Calls Tryz.prog 146 #[.slice (some ⟨b, off, none⟩) n c] w fun e w' => ∃ v', e = .returned v' ∧ w'.ownsRow w.heap.size 9 1 v' n ((zs.take n).map (Value.string)) ∧ v' ≠ .slice none 0 0 ∧ Below w.heap.size w w' := Any.slices_Clone_string Tryz.laysNm216 b off n c zs w hz hbig hc
open Go.RowKit Go.Lib in
theorem Tryz.slices_Clone_int_zero (a : Addr) (c : Nat) (w : World) :
    Calls Tryz.prog 138 #[.slice (some a) 0 c] w fun e w' => ∃ v', e = .returned v' ∧ w'.ownsRow w.heap.size 3 1 v' 0 [] ∧ v' ≠ .slice none 0 0 ∧ Below w.heap.size w w' := Any.slices_Clone_int_zero Tryz.laysNm215 a c w
open Go.RowKit Go.Lib in
theorem Tryz.slices_Clone_string_zero (a : Addr) (c : Nat) (w : World) :
    Calls Tryz.prog 146 #[.slice (some a) 0 c] w fun e w' => ∃ v', e = .returned v' ∧ w'.ownsRow w.heap.size 9 1 v' 0 [] ∧ v' ≠ .slice none 0 0 ∧ Below w.heap.size w w' := Any.slices_Clone_string_zero Tryz.laysNm216 a c w
def Tryz.lays194_ren : Go.Shelf.Ren := ⟨fun | 194 => 145 | n => n, fun | 31 => 99 | 9 => 9 | 3 => 3 | 4 => 4 | 0 => 0 | n => n, fun | n => n⟩
theorem Tryz.lays194 : Go.Proofs.Lays.n194 Tryz.prog Tryz.lays194_ren := {
  mixed := by kernel_rfl
  f194 := Tryz.func145.trans (congrArg some (by kernel_rfl))
  t0 := Tryz.underlying0
  a0 := Tryz.isAgg0
  z0 := Tryz.sizeOf0
  v0 := Tryz.zeroValue0
  t3 := Tryz.underlying3
  a3 := Tryz.isAgg3
  z3 := Tryz.sizeOf3
  v3 := Tryz.zeroValue3
  t4 := Tryz.underlying4
  a4 := Tryz.isAgg4
  z4 := Tryz.sizeOf4
  v4 := Tryz.zeroValue4
  t9 := Tryz.underlying9
  a9 := Tryz.isAgg9
  z9 := Tryz.sizeOf9
  v9 := Tryz.zeroValue9
  t31 := Tryz.underlying99
  a31 := Tryz.isAgg99
  z31 := Tryz.sizeOf99
  v31 := Tryz.zeroValue99 }
open Go.RowKit Go.Lib Go.Sort in
theorem Tryz.slices_Compact_string (blk off cap : Nat) (zs : List (List UInt8)) (w : World) (hH : Holds encStr w blk off zs.toArray) (hsz : zs.length ≤ 9223372036854775807) (hcap : zs.length ≤ cap) :
    Calls Tryz.prog 145 #[.slice (some ⟨blk, off, none⟩) zs.length cap] w fun e w' => e = .returned (.slice (some ⟨blk, off, none⟩) (Lib.compact zs).length cap) ∧ ∃ q, w' = putRow encStr (Sort.ahead w q) blk off (Lib.compact zs ++ List.replicate (zs.length - (Lib.compact zs).length) []).toArray := Any.slices_Compact_string Tryz.lays194 blk off cap zs w hH hsz hcap
end Go.Proofs

namespace Go.Proofs.YtpenleogafdbhaaGreatDoor
open Go.RowKit Go.Maps Go.ChangeMaps Go.WideElems Go.WideShapes Go.WideAt Go.WideMaps
theorem compact1 (p : Option Addr) (c : Nat) (w : World) : Calls Tryz.prog 145 #[.slice p 1 c] w fun e w' => e = .returned (.slice p 1 c) ∧ w' = w := by
  go_enter Tryz.func145, Tryz.ntmps145
  go_wp2_with fail
  go_ret
  exact ⟨rfl, rfl⟩
theorem clone1 (nb : Nat) (s : ByteArray) (c : Nat) (w : World) (h : w.cell? ⟨nb, 0, none⟩ = some (.string s)) : Calls Tryz.prog 146 #[.slice (some ⟨nb, 0, none⟩) 1 c] w fun e w' => ∃ p k, e = .returned (.slice p 1 k) ∧ Below w.heap.size w w' := by
  refine (Tryz.slices_Clone_string nb 0 1 c [s] w (Nat.le_refl _) (by decide) fun j hj => ?_).mono ?_
  · obtain rfl : j = 0 := by simp at hj; exact hj
    exact h
  · rintro e w' ⟨v', rfl, hr, -, hb⟩
    obtain ⟨p, k, rfl⟩ := row_slice hr
    exact ⟨p, k, rfl, hb⟩
theorem eg144 : ∀ args w, (callFunc 144 args).run Tryz.prog w = .ok (.enter 144 args) w := enters_of Tryz.func144 (by kernel_rfl) rfl
set_option maxRecDepth 100000 in
theorem ready1_any (dp mb : Nat) (L : Mp FileR) (d : Dk) (nb c : Nat) (s : ByteArray) (w : World) (h : DiskM w dp mb L d) (hn : w.cell? ⟨nb, 0, none⟩ = some (.string s)) :
    Calls Tryz.prog 87 #[.pointer (some ⟨dp, 0, none⟩), .slice (some ⟨nb, 0, none⟩) 1 c] w fun e w' => e = .returned (.int .i64 (d.ready s.data.toList : Int)) ∧ Below w.heap.size w w' := by
  have HI := hid (is_any h)
  have HV : Hid (IsV w (.slice (some ⟨nb, 0, none⟩) 1 c) ([s].map .string)) := hid ⟨_, c, rfl, by simp, fun i hi => by
    obtain rfl : i = 0 := by simp at hi; exact hi
    exact ⟨nb, rfl, hn⟩⟩
  have HC := hid (containsS_any 144 #[] badName (.slice (some ⟨nb, 0, none⟩) 1 c) [s] w eg144 HV.out (fun W s' hW _ => (bad_any s' W).mono fun e w' ⟨h1, h2⟩ => ⟨h1, by rw [h2]; exact hW⟩) (by simp))
  have hb0 : [s].any (fun s => badName s.data.toList) = badName s.data.toList := by simp
  rw [hb0] at HC
  have HD := hid h
  have HN := hid hn
  clear h hn hb0 HV
  go_enter Tryz.func87, Tryz.ntmps87
  go_wp2_with (first | (go_at_call 62; refine HI.out.mono ?_; rintro e w1 ⟨rfl, hw⟩; obtain rfl := hw.symm) | fail)
  go_at_call 63
  refine HC.out.mono ?_
  rintro e w2 ⟨rfl, hb2⟩
  have HB2 := hid hb2
  have HN2 : Hid (w2.cell? ⟨nb, 0, none⟩ = some (.string s)) := hid ((hb2.cell (World.block_lt_of_cell? w _ HN.out)).trans HN.out)
  have HK := hid (clone1 nb s c w2 HN2.out)
  have e2 := (cells5_of (HD.out.below HB2.out).cells).2.2.1
  clear hb2 HC HI
  cases hbad : badName s.data.toList with
  | true =>
    have HR : Hid (d.ready s.data.toList = 1) := hid (by unfold Dk.ready; rw [if_pos hbad])
    clear hbad
    go_wp2_with fail
    go_ret
    rw [HR.out]
    exact ⟨rfl, HB2.out⟩
  | false =>
    have HR : Hid (d.ready s.data.toList = if d.down = true then 8 else 0) := hid (by unfold Dk.ready; rw [hbad]; rfl)
    clear hbad
    go_wp2_with fail
    go_at_call 146
    refine HK.out.mono ?_
    rintro e w3 ⟨p, k, rfl, hb3⟩
    have e3 := (cells5_of ((HD.out.below HB2.out).below hb3).cells).2.2.1
    have HB3 := hid (below_step HB2.out hb3)
    clear hb3 e2 HK
    have HQ := hid (compact1 p k w3)
    cases hdn : d.down with
    | true =>
      rw [hdn] at e3
      have HR2 : Hid (d.ready s.data.toList = 8) := hid (by rw [HR.out, if_pos hdn])
      clear hdn
      go_wp2_with (first | (go_at_call 145; refine HQ.out.mono ?_; rintro e w4 ⟨rfl, hw⟩; obtain rfl := hw.symm) | fail)
      go_ret
      rw [HR2.out]
      exact ⟨rfl, HB3.out⟩
    | false =>
      rw [hdn] at e3
      have HR2 : Hid (d.ready s.data.toList = 0) := hid (by rw [HR.out, hdn]; rfl)
      clear hdn
      go_wp2_with (first | (go_at_call 145; refine HQ.out.mono ?_; rintro e w4 ⟨rfl, hw⟩; obtain rfl := hw.symm) | fail)
      go_ret
      rw [HR2.out]
      exact ⟨rfl, HB3.out⟩
end Go.Proofs.YtpenleogafdbhaaGreatDoor

namespace Go.Proofs.YtpenleogafdbhaaGreatDoor
open Go.RowKit Go.Maps Go.ChangeMaps Go.WideElems Go.WideShapes Go.WideAt Go.WideMaps
section
variable {P : Program} {w : World} {ops : Array Oper} {rest : List Oper} {o : Oper} {a : Act} {Q : Exit → Act → World → Prop}
theorem wpl_look_no (hg : o.guard = none) (x y : Operand) (t : TypeId) (hop : o.op = Op.lookup t x y true) (k e : TypeId) (hk : P.underlying k = some .string) (ht : P.underlying t = some (.map k e)) {z : Value} (hz : (zeroValue e).run P w = .ok z w)
    (b : Nat) (m : Mp Value) (hm : a.eval x = .map (some b)) (hown : MapM P k w b m) (s : ByteArray) (hx : a.eval y = .string s) (hs : s.size ≤ maxLen) (hv : mget s.data.toList m = none)
    (hK : wpList P ops Q rest (a.put o.dst (.tuple #[z, .bool false])) w) : wpList P ops Q (o :: rest) a w :=
  wpl_look_ok hg x y t hop k e hk ht hz b m hm hown s hx hs (by rw [hv]; exact hK)
theorem wpl_look_yes (hg : o.guard = none) (x y : Operand) (t : TypeId) (hop : o.op = Op.lookup t x y true) (k e : TypeId) (hk : P.underlying k = some .string) (ht : P.underlying t = some (.map k e)) {z : Value} (hz : (zeroValue e).run P w = .ok z w)
    (b : Nat) (m : Mp Value) (hm : a.eval x = .map (some b)) (hown : MapM P k w b m) (s : ByteArray) (hx : a.eval y = .string s) (hs : s.size ≤ maxLen) (v : Value) (hv : mget s.data.toList m = some v)
    (hK : wpList P ops Q rest (a.put o.dst (.tuple #[v, .bool true])) w) : wpList P ops Q (o :: rest) a w :=
  wpl_look_ok hg x y t hop k e hk ht hz b m hm hown s hx hs (by rw [hv]; exact hK)
end
/-- bytes that lie in memory -/
def BytesAt (w : World) (ad : Addr) (bs : Bs) : Prop := ∀ j u, (bs.map bv)[j]? = some u → w.cell? (ad.add j) = some u
theorem BytesAt.keep {w w' : World} {ad : Addr} {bs : Bs} (h : BytesAt w ad bs) (hb : bs ≠ [] → w'.heap[ad.block]? = w.heap[ad.block]?) : BytesAt w' ad bs := fun j u hj => by
  have hne : bs ≠ [] := fun e => by rw [e] at hj; simp at hj
  have := h j u hj
  rw [World.cell?_of_block (w := w) (w' := w') (by rw [add_block]; exact hb hne)]
  exact this
theorem BytesAt.lt {w : World} {ad : Addr} {bs : Bs} (h : BytesAt w ad bs) (hne : bs ≠ []) : ad.block < w.heap.size := by
  cases bs with
  | nil => exact absurd rfl hne
  | cons b r =>
    have := World.block_lt_of_cell? w _ (h 0 (bv b) rfl)
    rwa [add_block] at this
theorem BytesAt.below {w w' : World} {ad : Addr} {bs : Bs} (h : BytesAt w ad bs) (hb : Below w.heap.size w w') : BytesAt w' ad bs := h.keep fun hne => hb.block _ (h.lt hne)
theorem BytesAt.turned {w w' : World} {b : Nat} {ad : Addr} {bs : Bs} (h : BytesAt w ad bs) (hk : ∃ es clock, w.heap[b]? = some (.map es clock)) (hb : w.mapTurned w' b) : BytesAt w' ad bs := h.keep fun hne => by
  refine mapTurned_other hb fun e => ?_
  cases bs with
  | nil => exact hne rfl
  | cons c r =>
    have := h 0 (bv c) rfl
    obtain ⟨es, clock, hm⟩ := hk
    rw [World.cell?, add_block, e, hm] at this
    cases this
theorem one_bv (bs : Bs) : ∀ u ∈ bs.map bv, u.oneCell' = true := fun u hu => by
  obtain ⟨c, _, rfl⟩ := List.mem_map.1 hu
  rfl
theorem info5 : (Tryz.prog.info? 5).map (fun i => (i.zero, i.size, i.bytes)) = some (some (.int .u8 0), 1, 1) := by kernel_rfl
theorem wpl_app_b {ops : Array Oper} {rest : List Oper} {o : Oper} {a : Act} {Q : Exit → Act → World → Prop} {w : World} (hgd : o.guard = none) (s x : Operand)
    (ho : o.op = .call { callee := .builtin .append, args := #[s, x], argTypes := #[59, 59] }) (B : Nat) (v : Value) (xs bs : Bs) (hs : a.eval s = v) (hown : OwnV w B 5 v (xs.map bv)) (ad : Addr) (m c : Nat) (hx : a.eval x = .slice (some ad) m c) (hm : m = bs.length)
    (hb : BytesAt w ad bs) (hl1 : xs.length ≤ 10000000) (hl2 : bs.length ≤ 10000000) (hB : B ≤ w.heap.size)
    (h : ∀ v' w', OwnV w' B 5 v' ((xs ++ bs).map bv) → w.grownBy w' v.ownBlock → (v'.ownBlock = v.ownBlock ∨ v'.ownBlock = some w.heap.size) → wpList Tryz.prog ops Q rest (a.put o.dst v') w') : wpList Tryz.prog ops Q (o :: rest) a w := by
  cases hi0 : Tryz.prog.info? 5 with
  | none => have := info5; rw [hi0] at this; cases this
  | some i =>
    have hi := info5
    rw [hi0] at hi
    simp only [Option.map_some, Option.some.injEq, Prod.mk.injEq] at hi
    obtain ⟨h1, h2, h3⟩ := hi
    have hmx : (9223372036854775807 : Nat) = maxLen := rfl
    refine wpList_append_own_at w hgd s x 59 ho B 5 i (.int .u8 0) 1 1 Tryz.underlying59 hi0 h1 h2 h3 rfl (by decide) v (xs.map bv).length (xs.map bv) hs hown ad m c (bs.map bv) hx (by rw [List.length_map, hm, Nat.mul_one]) hb (one_bv bs) (by rw [List.length_map, ← hmx]; omega) (by rw [List.length_map]; omega) hB ?_
    intro v' w' r1 r2 _ r4
    refine h v' w' ?_ r2 r4
    rw [List.map_append]
    have e : (xs.map bv).length + m = (xs.map bv ++ bs.map bv).length := by rw [List.length_append, List.length_map, List.length_map, hm]
    rw [e] at r1
    exact r1
end Go.Proofs.YtpenleogafdbhaaGreatDoor

namespace Go.Proofs.YtpenleogafdbhaaGreatDoor
open Go.RowKit Go.Maps Go.ChangeMaps Go.WideElems Go.WideShapes Go.WideAt Go.WideMaps
theorem DiskM.put2 {w w' : World} {dp mb : Nat} {L : Mp FileR} {d : Dk} (h : DiskM w dp mb L d) (s : Bs) (r : FileR)
    (hm : MapM Tryz.prog 9 w' mb (mput s r.ptr (mmap FileR.ptr L))) (hr : FileM w' r)
    (hk : ∀ k, k < w.heap.size → k ≠ mb → k ≠ r.g → (∀ q, mget s L = some q → q.v.ownBlock ≠ some k) → w'.heap[k]? = w.heap[k]?)
    (hg : (mget s L = none ∧ w.heap.size ≤ r.g) ∨ ∃ q, mget s L = some q ∧ q.g = r.g)
    (hv : ∀ k, r.v.ownBlock = some k → w.heap.size ≤ k ∨ ∃ q, mget s L = some q ∧ q.v.ownBlock = some k) :
    DiskM w' dp mb (mput s r L) { d with files := mput s r.f d.files } ∧ New w (fpD dp mb L) (fpD dp mb (mput s r L)) := by
  have hgo : ∀ p ∈ L, p.1 ≠ s → p.2.g ≠ r.g := fun p hp hne e => by
    rcases hg with ⟨_, h2⟩ | ⟨q, h1, h2⟩
    · have := (h.file p hp).lt.1; omega
    · exact (h.apart p hp (s, q) (mget_mem h1) hne).1 (e.trans h2.symm)
  have hdg : dp ≠ r.g := fun e => by
    rcases hg with ⟨_, h2⟩ | ⟨q, h1, h2⟩
    · have := heap_lt h.cells; omega
    · exact h.g_dp (mget_mem h1) (h2.trans e.symm)
  refine ⟨h.put s r (hk dp (heap_lt h.cells) h.dp_mb hdg fun q hq => h.v_dp (mget_mem hq)) hm hr (fun p hp hne => ⟨?_, fun k hkv => ?_⟩) (fun p hp hne => ⟨hgo p hp hne, fun k hkv e => ?_⟩), ?_⟩
  · exact hk _ (h.file p hp).lt.1 (h.g_mb hp) (hgo p hp hne) fun q hq e => (h.file _ (mget_mem hq)).row (h.file p hp) _ e rfl
  · refine hk k ((h.file p hp).lt.2 k hkv) (fun e => h.v_mb hp (e ▸ hkv)) (fun e => ?_) fun q hq e => (h.apart p hp (s, q) (mget_mem hq) hne).2 k hkv e
    rcases hg with ⟨_, h2⟩ | ⟨q, h1, h2⟩
    · have := (h.file p hp).lt.2 k hkv; omega
    · exact (h.file p hp).row (h.file _ (mget_mem h1)) k hkv (e.trans h2.symm)
  · rcases hv k e with h2 | ⟨q, h1, h2⟩
    · have := (h.file p hp).lt.2 k hkv; omega
    · exact (h.apart p hp (s, q) (mget_mem h1) hne).2 k hkv h2
  · rintro k (e | e | ⟨p, hp, e⟩)
    · exact .inl (.inl e)
    · exact .inl (.inr (.inl e))
    · rcases mem_mput.1 hp with rfl | ⟨hp, _⟩
      · rcases e with e | e
        · rcases hg with ⟨_, h2⟩ | ⟨q, h1, h2⟩
          · exact .inr (by rw [e]; exact h2)
          · exact .inl (.inr (.inr ⟨(s, q), mget_mem h1, .inl (e.trans h2.symm)⟩))
        · rcases hv k e with h2 | ⟨q, h1, h2⟩
          · exact .inr h2
          · exact .inl (.inr (.inr ⟨(s, q), mget_mem h1, .inr h2⟩))
      · exact .inl (.inr (.inr ⟨p, hp, e⟩))
set_option maxRecDepth 100000 in
set_option maxHeartbeats 8000000 in
theorem append_any (dp mb : Nat) (L : Mp FileR) (d : Dk) (s : ByteArray) (ad : Addr) (m c : Nat) (bs : Bs) (w : World) (h : DiskM w dp mb L d) (hok : d.Ok) (hm : m = bs.length) (hb : BytesAt w ad bs) (hbl : bs.length ≤ 1000000) (hs : s.size ≤ maxLen) :
    Calls Tryz.prog 38 #[.pointer (some ⟨dp, 0, none⟩), .string s, .slice (some ad) m c] w fun e w' => e = .returned (.int .i64 ((d.append s.data.toList bs).1 : Int)) ∧ ∃ L', DiskM w' dp mb L' (d.append s.data.toList bs).2 ∧ Chg (fpD dp mb L) w w' ∧ New w (fpD dp mb L) (fpD dp mb L') := by
  have HR := hid (ready1_any dp mb L d w.heap.size 1 s (w.alloc (.cells #[.string s] 9)) (h.below (ba w _)) (cell_one_new _ _ _ 0 _ rfl))
  have HB0 := hid (ba w (.cells #[.string s] 9))
  have HD := hid h
  have HOK := hid hok
  have HBY := hid hb
  have HM := hid hm
  have HS := hid hs
  have hml : m ≤ 1000000 := by omega
  obtain ⟨rd, hrd⟩ : ∃ rd, rd = d.ready s.data.toList := ⟨_, rfl⟩
  rw [← hrd] at HR
  have HRD := hid hrd
  obtain ⟨A, hA⟩ : ∃ A, A = d.append s.data.toList bs := ⟨_, rfl⟩
  have HA := hid hA
  rw [← hA]
  clear h hok hb hm hs hrd hA
  go_enter Tryz.func38, Tryz.ntmps38
  go_wp2_with fail
  go_at_call 87
  refine HR.out.mono ?_
  rintro e w1 ⟨rfl, hb1⟩
  have HB1 := hid (below_step HB0.out hb1)
  have HD1 := hid (HD.out.below HB1.out)
  have HBY1 := hid (HBY.out.below HB1.out)
  clear hb1 HR HB0
  by_cases hr0 : rd = 0
  · subst hr0
    have HAQ : Hid (A = if d.full s.data.toList bs then (7, d) else Dk.told { d with files := mput s.data.toList ⟨((mget s.data.toList d.files).getD ⟨[], 0⟩).data ++ bs, ((mget s.data.toList d.files).getD ⟨[], 0⟩).safe⟩ d.files }) := hid (by
      rw [HA.out]
      unfold Dk.append
      rw [if_neg (by rw [← HRD.out]; simp)])
    obtain ⟨e0, e1, e2, e3, e4⟩ := cells5_of HD1.out.cells
    have HM1 : Hid (MapM Tryz.prog 9 w1 mb (mmap FileR.ptr L)) := HD1.out.map
    obtain ⟨nL, hnL⟩ : ∃ nL, nL = L.length := ⟨_, rfl⟩
    have hlen : ∀ ty, (Builtin.len_ #[49] ty #[.map (some mb)]).run Tryz.prog w1 = .ok (.int .i64 (nL : Int)) w1 := fun ty => by
      have := HM1.out.len (t := 49) (e := 118) Tryz.underlying49 ty
      rwa [mmap_length, ← hnL] at this
    have hnb : nL ≤ 60 := by have := HOK.out.few; rw [HD.out.len] at this; omega
    obtain ⟨T, hT⟩ : ∃ T, T = d.size := ⟨_, rfl⟩
    have SZ := hid (size_any dp mb L d w1 HD1.out (by have := HOK.out.size; omega))
    rw [← hT] at SZ
    have hTb : T ≤ 262144 := by have := HOK.out.size; omega
    have HF : Hid (d.full s.data.toList bs ↔ (mget s.data.toList L = none ∧ 60 ≤ nL) ∨ 262144 < T + m) := hid (by
      unfold Dk.full
      rw [HD.out.get, HD.out.len, ← hnL, ← hT, ← HM.out]
      cases mget s.data.toList L <;> simp)
    clear HA HRD hnL hT
    cases hg : mget s.data.toList L with
    | none =>
      have HG := hid hg
      have HGM : Hid (mget s.data.toList (mmap FileR.ptr L) = none) := hid (by rw [mget_mmap, hg]; rfl)
      clear hg
      by_cases h60 : 60 ≤ nL
      · have HAV : Hid (A = (7, d)) := hid (by rw [HAQ.out, if_pos (HF.out.2 (.inl ⟨HG.out, h60⟩))])
        clear HF HAQ
        go_wp2_with (first | (at_lookup; refine wpl_look_no rfl _ _ 49 rfl 9 118 Tryz.underlying9 Tryz.underlying49 (zero118 w1) mb (mmap FileR.ptr L) rfl HM1.out s rfl HS.out HGM.out ?_) | (go_at_call 96; refine SZ.out.mono ?_; rintro e w2 ⟨rfl, hb2⟩; have HB12 := hid hb2; clear hb2) | fail)
        go_ret
        rw [HAV.out]
        exact ⟨rfl, L, HD1.out, chg_below HB1.out, New.refl⟩
      · by_cases hfu : 262144 < T + m
        · have HAV : Hid (A = (7, d)) := hid (by rw [HAQ.out, if_pos (HF.out.2 (.inr hfu))])
          clear HF HAQ
          go_wp2_with (first | (at_lookup; refine wpl_look_no rfl _ _ 49 rfl 9 118 Tryz.underlying9 Tryz.underlying49 (zero118 w1) mb (mmap FileR.ptr L) rfl HM1.out s rfl HS.out HGM.out ?_) | (go_at_call 96; refine SZ.out.mono ?_; rintro e w2 ⟨rfl, hb2⟩; have HB12 := hid hb2; clear hb2) | fail)
          go_ret
          rw [HAV.out]
          have HB2 := below_step HB1.out HB12.out
          exact ⟨rfl, L, HD1.out.below HB12.out, chg_below HB2, New.refl⟩
        · have HFN : Hid (¬ d.full s.data.toList bs) := hid (fun hf => by
            rcases HF.out.1 hf with ⟨_, h2⟩ | h2
            · exact h60 h2
            · exact hfu h2)
          have HAV : Hid (A = Dk.told { d with files := mput s.data.toList ⟨bs, 0⟩ d.files }) := hid (by
            rw [HAQ.out, if_neg HFN.out, HD.out.get, HG.out]
            rfl)
          clear HF HAQ HFN
          go_upto_region 9 with (first | (at_lookup; refine wpl_look_no rfl _ _ 49 rfl 9 118 Tryz.underlying9 Tryz.underlying49 (zero118 w1) mb (mmap FileR.ptr L) rfl HM1.out s rfl HS.out HGM.out ?_) | (go_at_call 96; refine SZ.out.mono ?_; rintro e w2 ⟨rfl, hb2⟩; have HB12 := hid hb2; clear hb2) | fail)
          have HBX := hid (ba w2 (.cells #[.slice none 0 0, .int .i64 0] 123))
          have hg3 := heap_alloc_new w2 (.cells #[.slice none 0 0, .int .i64 0] 123)
          obtain ⟨G, hG⟩ : ∃ G, G = w2.heap.size := ⟨_, rfl⟩
          rw [← hG] at hg3 ⊢
          have HG3 := hid hg3
          have HGS := hid hG
          have HGS3 : Hid ((w2.alloc (.cells #[.slice none 0 0, .int .i64 0] 123)).heap.size = w2.heap.size + 1) := hid (alloc_sz _ _)
          clear hg3 hG
          generalize w2.alloc (.cells #[.slice none 0 0, .int .i64 0] 123) = w3 at *
          have HD2 := hid (HD1.out.below HB12.out)
          have HD3 := hid (HD2.out.below HBX.out)
          obtain ⟨y0, y1, y2, y3, y4⟩ := cells5_of HD3.out.cells
          have HM3 : Hid (MapM Tryz.prog 9 w3 mb (mmap FileR.ptr L)) := HD3.out.map
          have hml2 : L.length < maxLen := by
            have h1 := HOK.out.few
            rw [HD.out.len] at h1
            exact Nat.lt_of_le_of_lt h1 (by decide)
          have HML : Hid ((mmap FileR.ptr L).length < maxLen) := hid (by rw [mmap_length]; exact hml2)
          clear hml2
          clear e0 e1 e2 e3 e4 hlen
          have HGm : Hid (G ≠ mb) := hid (by have := HD2.out.map.lt; rw [HGS.out]; omega)
          have HBY3 := hid ((HBY1.out.below HB12.out).below HBX.out)
          have HL0 : Hid ((mmap FileR.ptr L).length ≤ 1000000) := hid (by rw [mmap_length]; have h1 := HOK.out.few; rw [HD.out.len] at h1; exact Nat.le_trans h1 (by decide))
          go_wp2_with (first
            | (at_mapUpdate; refine wpl_put rfl _ _ _ 49 rfl 9 118 Tryz.underlying9 Tryz.underlying49 mb (mmap FileR.ptr L) rfl HM3.out HML.out s rfl HS.out _ rfl ?_; intro w4 hm4 ht4; have HM4 := hid hm4; have HT4 := hid ht4; have hg4 := (mapTurned_other ht4 HGm.out).trans HG3.out; have HG4 := hid hg4; have HBY4 := hid (HBY3.out.turned HM3.out.kind ht4); have c40 := (cells2_of hg4).1; clear hm4 ht4 hg4)
            | (at_builtin; refine wpl_app_b rfl _ _ rfl 0 (.slice none 0 0) [] bs rfl (ownV_nil _ _ _) ad m c rfl HM.out HBY4.out (Nat.zero_le _) (Nat.le_trans hbl (by decide)) (Nat.zero_le _) ?_; intro v5 w5 ho5 hg5 hl5; have HO5 := hid ho5; have HG5 := hid hg5; have HL5 := hid hl5; have hq5 := (hg5.block G (heap_lt HG4.out) (by simp [Value.ownBlock])).trans HG4.out; have HQ5 := hid hq5; have c50 := (cells2_of hq5).1; have f50 := free_of hq5 0; obtain ⟨p5, k5, rfl⟩ := ownV_slice ho5; clear ho5 hg5 hl5 hq5)
            | fail)
          rw [List.nil_append, List.length_map] at HL5 HO5
          have hsz4 : w4.heap.size = G + 1 := by rw [mapTurned_size HT4.out, HGS3.out, HGS.out]
          have hown : ∀ j, (Value.slice p5 bs.length k5).ownBlock = some j → j = w4.heap.size := fun j hj => by
            rcases HL5.out with e | e
            · rw [e] at hj; cases hj
            · rw [e] at hj; exact (Option.some.inj hj).symm
          have hk5 : ∀ j, j < w4.heap.size → w5.heap[j]? = w4.heap[j]? := fun j hj => HG5.out.block j hj (by simp [Value.ownBlock])
          have hd6 := HD2.out.put2 (w' := w5.setCell ⟨G, 0, none⟩ (.slice p5 bs.length k5)) s.data.toList ⟨G, .slice p5 bs.length k5, ⟨bs, 0⟩⟩
            (HM4.out.block ((set_other HGm.out.symm).trans (hk5 mb HM4.out.lt)))
            ⟨modify_at HQ5.out, ownV_keep HO5.out fun j hj => set_other (by have := hown j hj; show j ≠ G; omega)⟩
            (fun j hj h1 h2 _ => (set_other h2).trans ((hk5 j (by have := HGS.out; omega)).trans ((mapTurned_other HT4.out h1).trans (HBX.block j hj))))
            (.inl ⟨HG.out, Nat.le_of_eq HGS.out.symm⟩) (fun j hj => .inl (by have := hown j hj; have := HGS.out; omega))
          have HD6 := hid hd6.1
          have HN6 := hid hd6.2
          have HC6 : Hid (Chg (fpD dp mb L) w (w5.setCell ⟨G, 0, none⟩ (.slice p5 bs.length k5))) := hid (by
            have g1 : Chg (fpD dp mb L) w w2 := chg_below (below_step HB1.out HB12.out)
            have g2 : Chg (fpD dp mb L) w w4 := (g1.trans0 (chg_below HBX)).trans0 (chg_turned HT4.out (.inr (.inl rfl)))
            have g3 : Chg (fpD dp mb L) w w5 := g2.trans0 (chg_grown HG5.out fun k e => by cases e)
            exact g3.trans (G := fun k => k = G) (chg_set rfl) fun k e => .inr (by rw [e, HGS.out]; exact g1.size))
          have TL := hid (told_any dp mb _ _ _ hd6.1 HOK.out.left)
          have HSW : Hid (w.heap.size ≤ w2.heap.size) := hid (Nat.le_trans HB1.out.size HB12.out.size)
          clear hsz4 hown hk5 hd6
          go_at_call 94
          refine TL.out.mono ?_
          rintro e w7 ⟨rfl, hd7, hc7⟩
          have HD7 := hid hd7
          have HC7 := hid hc7
          clear hd7 hc7 TL
          go_wp2_with fail
          go_ret
          rw [HAV.out]
          exact ⟨rfl, _, HD7.out, HC6.out.trans0 (HC7.out.mono fun k e => .inl e), fun k hk => (HN6.out k hk).imp_right (Nat.le_trans HSW.out)⟩
    | some r =>
      have HG := hid hg
      have HGM : Hid (mget s.data.toList (mmap FileR.ptr L) = some r.ptr) := hid (by rw [mget_mmap, hg]; rfl)
      clear hg
      have HN60 : Hid (mget s.data.toList L ≠ none) := hid (by rw [HG.out]; simp)
      by_cases hfu : 262144 < T + m
      · have HAV : Hid (A = (7, d)) := hid (by rw [HAQ.out, if_pos (HF.out.2 (.inr hfu))])
        clear HF HAQ
        go_wp2_with (first | (at_lookup; refine wpl_look_yes rfl _ _ 49 rfl 9 118 Tryz.underlying9 Tryz.underlying49 (zero118 w1) mb (mmap FileR.ptr L) rfl HM1.out s rfl HS.out r.ptr HGM.out ?_) | (go_at_call 96; refine SZ.out.mono ?_; rintro e w2 ⟨rfl, hb2⟩; have HB12 := hid hb2; clear hb2) | fail)
        go_ret
        rw [HAV.out]
        have HB2 := below_step HB1.out HB12.out
        exact ⟨rfl, L, HD1.out.below HB12.out, chg_below HB2, New.refl⟩
      · have HFN : Hid (¬ d.full s.data.toList bs) := hid (fun hf => by
          rcases HF.out.1 hf with ⟨h1, _⟩ | h2
          · exact HN60.out h1
          · exact hfu h2)
        have HAV : Hid (A = Dk.told { d with files := mput s.data.toList ⟨r.f.data ++ bs, r.f.safe⟩ d.files }) := hid (by
          rw [HAQ.out, if_neg HFN.out, HD.out.get, HG.out]
          rfl)
        clear HF HAQ HFN
        have HMR : Hid ((s.data.toList, r) ∈ L) := hid (mget_mem HG.out)
        obtain ⟨q, k, hv⟩ := ownV_slice (HD1.out.file _ HMR.out).2
        rw [List.length_map] at hv
        obtain ⟨n, hn⟩ : ∃ n, n = r.f.data.length := ⟨_, rfl⟩
        rw [← hn] at hv
        have HV := hid hv
        have HNN := hid hn
        have hnb2 : n ≤ 262144 := by
          have h1 := len_le_size (d := d) (p := (s.data.toList, r.f)) (by rw [HD.out.files]; exact mem_mmap.2 ⟨r, HMR.out, rfl⟩)
          have h2 := HOK.out.size
          rw [hn]
          exact Nat.le_trans h1 h2
        clear hv hn
        unfold FileR.ptr at HGM
        go_wp2_with (first
          | (at_lookup; refine wpl_look_yes rfl _ _ 49 rfl 9 118 Tryz.underlying9 Tryz.underlying49 (zero118 w1) mb (mmap FileR.ptr L) rfl HM1.out s rfl HS.out (.pointer (some ⟨r.g, 0, none⟩)) HGM.out ?_)
          | (go_at_call 96; refine SZ.out.mono ?_; rintro e w2 ⟨rfl, hb2⟩; have HB12 := hid hb2; have HD2 := hid (HD1.out.below hb2); have hf2 := HD2.out.file _ HMR.out; have hq2 := hf2.1; have HO2 := hid hf2.2; have HF2 := hid hf2; rw [HV.out] at hq2 HO2; have HQ2 := hid hq2; have c20 := (cells2_of hq2).1; have f20 := free_of hq2 0; have HBY2 := hid (HBY1.out.below hb2); clear hb2 hf2 hq2)
          | (at_builtin; refine wpl_app_b rfl _ _ rfl 0 (.slice q n k) r.f.data bs rfl HO2.out ad m c rfl HM.out HBY2.out (by rw [← HNN.out]; omega) (Nat.le_trans hbl (by decide)) (Nat.zero_le _) ?_; intro v5 w5 ho5 hg5 hl5; have HO5 := hid ho5; have HG5 := hid hg5; have HL5 := hid hl5; have HRW : Hid (∀ j, (Value.slice q n k).ownBlock = some j → j ≠ r.g) := hid (fun j hj => HF2.out.row HF2.out j (by rw [HV.out]; exact hj)); have hq5 := (hg5.block r.g (heap_lt HQ2.out) (fun e => HRW.out r.g e.symm rfl)).trans HQ2.out; have HQ5 := hid hq5; have c50 := (cells2_of hq5).1; have f50 := free_of hq5 0; obtain ⟨p5, k5, rfl⟩ := ownV_slice ho5; clear ho5 hg5 hl5 hq5)
          | fail)
        rw [List.length_map, List.length_append] at HL5 HO5
        have hown : ∀ j, (Value.slice p5 (r.f.data.length + bs.length) k5).ownBlock = some j → (Value.slice q n k).ownBlock = some j ∨ j = w2.heap.size := fun j hj => by
          rcases HL5.out with e | e
          · rw [e] at hj; exact .inl hj
          · rw [e] at hj; exact .inr (Option.some.inj hj).symm
        have hk5 : ∀ j, j < w2.heap.size → (Value.slice q n k).ownBlock ≠ some j → w5.heap[j]? = w2.heap[j]? := fun j hj hn => HG5.out.block j hj (fun e => hn e.symm)
        have hgl : r.g < w2.heap.size := heap_lt HQ2.out
        have hmbg : mb ≠ r.g := (HD2.out.g_mb HMR.out).symm
        have hvm : (Value.slice q n k).ownBlock ≠ some mb := by have := HD2.out.v_mb HMR.out; rw [HV.out] at this; exact this
        have hmm2 : MapM Tryz.prog 9 w2 mb (mput s.data.toList r.ptr (mmap FileR.ptr L)) := by
          rw [mput_same HD2.out.map.1 (by rw [mget_mmap, HG.out]; rfl)]
          exact HD2.out.map
        have hd6 := HD2.out.put2 (w' := w5.setCell ⟨r.g, 0, none⟩ (.slice p5 (r.f.data.length + bs.length) k5)) s.data.toList ⟨r.g, .slice p5 (r.f.data.length + bs.length) k5, ⟨r.f.data ++ bs, r.f.safe⟩⟩
          (hmm2.block ((set_other hmbg).trans (hk5 mb HD2.out.map.lt hvm)))
          ⟨modify_at HQ5.out, ownV_keep HO5.out fun j hj => set_other (by
            show j ≠ r.g
            rcases hown j hj with e | e
            · exact HRW.out j e
            · omega)⟩
          (fun j hj h1 h2 h3 => (set_other h2).trans (hk5 j hj (by have := h3 r HG.out; rw [HV.out] at this; exact this)))
          (.inr ⟨r, HG.out, rfl⟩) (fun j hj => by
            rcases hown j hj with e | e
            · exact .inr ⟨r, HG.out, by rw [HV.out]; exact e⟩
            · exact .inl (Nat.le_of_eq e.symm))
        have HD6 := hid hd6.1
        have HN6 := hid hd6.2
        have HC6 : Hid (Chg (fpD dp mb L) w (w5.setCell ⟨r.g, 0, none⟩ (.slice p5 (r.f.data.length + bs.length) k5))) := hid (by
          have g1 : Chg (fpD dp mb L) w w2 := chg_below (below_step HB1.out HB12.out)
          have g3 : Chg (fpD dp mb L) w w5 := g1.trans0 (chg_grown HG5.out fun j e => .inr (.inr ⟨_, HMR.out, .inr (by rw [HV.out]; exact e)⟩))
          exact g3.trans0 (chg_set (.inr (.inr ⟨_, HMR.out, .inl rfl⟩))))
        have TL := hid (told_any dp mb _ _ _ hd6.1 HOK.out.left)
        have HSW : Hid (w.heap.size ≤ w2.heap.size) := hid (Nat.le_trans HB1.out.size HB12.out.size)
        clear hown hk5 hd6 hmm2 hvm hmbg
        go_at_call 94
        refine TL.out.mono ?_
        rintro e w7 ⟨rfl, hd7, hc7⟩
        have HD7 := hid hd7
        have HC7 := hid hc7
        clear hd7 hc7 TL
        go_wp2_with fail
        go_ret
        rw [HAV.out]
        exact ⟨rfl, _, HD7.out, HC6.out.trans0 (HC7.out.mono fun k e => .inl e), fun k hk => (HN6.out k hk).imp_right (Nat.le_trans HSW.out)⟩
  · have hrb : ((rd : Int) == 0) = false := by simp; omega
    have HAV : Hid (A = (rd, d)) := hid (by rw [HA.out]; unfold Dk.append; rw [← HRD.out, if_pos hr0])
    clear HRD hr0
    go_wp2_with fail
    go_ret
    rw [HAV.out]
    exact ⟨rfl, L, HD1.out, chg_below HB1.out, New.refl⟩
end Go.Proofs.YtpenleogafdbhaaGreatDoor

namespace Go.Proofs.YtpenleogafdbhaaGreatDoor
open Go.RowKit Go.Maps Go.ChangeMaps Go.WideElems Go.WideShapes Go.WideAt Go.WideMaps
set_option maxRecDepth 100000 in
set_option maxHeartbeats 8000000 in
theorem dsync_any (dp mb : Nat) (L : Mp FileR) (d : Dk) (s : ByteArray) (w : World) (h : DiskM w dp mb L d) (hok : d.Ok) (hs : s.size ≤ maxLen) :
    Calls Tryz.prog 29 #[.pointer (some ⟨dp, 0, none⟩), .string s] w fun e w' => e = .returned (.int .i64 ((d.sync s.data.toList).1 : Int)) ∧ ∃ L', DiskM w' dp mb L' (d.sync s.data.toList).2 ∧ Chg (fpD dp mb L) w w' ∧ New w (fpD dp mb L) (fpD dp mb L') := by
  have HR := hid (ready1_any dp mb L d w.heap.size 1 s (w.alloc (.cells #[.string s] 9)) (h.below (ba w _)) (cell_one_new _ _ _ 0 _ rfl))
  have HB0 := hid (ba w (.cells #[.string s] 9))
  have HD := hid h
  have HOK := hid hok
  have HS := hid hs
  obtain ⟨rd, hrd⟩ : ∃ rd, rd = d.ready s.data.toList := ⟨_, rfl⟩
  rw [← hrd] at HR
  have HRD := hid hrd
  obtain ⟨A, hA⟩ : ∃ A, A = d.sync s.data.toList := ⟨_, rfl⟩
  have HA := hid hA
  rw [← hA]
  clear h hok hs hrd hA
  go_enter Tryz.func29, Tryz.ntmps29
  go_wp2_with fail
  go_at_call 87
  refine HR.out.mono ?_
  rintro e w1 ⟨rfl, hb1⟩
  have HB1 := hid (below_step HB0.out hb1)
  have HD1 := hid (HD.out.below HB1.out)
  clear hb1 HR HB0
  by_cases hr0 : rd = 0
  · subst hr0
    obtain ⟨e0, e1, e2, e3, e4⟩ := cells5_of HD1.out.cells
    have HM1 : Hid (MapM Tryz.prog 9 w1 mb (mmap FileR.ptr L)) := HD1.out.map
    cases hg : mget s.data.toList L with
    | none =>
      have HAV : Hid (A = (5, d)) := hid (by
        rw [HA.out]
        unfold Dk.sync
        rw [if_neg (by rw [← HRD.out]; simp), HD.out.get, hg]; rfl)
      have HGM : Hid (mget s.data.toList (mmap FileR.ptr L) = none) := hid (by rw [mget_mmap, hg]; rfl)
      clear hg HRD HA
      go_wp2_with (first | (at_lookup; refine wpl_look_no rfl _ _ 49 rfl 9 118 Tryz.underlying9 Tryz.underlying49 (zero118 w1) mb (mmap FileR.ptr L) rfl HM1.out s rfl HS.out HGM.out ?_) | fail)
      go_ret
      rw [HAV.out]
      exact ⟨rfl, L, HD1.out, chg_below HB1.out, New.refl⟩
    | some r =>
      have HG := hid hg
      have HMR : Hid ((s.data.toList, r) ∈ L) := hid (mget_mem hg)
      have HGM : Hid (mget s.data.toList (mmap FileR.ptr L) = some (.pointer (some ⟨r.g, 0, none⟩))) := hid (by rw [mget_mmap, hg]; rfl)
      clear hg
      have AC := hid (act_any dp mb L d w1 HD1.out HOK.out.left)
      obtain ⟨ac, hac⟩ : ∃ ac, ac = d.act := ⟨_, rfl⟩
      rw [← hac] at AC
      have HAC := hid hac
      have HAF : Hid (ac.files = d.files) := hid (by rw [hac]; unfold Dk.act; split <;> rfl)
      clear hac
      obtain ⟨q, k, hv⟩ := ownV_slice (HD1.out.file _ HMR.out).2
      rw [List.length_map] at hv
      obtain ⟨n, hn⟩ : ∃ n, n = r.f.data.length := ⟨_, rfl⟩
      rw [← hn] at hv
      have HV := hid hv
      have HNN := hid hn
      clear hv hn
      have HAX : Hid (A = if ac.down = true then (8, ac) else (0, { ac with files := mput s.data.toList ⟨r.f.data, r.f.data.length⟩ d.files })) := hid (by
        rw [HA.out]
        unfold Dk.sync
        rw [if_neg (by rw [← HRD.out]; simp), HD.out.get, HG.out, ← HAC.out]; rfl)
      cases hdn : ac.down with
      | true =>
        have HAV : Hid (A = (8, ac)) := hid (by rw [HAX.out, if_pos hdn])
        rw [hdn] at AC
        clear hdn HAX HA HRD
        go_wp2_with (first | (at_lookup; refine wpl_look_yes rfl _ _ 49 rfl 9 118 Tryz.underlying9 Tryz.underlying49 (zero118 w1) mb (mmap FileR.ptr L) rfl HM1.out s rfl HS.out (.pointer (some ⟨r.g, 0, none⟩)) HGM.out ?_) | (go_at_call 88; refine AC.out.mono ?_; rintro e w2 ⟨rfl, hd2, hc2⟩; have HD2 := hid hd2; have HC2 := hid hc2; clear hd2 hc2) | fail)
        go_ret
        rw [HAV.out]
        exact ⟨rfl, L, HD2.out, (chg_below HB1.out).trans0 (HC2.out.mono fun k e => .inl e), New.refl⟩
      | false =>
        have HAV : Hid (A = (0, { ac with files := mput s.data.toList ⟨r.f.data, r.f.data.length⟩ ac.files })) := hid (by rw [HAX.out, hdn, HAF.out]; rfl)
        rw [hdn] at AC
        clear hdn HAX HA HRD
        go_wp2_with (first
          | (at_lookup; refine wpl_look_yes rfl _ _ 49 rfl 9 118 Tryz.underlying9 Tryz.underlying49 (zero118 w1) mb (mmap FileR.ptr L) rfl HM1.out s rfl HS.out (.pointer (some ⟨r.g, 0, none⟩)) HGM.out ?_)
          | (go_at_call 88; refine AC.out.mono ?_; rintro e w2 ⟨rfl, hd2, hc2⟩; have HD2 := hid hd2; have HC2 := hid hc2; have hf2 := hd2.file _ HMR.out; have HF2 := hid hf2; have hq2 := hf2.1; rw [HV.out] at hq2; have HQ2 := hid hq2; obtain ⟨c20, c21⟩ := cells2_of hq2; have f21 := free_of hq2 1; clear hd2 hc2 hf2 hq2)
          | fail)
        go_ret
        rw [HAV.out]
        have hmbg : mb ≠ r.g := (HD2.out.g_mb HMR.out).symm
        have hmm2 : MapM Tryz.prog 9 w2 mb (mput s.data.toList r.ptr (mmap FileR.ptr L)) := by
          rw [mput_same HD2.out.map.1 (by rw [mget_mmap, HG.out]; rfl)]
          exact HD2.out.map
        have hd6 := HD2.out.put2 (w' := w2.setCell ⟨r.g, 1, none⟩ (.int .i64 (n : Int))) s.data.toList ⟨r.g, r.v, ⟨r.f.data, r.f.data.length⟩⟩
          (hmm2.block (set_other hmbg))
          ⟨by rw [modify_at HQ2.out, HV.out, ← HNN.out]; rfl, ownV_keep HF2.out.2 fun j hj => set_other (HF2.out.row HF2.out j hj)⟩
          (fun j hj h1 h2 h3 => set_other h2) (.inr ⟨r, HG.out, rfl⟩) (fun j hj => .inr ⟨r, HG.out, hj⟩)
        refine ⟨rfl, _, hd6.1, ((chg_below HB1.out).trans0 (HC2.out.mono fun k e => .inl e)).trans0 (chg_set (.inr (.inr ⟨_, HMR.out, .inl rfl⟩))), fun k hk => (hd6.2 k hk).imp_right (Nat.le_trans (Nat.le_trans HB1.out.size HC2.out.size))⟩
  · have hrb : ((rd : Int) == 0) = false := by simp; omega
    have HAV : Hid (A = (rd, d)) := hid (by rw [HA.out]; unfold Dk.sync; rw [← HRD.out, if_pos hr0])
    clear HRD hr0
    go_wp2_with fail
    go_ret
    rw [HAV.out]
    exact ⟨rfl, L, HD1.out, chg_below HB1.out, New.refl⟩
set_option maxRecDepth 100000 in
set_option maxHeartbeats 8000000 in
theorem remove_any (dp mb : Nat) (L : Mp FileR) (d : Dk) (s : ByteArray) (w : World) (h : DiskM w dp mb L d) (hok : d.Ok) (hs : s.size ≤ maxLen) :
    Calls Tryz.prog 31 #[.pointer (some ⟨dp, 0, none⟩), .string s] w fun e w' => e = .returned (.int .i64 ((d.remove s.data.toList).1 : Int)) ∧ ∃ L', DiskM w' dp mb L' (d.remove s.data.toList).2 ∧ Chg (fpD dp mb L) w w' ∧ New w (fpD dp mb L) (fpD dp mb L') := by
  have HR := hid (ready1_any dp mb L d w.heap.size 1 s (w.alloc (.cells #[.string s] 9)) (h.below (ba w _)) (cell_one_new _ _ _ 0 _ rfl))
  have HB0 := hid (ba w (.cells #[.string s] 9))
  have HD := hid h
  have HOK := hid hok
  have HS := hid hs
  obtain ⟨rd, hrd⟩ : ∃ rd, rd = d.ready s.data.toList := ⟨_, rfl⟩
  rw [← hrd] at HR
  have HRD := hid hrd
  obtain ⟨A, hA⟩ : ∃ A, A = d.remove s.data.toList := ⟨_, rfl⟩
  have HA := hid hA
  rw [← hA]
  clear h hok hs hrd hA
  go_enter Tryz.func31, Tryz.ntmps31
  go_wp2_with fail
  go_at_call 87
  refine HR.out.mono ?_
  rintro e w1 ⟨rfl, hb1⟩
  have HB1 := hid (below_step HB0.out hb1)
  have HD1 := hid (HD.out.below HB1.out)
  clear hb1 HR HB0
  by_cases hr0 : rd = 0
  · subst hr0
    obtain ⟨e0, e1, e2, e3, e4⟩ := cells5_of HD1.out.cells
    have HM1 : Hid (MapM Tryz.prog 9 w1 mb (mmap FileR.ptr L)) := HD1.out.map
    cases hg : mget s.data.toList L with
    | none =>
      have HAV : Hid (A = (5, d)) := hid (by
        rw [HA.out]
        unfold Dk.remove
        rw [if_neg (by rw [← HRD.out]; simp), HD.out.get, hg]; rfl)
      have HGM : Hid (mget s.data.toList (mmap FileR.ptr L) = none) := hid (by rw [mget_mmap, hg]; rfl)
      clear hg HRD HA
      go_wp2_with (first | (at_lookup; refine wpl_look_no rfl _ _ 49 rfl 9 118 Tryz.underlying9 Tryz.underlying49 (zero118 w1) mb (mmap FileR.ptr L) rfl HM1.out s rfl HS.out HGM.out ?_) | fail)
      go_ret
      rw [HAV.out]
      exact ⟨rfl, L, HD1.out, chg_below HB1.out, New.refl⟩
    | some r =>
      have HG := hid hg
      have HMR : Hid ((s.data.toList, r) ∈ L) := hid (mget_mem hg)
      have HGM : Hid (mget s.data.toList (mmap FileR.ptr L) = some (.pointer (some ⟨r.g, 0, none⟩))) := hid (by rw [mget_mmap, hg]; rfl)
      clear hg
      have HAV : Hid (A = Dk.told { d with files := mdel s.data.toList d.files }) := hid (by
        rw [HA.out]
        unfold Dk.remove
        rw [if_neg (by rw [← HRD.out]; simp), HD.out.get, HG.out]; rfl)
      clear HA HRD
      go_wp2_with (first
        | (at_lookup; refine wpl_look_yes rfl _ _ 49 rfl 9 118 Tryz.underlying9 Tryz.underlying49 (zero118 w1) mb (mmap FileR.ptr L) rfl HM1.out s rfl HS.out (.pointer (some ⟨r.g, 0, none⟩)) HGM.out ?_)
        | (at_delete; refine wpl_del rfl _ _ 49 9 rfl 118 Tryz.underlying9 Tryz.underlying49 mb (mmap FileR.ptr L) rfl HM1.out s rfl HS.out ?_; intro w2 hm2 ht2; have HD2 := hid (HD1.out.del s.data.toList hm2 fun j _ hj => mapTurned_other ht2 hj); have HT2 := hid ht2; clear hm2 ht2; have TL := hid (told_any dp mb _ _ _ HD2.out HOK.out.left))
        | fail)
      go_at_call 94
      refine TL.out.mono ?_
      rintro e w3 ⟨rfl, hd3, hc3⟩
      have HD3 := hid hd3
      have HC3 := hid hc3
      clear hd3 hc3
      go_wp2_with fail
      go_ret
      rw [HAV.out]
      refine ⟨rfl, _, HD3.out, ((chg_below HB1.out).trans0 (chg_turned HT2.out (.inr (.inl rfl)))).trans0 (HC3.out.mono fun k e => .inl e), fun k hk => .inl ?_⟩
      rcases hk with e | e | ⟨p, hp, e⟩
      · exact .inl e
      · exact .inr (.inl e)
      · exact .inr (.inr ⟨p, (mem_mdel.1 hp).1, e⟩)
  · have hrb : ((rd : Int) == 0) = false := by simp; omega
    have HAV : Hid (A = (rd, d)) := hid (by rw [HA.out]; unfold Dk.remove; rw [← HRD.out, if_pos hr0])
    clear HRD hr0
    go_wp2_with fail
    go_ret
    rw [HAV.out]
    exact ⟨rfl, L, HD1.out, chg_below HB1.out, New.refl⟩
end Go.Proofs.YtpenleogafdbhaaGreatDoor

namespace Go.Proofs.YtpenleogafdbhaaGreatDoor
open Go.RowKit Go.Maps Go.ChangeMaps Go.WideElems Go.WideShapes Go.WideAt Go.WideMaps
/-- a slice that reads as bytes, wherever it begins -/
def IsB (w : World) (v : Value) (bs : Bs) : Prop := ∃ p c, v = .slice p bs.length c ∧ bs.length ≤ c ∧ (bs ≠ [] → ∃ g off, p = some ⟨g, off, none⟩ ∧ ∀ j, j < bs.length → w.cell? ⟨g, off + j, none⟩ = some (bv (bs.getD j 0)))
theorem IsB.keep {w w' : World} {v : Value} {bs : Bs} (h : IsB w v bs) (hk : ∀ k, v.ownBlock = some k → k < w.heap.size → w'.heap[k]? = w.heap[k]?) : IsB w' v bs := by
  obtain ⟨p, c, rfl, hc, h⟩ := h
  refine ⟨p, c, rfl, hc, fun hne => ?_⟩
  obtain ⟨g, off, rfl, hb⟩ := h hne
  refine ⟨g, off, rfl, fun j hj => ?_⟩
  have h0 := hb j hj
  rw [World.cell?_of_block (w := w) (w' := w') (hk g rfl (World.block_lt_of_cell? w _ h0))]
  exact h0
theorem IsB.below {w w' : World} {v : Value} {bs : Bs} (h : IsB w v bs) (hb : Below w.heap.size w w') : IsB w' v bs := h.keep fun k _ hk => hb.block k hk
theorem IsB.at {w : World} {p : Option Addr} {n c : Nat} {bs : Bs} (h : IsB w (.slice p n c) bs) (j : Nat) (hj : j < n) : ∃ g off, p = some ⟨g, off, none⟩ ∧ w.cell? ⟨g, off + j, none⟩ = some (bv (bs.getD j 0)) := by
  obtain ⟨p', c', hv, hc, h⟩ := h
  injection hv with e1 e2 e3
  subst e1; subst e2
  obtain ⟨g, off, e, hb⟩ := h (fun e => by rw [e] at hj; exact absurd hj (Nat.not_lt_zero _))
  exact ⟨g, off, e, hb j hj⟩
theorem IsB.sh {w : World} {v : Value} {bs : Bs} (h : IsB w v bs) : ∃ p c, v = .slice p bs.length c ∧ bs.length ≤ c := by
  obtain ⟨p, c, h1, h2, _⟩ := h
  exact ⟨p, c, h1, h2⟩
theorem IsB.own {w : World} {B : Nat} {v : Value} {bs : Bs} (h : OwnV w B 5 v (bs.map bv)) : IsB w v bs := by
  obtain ⟨p, c, rfl⟩ := ownV_slice h
  have hc := ownV_capN h
  rw [List.length_map] at h hc ⊢
  refine ⟨p, c, rfl, hc, fun hne => ?_⟩
  obtain ⟨g, c', hv, _⟩ := ownV_some h (by rw [List.length_map]; exact List.length_pos_iff.2 hne)
  injection hv with e1 e2 e3
  subst e1
  refine ⟨g, 0, rfl, fun j hj => ?_⟩
  rw [Nat.zero_add, ownV_cell h j (by rw [List.length_map]; exact hj), getD_map bv bs 0 j hj]
/-- a part of it -/
theorem IsB.cut {w : World} {g off n c : Nat} {bs : Bs} (h : IsB w (.slice (some ⟨g, off, none⟩) n c) bs) (i j k : Nat) (hij : i ≤ j) (hj : j ≤ n) (hk : j - i ≤ k) : IsB w (.slice (some ⟨g, off + i, none⟩) (j - i) k) ((bs.drop i).take (j - i)) := by
  obtain ⟨p', c', hv, hc, h⟩ := h
  injection hv with e1 e2 e3
  subst e1; subst e2
  have hl : ((bs.drop i).take (j - i)).length = j - i := by rw [List.length_take, List.length_drop]; omega
  refine ⟨_, k, by rw [hl], by rw [hl]; exact hk, fun hne => ⟨g, off + i, rfl, fun x hx => ?_⟩⟩
  rw [hl] at hx
  obtain ⟨g', off', e, hb⟩ := h (fun e => by rw [e] at hj; simp at hj; omega)
  simp only [Option.some.injEq, Addr.mk.injEq, and_true] at e
  obtain ⟨rfl, rfl⟩ := e
  rw [Nat.add_assoc, hb (i + x) (by omega)]
  congr 2
  rw [List.getD_eq_getElem?_getD, List.getD_eq_getElem?_getD, List.getElem?_take, if_pos hx, List.getElem?_drop]
set_option maxRecDepth 100000 in
set_option maxHeartbeats 4000000 in
theorem sum_any (v : Value) (bs : Bs) (w : World) (hv : IsB w v bs) (hl : bs.length ≤ 10000000) :
    Calls Tryz.prog 129 #[v] w fun e w' => e = .returned (.int .u64 (sumOf bs : Int)) ∧ w' = w := by
  obtain ⟨p, c, rfl, hc⟩ := hv.sh
  have HV := hid hv
  obtain ⟨n, hn⟩ : ∃ n, n = bs.length := ⟨_, rfl⟩
  have HN := hid hn
  rw [← hn] at HV hl hc ⊢
  clear hv hn
  go_enter Tryz.func129, Tryz.ntmps129
  go_wp2_with fail
  go_loop [3, 8] (fun hv kv => ∃ k h : Nat, kv = .int .i64 (k : Int) ∧ k ≤ n ∧ hv = .int .u64 (h : Int) ∧ h < 18446744073709551616 ∧ Hid (h = (bs.take k).foldl sumStep 14695981039346656037)) (fun _ kv => n - (intOf kv).toNat)
  case atStart => exact ⟨0, _, rfl, Nat.zero_le _, rfl, by decide, rfl⟩
  case round =>
    obtain ⟨k, h, rfl, hk, rfl, hh, HH⟩ := hrel
    by_cases hlt : k < n
    · obtain ⟨g, off, rfl, e0⟩ := HV.out.at k hlt
      have hkl : k < bs.length := by rw [← HN.out]; exact hlt
      have HT : Hid (bs.take (k + 1) = bs.take k ++ [bs.getD k 0]) := hid (by
        rw [List.take_add_one, List.getElem?_eq_getElem hkl, List.getD_eq_getElem?_getD, List.getElem?_eq_getElem hkl]; rfl)
      clear hkl
      generalize bs.getD k 0 = b at *
      unfold bv at e0
      have hb8 : b.toNat < 256 := b.toNat_lt
      have hwb : IntKind.u64.wrap (b.toNat : Int) = (b.toNat : Int) := by rw [IntKind.wrap_u64]; omega
      have hxo : bits .xor .u64 (h : Int) (b.toNat : Int) = ((h ^^^ b.toNat : Nat) : Int) := u64_xor_nat h b.toNat hh (by omega)
      have hmu : IntKind.u64.wrap (((h ^^^ b.toNat : Nat) : Int) * 1099511628211) = ((sumStep h b : Nat) : Int) := by
        rw [IntKind.wrap_u64]
        unfold sumStep
        have c1 : ((1099511628211 : Nat) : Int) = 1099511628211 := rfl
        have c2 : ((18446744073709551616 : Nat) : Int) = 18446744073709551616 := rfl
        rw [Int.natCast_emod, Int.natCast_mul, c1, c2]
      go_wp2_with fail
      refine ⟨⟨k + 1, sumStep h b, by go_num, by omega, rfl, sumStep_lt _ _, hid (by rw [HT.out, List.foldl_append, ← HH.out, List.foldl_cons, List.foldl_nil])⟩, by simp [intOf]; omega⟩
    · obtain rfl : k = n := by omega
      have HS : Hid (sumOf bs = max h 1) := hid (by
        have := HH.out
        rw [List.take_of_length_le (by rw [← HN.out]; exact Nat.le_refl _)] at this
        unfold sumOf
        rw [← this])
      go_wp2_with fail
      go_ret
      rw [HS.out]
      refine ⟨?_, rfl⟩
      have hmx : ((max h 1 : Nat) : Int) = max (h : Int) 1 := by omega
      rw [hmx]
      rfl
end Go.Proofs.YtpenleogafdbhaaGreatDoor

namespace Go.Proofs.YtpenleogafdbhaaGreatDoor
open Go.RowKit Go.Maps Go.ChangeMaps Go.WideElems Go.WideShapes Go.WideAt Go.WideMaps
set_option maxRecDepth 100000 in
set_option maxHeartbeats 4000000 in
/-- a number in eight bytes, appended -/
theorem put_any (v : Value) (xs : Bs) (n : Nat) (B : Nat) (w : World) (hv : OwnV w B 5 v (xs.map bv)) (hn : n < 18446744073709551616) (hl : xs.length ≤ 900000) (hB : B ≤ w.heap.size) :
    Calls Tryz.prog 140 #[v, .int .u64 (n : Int)] w fun e w' => ∃ v', e = .returned v' ∧ OwnV w' B 5 v' ((xs ++ le8 n).map bv) ∧ Below B w w' := by
  have HV := hid hv
  have HB := hid hB
  obtain ⟨va, vc, rfl⟩ := ownV_slice hv
  clear hv hB
  go_enter Tryz.func140, Tryz.ntmps140
  go_wp2_with fail
  go_loopw [0, 6] (fun sv kv wr => ∃ k : Nat, kv = .int .i64 (k : Int) ∧ k ≤ 8 ∧ (∃ x y z, sv = .slice x y z) ∧ Hid (OwnV wr B 5 sv ((xs ++ (le8 n).take k).map bv)) ∧ Hid (Below B w wr)) (fun _ kv _ => 8 - (intOf kv).toNat)
  case atStart => exact ⟨0, rfl, Nat.zero_le _, ⟨_, _, _, rfl⟩, hid (by rw [List.take_zero, List.append_nil]; exact HV.out), Below.refl _ _⟩
  case round =>
    obtain ⟨k, rfl, hk, ⟨sa, sn, sc, rfl⟩, HO, HBr⟩ := hrel
    rename World => wr
    by_cases hlt : k < 8
    · obtain ⟨b, hb⟩ : ∃ b, b = (le8 n).getD k 0 := ⟨_, rfl⟩
      have hbyte : (n : Int) / 2 ^ (8 * k) % 256 = (b.toNat : Int) := by
        rw [hb, le8_at n k hlt, UInt8.toNat_ofNat_of_lt' (by rw [UInt8.size]; exact Nat.mod_lt _ (by decide))]
        have e : (256 : Nat) ^ k = 2 ^ (8 * k) := by rw [Nat.pow_mul]
        rw [e, Int.natCast_emod, Int.natCast_ediv, Int.natCast_pow]
        rfl
      have HT : Hid ((le8 n).take (k + 1) = (le8 n).take k ++ [b]) := hid (by
        have hkl : k < (le8 n).length := by rw [le8_len]; exact hlt
        rw [hb, List.take_add_one, List.getElem?_eq_getElem hkl, List.getD_eq_getElem?_getD, List.getElem?_eq_getElem hkl]; rfl)
      have HLn : Hid (((xs ++ (le8 n).take k).map bv).length < 1000000) := hid (by rw [List.length_map, List.length_append, List.length_take, le8_len]; omega)
      have HWS : Hid (B ≤ wr.heap.size) := hid (Nat.le_trans HB.out HBr.out.size)
      clear hb
      go_wp2_with (first
        | (at_builtin; refine wpl_app_v 59 5 (.int .u8 0) 1 info5 rfl Tryz.underlying59 (by decide) (bv b) rfl _ _ (.slice sa sn sc) B ((xs ++ (le8 n).take k).map bv) (by rfl) (by rfl) (by rfl) (by rfl) HO.out HLn.out HWS.out ?_; intro v7 w7 ho7 hb7 hg7; have HO7 := hid ho7; have HB7 := hid (HBr.out.trans hb7); obtain ⟨ta, tn, tc, rfl⟩ := ownV_sh ho7; clear ho7 hb7 hg7)
        | fail)
      go_roundw
      case rel =>
        refine ⟨k + 1, by go_num, by omega, ⟨_, _, _, rfl⟩, hid ?_, HB7⟩
        have h := HO7.out
        rw [HT.out, ← List.append_assoc, List.map_append]
        exact h
      case measure => simp [intOf]; omega
    · obtain rfl : k = 8 := by omega
      go_wp2_with fail
      go_ret
      refine ⟨_, rfl, ?_, HBr.out⟩
      have := HO.out
      rwa [List.take_of_length_le (by rw [le8_len]; exact Nat.le_refl _)] at this
theorem numTo_lt (bs : Bs) : ∀ k, numTo bs k < 256 ^ k
  | 0 => Nat.lt_of_lt_of_eq (show 0 < 1 by decide) (Nat.pow_zero 256).symm
  | k + 1 => by
    show numTo bs k + _ * 256 ^ k < 256 ^ (k + 1)
    have h := numTo_lt bs k
    have hb : (bs.getD k 0).toNat < 256 := (bs.getD k 0).toNat_lt
    have h2 : ((bs.getD k 0).toNat + 1) * 256 ^ k ≤ 256 * 256 ^ k := Nat.mul_le_mul_right _ hb
    rw [Nat.pow_succ, Nat.mul_comm (256 ^ k) 256]
    rw [Nat.add_mul, Nat.one_mul] at h2
    omega
theorem or_step (h b k : Nat) (hh : h < 256 ^ k) (hb : b < 256) (hk : k < 8) : bits .or .u64 (h : Int) (IntKind.u64.wrap ((b : Int) * 2 ^ (8 * k))) = ((h + b * 256 ^ k : Nat) : Int) := by
  have e : (256 : Nat) ^ k = 2 ^ (8 * k) := by rw [Nat.pow_mul]
  have h1 : b * 256 ^ k < 18446744073709551616 := by
    have h2 : (b + 1) * 256 ^ k ≤ 256 * 256 ^ k := Nat.mul_le_mul_right _ hb
    have h3 : 256 * 256 ^ k = 256 ^ (k + 1) := by rw [Nat.pow_succ, Nat.mul_comm]
    have h4 : 256 ^ (k + 1) ≤ 256 ^ 8 := Nat.pow_le_pow_right (by decide) (by omega)
    have h5 : 0 < 256 ^ k := Nat.pow_pos (by decide)
    rw [Nat.add_mul, Nat.one_mul] at h2
    have h6 : (256 : Nat) ^ 8 = 18446744073709551616 := by decide
    omega
  have h0 : h < 18446744073709551616 := by
    have h4 : 256 ^ k ≤ 256 ^ 8 := Nat.pow_le_pow_right (by decide) (by omega)
    have h6 : (256 : Nat) ^ 8 = 18446744073709551616 := by decide
    omega
  have hw : IntKind.u64.wrap ((b : Int) * 2 ^ (8 * k)) = ((b * 256 ^ k : Nat) : Int) := by
    have c1 : (b : Int) * 2 ^ (8 * k) = ((b * 256 ^ k : Nat) : Int) := by rw [e, Int.natCast_mul, Int.natCast_pow]; rfl
    rw [c1, IntKind.wrap_u64]
    generalize b * 256 ^ k = x at h1
    omega
  rw [hw, u64_or_nat h _ h0 h1]
  congr 1
  rw [e] at hh ⊢
  rw [Nat.mul_comm b, Nat.or_comm, Nat.add_comm]
  exact (Nat.two_pow_add_eq_or_of_lt hh b).symm
set_option maxRecDepth 100000 in
set_option maxHeartbeats 4000000 in
/-- the number of the first eight bytes -/
theorem get_any (v : Value) (bs : Bs) (w : World) (hv : IsB w v bs) (hl : 8 ≤ bs.length) :
    Calls Tryz.prog 128 #[v] w fun e w' => e = .returned (.int .u64 (num8 bs : Int)) ∧ w' = w := by
  obtain ⟨p, c, rfl, hc⟩ := hv.sh
  have HV := hid hv
  obtain ⟨n, hn⟩ : ∃ n, n = bs.length := ⟨_, rfl⟩
  rw [← hn] at HV hl hc ⊢
  clear hv hn
  go_enter Tryz.func128, Tryz.ntmps128
  go_wp2_with fail
  go_loop [3, 5] (fun nv kv => ∃ k h : Nat, kv = .int .i64 (k : Int) ∧ k ≤ 8 ∧ nv = .int .u64 (h : Int) ∧ Hid (h = numTo bs k)) (fun _ kv => 8 - (intOf kv).toNat)
  case atStart => exact ⟨0, _, rfl, Nat.zero_le _, rfl, rfl⟩
  case round =>
    obtain ⟨k, h, rfl, hk, rfl, HH⟩ := hrel
    by_cases hlt : k < 8
    · have hkn : k < n := by omega
      obtain ⟨g, off, rfl, e0⟩ := HV.out.at k hkn
      unfold bv at e0
      have HN2 : Hid (numTo bs (k + 1) = h + (bs.getD k 0).toNat * 256 ^ k) := hid (by rw [HH.out]; rfl)
      have hh : h < 256 ^ k := by rw [HH.out]; exact numTo_lt bs k
      generalize bs.getD k 0 = b at *
      have hb8 : b.toNat < 256 := b.toNat_lt
      have hwb : IntKind.u64.wrap (b.toNat : Int) = (b.toNat : Int) := by rw [IntKind.wrap_u64]; omega
      have HOR := hid (or_step h b.toNat k hh hb8 hlt)
      clear hh
      go_wp2_with fail
      refine ⟨⟨k + 1, _, by go_num, by omega, ?_, hid HN2.out.symm⟩, by simp [intOf]; omega⟩
      rw [HOR.out]
    · obtain rfl : k = 8 := by omega
      go_wp2_with fail
      go_ret
      rw [HH.out]
      exact ⟨rfl, rfl⟩
end Go.Proofs.YtpenleogafdbhaaGreatDoor

namespace Go.Proofs.YtpenleogafdbhaaGreatDoor
open Go.RowKit Go.Maps Go.ChangeMaps Go.WideElems Go.WideShapes Go.WideAt Go.WideMaps
set_option maxRecDepth 100000 in
set_option maxHeartbeats 4000000 in
/-- bytes with their length and their sum -/
theorem block_any (ad : Addr) (m c : Nat) (bs : Bs) (w : World) (hm : m = bs.length) (hv : IsB w (.slice (some ad) m c) bs) (hb : BytesAt w ad bs) (hl : bs.length ≤ 800000) :
    Calls Tryz.prog 78 #[.slice (some ad) m c] w fun e w' => ∃ v', e = .returned v' ∧ OwnV w' w.heap.size 5 v' ((blk bs).map bv) ∧ Below w.heap.size w w' := by
  have HM := hid hm
  have HB := hid hb
  have HV := hid hv
  have hwm : IntKind.u64.wrap (m : Int) = (m : Int) := by rw [IntKind.wrap_u64]; omega
  have hml : m ≤ 800000 := by omega
  have P1 := hid (put_any (.slice none 0 0) [] bs.length w.heap.size w (ownV_nil _ _ _) (by omega) (by simp) (Nat.le_refl _))
  rw [← hm, List.nil_append] at P1
  clear hm hv hb
  go_enter Tryz.func78, Tryz.ntmps78
  go_wp2_with fail
  go_at_call 140
  refine P1.out.mono ?_
  rintro e w1 ⟨v1, rfl, ho1, hb1⟩
  have HO1 := hid ho1
  have HB1 := hid hb1
  have S1 := hid (sum_any (.slice (some ad) m c) bs w1 (HV.out.below hb1) (by omega))
  have P2 := hid (put_any v1 (le8 m) (sumOf bs) w.heap.size w1 ho1 (sumOf_lt bs) (by rw [le8_len]; decide) hb1.size)
  obtain ⟨a1, c1, rfl⟩ := ownV_slice ho1
  clear ho1 hb1 P1
  obtain ⟨sm, hsm⟩ : ∃ sm, sm = sumOf bs := ⟨_, rfl⟩
  rw [← hsm] at S1 P2
  have HSM := hid hsm
  clear hsm
  go_wp2_with (first | (go_at_call 129; refine S1.out.mono ?_; rintro e w2 ⟨rfl, hw⟩; obtain rfl := hw.symm) | fail)
  go_at_call 140
  refine P2.out.mono ?_
  rintro e w3 ⟨v3, rfl, ho3, hb3⟩
  have HO3 := hid ho3
  have HB3 := hid (HB1.out.trans hb3)
  have HBY := hid (HB.out.below HB3.out)
  obtain ⟨a3, c3, rfl⟩ := ownV_slice ho3
  clear ho3 hb3 P2 S1
  go_wp2_with (first
    | (at_builtin; refine wpl_app_b rfl _ _ rfl w.heap.size _ (le8 m ++ le8 sm) bs rfl HO3.out ad m c rfl HM.out HBY.out (by rw [List.length_append, le8_len, le8_len]; decide) (by omega) HB3.out.size ?_; intro v5 w5 ho5 hg5 hl5; have HO5 := hid ho5; have HB5 := hid (HB3.out.grown hg5 HB3.out.size (fun j hj => (ownV_lt HO3.out j hj).1)); obtain ⟨a5, n5, c5, rfl⟩ := ownV_sh ho5; clear ho5 hg5 hl5)
    | fail)
  go_ret
  refine ⟨_, rfl, ?_, HB5.out⟩
  have h := HO5.out
  rw [HSM.out, HM.out] at h
  exact h
end Go.Proofs.YtpenleogafdbhaaGreatDoor

namespace Go.Proofs.YtpenleogafdbhaaGreatDoor
open Go.RowKit Go.Maps Go.ChangeMaps Go.WideElems Go.WideShapes Go.WideAt Go.WideMaps
theorem IsB.sub {w : World} {g off n c k : Nat} {bs cs : Bs} {o2 : Nat} (h : IsB w (.slice (some ⟨g, off, none⟩) n c) bs) (i : Nat) (ho : o2 = off + i) (hc : (bs.drop i).take cs.length = cs) (hi : i + cs.length ≤ n) (hk : cs.length ≤ k) : IsB w (.slice (some ⟨g, o2, none⟩) cs.length k) cs := by
  have := h.cut i (i + cs.length) k (by omega) hi (by omega)
  rw [Nat.add_sub_cancel_left, hc, ← ho] at this
  exact this
theorem isB_nil (w : World) (p : Option Addr) (c : Nat) : IsB w (.slice p 0 c) [] := ⟨p, c, rfl, Nat.zero_le _, fun h => absurd rfl h⟩
set_option maxRecDepth 100000 in
set_option maxHeartbeats 8000000 in
theorem unblock_ok (v : Value) (b r : Bs) (w : World) (hv : IsB w v (blk b ++ r)) (h0 : 0 < b.length) (hl : b.length ≤ 1000000) (hl2 : r.length ≤ 1000000) :
    Calls Tryz.prog 68 #[v] w fun e w' => ∃ v1 v2, e = .returned (.tuple #[v1, v2, .bool true]) ∧ IsB w' v1 b ∧ IsB w' v2 r ∧ Below w.heap.size w w' := by
  obtain ⟨p, c, rfl, hc⟩ := hv.sh
  have HV := hid hv
  have hN : (blk b ++ r).length = 16 + b.length + r.length := by rw [List.length_append, blk_len]
  obtain ⟨g, off, rfl, -⟩ := hv.at 0 (by omega)
  rw [hN] at hc HV ⊢
  obtain ⟨nb, hnb⟩ : ∃ n, n = b.length := ⟨_, rfl⟩
  obtain ⟨nr, hnr⟩ : ∃ n, n = r.length := ⟨_, rfl⟩
  have G0 : Hid (Calls Tryz.prog 128 #[.slice (some ⟨g, off, none⟩) (16 + b.length + r.length) c] w fun e w' => e = .returned (.int .u64 (b.length : Int)) ∧ w' = w) := hid (by
    have h := get_any _ _ w hv (by omega)
    rw [hN, blk_head b r (by omega)] at h
    exact h)
  obtain ⟨sm, hsm⟩ : ∃ sm, sm = sumOf b := ⟨_, rfl⟩
  have hB8 : IsB w (.slice (some ⟨g, off + 8, none⟩) (8 + b.length + r.length) (c - 8)) ((blk b ++ r).drop 8) := by
    have hl8 : ((blk b ++ r).drop 8).length = 8 + b.length + r.length := by rw [List.length_drop, hN]; omega
    have h := HV.out.sub (k := c - 8) (cs := (blk b ++ r).drop 8) 8 rfl (List.take_of_length_le (Nat.le_refl _)) (by rw [hl8]; omega) (by rw [hl8]; omega)
    rw [hl8] at h
    exact h
  have hB16 : IsB w (.slice (some ⟨g, off + 16, none⟩) b.length (c - 16)) b := HV.out.sub (k := c - 16) (cs := b) 16 rfl (blk_mid b r) (by omega) (by omega)
  have G8 : Hid (∀ W, Below w.heap.size w W → Calls Tryz.prog 128 #[.slice (some ⟨g, off + 8, none⟩) (8 + b.length + r.length) (c - 8)] W fun e w' => e = .returned (.int .u64 (sm : Int)) ∧ w' = W) := hid (fun W hW => by
    have h := get_any _ _ W (hB8.below hW) (by rw [List.length_drop, hN]; omega)
    rw [blk_drop8, ← hsm] at h
    exact h)
  have S16 : Hid (∀ W, Below w.heap.size w W → Calls Tryz.prog 129 #[.slice (some ⟨g, off + 16, none⟩) b.length (c - 16)] W fun e w' => e = .returned (.int .u64 (sm : Int)) ∧ w' = W) := hid (fun W hW => by
    have h := sum_any _ _ W (hB16.below hW) (by omega)
    rw [← hsm] at h
    exact h)
  have HB16 := hid hB16
  have HNB := hid hnb
  have HNR := hid hnr
  have h0' : 0 < nb := by omega
  have hl' : nb ≤ 1000000 := by omega
  have hl2' : nr ≤ 1000000 := by omega
  rw [← hnb, ← hnr] at G0 hc HV G8 ⊢
  rw [← hnb] at S16
  clear hv hN hnb hnr hsm hB8 hB16 h0 hl hl2
  obtain ⟨N, hNe⟩ : ∃ N, N = 16 + nb + nr := ⟨_, rfl⟩
  rw [← hNe] at G0 hc HV ⊢
  obtain ⟨q, hq⟩ : ∃ q, q = nb + nr := ⟨_, rfl⟩
  obtain ⟨en, hen⟩ : ∃ en, en = 16 + nb := ⟨_, rfl⟩
  have hN16 : 16 ≤ N := by omega
  have hsub : (N : Int) - 16 = (q : Int) := by omega
  have hwq : IntKind.u64.wrap (q : Int) = (q : Int) := by rw [IntKind.wrap_u64]; omega
  have hqb : nb ≤ q := by omega
  have hw2 : IntKind.i64.wrap (nb : Int) = (nb : Int) := by rw [IntKind.wrap_i64]; omega
  have hadd : (16 : Int) + (nb : Int) = (en : Int) := by omega
  have he16 : 16 ≤ en := by omega
  have heN : en ≤ N := by omega
  have hNb : N ≤ 2000016 := by omega
  rw [show 8 + nb + nr = N - 8 by omega] at G8
  rw [show nb = en - 16 by omega] at S16
  have hc16 : 16 < c := by omega
  have HNE := hid hNe
  have HQE := hid hq
  have HEN := hid hen
  have H0 := hid h0'
  clear hNe hq hen h0' hl' hl2'
  have hb1 : Hid (∀ k, nb ≤ k → IsB w (.slice (some ⟨g, off + 16, none⟩) (en - 16) k) b) := hid (fun k hk => by
    have h := HV.out.sub (k := k) (cs := b) 16 rfl (blk_mid b r) (by have := HNB.out; have := HNE.out; omega) (by have := HNB.out; omega)
    rwa [show b.length = en - 16 by have := HNB.out; have := HEN.out; omega] at h)
  have hb2 : Hid (∀ k, nr ≤ k → IsB w (.slice (some ⟨g, off + en, none⟩) (N - en) k) r) := hid (fun k hk => by
    have hrest : (blk b ++ r).drop en = r := by rw [HEN.out, HNB.out]; exact blk_rest b r
    have h := HV.out.sub (k := k) (cs := r) en rfl (by rw [hrest]; exact List.take_of_length_le (Nat.le_refl _)) (by have := HNR.out; have := HNE.out; have := HEN.out; omega) (by have := HNR.out; omega)
    rwa [show r.length = N - en by have := HNR.out; have := HNE.out; have := HEN.out; omega] at h)
  go_enter Tryz.func68, Tryz.ntmps68
  go_upto_region 4 with (first | (go_at_call 128; refine G0.out.mono ?_; rintro e w1 ⟨rfl, hw⟩; obtain rfl := hw.symm) | fail)
  have hw0 : ∀ n, Below w.heap.size w (w.drewN n) := fun n => ⟨rfl, rfl, rfl, Nat.le_refl _, fun _ _ => rfl⟩
  go_quiet ((first
    | (go_at_call 128; exact Calls.quiet_of_same (G8.out _ (by exact ⟨rfl, rfl, rfl, Nat.le_refl _, fun _ _ => rfl⟩)))
    | (go_at_call 129; exact Calls.quiet_of_same (S16.out _ (by exact ⟨rfl, rfl, rfl, Nat.le_refl _, fun _ _ => rfl⟩)))))
  all_goals clear G0 G8 S16 hw0
  all_goals go_wp2_with fail
  all_goals rcases (show c = en ∨ en < c by omega) with hce | hce
  all_goals go_region
  all_goals go_wp2_with fail
  all_goals go_ret3
  all_goals first
    | (refine ⟨_, _, rfl, (hb1.out _ (by have := HEN.out; omega)).below ⟨rfl, rfl, rfl, Nat.le_refl _, fun _ _ => rfl⟩, (hb2.out _ (by have := HNE.out; have := HEN.out; omega)).below ⟨rfl, rfl, rfl, Nat.le_refl _, fun _ _ => rfl⟩, ⟨rfl, rfl, rfl, Nat.le_refl _, fun _ _ => rfl⟩⟩; done)
    | (have hr : r = [] := List.eq_nil_of_length_eq_zero (by have := HNR.out; have := HNE.out; have := HEN.out; omega)
       have hz : N - en = 0 := by omega
       rw [hr, hz]
       exact ⟨_, _, rfl, (hb1.out _ (by have := HEN.out; omega)).below ⟨rfl, rfl, rfl, Nat.le_refl _, fun _ _ => rfl⟩, isB_nil _ _ _, ⟨rfl, rfl, rfl, Nat.le_refl _, fun _ _ => rfl⟩⟩)
end Go.Proofs.YtpenleogafdbhaaGreatDoor

namespace Go.Proofs.YtpenleogafdbhaaGreatDoor
open Go.RowKit Go.Maps Go.ChangeMaps Go.WideElems Go.WideShapes Go.WideAt Go.WideMaps
set_option maxRecDepth 100000 in
set_option maxHeartbeats 8000000 in
theorem unblock_no (v : Value) (bs : Bs) (w : World) (hv : IsB w v bs) (ht : torn bs) (hl : bs.length ≤ 2000000) :
    Calls Tryz.prog 68 #[v] w fun e w' => e = .returned (.tuple #[.slice none 0 0, .slice none 0 0, .bool false]) ∧ w' = w := by
  have hn := torn_num ht
  have G0 : 16 ≤ bs.length → Calls Tryz.prog 128 #[v] w fun e w' => e = .returned (.int .u64 (num8 bs : Int)) ∧ w' = w := fun h => get_any v bs w hv (by omega)
  obtain ⟨p, c, rfl, hc⟩ := hv.sh
  obtain ⟨N, hN⟩ : ∃ N, N = bs.length := ⟨_, rfl⟩
  rw [← hN] at hn G0 hl ⊢
  clear hv ht hc hN
  obtain ⟨x, hx⟩ : ∃ x, x = num8 bs := ⟨_, rfl⟩
  rw [← hx] at hn G0
  clear hx
  rcases hn with hn | ⟨h1, h2, h3⟩
  · go_enter Tryz.func68, Tryz.ntmps68
    go_wp2_with fail
    go_ret3
    exact ⟨rfl, rfl⟩
  · have G := hid (G0 h1)
    obtain ⟨q, hq⟩ : ∃ q, q = N - 16 := ⟨_, rfl⟩
    have hsub : (N : Int) - 16 = (q : Int) := by omega
    have hwq : IntKind.u64.wrap (q : Int) = (q : Int) := by rw [IntKind.wrap_u64]; omega
    have hlt : q < x := by omega
    clear hq h2 G0
    go_enter Tryz.func68, Tryz.ntmps68
    go_wp2_with (first | (go_at_call 128; refine G.out.mono ?_; rintro e w1 ⟨rfl, hw⟩; obtain rfl := hw.symm) | fail)
    go_ret3
    exact ⟨rfl, rfl⟩
end Go.Proofs.YtpenleogafdbhaaGreatDoor
