/-
  The library's variables as the walks want them, TrailingZeros64, and how often 2 divides a number. Conditions stand in each theorem.
-/
import Derived.Shelf.LaysC
import Derived.Shelf.LaysM
import Derived.Shelf.Spec.TrailingZeros
import Derived.Shelf.Strconv.Itoa4
import Derived.Shelf.Strconv.ParseIntPublic10
import Derived.Shelf.Strings.Cut
import Derived.Test.YtbhfnfokihdjjaaGreatDoorChecked
import Derived.Test.YtbhfnfokihdjjaaGreatDoorWd3
namespace Go.Proofs.YtbhfnfokihdjjaaGreatDoor
open Go.Proofs
open Go.Shelf
def sh_laysM173_ren : Go.Shelf.Ren := ⟨fun | 173 => 64 | 246 => 94 | 283 => 116 | 284 => 117 | 285 => 118 | 286 => 119 | 129 => 135 | 317 => 134 | 318 => 136 | 319 => 137 | 320 => 138 | 337 => 157 | 338 => 158 | n => n, fun | 2 => 2 | 3 => 3 | 9 => 9 | 4 => 4 | 171 => 170 | 0 => 0 | 53 => 39 | 37 => 173 | 5 => 5 | 173 => 174 | 212 => 196 | 51 => 197 | 20 => 20 | 213 => 198 | 46 => 155 | 232 => 229 | 233 => 230 | n => n, fun | 17 => 0 | 18 => 2 | 19 => 3 | n => n⟩
theorem sh_laysM173 : Go.Proofs.LaysM.n173 Tryz.prog sh_laysM173_ren := {
  mixed := by kernel_rfl
  f129 := Tryz.func135.trans (congrArg some (by kernel_rfl))
  f173 := Tryz.func64.trans (congrArg some (by kernel_rfl))
  f246 := Tryz.func94.trans (congrArg some (by kernel_rfl))
  f283 := Tryz.func116.trans (congrArg some (by kernel_rfl))
  f284 := Tryz.func117.trans (congrArg some (by kernel_rfl))
  f285 := Tryz.func118.trans (congrArg some (by kernel_rfl))
  f286 := Tryz.func119.trans (congrArg some (by kernel_rfl))
  f317 := Tryz.func134.trans (congrArg some (by kernel_rfl))
  f318 := Tryz.func136.trans (congrArg some (by kernel_rfl))
  f319 := Tryz.func137.trans (congrArg some (by kernel_rfl))
  f320 := Tryz.func138.trans (congrArg some (by kernel_rfl))
  f337 := Tryz.func157.trans (congrArg some (by kernel_rfl))
  f338 := Tryz.func158.trans (congrArg some (by kernel_rfl))
  t0 := Tryz.underlying0
  a0 := Tryz.isAgg0
  z0 := Tryz.sizeOf0
  v0 := Tryz.zeroValue0
  t2 := Tryz.underlying2
  a2 := Tryz.isAgg2
  z2 := Tryz.sizeOf2
  v2 := Tryz.zeroValue2
  t3 := Tryz.underlying3
  a3 := Tryz.isAgg3
  z3 := Tryz.sizeOf3
  v3 := Tryz.zeroValue3
  t4 := Tryz.underlying4
  a4 := Tryz.isAgg4
  z4 := Tryz.sizeOf4
  v4 := Tryz.zeroValue4
  t5 := Tryz.underlying5
  a5 := Tryz.isAgg5
  z5 := Tryz.sizeOf5
  v5 := Tryz.zeroValue5
  t9 := Tryz.underlying9
  a9 := Tryz.isAgg9
  z9 := Tryz.sizeOf9
  v9 := Tryz.zeroValue9
  t20 := Tryz.underlying20
  a20 := Tryz.isAgg20
  z20 := Tryz.sizeOf20
  v20 := Tryz.zeroValue20
  t37 := Tryz.underlying173
  a37 := Tryz.isAgg173
  z37 := Tryz.sizeOf173
  v37 := Tryz.zeroValue173
  t46 := Tryz.underlying155
  a46 := Tryz.isAgg155
  z46 := Tryz.sizeOf155
  v46 := Tryz.zeroValue155
  t51 := Tryz.underlying197
  a51 := Tryz.isAgg197
  z51 := Tryz.sizeOf197
  v51 := Tryz.zeroValue197
  t53 := Tryz.underlying39
  a53 := Tryz.isAgg39
  z53 := Tryz.sizeOf39
  v53 := Tryz.zeroValue39
  t171 := Tryz.underlying170
  a171 := Tryz.isAgg170
  z171 := Tryz.sizeOf170
  v171 := Tryz.zeroValue170
  t173 := Tryz.underlying174
  a173 := Tryz.isAgg174
  z173 := Tryz.sizeOf174
  v173 := Tryz.zeroValue174
  t212 := Tryz.underlying196
  a212 := Tryz.isAgg196
  z212 := Tryz.sizeOf196
  v212 := Tryz.zeroValue196
  t213 := Tryz.underlying198
  a213 := Tryz.isAgg198
  z213 := Tryz.sizeOf198
  t232 := Tryz.underlying229
  a232 := Tryz.isAgg229
  z232 := Tryz.sizeOf229
  v232 := Tryz.zeroValue229
  t233 := Tryz.underlying230
  a233 := Tryz.isAgg230
  z233 := Tryz.sizeOf230
  v233 := Tryz.zeroValue230
  g17 := by kernel_rfl
  g18 := by kernel_rfl
  g19 := by kernel_rfl
  i0 := by kernel_rfl
  i2 := by kernel_rfl
  i3 := by kernel_rfl
  i4 := by kernel_rfl
  i5 := by kernel_rfl
  i9 := by kernel_rfl
  i20 := by kernel_rfl
  i37 := by kernel_rfl
  i46 := by kernel_rfl
  i51 := by kernel_rfl
  i53 := by kernel_rfl
  i171 := by kernel_rfl
  i173 := by kernel_rfl
  i212 := by kernel_rfl
  i232 := by kernel_rfl
  i233 := by kernel_rfl
  m17 := by kernel_rfl
  m18 := by kernel_rfl
  m19 := by kernel_rfl }
open Go.RowKit Go.Sort Go.Lib in
theorem sh_strconv_FormatInt_10 (n : Int) (h0 : -9223372036854775808 ≤ n) (h1 : n ≤ 9223372036854775807) (w : World) (htab : Lib.TabIs Tryz.prog w "internal/strconv.uint64pow10" .u64 Lib.pow10Tab) :
    Calls Tryz.prog 64 #[.int .i64 n, .int .i64 10] w fun e w' => e = .returned (.string ⟨(Lib.itoa n).toArray⟩) ∧ ∃ k os, w' = grow (w.drewN k) os := Any.strconv_FormatInt_10 sh_laysM173 n h0 h1 w htab
def sh_laysC174_ren : Go.Shelf.Ren := ⟨fun | 174 => 121 | 247 => 143 | 245 => 144 | 287 => 161 | 279 => 162 | 280 => 163 | 281 => 164 | 282 => 165 | 321 => 174 | 322 => 175 | 316 => 176 | 171 => 178 | 205 => 177 | 243 => 183 | 246 => 94 | 283 => 116 | 284 => 117 | 285 => 118 | 286 => 119 | 129 => 135 | 317 => 134 | 318 => 136 | 319 => 137 | 320 => 138 | 337 => 157 | 338 => 158 | n => n, fun | 9 => 9 | 3 => 3 | 2 => 2 | 75 => 178 | 85 => 179 | 4 => 4 | 167 => 215 | 5 => 5 | 53 => 39 | 175 => 216 | 46 => 155 | 168 => 218 | 37 => 173 | 0 => 0 | 210 => 235 | 21 => 21 | 127 => 242 | 145 => 245 | 143 => 243 | 171 => 170 | 173 => 174 | 212 => 196 | 51 => 197 | 20 => 20 | 213 => 198 | 232 => 229 | 233 => 230 | 80 => 248 | n => n, fun | 15 => 4 | 16 => 5 | 17 => 0 | 18 => 2 | 19 => 3 | n => n⟩
theorem sh_laysC174 : Go.Proofs.LaysC.n174 Tryz.prog sh_laysC174_ren := {
  mixed := by kernel_rfl
  f129 := Tryz.func135.trans (congrArg some (by kernel_rfl))
  f171 := Tryz.func178.trans (congrArg some (by kernel_rfl))
  f174 := Tryz.func121.trans (congrArg some (by kernel_rfl))
  f205 := Tryz.func177.trans (congrArg some (by kernel_rfl))
  f243 := Tryz.func183.trans (congrArg some (by kernel_rfl))
  f245 := Tryz.func144.trans (congrArg some (by kernel_rfl))
  f246 := Tryz.func94.trans (congrArg some (by kernel_rfl))
  f247 := Tryz.func143.trans (congrArg some (by kernel_rfl))
  f279 := Tryz.func162.trans (congrArg some (by kernel_rfl))
  f280 := Tryz.func163.trans (congrArg some (by kernel_rfl))
  f281 := Tryz.func164.trans (congrArg some (by kernel_rfl))
  f282 := Tryz.func165.trans (congrArg some (by kernel_rfl))
  f283 := Tryz.func116.trans (congrArg some (by kernel_rfl))
  f284 := Tryz.func117.trans (congrArg some (by kernel_rfl))
  f285 := Tryz.func118.trans (congrArg some (by kernel_rfl))
  f286 := Tryz.func119.trans (congrArg some (by kernel_rfl))
  f287 := Tryz.func161.trans (congrArg some (by kernel_rfl))
  f316 := Tryz.func176.trans (congrArg some (by kernel_rfl))
  f317 := Tryz.func134.trans (congrArg some (by kernel_rfl))
  f318 := Tryz.func136.trans (congrArg some (by kernel_rfl))
  f319 := Tryz.func137.trans (congrArg some (by kernel_rfl))
  f320 := Tryz.func138.trans (congrArg some (by kernel_rfl))
  f321 := Tryz.func174.trans (congrArg some (by kernel_rfl))
  f322 := Tryz.func175.trans (congrArg some (by kernel_rfl))
  f337 := Tryz.func157.trans (congrArg some (by kernel_rfl))
  f338 := Tryz.func158.trans (congrArg some (by kernel_rfl))
  t0 := Tryz.underlying0
  a0 := Tryz.isAgg0
  z0 := Tryz.sizeOf0
  v0 := Tryz.zeroValue0
  t2 := Tryz.underlying2
  a2 := Tryz.isAgg2
  z2 := Tryz.sizeOf2
  v2 := Tryz.zeroValue2
  t3 := Tryz.underlying3
  a3 := Tryz.isAgg3
  z3 := Tryz.sizeOf3
  v3 := Tryz.zeroValue3
  t4 := Tryz.underlying4
  a4 := Tryz.isAgg4
  z4 := Tryz.sizeOf4
  v4 := Tryz.zeroValue4
  t5 := Tryz.underlying5
  a5 := Tryz.isAgg5
  z5 := Tryz.sizeOf5
  v5 := Tryz.zeroValue5
  t9 := Tryz.underlying9
  a9 := Tryz.isAgg9
  z9 := Tryz.sizeOf9
  v9 := Tryz.zeroValue9
  t20 := Tryz.underlying20
  a20 := Tryz.isAgg20
  z20 := Tryz.sizeOf20
  v20 := Tryz.zeroValue20
  t21 := Tryz.underlying21
  a21 := Tryz.isAgg21
  z21 := Tryz.sizeOf21
  v21 := Tryz.zeroValue21
  t37 := Tryz.underlying173
  a37 := Tryz.isAgg173
  z37 := Tryz.sizeOf173
  v37 := Tryz.zeroValue173
  t46 := Tryz.underlying155
  a46 := Tryz.isAgg155
  z46 := Tryz.sizeOf155
  v46 := Tryz.zeroValue155
  t51 := Tryz.underlying197
  a51 := Tryz.isAgg197
  z51 := Tryz.sizeOf197
  v51 := Tryz.zeroValue197
  t53 := Tryz.underlying39
  a53 := Tryz.isAgg39
  z53 := Tryz.sizeOf39
  v53 := Tryz.zeroValue39
  t75 := Tryz.underlying178
  a75 := Tryz.isAgg178
  z75 := Tryz.sizeOf178
  v75 := Tryz.zeroValue178
  t85 := Tryz.underlying179
  a85 := Tryz.isAgg179
  z85 := Tryz.sizeOf179
  v85 := Tryz.zeroValue179
  t127 := Tryz.underlying242
  a127 := Tryz.isAgg242
  z127 := Tryz.sizeOf242
  v127 := Tryz.zeroValue242
  t143 := Tryz.underlying243
  a143 := Tryz.isAgg243
  z143 := Tryz.sizeOf243
  v143 := Tryz.zeroValue243
  t145 := Tryz.underlying245
  a145 := Tryz.isAgg245
  z145 := Tryz.sizeOf245
  v145 := Tryz.zeroValue245
  t167 := Tryz.underlying215
  a167 := Tryz.isAgg215
  z167 := Tryz.sizeOf215
  v167 := Tryz.zeroValue215
  t168 := Tryz.underlying218
  a168 := Tryz.isAgg218
  z168 := Tryz.sizeOf218
  v168 := Tryz.zeroValue218
  t171 := Tryz.underlying170
  a171 := Tryz.isAgg170
  z171 := Tryz.sizeOf170
  v171 := Tryz.zeroValue170
  t173 := Tryz.underlying174
  a173 := Tryz.isAgg174
  z173 := Tryz.sizeOf174
  v173 := Tryz.zeroValue174
  t175 := Tryz.underlying216
  a175 := Tryz.isAgg216
  z175 := Tryz.sizeOf216
  v175 := Tryz.zeroValue216
  t210 := Tryz.underlying235
  a210 := Tryz.isAgg235
  z210 := Tryz.sizeOf235
  v210 := Tryz.zeroValue235
  t212 := Tryz.underlying196
  a212 := Tryz.isAgg196
  z212 := Tryz.sizeOf196
  v212 := Tryz.zeroValue196
  t213 := Tryz.underlying198
  a213 := Tryz.isAgg198
  z213 := Tryz.sizeOf198
  t232 := Tryz.underlying229
  a232 := Tryz.isAgg229
  z232 := Tryz.sizeOf229
  v232 := Tryz.zeroValue229
  t233 := Tryz.underlying230
  a233 := Tryz.isAgg230
  z233 := Tryz.sizeOf230
  v233 := Tryz.zeroValue230
  g15 := by kernel_rfl
  g16 := by kernel_rfl
  g17 := by kernel_rfl
  g18 := by kernel_rfl
  g19 := by kernel_rfl
  t80 := Tryz.underlying248
  a80 := Tryz.isAgg248
  z80 := Tryz.sizeOf248
  v80 := Tryz.zeroValue248
  i0 := by kernel_rfl
  i2 := by kernel_rfl
  i3 := by kernel_rfl
  i4 := by kernel_rfl
  i5 := by kernel_rfl
  i9 := by kernel_rfl
  i20 := by kernel_rfl
  i21 := by kernel_rfl
  i37 := by kernel_rfl
  i46 := by kernel_rfl
  i51 := by kernel_rfl
  i53 := by kernel_rfl
  i75 := by kernel_rfl
  i80 := by kernel_rfl
  i85 := by kernel_rfl
  i127 := by kernel_rfl
  i143 := by kernel_rfl
  i145 := by kernel_rfl
  i167 := by kernel_rfl
  i168 := by kernel_rfl
  i171 := by kernel_rfl
  i173 := by kernel_rfl
  i175 := by kernel_rfl
  i210 := by kernel_rfl
  i212 := by kernel_rfl
  i232 := by kernel_rfl
  i233 := by kernel_rfl
  m15 := by kernel_rfl
  m16 := by kernel_rfl
  m17 := by kernel_rfl
  m18 := by kernel_rfl
  m19 := by kernel_rfl
  c0 := by kernel_rfl
  c2 := by kernel_rfl
  c3 := by kernel_rfl
  c4 := by kernel_rfl
  c5 := by kernel_rfl
  c9 := by kernel_rfl
  c20 := by kernel_rfl
  c21 := by kernel_rfl
  c37 := by kernel_rfl
  c46 := by kernel_rfl
  c51 := by kernel_rfl
  c53 := by kernel_rfl
  c75 := by kernel_rfl
  c80 := by kernel_rfl
  c85 := by kernel_rfl
  c127 := by kernel_rfl
  c143 := by kernel_rfl
  c145 := by kernel_rfl
  c167 := by kernel_rfl
  c168 := by kernel_rfl
  c171 := by kernel_rfl
  c173 := by kernel_rfl
  c175 := by kernel_rfl
  c210 := by kernel_rfl
  c212 := by kernel_rfl
  c213 := by kernel_rfl
  c232 := by kernel_rfl
  c233 := by kernel_rfl }
open Go.RowKit in
theorem sh_strconv_ParseInt_10_at64_ok (s : ByteArray) (hmax : s.size ≤ 9223372036854775806) (v : Int) (h : Lib.parseIntB 64 s.data.toList = .ok v) (w : World) :
    Calls Tryz.prog 121 #[.string s, .int .i64 10, .int .i64 64] w fun e w' => e = .returned (.tuple #[.int .i64 v, .nilIface]) ∧ (w' = w ∨ ∃ t, w' = Lib.bytesWorld w 5 t) := Any.strconv_ParseInt_10_at64_ok sh_laysC174 s hmax v h w
open Go.RowKit in
theorem sh_strconv_ParseInt_10_at64_range (s : ByteArray) (hlim : s.size ≤ 281474976710656) (h : Lib.parseIntB 64 s.data.toList = .range) (ev : Value) (w : World) (hv : w.cell? ⟨5, 0, none⟩ = some ev) (hev : ev = .nilIface ∨ ∃ te pe, ev = .iface te pe) :
    Calls Tryz.prog 121 #[.string s, .int .i64 10, .int .i64 64] w fun e w' => ∃ N, e = .returned (.tuple #[.int .i64 (Lib.intSat 64 s.data.toList), .iface 218 (.pointer (some ⟨N, 0, none⟩))]) ∧ w.heap.size ≤ N ∧ w'.heap[N]? = some (.cells #[.string ⟨#[80, 97, 114, 115, 101, 73, 110, 116]⟩, .string s, ev] 235 (0, 0)) ∧ Below w.heap.size w w' := Any.strconv_ParseInt_10_at64_range sh_laysC174 s hlim h ev w hv hev
def sh_lays145_ren : Go.Shelf.Ren := ⟨fun | 145 => 66 | 220 => 95 | 219 => 120 | 217 => 139 | 225 => 140 | 224 => 141 | 267 => 142 | 266 => 159 | 314 => 160 | n => n, fun | 9 => 9 | 4 => 4 | 59 => 117 | 3 => 3 | 5 => 5 | 46 => 155 | 146 => 213 | 51 => 197 | n => n, fun | 1 => 1 | n => n⟩
theorem sh_lays145 : Go.Proofs.Lays.n145 Tryz.prog sh_lays145_ren := {
  mixed := by kernel_rfl
  f145 := Tryz.func66.trans (congrArg some (by kernel_rfl))
  f217 := Tryz.func139.trans (congrArg some (by kernel_rfl))
  f219 := Tryz.func120.trans (congrArg some (by kernel_rfl))
  f220 := Tryz.func95.trans (congrArg some (by kernel_rfl))
  f224 := Tryz.func141.trans (congrArg some (by kernel_rfl))
  f225 := Tryz.func140.trans (congrArg some (by kernel_rfl))
  f266 := Tryz.func159.trans (congrArg some (by kernel_rfl))
  f267 := Tryz.func142.trans (congrArg some (by kernel_rfl))
  f314 := Tryz.func160.trans (congrArg some (by kernel_rfl))
  t3 := Tryz.underlying3
  a3 := Tryz.isAgg3
  z3 := Tryz.sizeOf3
  v3 := Tryz.zeroValue3
  t4 := Tryz.underlying4
  a4 := Tryz.isAgg4
  z4 := Tryz.sizeOf4
  v4 := Tryz.zeroValue4
  t5 := Tryz.underlying5
  a5 := Tryz.isAgg5
  z5 := Tryz.sizeOf5
  v5 := Tryz.zeroValue5
  t9 := Tryz.underlying9
  a9 := Tryz.isAgg9
  z9 := Tryz.sizeOf9
  v9 := Tryz.zeroValue9
  t46 := Tryz.underlying155
  a46 := Tryz.isAgg155
  z46 := Tryz.sizeOf155
  v46 := Tryz.zeroValue155
  t51 := Tryz.underlying197
  a51 := Tryz.isAgg197
  z51 := Tryz.sizeOf197
  v51 := Tryz.zeroValue197
  t59 := Tryz.underlying117
  a59 := Tryz.isAgg117
  z59 := Tryz.sizeOf117
  v59 := Tryz.zeroValue117
  t146 := Tryz.underlying213
  a146 := Tryz.isAgg213
  z146 := Tryz.sizeOf213
  v146 := Tryz.zeroValue213
  g1 := by kernel_rfl }
open Go.RowKit Go.Lib in
theorem sh_strings_Cut (s sep : ByteArray) (m : Int) (w : World) (hs : s.size < 4294967281) (hm : w.cell? ⟨1, 0, none⟩ = some (.int .i64 m)) :
    Calls Tryz.prog 66 #[.string s, .string sep] w fun e w' => e = .returned (.tuple #[.string ⟨(Lib.cut s.data.toList sep.data.toList).1.toArray⟩, .string ⟨(Lib.cut s.data.toList sep.data.toList).2.1.toArray⟩, .bool (Lib.cut s.data.toList sep.data.toList).2.2]) ∧ ∃ n, w' = w.drewN n := Any.strings_Cut sh_lays145 s sep m w hs hm
def sh_lays29_ren : Go.Shelf.Ren := ⟨fun | 29 => 158 | n => n, fun | 22 => 39 | 3 => 3 | 4 => 4 | 25 => 155 | 54 => 230 | 0 => 0 | 5 => 5 | n => n, fun | 1 => 3 | n => n⟩
theorem sh_lays29 : Go.Proofs.Lays7.n29 Tryz.prog sh_lays29_ren := {
  mixed := by kernel_rfl
  f29 := Tryz.func158.trans (congrArg some (by kernel_rfl))
  t0 := Tryz.underlying0
  a0 := Tryz.isAgg0
  z0 := Tryz.sizeOf0
  v0 := Tryz.zeroValue0
  i0 := by kernel_rfl
  t3 := Tryz.underlying3
  a3 := Tryz.isAgg3
  z3 := Tryz.sizeOf3
  v3 := Tryz.zeroValue3
  i3 := by kernel_rfl
  t4 := Tryz.underlying4
  a4 := Tryz.isAgg4
  z4 := Tryz.sizeOf4
  v4 := Tryz.zeroValue4
  i4 := by kernel_rfl
  t5 := Tryz.underlying5
  a5 := Tryz.isAgg5
  z5 := Tryz.sizeOf5
  v5 := Tryz.zeroValue5
  i5 := by kernel_rfl
  t22 := Tryz.underlying39
  a22 := Tryz.isAgg39
  z22 := Tryz.sizeOf39
  v22 := Tryz.zeroValue39
  i22 := by kernel_rfl
  t25 := Tryz.underlying155
  a25 := Tryz.isAgg155
  z25 := Tryz.sizeOf155
  v25 := Tryz.zeroValue155
  i25 := by kernel_rfl
  t54 := Tryz.underlying230
  a54 := Tryz.isAgg230
  z54 := Tryz.sizeOf230
  g1 := by kernel_rfl }
end Go.Proofs.YtbhfnfokihdjjaaGreatDoor

namespace Go.Proofs.YtbhfnfokihdjjaaGreatDoor
open Go.RowKit Go.BigFrame

/-- A block holds these cells. -/
def BlockIs (W : World) (b : Nat) (cs : Array Value) : Prop := ∃ t f, W.heap[b]? = some (.cells cs t f)
theorem BlockIs.below {W W' : World} {b : Nat} {cs : Array Value} (h : BlockIs W b cs) (hb : Below W.heap.size W W') : BlockIs W' b cs := by
  obtain ⟨t, f, h⟩ := h
  exact ⟨t, f, heap_below hb h⟩
theorem BlockIs.low {W W' : World} {b n : Nat} {cs : Array Value} (h : BlockIs W b cs) (hn : b < n) (hb : Below n W W') : BlockIs W' b cs := by
  obtain ⟨t, f, h⟩ := h
  exact ⟨t, f, (hb.block b hn).trans h⟩
theorem BlockIs.cell {W : World} {b : Nat} {cs : Array Value} (h : BlockIs W b cs) (o : Nat) : W.cell? ⟨b, o, none⟩ = cs[o]? := by
  obtain ⟨t, f, h⟩ := h
  exact cell_at h o
theorem BlockIs.var {W : World} {b : Nat} {cs : Array Value} {P : Program} {n : String} (h : BlockIs W b cs) (hg : P.globalNamed n = some b) : W.var? P n = some cs := by
  obtain ⟨t, f, h⟩ := h
  unfold World.var?
  rw [hg]
  simp only [Option.bind_some]
  rw [h]
def tabCells (k : IntKind) (zs : List Int) : Array Value := (zs.map fun z => Value.int k z).toArray
/-- What the library's variables hold: the tables, the errors, the bound. -/
structure Vars (W : World) : Prop where
  tz : BlockIs W 3 (tabCells .u8 (Lib.deBruijn64tab.map Int.ofNat))
  pow : BlockIs W 0 (tabCells .u64 Lib.pow10Tab)
  max : ∃ m, W.cell? ⟨1, 0, none⟩ = some (.int .i64 m)
  syn : ∃ t p, BlockIs W 4 #[.iface t p]
  rng : ∃ t p, BlockIs W 5 #[.iface t p]
theorem Vars.size {W : World} (h : Vars W) : 6 ≤ W.heap.size := by
  obtain ⟨_, _, _, _, ⟨t, p, u, f, h⟩⟩ := h
  exact lt_of_block h
theorem cell_of_heap {W W' : World} {k o : Nat} (h : W'.heap[k]? = W.heap[k]?) : W'.cell? ⟨k, o, none⟩ = W.cell? ⟨k, o, none⟩ := by
  unfold World.cell?
  simp only [h]
theorem Vars.low {n : Nat} {W W' : World} (h : Vars W) (hn : 6 ≤ n) (hb : Below n W W') : Vars W' := by
  obtain ⟨h1, h2, ⟨m, h3⟩, ⟨t, p, h4⟩, ⟨u, q, h5⟩⟩ := h
  exact ⟨h1.low (by omega) hb, h2.low (by omega) hb, ⟨m, (cell_of_heap (hb.block 1 (by omega))).trans h3⟩, ⟨t, p, h4.low (by omega) hb⟩, ⟨u, q, h5.low (by omega) hb⟩⟩
theorem Vars.below {W W' : World} (h : Vars W) (hb : Below W.heap.size W W') : Vars W' := h.low h.size hb
theorem Vars.tab {W : World} (h : Vars W) : TabAt 3 Lib.deBruijn64tab W := by
  intro j hj
  have := h.tz.cell j
  rw [this, tabCells]
  simp only [List.getElem?_toArray, List.getElem?_map]
  rw [List.getD_eq_getElem?_getD, List.getElem?_eq_getElem hj]
  rfl
theorem Vars.pow10 {W : World} (h : Vars W) : Lib.TabIs Tryz.prog W "internal/strconv.uint64pow10" .u64 Lib.pow10Tab := h.pow.var (by kernel_rfl)

theorem tz64 (x : Nat) (hx : x < 18446744073709551616) (w : World) (hV : Vars w) :
    Calls Tryz.prog 158 #[.int .u64 x] w fun e w' => e = .returned (.int .i64 (Lib.ctz 64 x)) ∧ w' = w :=
  Any7.bits_TrailingZeros64 sh_lays29 x hx w fun _ => hV.tab

/-- How often 2 divides a number (that is not nought). -/
def tz (n : Nat) : Nat := Lib.ctzFrom 576 n
theorem tz_spec {n : Nat} (k : Nat) (hk : k = 576) (h0 : 0 < n) (h : n < 2 ^ k) : ∃ m, n = 2 ^ tz n * (2 * m + 1) ∧ tz n < 576 := by
  subst hk
  exact Lib.ctzFrom_spec 576 n h0 h
theorem tz_unique {k l m n : Nat} (h : 2 ^ k * (2 * m + 1) = 2 ^ l * (2 * n + 1)) : k = l := by
  rcases Nat.lt_trichotomy k l with hlt | he | hlt
  · obtain ⟨d, rfl⟩ : ∃ d, l = k + (d + 1) := ⟨l - k - 1, by omega⟩
    rw [Nat.pow_add, Nat.mul_assoc] at h
    have := Nat.eq_of_mul_eq_mul_left (Nat.two_pow_pos k) h
    rw [Nat.pow_succ] at this
    have e : 2 ^ d * 2 * (2 * n + 1) = 2 * (2 ^ d * (2 * n + 1)) := by rw [Nat.mul_comm (2 ^ d) 2, Nat.mul_assoc]
    omega
  · exact he
  · obtain ⟨d, rfl⟩ : ∃ d, k = l + (d + 1) := ⟨k - l - 1, by omega⟩
    rw [Nat.pow_add, Nat.mul_assoc] at h
    have := Nat.eq_of_mul_eq_mul_left (Nat.two_pow_pos l) h
    rw [Nat.pow_succ] at this
    have e : 2 ^ d * 2 * (2 * m + 1) = 2 * (2 ^ d * (2 * m + 1)) := by rw [Nat.mul_comm (2 ^ d) 2, Nat.mul_assoc]
    omega
/-- The lowest digit that is not nought tells it. -/
theorem tz_digit {n : Nat} (e : Nat) (he : e = 576) (h0 : 0 < n) (h : n < 2 ^ e) (k : Nat) (hz : n % 2 ^ (64 * k) = 0) (hx : dg n k ≠ 0) : tz n = 64 * k + Lib.ctz 64 (dg n k).toNat := by
  obtain ⟨m, hm, hl⟩ := tz_spec e he h0 h
  obtain ⟨x, hX⟩ : ∃ x, (dg n k).toNat = x := ⟨_, rfl⟩
  have hxd := dg_toNat n k
  rw [hX] at hxd
  have hx0 : 0 < x := by have := dg_nonneg n k; omega
  obtain ⟨j, hj, hlj⟩ := Lib.ctzFrom_spec 64 x hx0 (by have := dg_lt n k; omega)
  have hc : Lib.ctz 64 x = Lib.ctzFrom 64 x := by unfold Lib.ctz; rw [if_neg (by omega)]
  rw [hX, hc]
  generalize hT : Lib.ctzFrom 64 x = c at *
  have hn1 : n = 2 ^ (64 * k) * (n / 2 ^ (64 * k)) := by
    have := split_at n (2 ^ (64 * k))
    omega
  have hn2 : n / 2 ^ (64 * k) = 18446744073709551616 * (n / 2 ^ (64 * k) / 18446744073709551616) + x := by
    have := split_at (n / 2 ^ (64 * k)) 18446744073709551616
    omega
  obtain ⟨d, hd⟩ : ∃ d, 64 = c + (d + 1) := ⟨64 - c - 1, by omega⟩
  have h64 : 18446744073709551616 = 2 ^ c * (2 ^ d * 2) := by
    rw [← Nat.pow_succ, ← Nat.pow_add, ← hd]
  have key : n = 2 ^ (64 * k + c) * (2 * (2 ^ d * (n / 2 ^ (64 * k) / 18446744073709551616) + j) + 1) := by
    generalize n / 2 ^ (64 * k) / 18446744073709551616 = q at *
    rw [Nat.pow_add, Nat.mul_assoc]
    rw [hn2, hj, h64] at hn1
    refine hn1.trans ?_
    congr 1
    rw [Nat.mul_assoc (2 ^ c), ← Nat.mul_add]
    congr 1
    rw [Nat.mul_comm (2 ^ d) 2, Nat.mul_assoc]
    omega
  exact tz_unique (hm.symm.trans key)
end Go.Proofs.YtbhfnfokihdjjaaGreatDoor
