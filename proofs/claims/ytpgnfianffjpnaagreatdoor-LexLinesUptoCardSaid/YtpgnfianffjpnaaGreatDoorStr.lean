/- Slices of texts; strings.Trim, TrimLeft, TrimRight, Split, Cut, CutPrefix, HasPrefix, IndexByte by the shelf. -/
import Derived.Test.YtpgnfianffjpnaaGreatDoorProg
import Derived.Ground.NamesProg
import Derived.Test.YtpgnfianffjpnaaGreatDoorCut
import Derived.Test.YtpgnfianffjpnaaGreatDoorBlk
import Derived.Shelf.Abstract
import Derived.Shelf.RegionOpen
import Derived.Shelf.Strings.SlTrimAscii
import Derived.Shelf.Strings.Split
import Derived.Shelf.Strings.Cut
import Derived.Shelf.Strings.Prefix
import Derived.Shelf.Strings.Search1
import Derived.Shelf.Small.Wraps
namespace Go.Proofs.YtpgnfianffjpnaaGreatDoor
open Go Go.RowKit Go.Shelf
def Tryz.lays160_ren : Go.Shelf.Ren := ⟨fun | 160 => 41 | 232 => 96 | 231 => 95 | 227 => 97 | 234 => 99 | 233 => 98 | 236 => 101 | 235 => 100 | 228 => 141 | 271 => 143 | 151 => 142 | 197 => 85 | 120 => 162 | 152 => 161 | 260 => 137 | 137 => 144 | 119 => 171 | 224 => 172 | 225 => 173 | 217 => 163 | 266 => 174 | n => n, fun | 9 => 9 | 4 => 4 | 3 => 3 | 5 => 5 | 117 => 163 | 116 => 162 | 0 => 0 | 124 => 166 | 21 => 21 | 105 => 151 | 46 => 292 | 119 => 291 | 139 => 295 | 138 => 294 | n => n, fun | 3 => 1 | 4 => 2 | n => n⟩
theorem Tryz.lays160 : Go.Proofs.Lays.n160 Tryz.prog Tryz.lays160_ren := {
  mixed := by kernel_rfl
  f119 := Tryz.func171.trans (congrArg some (by kernel_rfl))
  f120 := Tryz.func162.trans (congrArg some (by kernel_rfl))
  f137 := Tryz.func144.trans (congrArg some (by kernel_rfl))
  f151 := Tryz.func142.trans (congrArg some (by kernel_rfl))
  f152 := Tryz.func161.trans (congrArg some (by kernel_rfl))
  f160 := Tryz.func41.trans (congrArg some (by kernel_rfl))
  f197 := Tryz.func85.trans (congrArg some (by kernel_rfl))
  f217 := Tryz.func163.trans (congrArg some (by kernel_rfl))
  f224 := Tryz.func172.trans (congrArg some (by kernel_rfl))
  f225 := Tryz.func173.trans (congrArg some (by kernel_rfl))
  f227 := Tryz.func97.trans (congrArg some (by kernel_rfl))
  f228 := Tryz.func141.trans (congrArg some (by kernel_rfl))
  f231 := Tryz.func95.trans (congrArg some (by kernel_rfl))
  f232 := Tryz.func96.trans (congrArg some (by kernel_rfl))
  f233 := Tryz.func98.trans (congrArg some (by kernel_rfl))
  f234 := Tryz.func99.trans (congrArg some (by kernel_rfl))
  f235 := Tryz.func100.trans (congrArg some (by kernel_rfl))
  f236 := Tryz.func101.trans (congrArg some (by kernel_rfl))
  f260 := Tryz.func137.trans (congrArg some (by kernel_rfl))
  f266 := Tryz.func174.trans (congrArg some (by kernel_rfl))
  f271 := Tryz.func143.trans (congrArg some (by kernel_rfl))
  t0 := Tryz.underlying0
  a0 := Tryz.isAgg0
  z0 := Tryz.sizeOf0
  v0 := Tryz.zeroValue0
  t3 := Tryz.underlying3
  a3 := Tryz.isAgg3
  z3 := Tryz.sizeOf3
  v3 := Tryz.zeroValue3
  t4 := Tryz.underlying4
  a4 := Tryz.isAgg4
  z4 := Tryz.sizeOf4
  v4 := Tryz.zeroValue4
  t5 := Tryz.underlying5
  a5 := Tryz.isAgg5
  z5 := Tryz.sizeOf5
  v5 := Tryz.zeroValue5
  t9 := Tryz.underlying9
  a9 := Tryz.isAgg9
  z9 := Tryz.sizeOf9
  v9 := Tryz.zeroValue9
  t21 := Tryz.underlying21
  a21 := Tryz.isAgg21
  z21 := Tryz.sizeOf21
  v21 := Tryz.zeroValue21
  t46 := Tryz.underlying292
  a46 := Tryz.isAgg292
  z46 := Tryz.sizeOf292
  v46 := Tryz.zeroValue292
  t105 := Tryz.underlying151
  a105 := Tryz.isAgg151
  z105 := Tryz.sizeOf151
  v105 := Tryz.zeroValue151
  t116 := Tryz.underlying162
  a116 := Tryz.isAgg162
  z116 := Tryz.sizeOf162
  t117 := Tryz.underlying163
  a117 := Tryz.isAgg163
  z117 := Tryz.sizeOf163
  v117 := Tryz.zeroValue163
  t119 := Tryz.underlying291
  a119 := Tryz.isAgg291
  z119 := Tryz.sizeOf291
  t124 := Tryz.underlying166
  a124 := Tryz.isAgg166
  z124 := Tryz.sizeOf166
  v124 := Tryz.zeroValue166
  t138 := Tryz.underlying294
  a138 := Tryz.isAgg294
  z138 := Tryz.sizeOf294
  v138 := Tryz.zeroValue294
  t139 := Tryz.underlying295
  a139 := Tryz.isAgg295
  z139 := Tryz.sizeOf295
  v139 := Tryz.zeroValue295
  g3 := by kernel_rfl
  g4 := by kernel_rfl }
def Tryz.lays161_ren : Go.Shelf.Ren := ⟨fun | 161 => 92 | 231 => 95 | 227 => 97 | 233 => 98 | 235 => 100 | 228 => 141 | 197 => 85 | 151 => 142 | 260 => 137 | 152 => 161 | 137 => 144 | 119 => 171 | 224 => 172 | 225 => 173 | 217 => 163 | 266 => 174 | n => n, fun | 9 => 9 | 4 => 4 | 3 => 3 | 5 => 5 | 117 => 163 | 116 => 162 | 0 => 0 | 124 => 166 | 105 => 151 | 21 => 21 | 119 => 291 | 46 => 292 | 139 => 295 | 138 => 294 | n => n, fun | 3 => 1 | 4 => 2 | n => n⟩
theorem Tryz.lays161 : Go.Proofs.Lays.n161 Tryz.prog Tryz.lays161_ren := {
  mixed := by kernel_rfl
  f119 := Tryz.func171.trans (congrArg some (by kernel_rfl))
  f137 := Tryz.func144.trans (congrArg some (by kernel_rfl))
  f151 := Tryz.func142.trans (congrArg some (by kernel_rfl))
  f152 := Tryz.func161.trans (congrArg some (by kernel_rfl))
  f161 := Tryz.func92.trans (congrArg some (by kernel_rfl))
  f197 := Tryz.func85.trans (congrArg some (by kernel_rfl))
  f217 := Tryz.func163.trans (congrArg some (by kernel_rfl))
  f224 := Tryz.func172.trans (congrArg some (by kernel_rfl))
  f225 := Tryz.func173.trans (congrArg some (by kernel_rfl))
  f227 := Tryz.func97.trans (congrArg some (by kernel_rfl))
  f228 := Tryz.func141.trans (congrArg some (by kernel_rfl))
  f231 := Tryz.func95.trans (congrArg some (by kernel_rfl))
  f233 := Tryz.func98.trans (congrArg some (by kernel_rfl))
  f235 := Tryz.func100.trans (congrArg some (by kernel_rfl))
  f260 := Tryz.func137.trans (congrArg some (by kernel_rfl))
  f266 := Tryz.func174.trans (congrArg some (by kernel_rfl))
  t0 := Tryz.underlying0
  a0 := Tryz.isAgg0
  z0 := Tryz.sizeOf0
  v0 := Tryz.zeroValue0
  t3 := Tryz.underlying3
  a3 := Tryz.isAgg3
  z3 := Tryz.sizeOf3
  v3 := Tryz.zeroValue3
  t4 := Tryz.underlying4
  a4 := Tryz.isAgg4
  z4 := Tryz.sizeOf4
  v4 := Tryz.zeroValue4
  t5 := Tryz.underlying5
  a5 := Tryz.isAgg5
  z5 := Tryz.sizeOf5
  v5 := Tryz.zeroValue5
  t9 := Tryz.underlying9
  a9 := Tryz.isAgg9
  z9 := Tryz.sizeOf9
  v9 := Tryz.zeroValue9
  t21 := Tryz.underlying21
  a21 := Tryz.isAgg21
  z21 := Tryz.sizeOf21
  v21 := Tryz.zeroValue21
  t46 := Tryz.underlying292
  a46 := Tryz.isAgg292
  z46 := Tryz.sizeOf292
  v46 := Tryz.zeroValue292
  t105 := Tryz.underlying151
  a105 := Tryz.isAgg151
  z105 := Tryz.sizeOf151
  v105 := Tryz.zeroValue151
  t116 := Tryz.underlying162
  a116 := Tryz.isAgg162
  z116 := Tryz.sizeOf162
  t117 := Tryz.underlying163
  a117 := Tryz.isAgg163
  z117 := Tryz.sizeOf163
  v117 := Tryz.zeroValue163
  t119 := Tryz.underlying291
  a119 := Tryz.isAgg291
  z119 := Tryz.sizeOf291
  t124 := Tryz.underlying166
  a124 := Tryz.isAgg166
  z124 := Tryz.sizeOf166
  v124 := Tryz.zeroValue166
  t138 := Tryz.underlying294
  a138 := Tryz.isAgg294
  z138 := Tryz.sizeOf294
  v138 := Tryz.zeroValue294
  t139 := Tryz.underlying295
  a139 := Tryz.isAgg295
  z139 := Tryz.sizeOf295
  v139 := Tryz.zeroValue295
  g3 := by kernel_rfl
  g4 := by kernel_rfl }
def Tryz.lays162_ren : Go.Shelf.Ren := ⟨fun | 162 => 87 | 232 => 96 | 227 => 97 | 234 => 99 | 236 => 101 | 228 => 141 | 271 => 143 | 151 => 142 | 120 => 162 | 197 => 85 | 152 => 161 | 260 => 137 | 137 => 144 | 119 => 171 | 224 => 172 | 225 => 173 | 217 => 163 | 266 => 174 | n => n, fun | 9 => 9 | 4 => 4 | 3 => 3 | 5 => 5 | 117 => 163 | 116 => 162 | 0 => 0 | 124 => 166 | 21 => 21 | 105 => 151 | 46 => 292 | 119 => 291 | 139 => 295 | 138 => 294 | n => n, fun | 3 => 1 | 4 => 2 | n => n⟩
theorem Tryz.lays162 : Go.Proofs.Lays.n162 Tryz.prog Tryz.lays162_ren := {
  mixed := by kernel_rfl
  f119 := Tryz.func171.trans (congrArg some (by kernel_rfl))
  f120 := Tryz.func162.trans (congrArg some (by kernel_rfl))
  f137 := Tryz.func144.trans (congrArg some (by kernel_rfl))
  f151 := Tryz.func142.trans (congrArg some (by kernel_rfl))
  f152 := Tryz.func161.trans (congrArg some (by kernel_rfl))
  f162 := Tryz.func87.trans (congrArg some (by kernel_rfl))
  f197 := Tryz.func85.trans (congrArg some (by kernel_rfl))
  f217 := Tryz.func163.trans (congrArg some (by kernel_rfl))
  f224 := Tryz.func172.trans (congrArg some (by kernel_rfl))
  f225 := Tryz.func173.trans (congrArg some (by kernel_rfl))
  f227 := Tryz.func97.trans (congrArg some (by kernel_rfl))
  f228 := Tryz.func141.trans (congrArg some (by kernel_rfl))
  f232 := Tryz.func96.trans (congrArg some (by kernel_rfl))
  f234 := Tryz.func99.trans (congrArg some (by kernel_rfl))
  f236 := Tryz.func101.trans (congrArg some (by kernel_rfl))
  f260 := Tryz.func137.trans (congrArg some (by kernel_rfl))
  f266 := Tryz.func174.trans (congrArg some (by kernel_rfl))
  f271 := Tryz.func143.trans (congrArg some (by kernel_rfl))
  t0 := Tryz.underlying0
  a0 := Tryz.isAgg0
  z0 := Tryz.sizeOf0
  v0 := Tryz.zeroValue0
  t3 := Tryz.underlying3
  a3 := Tryz.isAgg3
  z3 := Tryz.sizeOf3
  v3 := Tryz.zeroValue3
  t4 := Tryz.underlying4
  a4 := Tryz.isAgg4
  z4 := Tryz.sizeOf4
  v4 := Tryz.zeroValue4
  t5 := Tryz.underlying5
  a5 := Tryz.isAgg5
  z5 := Tryz.sizeOf5
  v5 := Tryz.zeroValue5
  t9 := Tryz.underlying9
  a9 := Tryz.isAgg9
  z9 := Tryz.sizeOf9
  v9 := Tryz.zeroValue9
  t21 := Tryz.underlying21
  a21 := Tryz.isAgg21
  z21 := Tryz.sizeOf21
  v21 := Tryz.zeroValue21
  t46 := Tryz.underlying292
  a46 := Tryz.isAgg292
  z46 := Tryz.sizeOf292
  v46 := Tryz.zeroValue292
  t105 := Tryz.underlying151
  a105 := Tryz.isAgg151
  z105 := Tryz.sizeOf151
  v105 := Tryz.zeroValue151
  t116 := Tryz.underlying162
  a116 := Tryz.isAgg162
  z116 := Tryz.sizeOf162
  t117 := Tryz.underlying163
  a117 := Tryz.isAgg163
  z117 := Tryz.sizeOf163
  v117 := Tryz.zeroValue163
  t119 := Tryz.underlying291
  a119 := Tryz.isAgg291
  z119 := Tryz.sizeOf291
  t124 := Tryz.underlying166
  a124 := Tryz.isAgg166
  z124 := Tryz.sizeOf166
  v124 := Tryz.zeroValue166
  t138 := Tryz.underlying294
  a138 := Tryz.isAgg294
  z138 := Tryz.sizeOf294
  v138 := Tryz.zeroValue294
  t139 := Tryz.underlying295
  a139 := Tryz.isAgg295
  z139 := Tryz.sizeOf295
  v139 := Tryz.zeroValue295
  g3 := by kernel_rfl
  g4 := by kernel_rfl }
def Tryz.lays146_ren : Go.Shelf.Ren := ⟨fun | 146 => 86 | 221 => 138 | 268 => 157 | 138 => 158 | 143 => 159 | 195 => 168 | 197 => 85 | 218 => 169 | 219 => 170 | 260 => 137 | 217 => 163 | 225 => 173 | 224 => 172 | 267 => 176 | 266 => 174 | 314 => 177 | n => n, fun | 9 => 9 | 31 => 70 | 3 => 3 | 4 => 4 | 0 => 0 | 105 => 151 | 21 => 21 | 5 => 5 | 46 => 292 | 119 => 291 | 139 => 295 | 138 => 294 | 146 => 309 | 51 => 308 | n => n, fun | 1 => 3 | 3 => 1 | 4 => 2 | n => n⟩
theorem Tryz.lays146 : Go.Proofs.Lays.n146 Tryz.prog Tryz.lays146_ren := {
  mixed := by kernel_rfl
  f138 := Tryz.func158.trans (congrArg some (by kernel_rfl))
  f143 := Tryz.func159.trans (congrArg some (by kernel_rfl))
  f146 := Tryz.func86.trans (congrArg some (by kernel_rfl))
  f195 := Tryz.func168.trans (congrArg some (by kernel_rfl))
  f197 := Tryz.func85.trans (congrArg some (by kernel_rfl))
  f217 := Tryz.func163.trans (congrArg some (by kernel_rfl))
  f218 := Tryz.func169.trans (congrArg some (by kernel_rfl))
  f219 := Tryz.func170.trans (congrArg some (by kernel_rfl))
  f221 := Tryz.func138.trans (congrArg some (by kernel_rfl))
  f224 := Tryz.func172.trans (congrArg some (by kernel_rfl))
  f225 := Tryz.func173.trans (congrArg some (by kernel_rfl))
  f260 := Tryz.func137.trans (congrArg some (by kernel_rfl))
  f266 := Tryz.func174.trans (congrArg some (by kernel_rfl))
  f267 := Tryz.func176.trans (congrArg some (by kernel_rfl))
  f268 := Tryz.func157.trans (congrArg some (by kernel_rfl))
  f314 := Tryz.func177.trans (congrArg some (by kernel_rfl))
  t0 := Tryz.underlying0
  a0 := Tryz.isAgg0
  z0 := Tryz.sizeOf0
  v0 := Tryz.zeroValue0
  t3 := Tryz.underlying3
  a3 := Tryz.isAgg3
  z3 := Tryz.sizeOf3
  v3 := Tryz.zeroValue3
  t4 := Tryz.underlying4
  a4 := Tryz.isAgg4
  z4 := Tryz.sizeOf4
  v4 := Tryz.zeroValue4
  t5 := Tryz.underlying5
  a5 := Tryz.isAgg5
  z5 := Tryz.sizeOf5
  v5 := Tryz.zeroValue5
  t9 := Tryz.underlying9
  a9 := Tryz.isAgg9
  z9 := Tryz.sizeOf9
  v9 := Tryz.zeroValue9
  t21 := Tryz.underlying21
  a21 := Tryz.isAgg21
  z21 := Tryz.sizeOf21
  v21 := Tryz.zeroValue21
  t31 := Tryz.underlying70
  a31 := Tryz.isAgg70
  z31 := Tryz.sizeOf70
  v31 := Tryz.zeroValue70
  t46 := Tryz.underlying292
  a46 := Tryz.isAgg292
  z46 := Tryz.sizeOf292
  v46 := Tryz.zeroValue292
  t51 := Tryz.underlying308
  a51 := Tryz.isAgg308
  z51 := Tryz.sizeOf308
  v51 := Tryz.zeroValue308
  t105 := Tryz.underlying151
  a105 := Tryz.isAgg151
  z105 := Tryz.sizeOf151
  v105 := Tryz.zeroValue151
  t119 := Tryz.underlying291
  a119 := Tryz.isAgg291
  z119 := Tryz.sizeOf291
  t138 := Tryz.underlying294
  a138 := Tryz.isAgg294
  z138 := Tryz.sizeOf294
  v138 := Tryz.zeroValue294
  t139 := Tryz.underlying295
  a139 := Tryz.isAgg295
  z139 := Tryz.sizeOf295
  v139 := Tryz.zeroValue295
  t146 := Tryz.underlying309
  a146 := Tryz.isAgg309
  z146 := Tryz.sizeOf309
  v146 := Tryz.zeroValue309
  g1 := by kernel_rfl
  g3 := by kernel_rfl
  g4 := by kernel_rfl }
def Tryz.lays145_ren : Go.Shelf.Ren := ⟨fun | 145 => 139 | 220 => 160 | 219 => 170 | 217 => 163 | 225 => 173 | 224 => 172 | 267 => 176 | 266 => 174 | 314 => 177 | n => n, fun | 9 => 9 | 4 => 4 | 59 => 259 | 3 => 3 | 5 => 5 | 46 => 292 | 146 => 309 | 51 => 308 | n => n, fun | 1 => 3 | n => n⟩
theorem Tryz.lays145 : Go.Proofs.Lays.n145 Tryz.prog Tryz.lays145_ren := {
  mixed := by kernel_rfl
  f145 := Tryz.func139.trans (congrArg some (by kernel_rfl))
  f217 := Tryz.func163.trans (congrArg some (by kernel_rfl))
  f219 := Tryz.func170.trans (congrArg some (by kernel_rfl))
  f220 := Tryz.func160.trans (congrArg some (by kernel_rfl))
  f224 := Tryz.func172.trans (congrArg some (by kernel_rfl))
  f225 := Tryz.func173.trans (congrArg some (by kernel_rfl))
  f266 := Tryz.func174.trans (congrArg some (by kernel_rfl))
  f267 := Tryz.func176.trans (congrArg some (by kernel_rfl))
  f314 := Tryz.func177.trans (congrArg some (by kernel_rfl))
  t3 := Tryz.underlying3
  a3 := Tryz.isAgg3
  z3 := Tryz.sizeOf3
  v3 := Tryz.zeroValue3
  t4 := Tryz.underlying4
  a4 := Tryz.isAgg4
  z4 := Tryz.sizeOf4
  v4 := Tryz.zeroValue4
  t5 := Tryz.underlying5
  a5 := Tryz.isAgg5
  z5 := Tryz.sizeOf5
  v5 := Tryz.zeroValue5
  t9 := Tryz.underlying9
  a9 := Tryz.isAgg9
  z9 := Tryz.sizeOf9
  v9 := Tryz.zeroValue9
  t46 := Tryz.underlying292
  a46 := Tryz.isAgg292
  z46 := Tryz.sizeOf292
  v46 := Tryz.zeroValue292
  t51 := Tryz.underlying308
  a51 := Tryz.isAgg308
  z51 := Tryz.sizeOf308
  v51 := Tryz.zeroValue308
  t59 := Tryz.underlying259
  a59 := Tryz.isAgg259
  z59 := Tryz.sizeOf259
  v59 := Tryz.zeroValue259
  t146 := Tryz.underlying309
  a146 := Tryz.isAgg309
  z146 := Tryz.sizeOf309
  v146 := Tryz.zeroValue309
  g1 := by kernel_rfl }
def Tryz.lays99_ren : Go.Shelf.Ren := ⟨fun | 99 => 105 | 206 => 150 | n => n, fun | 9 => 9 | 4 => 4 | 3 => 3 | n => n, fun | n => n⟩
theorem Tryz.lays99 : Go.Proofs.Lays.n99 Tryz.prog Tryz.lays99_ren := {
  mixed := by kernel_rfl
  f99 := Tryz.func105.trans (congrArg some (by kernel_rfl))
  f206 := Tryz.func150.trans (congrArg some (by kernel_rfl))
  t3 := Tryz.underlying3
  a3 := Tryz.isAgg3
  z3 := Tryz.sizeOf3
  v3 := Tryz.zeroValue3
  t4 := Tryz.underlying4
  a4 := Tryz.isAgg4
  z4 := Tryz.sizeOf4
  v4 := Tryz.zeroValue4
  t9 := Tryz.underlying9
  a9 := Tryz.isAgg9
  z9 := Tryz.sizeOf9
  v9 := Tryz.zeroValue9 }
def Tryz.lays103_ren : Go.Shelf.Ren := ⟨fun | 103 => 151 | 210 => 166 | 206 => 150 | n => n, fun | 9 => 9 | 4 => 4 | 24 => 156 | 3 => 3 | n => n, fun | n => n⟩
theorem Tryz.lays103 : Go.Proofs.Lays.n103 Tryz.prog Tryz.lays103_ren := {
  mixed := by kernel_rfl
  f103 := Tryz.func151.trans (congrArg some (by kernel_rfl))
  f206 := Tryz.func150.trans (congrArg some (by kernel_rfl))
  f210 := Tryz.func166.trans (congrArg some (by kernel_rfl))
  t3 := Tryz.underlying3
  a3 := Tryz.isAgg3
  z3 := Tryz.sizeOf3
  v3 := Tryz.zeroValue3
  t4 := Tryz.underlying4
  a4 := Tryz.isAgg4
  z4 := Tryz.sizeOf4
  v4 := Tryz.zeroValue4
  t9 := Tryz.underlying9
  a9 := Tryz.isAgg9
  z9 := Tryz.sizeOf9
  v9 := Tryz.zeroValue9
  t24 := Tryz.underlying156
  a24 := Tryz.isAgg156
  z24 := Tryz.sizeOf156
  v24 := Tryz.zeroValue156 }
def Tryz.lays137_ren : Go.Shelf.Ren := ⟨fun | 137 => 144 | 217 => 163 | 266 => 174 | n => n, fun | 9 => 9 | 5 => 5 | 3 => 3 | n => n, fun | n => n⟩
theorem Tryz.lays137 : Go.Proofs.Lays.n137 Tryz.prog Tryz.lays137_ren := {
  mixed := by kernel_rfl
  f137 := Tryz.func144.trans (congrArg some (by kernel_rfl))
  f217 := Tryz.func163.trans (congrArg some (by kernel_rfl))
  f266 := Tryz.func174.trans (congrArg some (by kernel_rfl))
  t3 := Tryz.underlying3
  a3 := Tryz.isAgg3
  z3 := Tryz.sizeOf3
  v3 := Tryz.zeroValue3
  t5 := Tryz.underlying5
  a5 := Tryz.isAgg5
  z5 := Tryz.sizeOf5
  v5 := Tryz.zeroValue5
  t9 := Tryz.underlying9
  a9 := Tryz.isAgg9
  z9 := Tryz.sizeOf9
  v9 := Tryz.zeroValue9 }

theorem toList_bs (l : List UInt8) : (bs l).toList = l := by rw [ByteArray.toList_eq]; rfl
theorem news_at (w : World) (n : Nat) (hn : n = w.heap.size) (cs : List Value) (e : TypeId) : ∀ (j : Nat) (u : Value), cs[j]? = some u → (w.alloc (.cells cs.toArray e)).cell? ((⟨n, 0, none⟩ : Addr).add j) = some u := by
  subst hn
  exact news_alloc w cs e
theorem strK : ElemT Tryz.prog 70 9 (.string ⟨#[]⟩) 16 := ⟨Tryz.underlying70, by kernel_rfl, rfl⟩
theorem slice_lit (s : ByteArray) (a b : Nat) (ai bi : Int) (ha : ai = (a : Int)) (hb : bi = (b : Int)) (hab : a ≤ b) (hbs : b ≤ s.size) : ∀ wx, (Instr.slice 9 (.string s) (some (.int .i64 ai)) (some (.int .i64 bi)) none).run Tryz.prog wx = .ok (.string (s.extract a b)) wx := by
  subst ha hb
  intro wx
  rw [run_slice_string _ _ _ _ _ _ _ Tryz.underlying9 (by omega) (by omega) (by omega)]
  simp
theorem slice_h (s : ByteArray) (b : Nat) (bi : Int) (hb : bi = (b : Int)) (hbs : b ≤ s.size) : ∀ wx, (Instr.slice 9 (.string s) none (some (.int .i64 bi)) none).run Tryz.prog wx = .ok (.string (s.extract 0 b)) wx := by
  subst hb
  intro wx
  rw [run_slice_string_h (ht := Tryz.underlying9) (h0 := by omega) (h2 := by omega)]
  simp
theorem slice_f (s r : ByteArray) (a : Nat) (ai : Int) (ha : ai = (a : Int)) (has : a ≤ s.size) (hr : s.extract a s.size = r) : ∀ wx, (Instr.slice 9 (.string s) (some (.int .i64 ai)) none none).run Tryz.prog wx = .ok (.string r) wx := by
  subst ha hr
  intro wx
  rw [run_slice_string_l (ht := Tryz.underlying9) (h0 := by omega) (h1 := by omega)]
  simp
theorem ext_bs (s : ByteArray) (a b : Nat) : s.extract a b = bs (((bl s).drop a).take (b - a)) := by rw [← bl_extract, bs_bl]
theorem slice_ij (s : ByteArray) (i j : Nat) (hij : i ≤ j) (hj : j ≤ s.size) : ∀ wx, (Instr.slice 9 (.string s) (some (.int .i64 (i : Int))) (some (.int .i64 (j : Int))) none).run Tryz.prog wx = .ok (.string (bs (((bl s).drop i).take (j - i)))) wx := by
  rw [← ext_bs]
  exact slice_lit s i j (i : Int) (j : Int) rfl rfl hij hj
/-- s[i:j], s[:j], s[i:] of a text that is a list. -/
theorem slice_bs (l : List UInt8) (i j : Nat) (hij : i ≤ j) (hj : j ≤ l.length) : ∀ wx, (Instr.slice 9 (.string (bs l)) (some (.int .i64 (i : Int))) (some (.int .i64 (j : Int))) none).run Tryz.prog wx = .ok (.string (bs ((l.drop i).take (j - i)))) wx :=
  slice_ij (bs l) i j hij (by rw [bs_size]; exact hj)
theorem slice_to (l : List UInt8) (j : Nat) (ji : Int) (hji : ji = (j : Int)) (hj : j ≤ l.length) : ∀ wx, (Instr.slice 9 (.string (bs l)) none (some (.int .i64 ji)) none).run Tryz.prog wx = .ok (.string (bs (l.take j))) wx := by
  have h := slice_h (bs l) j ji hji (by rw [bs_size]; exact hj)
  rw [ext_bs, bl_bs, List.drop_zero, Nat.sub_zero] at h
  exact h
theorem slice_from (l : List UInt8) (i : Nat) (ii : Int) (hii : ii = (i : Int)) (hi : i ≤ l.length) : ∀ wx, (Instr.slice 9 (.string (bs l)) (some (.int .i64 ii)) none none).run Tryz.prog wx = .ok (.string (bs (l.drop i))) wx :=
  slice_f (bs l) (bs (l.drop i)) i ii hii (by rw [bs_size]; exact hi) (by rw [ext_bs, bl_bs, List.take_of_length_le (by rw [List.length_drop, bs_size]; exact Nat.le_refl _)])
theorem bl_at (s : ByteArray) (k : Nat) (h : k < s.size) : (bl s)[k]? = some s[k] := by
  have h2 : k < (bl s).length := by rw [bl_length]; exact h
  rw [List.getElem?_eq_getElem h2]
  rfl
theorem bs_at (l : List UInt8) (k : Nat) (h : k < (bs l).size) : l[k]? = some (bs l)[k] := by
  have := bl_at (bs l) k h
  rwa [bl_bs] at this
/-- the piece that stands between f and k. -/
def mid (s : ByteArray) (f k : Nat) : List UInt8 := ((bl s).drop f).take (k - f)
theorem mid_snoc (s : ByteArray) (f k : Nat) (hf : f ≤ k) (h : k < s.size) : mid s f (k + 1) = mid s f k ++ [s[k]] := by
  have h2 : k - f < ((bl s).drop f).length := by rw [List.length_drop, bl_length]; omega
  rw [mid, mid, show k + 1 - f = k - f + 1 by omega, List.take_add_one, List.getElem?_eq_getElem h2]
  congr 1
  simp only [List.getElem_drop, Option.toList_some, List.cons.injEq, and_true]
  simp only [show f + (k - f) = k by omega]
  rfl
theorem mid_nil (s : ByteArray) (k : Nat) : mid s k k = [] := by rw [mid, Nat.sub_self, List.take_zero]
theorem mid_length (s : ByteArray) (f k : Nat) (hk : k ≤ s.size) : (mid s f k).length = k - f := by rw [mid, List.length_take, List.length_drop, bl_length]; omega
theorem drop_at (s : ByteArray) {f k : Nat} (hf : f ≤ k) (hk : k < s.size) : (bl s).drop f = mid s f k ++ s[k] :: (bl s).drop (k + 1) := by
  have e : ((bl s).drop f).drop (k - f) = s[k] :: (bl s).drop (k + 1) := by
    rw [List.drop_drop, show f + (k - f) = k by omega, bl_drop_cons s k hk]
  rw [← e]
  exact (List.take_append_drop _ _).symm
theorem mid_no {s : ByteArray} {f k : Nat} (h : ∀ (x : Nat) b, f ≤ x → x < k → (bl s)[x]? = some b → b ≠ 10) : ∀ c ∈ mid s f k, c ≠ 10 := by
  intro c hc
  obtain ⟨i, hi, e⟩ := List.getElem_of_mem hc
  have e2 : (mid s f k)[i]? = some c := by rw [List.getElem?_eq_getElem hi, e]
  unfold mid at e2
  rw [List.getElem?_take] at e2
  split at e2
  · rw [List.getElem?_drop] at e2
    exact h (f + i) c (by omega) (by omega) e2
  · cases e2

/-- the library's variable MaxLen, wherever it lies. -/
def Maxl (w : World) : Prop := ∃ m, w.cell? ⟨Tryz.lays145_ren.g 1, 0, none⟩ = some (.int .i64 m)
theorem Maxl.below {w w' : World} {B : Nat} (h : Maxl w) (hb : Below B w w') (hB : Tryz.lays145_ren.g 1 < B) : Maxl w' := by
  obtain ⟨m, hm⟩ := h
  exact ⟨m, (hb.cell (p := ⟨_, 0, none⟩) hB).trans hm⟩
theorem Maxl.lt {w : World} (h : Maxl w) : Tryz.lays145_ren.g 1 < w.heap.size := by
  obtain ⟨m, hm⟩ := h
  exact World.block_lt_of_cell? w _ hm
theorem Maxl.grow {w w' : World} (h : Maxl w) (hb : Below w.heap.size w w') : Maxl w' := h.below hb h.lt
section
variable (l : List UInt8) (w : World)
theorem trim_any (hs : l.length ≤ 9223372036854775807) {t : List UInt8} (H : Hid (Gl.trimL l = t)) : Calls Tryz.prog 41 #[.string (bs l), .string ⟨#[32, 9, 13]⟩] w fun e w' => e = .returned (.string (bs t)) ∧ Below w.heap.size w w' := by
  rw [← H.out]
  exact Any.strings_Trim_laid Tryz.lays160 (by kernel_rfl) (bs l) ⟨#[32, 9, 13]⟩ w (by rw [bs_size]; exact hs) (by decide) (ascii_of_all (by decide))
theorem trimLeft_any {t : List UInt8} (H : Hid (Gl.lft l = t)) : Calls Tryz.prog 92 #[.string (bs l), .string ⟨#[32, 9, 13]⟩] w fun e w' => e = .returned (.string (bs t)) ∧ Below w.heap.size w w' := by
  rw [← H.out]
  exact Any.strings_TrimLeft_laid Tryz.lays161 (by kernel_rfl) (bs l) ⟨#[32, 9, 13]⟩ w (by decide) (ascii_of_all (by decide))
theorem trimRight_any (hs : l.length ≤ 9223372036854775807) {t : List UInt8} (H : Hid (Lib.trimRightS l Gl.bls = t)) : Calls Tryz.prog 87 #[.string (bs l), .string ⟨#[32, 9, 13]⟩] w fun e w' => e = .returned (.string (bs t)) ∧ Below w.heap.size w w' := by
  rw [← H.out]
  exact Any.strings_TrimRight_laid Tryz.lays162 (by kernel_rfl) (bs l) ⟨#[32, 9, 13]⟩ w (by rw [bs_size]; exact hs) (by decide) (ascii_of_all (by decide))
theorem trimTabs_any {t : List UInt8} (H : Hid (Lib.trimLeftS l [9] = t)) : Calls Tryz.prog 92 #[.string (bs l), .string ⟨#[9]⟩] w fun e w' => e = .returned (.string (bs t)) ∧ Below w.heap.size w w' := by
  rw [← H.out]
  exact Any.strings_TrimLeft_laid Tryz.lays161 (by kernel_rfl) (bs l) ⟨#[9]⟩ w (by decide) (ascii_of_all (by decide))
theorem trimCr_any (hs : l.length ≤ 9223372036854775807) {t : List UInt8} (H : Hid (Lib.trimRightS l [13] = t)) : Calls Tryz.prog 87 #[.string (bs l), .string ⟨#[13]⟩] w fun e w' => e = .returned (.string (bs t)) ∧ Below w.heap.size w w' := by
  rw [← H.out]
  exact Any.strings_TrimRight_laid Tryz.lays162 (by kernel_rfl) (bs l) ⟨#[13]⟩ w (by rw [bs_size]; exact hs) (by decide) (ascii_of_all (by decide))
theorem split_any (hs : l.length ≤ 2000000) (hmx : Maxl w) {ls : List (List UInt8)} (H : Hid (Gl.cutL 10 l = ls)) : Calls Tryz.prog 86 #[.string (bs l), .string ⟨#[10]⟩] w fun e w' => e = .returned (.slice (some ⟨w.heap.size, 0, none⟩) ls.length ls.length) ∧ Blk w' w.heap.size 9 (sc ls).toArray ∧ Below w.heap.size w w' := by
  obtain ⟨m, hm⟩ := hmx
  have hc := Any.strings_Split Tryz.lays146 (by kernel_rfl) (bs l) ⟨#[10]⟩ m w (by rw [bs_size]; omega) hm (by decide)
  have e1 : (Lib.splitB ⟨#[10]⟩ 0 (Lib.countB (bs l) ⟨#[10]⟩) (bs l)).map (fun x => x.data.toList) = ls := by
    rw [Lib.splitB_data, ← H.out]
    have e2 : Lib.countB (bs l) ⟨#[10]⟩ = l.count 10 := Lib.count_one 10 _
    rw [e2]
    exact Gl.splitK_cut 10 _ l (Nat.le_refl _)
  have e2 : Lib.countB (bs l) ⟨#[10]⟩ + 1 = ls.length := by
    rw [← e1, List.length_map]
    exact (Lib.splitB_all ⟨#[10]⟩ (by decide) 0 _ (bs l) rfl).symm
  have e3 : (Lib.splitB ⟨#[10]⟩ 0 (Lib.countB (bs l) ⟨#[10]⟩) (bs l)).map Value.string = sc ls := by
    rw [← e1, sc, List.map_map]
    exact List.map_congr_left fun x _ => by rw [Function.comp]; exact congrArg Value.string (bs_bl x).symm
  rw [e2, e3] at hc
  refine hc.mono ?_
  rintro e w' ⟨rfl, rfl⟩
  exact ⟨rfl, Blk.new _ _ _, (Below.refl _ _).alloc (Nat.le_refl _) _⟩
theorem cutEq_any (hs : l.length < 4294967281) (hm : Maxl w) {a r : List UInt8} {b : Bool} (hc : Hid (Lib.cut l [61] = (a, r, b))) : Calls Tryz.prog 139 #[.string (bs l), .string ⟨#[61]⟩] w fun e w' => e = .returned (.tuple #[.string (bs a), .string (bs r), .bool b]) ∧ Below w.heap.size w w' := by
  obtain ⟨m, hm⟩ := hm
  have := Any.strings_Cut Tryz.lays145 (bs l) ⟨#[61]⟩ m w (by rw [bs_size]; exact hs) hm
  refine Calls.mono this ?_
  rintro e w' ⟨rfl, n, rfl⟩
  refine ⟨?_, below_drewN (Below.refl _ _) n⟩
  have e1 : (bs l).data.toList = l := bl_bs l
  rw [e1, show (⟨#[61]⟩ : ByteArray).data.toList = [61] from rfl, hc.out]
  rfl
theorem hasPrefix_any (p : List UInt8) {b : Bool} (H : Hid (p.isPrefixOf l = b)) : Calls Tryz.prog 105 #[.string (bs l), .string (bs p)] w fun e w' => e = .returned (.bool b) ∧ w = w' := by
  refine (Any.strings_HasPrefix Tryz.lays99 (bs l) (bs p) w).mono ?_
  rintro e w' ⟨rfl, h⟩
  rw [← H.out]
  exact ⟨rfl, h.symm⟩
theorem cutDash_any {t : List UInt8} {b : Bool} (H : Hid ((Lib.trimPrefix l [45], Lib.hasPrefix l [45]) = (t, b))) : Calls Tryz.prog 151 #[.string (bs l), .string ⟨#[45]⟩] w fun e w' => e = .returned (.tuple #[.string (bs t), .bool b]) ∧ w = w' := by
  refine (Any.strings_CutPrefix Tryz.lays103 (bs l) ⟨#[45]⟩ w).mono ?_
  rintro e w' ⟨rfl, h⟩
  have e1 : (bs l).data.toList = l := bl_bs l
  have h0 := H.out
  injection h0 with h1 h2
  rw [e1, show (⟨#[45]⟩ : ByteArray).data.toList = [45] from rfl, h1, h2]
  exact ⟨rfl, h.symm⟩
theorem indexByte_any (c : UInt8) {x : Int} (H : Hid (Lib.indexByte l c = x)) : Calls Tryz.prog 144 #[.string (bs l), .int .u8 (c.toNat : Int)] w fun e w' => e = .returned (.int .i64 x) ∧ w = w' := by
  refine (Any.strings_IndexByte Tryz.lays137 (bs l) (c.toNat : Int) w).mono ?_
  rintro e w' ⟨rfl, h⟩
  have e1 : (bs l).data.toList = l := bl_bs l
  have e2 : ((c.toNat : Int)).toNat.toUInt8 = c := by
    rw [Int.toNat_natCast]
    exact UInt8.ofNat_toNat
  rw [e1, e2, H.out]
  exact ⟨rfl, h.symm⟩
end
end Go.Proofs.YtpgnfianffjpnaaGreatDoor
