/- Slices of texts; strings.Trim, TrimLeft, TrimRight, Split, Cut, CutPrefix, HasPrefix, IndexByte by the shelf. -/
import Derived.Test.YtpgnfianffjpnaaDoorProg
import Derived.Ground.NamesProg
import Derived.Test.YtpgnfianffjpnaaDoorCut
import Derived.Test.YtpgnfianffjpnaaDoorBlk
import Derived.Shelf.Abstract
import Derived.Shelf.RegionOpen
import Derived.Shelf.Strings.SlTrimAscii
import Derived.Shelf.Strings.Split
import Derived.Shelf.Strings.Cut
import Derived.Shelf.Strings.Prefix
import Derived.Shelf.Strings.Search1
import Derived.Shelf.Small.Wraps
namespace Go.Proofs.YtpgnfianffjpnaaDoor
open Go Go.RowKit Go.Shelf
def Tryd.lays160_ren : Go.Shelf.Ren := ⟨fun | 160 => 13 | 232 => 27 | 231 => 26 | 227 => 28 | 234 => 30 | 233 => 29 | 236 => 32 | 235 => 31 | 228 => 45 | 271 => 47 | 151 => 46 | 197 => 16 | 120 => 64 | 152 => 63 | 260 => 41 | 137 => 48 | 119 => 75 | 224 => 76 | 225 => 77 | 217 => 65 | 266 => 78 | n => n, fun | 9 => 9 | 4 => 4 | 3 => 3 | 5 => 5 | 117 => 69 | 116 => 68 | 0 => 0 | 124 => 72 | 21 => 21 | 105 => 56 | 46 => 119 | 119 => 118 | 139 => 122 | 138 => 121 | n => n, fun | 3 => 1 | 4 => 2 | n => n⟩
theorem Tryd.lays160 : Go.Proofs.Lays.n160 Tryd.prog Tryd.lays160_ren := {
  mixed := by kernel_rfl
  f119 := Tryd.func75.trans (congrArg some (by kernel_rfl))
  f120 := Tryd.func64.trans (congrArg some (by kernel_rfl))
  f137 := Tryd.func48.trans (congrArg some (by kernel_rfl))
  f151 := Tryd.func46.trans (congrArg some (by kernel_rfl))
  f152 := Tryd.func63.trans (congrArg some (by kernel_rfl))
  f160 := Tryd.func13.trans (congrArg some (by kernel_rfl))
  f197 := Tryd.func16.trans (congrArg some (by kernel_rfl))
  f217 := Tryd.func65.trans (congrArg some (by kernel_rfl))
  f224 := Tryd.func76.trans (congrArg some (by kernel_rfl))
  f225 := Tryd.func77.trans (congrArg some (by kernel_rfl))
  f227 := Tryd.func28.trans (congrArg some (by kernel_rfl))
  f228 := Tryd.func45.trans (congrArg some (by kernel_rfl))
  f231 := Tryd.func26.trans (congrArg some (by kernel_rfl))
  f232 := Tryd.func27.trans (congrArg some (by kernel_rfl))
  f233 := Tryd.func29.trans (congrArg some (by kernel_rfl))
  f234 := Tryd.func30.trans (congrArg some (by kernel_rfl))
  f235 := Tryd.func31.trans (congrArg some (by kernel_rfl))
  f236 := Tryd.func32.trans (congrArg some (by kernel_rfl))
  f260 := Tryd.func41.trans (congrArg some (by kernel_rfl))
  f266 := Tryd.func78.trans (congrArg some (by kernel_rfl))
  f271 := Tryd.func47.trans (congrArg some (by kernel_rfl))
  t0 := Tryd.underlying0
  a0 := Tryd.isAgg0
  z0 := Tryd.sizeOf0
  v0 := Tryd.zeroValue0
  t3 := Tryd.underlying3
  a3 := Tryd.isAgg3
  z3 := Tryd.sizeOf3
  v3 := Tryd.zeroValue3
  t4 := Tryd.underlying4
  a4 := Tryd.isAgg4
  z4 := Tryd.sizeOf4
  v4 := Tryd.zeroValue4
  t5 := Tryd.underlying5
  a5 := Tryd.isAgg5
  z5 := Tryd.sizeOf5
  v5 := Tryd.zeroValue5
  t9 := Tryd.underlying9
  a9 := Tryd.isAgg9
  z9 := Tryd.sizeOf9
  v9 := Tryd.zeroValue9
  t21 := Tryd.underlying21
  a21 := Tryd.isAgg21
  z21 := Tryd.sizeOf21
  v21 := Tryd.zeroValue21
  t46 := Tryd.underlying119
  a46 := Tryd.isAgg119
  z46 := Tryd.sizeOf119
  v46 := Tryd.zeroValue119
  t105 := Tryd.underlying56
  a105 := Tryd.isAgg56
  z105 := Tryd.sizeOf56
  v105 := Tryd.zeroValue56
  t116 := Tryd.underlying68
  a116 := Tryd.isAgg68
  z116 := Tryd.sizeOf68
  t117 := Tryd.underlying69
  a117 := Tryd.isAgg69
  z117 := Tryd.sizeOf69
  v117 := Tryd.zeroValue69
  t119 := Tryd.underlying118
  a119 := Tryd.isAgg118
  z119 := Tryd.sizeOf118
  t124 := Tryd.underlying72
  a124 := Tryd.isAgg72
  z124 := Tryd.sizeOf72
  v124 := Tryd.zeroValue72
  t138 := Tryd.underlying121
  a138 := Tryd.isAgg121
  z138 := Tryd.sizeOf121
  v138 := Tryd.zeroValue121
  t139 := Tryd.underlying122
  a139 := Tryd.isAgg122
  z139 := Tryd.sizeOf122
  v139 := Tryd.zeroValue122
  g3 := by kernel_rfl
  g4 := by kernel_rfl }
def Tryd.lays161_ren : Go.Shelf.Ren := ⟨fun | 161 => 23 | 231 => 26 | 227 => 28 | 233 => 29 | 235 => 31 | 228 => 45 | 197 => 16 | 151 => 46 | 260 => 41 | 152 => 63 | 137 => 48 | 119 => 75 | 224 => 76 | 225 => 77 | 217 => 65 | 266 => 78 | n => n, fun | 9 => 9 | 4 => 4 | 3 => 3 | 5 => 5 | 117 => 69 | 116 => 68 | 0 => 0 | 124 => 72 | 105 => 56 | 21 => 21 | 119 => 118 | 46 => 119 | 139 => 122 | 138 => 121 | n => n, fun | 3 => 1 | 4 => 2 | n => n⟩
theorem Tryd.lays161 : Go.Proofs.Lays.n161 Tryd.prog Tryd.lays161_ren := {
  mixed := by kernel_rfl
  f119 := Tryd.func75.trans (congrArg some (by kernel_rfl))
  f137 := Tryd.func48.trans (congrArg some (by kernel_rfl))
  f151 := Tryd.func46.trans (congrArg some (by kernel_rfl))
  f152 := Tryd.func63.trans (congrArg some (by kernel_rfl))
  f161 := Tryd.func23.trans (congrArg some (by kernel_rfl))
  f197 := Tryd.func16.trans (congrArg some (by kernel_rfl))
  f217 := Tryd.func65.trans (congrArg some (by kernel_rfl))
  f224 := Tryd.func76.trans (congrArg some (by kernel_rfl))
  f225 := Tryd.func77.trans (congrArg some (by kernel_rfl))
  f227 := Tryd.func28.trans (congrArg some (by kernel_rfl))
  f228 := Tryd.func45.trans (congrArg some (by kernel_rfl))
  f231 := Tryd.func26.trans (congrArg some (by kernel_rfl))
  f233 := Tryd.func29.trans (congrArg some (by kernel_rfl))
  f235 := Tryd.func31.trans (congrArg some (by kernel_rfl))
  f260 := Tryd.func41.trans (congrArg some (by kernel_rfl))
  f266 := Tryd.func78.trans (congrArg some (by kernel_rfl))
  t0 := Tryd.underlying0
  a0 := Tryd.isAgg0
  z0 := Tryd.sizeOf0
  v0 := Tryd.zeroValue0
  t3 := Tryd.underlying3
  a3 := Tryd.isAgg3
  z3 := Tryd.sizeOf3
  v3 := Tryd.zeroValue3
  t4 := Tryd.underlying4
  a4 := Tryd.isAgg4
  z4 := Tryd.sizeOf4
  v4 := Tryd.zeroValue4
  t5 := Tryd.underlying5
  a5 := Tryd.isAgg5
  z5 := Tryd.sizeOf5
  v5 := Tryd.zeroValue5
  t9 := Tryd.underlying9
  a9 := Tryd.isAgg9
  z9 := Tryd.sizeOf9
  v9 := Tryd.zeroValue9
  t21 := Tryd.underlying21
  a21 := Tryd.isAgg21
  z21 := Tryd.sizeOf21
  v21 := Tryd.zeroValue21
  t46 := Tryd.underlying119
  a46 := Tryd.isAgg119
  z46 := Tryd.sizeOf119
  v46 := Tryd.zeroValue119
  t105 := Tryd.underlying56
  a105 := Tryd.isAgg56
  z105 := Tryd.sizeOf56
  v105 := Tryd.zeroValue56
  t116 := Tryd.underlying68
  a116 := Tryd.isAgg68
  z116 := Tryd.sizeOf68
  t117 := Tryd.underlying69
  a117 := Tryd.isAgg69
  z117 := Tryd.sizeOf69
  v117 := Tryd.zeroValue69
  t119 := Tryd.underlying118
  a119 := Tryd.isAgg118
  z119 := Tryd.sizeOf118
  t124 := Tryd.underlying72
  a124 := Tryd.isAgg72
  z124 := Tryd.sizeOf72
  v124 := Tryd.zeroValue72
  t138 := Tryd.underlying121
  a138 := Tryd.isAgg121
  z138 := Tryd.sizeOf121
  v138 := Tryd.zeroValue121
  t139 := Tryd.underlying122
  a139 := Tryd.isAgg122
  z139 := Tryd.sizeOf122
  v139 := Tryd.zeroValue122
  g3 := by kernel_rfl
  g4 := by kernel_rfl }
def Tryd.lays162_ren : Go.Shelf.Ren := ⟨fun | 162 => 18 | 232 => 27 | 227 => 28 | 234 => 30 | 236 => 32 | 228 => 45 | 271 => 47 | 151 => 46 | 120 => 64 | 197 => 16 | 152 => 63 | 260 => 41 | 137 => 48 | 119 => 75 | 224 => 76 | 225 => 77 | 217 => 65 | 266 => 78 | n => n, fun | 9 => 9 | 4 => 4 | 3 => 3 | 5 => 5 | 117 => 69 | 116 => 68 | 0 => 0 | 124 => 72 | 21 => 21 | 105 => 56 | 46 => 119 | 119 => 118 | 139 => 122 | 138 => 121 | n => n, fun | 3 => 1 | 4 => 2 | n => n⟩
theorem Tryd.lays162 : Go.Proofs.Lays.n162 Tryd.prog Tryd.lays162_ren := {
  mixed := by kernel_rfl
  f119 := Tryd.func75.trans (congrArg some (by kernel_rfl))
  f120 := Tryd.func64.trans (congrArg some (by kernel_rfl))
  f137 := Tryd.func48.trans (congrArg some (by kernel_rfl))
  f151 := Tryd.func46.trans (congrArg some (by kernel_rfl))
  f152 := Tryd.func63.trans (congrArg some (by kernel_rfl))
  f162 := Tryd.func18.trans (congrArg some (by kernel_rfl))
  f197 := Tryd.func16.trans (congrArg some (by kernel_rfl))
  f217 := Tryd.func65.trans (congrArg some (by kernel_rfl))
  f224 := Tryd.func76.trans (congrArg some (by kernel_rfl))
  f225 := Tryd.func77.trans (congrArg some (by kernel_rfl))
  f227 := Tryd.func28.trans (congrArg some (by kernel_rfl))
  f228 := Tryd.func45.trans (congrArg some (by kernel_rfl))
  f232 := Tryd.func27.trans (congrArg some (by kernel_rfl))
  f234 := Tryd.func30.trans (congrArg some (by kernel_rfl))
  f236 := Tryd.func32.trans (congrArg some (by kernel_rfl))
  f260 := Tryd.func41.trans (congrArg some (by kernel_rfl))
  f266 := Tryd.func78.trans (congrArg some (by kernel_rfl))
  f271 := Tryd.func47.trans (congrArg some (by kernel_rfl))
  t0 := Tryd.underlying0
  a0 := Tryd.isAgg0
  z0 := Tryd.sizeOf0
  v0 := Tryd.zeroValue0
  t3 := Tryd.underlying3
  a3 := Tryd.isAgg3
  z3 := Tryd.sizeOf3
  v3 := Tryd.zeroValue3
  t4 := Tryd.underlying4
  a4 := Tryd.isAgg4
  z4 := Tryd.sizeOf4
  v4 := Tryd.zeroValue4
  t5 := Tryd.underlying5
  a5 := Tryd.isAgg5
  z5 := Tryd.sizeOf5
  v5 := Tryd.zeroValue5
  t9 := Tryd.underlying9
  a9 := Tryd.isAgg9
  z9 := Tryd.sizeOf9
  v9 := Tryd.zeroValue9
  t21 := Tryd.underlying21
  a21 := Tryd.isAgg21
  z21 := Tryd.sizeOf21
  v21 := Tryd.zeroValue21
  t46 := Tryd.underlying119
  a46 := Tryd.isAgg119
  z46 := Tryd.sizeOf119
  v46 := Tryd.zeroValue119
  t105 := Tryd.underlying56
  a105 := Tryd.isAgg56
  z105 := Tryd.sizeOf56
  v105 := Tryd.zeroValue56
  t116 := Tryd.underlying68
  a116 := Tryd.isAgg68
  z116 := Tryd.sizeOf68
  t117 := Tryd.underlying69
  a117 := Tryd.isAgg69
  z117 := Tryd.sizeOf69
  v117 := Tryd.zeroValue69
  t119 := Tryd.underlying118
  a119 := Tryd.isAgg118
  z119 := Tryd.sizeOf118
  t124 := Tryd.underlying72
  a124 := Tryd.isAgg72
  z124 := Tryd.sizeOf72
  v124 := Tryd.zeroValue72
  t138 := Tryd.underlying121
  a138 := Tryd.isAgg121
  z138 := Tryd.sizeOf121
  v138 := Tryd.zeroValue121
  t139 := Tryd.underlying122
  a139 := Tryd.isAgg122
  z139 := Tryd.sizeOf122
  v139 := Tryd.zeroValue122
  g3 := by kernel_rfl
  g4 := by kernel_rfl }
def Tryd.lays146_ren : Go.Shelf.Ren := ⟨fun | 146 => 17 | 221 => 42 | 268 => 59 | 138 => 60 | 143 => 61 | 195 => 72 | 197 => 16 | 218 => 73 | 219 => 74 | 260 => 41 | 217 => 65 | 225 => 77 | 224 => 76 | 267 => 80 | 266 => 78 | 314 => 81 | n => n, fun | 9 => 9 | 31 => 28 | 3 => 3 | 4 => 4 | 0 => 0 | 105 => 56 | 21 => 21 | 5 => 5 | 46 => 119 | 119 => 118 | 139 => 122 | 138 => 121 | 146 => 149 | 51 => 148 | n => n, fun | 1 => 3 | 3 => 1 | 4 => 2 | n => n⟩
theorem Tryd.lays146 : Go.Proofs.Lays.n146 Tryd.prog Tryd.lays146_ren := {
  mixed := by kernel_rfl
  f138 := Tryd.func60.trans (congrArg some (by kernel_rfl))
  f143 := Tryd.func61.trans (congrArg some (by kernel_rfl))
  f146 := Tryd.func17.trans (congrArg some (by kernel_rfl))
  f195 := Tryd.func72.trans (congrArg some (by kernel_rfl))
  f197 := Tryd.func16.trans (congrArg some (by kernel_rfl))
  f217 := Tryd.func65.trans (congrArg some (by kernel_rfl))
  f218 := Tryd.func73.trans (congrArg some (by kernel_rfl))
  f219 := Tryd.func74.trans (congrArg some (by kernel_rfl))
  f221 := Tryd.func42.trans (congrArg some (by kernel_rfl))
  f224 := Tryd.func76.trans (congrArg some (by kernel_rfl))
  f225 := Tryd.func77.trans (congrArg some (by kernel_rfl))
  f260 := Tryd.func41.trans (congrArg some (by kernel_rfl))
  f266 := Tryd.func78.trans (congrArg some (by kernel_rfl))
  f267 := Tryd.func80.trans (congrArg some (by kernel_rfl))
  f268 := Tryd.func59.trans (congrArg some (by kernel_rfl))
  f314 := Tryd.func81.trans (congrArg some (by kernel_rfl))
  t0 := Tryd.underlying0
  a0 := Tryd.isAgg0
  z0 := Tryd.sizeOf0
  v0 := Tryd.zeroValue0
  t3 := Tryd.underlying3
  a3 := Tryd.isAgg3
  z3 := Tryd.sizeOf3
  v3 := Tryd.zeroValue3
  t4 := Tryd.underlying4
  a4 := Tryd.isAgg4
  z4 := Tryd.sizeOf4
  v4 := Tryd.zeroValue4
  t5 := Tryd.underlying5
  a5 := Tryd.isAgg5
  z5 := Tryd.sizeOf5
  v5 := Tryd.zeroValue5
  t9 := Tryd.underlying9
  a9 := Tryd.isAgg9
  z9 := Tryd.sizeOf9
  v9 := Tryd.zeroValue9
  t21 := Tryd.underlying21
  a21 := Tryd.isAgg21
  z21 := Tryd.sizeOf21
  v21 := Tryd.zeroValue21
  t31 := Tryd.underlying28
  a31 := Tryd.isAgg28
  z31 := Tryd.sizeOf28
  v31 := Tryd.zeroValue28
  t46 := Tryd.underlying119
  a46 := Tryd.isAgg119
  z46 := Tryd.sizeOf119
  v46 := Tryd.zeroValue119
  t51 := Tryd.underlying148
  a51 := Tryd.isAgg148
  z51 := Tryd.sizeOf148
  v51 := Tryd.zeroValue148
  t105 := Tryd.underlying56
  a105 := Tryd.isAgg56
  z105 := Tryd.sizeOf56
  v105 := Tryd.zeroValue56
  t119 := Tryd.underlying118
  a119 := Tryd.isAgg118
  z119 := Tryd.sizeOf118
  t138 := Tryd.underlying121
  a138 := Tryd.isAgg121
  z138 := Tryd.sizeOf121
  v138 := Tryd.zeroValue121
  t139 := Tryd.underlying122
  a139 := Tryd.isAgg122
  z139 := Tryd.sizeOf122
  v139 := Tryd.zeroValue122
  t146 := Tryd.underlying149
  a146 := Tryd.isAgg149
  z146 := Tryd.sizeOf149
  v146 := Tryd.zeroValue149
  g1 := by kernel_rfl
  g3 := by kernel_rfl
  g4 := by kernel_rfl }
def Tryd.lays145_ren : Go.Shelf.Ren := ⟨fun | 145 => 43 | 220 => 62 | 219 => 74 | 217 => 65 | 225 => 77 | 224 => 76 | 267 => 80 | 266 => 78 | 314 => 81 | n => n, fun | 9 => 9 | 4 => 4 | 59 => 91 | 3 => 3 | 5 => 5 | 46 => 119 | 146 => 149 | 51 => 148 | n => n, fun | 1 => 3 | n => n⟩
theorem Tryd.lays145 : Go.Proofs.Lays.n145 Tryd.prog Tryd.lays145_ren := {
  mixed := by kernel_rfl
  f145 := Tryd.func43.trans (congrArg some (by kernel_rfl))
  f217 := Tryd.func65.trans (congrArg some (by kernel_rfl))
  f219 := Tryd.func74.trans (congrArg some (by kernel_rfl))
  f220 := Tryd.func62.trans (congrArg some (by kernel_rfl))
  f224 := Tryd.func76.trans (congrArg some (by kernel_rfl))
  f225 := Tryd.func77.trans (congrArg some (by kernel_rfl))
  f266 := Tryd.func78.trans (congrArg some (by kernel_rfl))
  f267 := Tryd.func80.trans (congrArg some (by kernel_rfl))
  f314 := Tryd.func81.trans (congrArg some (by kernel_rfl))
  t3 := Tryd.underlying3
  a3 := Tryd.isAgg3
  z3 := Tryd.sizeOf3
  v3 := Tryd.zeroValue3
  t4 := Tryd.underlying4
  a4 := Tryd.isAgg4
  z4 := Tryd.sizeOf4
  v4 := Tryd.zeroValue4
  t5 := Tryd.underlying5
  a5 := Tryd.isAgg5
  z5 := Tryd.sizeOf5
  v5 := Tryd.zeroValue5
  t9 := Tryd.underlying9
  a9 := Tryd.isAgg9
  z9 := Tryd.sizeOf9
  v9 := Tryd.zeroValue9
  t46 := Tryd.underlying119
  a46 := Tryd.isAgg119
  z46 := Tryd.sizeOf119
  v46 := Tryd.zeroValue119
  t51 := Tryd.underlying148
  a51 := Tryd.isAgg148
  z51 := Tryd.sizeOf148
  v51 := Tryd.zeroValue148
  t59 := Tryd.underlying91
  a59 := Tryd.isAgg91
  z59 := Tryd.sizeOf91
  v59 := Tryd.zeroValue91
  t146 := Tryd.underlying149
  a146 := Tryd.isAgg149
  z146 := Tryd.sizeOf149
  v146 := Tryd.zeroValue149
  g1 := by kernel_rfl }
def Tryd.lays99_ren : Go.Shelf.Ren := ⟨fun | 99 => 36 | 206 => 54 | n => n, fun | 9 => 9 | 4 => 4 | 3 => 3 | n => n, fun | n => n⟩
theorem Tryd.lays99 : Go.Proofs.Lays.n99 Tryd.prog Tryd.lays99_ren := {
  mixed := by kernel_rfl
  f99 := Tryd.func36.trans (congrArg some (by kernel_rfl))
  f206 := Tryd.func54.trans (congrArg some (by kernel_rfl))
  t3 := Tryd.underlying3
  a3 := Tryd.isAgg3
  z3 := Tryd.sizeOf3
  v3 := Tryd.zeroValue3
  t4 := Tryd.underlying4
  a4 := Tryd.isAgg4
  z4 := Tryd.sizeOf4
  v4 := Tryd.zeroValue4
  t9 := Tryd.underlying9
  a9 := Tryd.isAgg9
  z9 := Tryd.sizeOf9
  v9 := Tryd.zeroValue9 }
def Tryd.lays103_ren : Go.Shelf.Ren := ⟨fun | 103 => 55 | 210 => 69 | 206 => 54 | n => n, fun | 9 => 9 | 4 => 4 | 24 => 62 | 3 => 3 | n => n, fun | n => n⟩
theorem Tryd.lays103 : Go.Proofs.Lays.n103 Tryd.prog Tryd.lays103_ren := {
  mixed := by kernel_rfl
  f103 := Tryd.func55.trans (congrArg some (by kernel_rfl))
  f206 := Tryd.func54.trans (congrArg some (by kernel_rfl))
  f210 := Tryd.func69.trans (congrArg some (by kernel_rfl))
  t3 := Tryd.underlying3
  a3 := Tryd.isAgg3
  z3 := Tryd.sizeOf3
  v3 := Tryd.zeroValue3
  t4 := Tryd.underlying4
  a4 := Tryd.isAgg4
  z4 := Tryd.sizeOf4
  v4 := Tryd.zeroValue4
  t9 := Tryd.underlying9
  a9 := Tryd.isAgg9
  z9 := Tryd.sizeOf9
  v9 := Tryd.zeroValue9
  t24 := Tryd.underlying62
  a24 := Tryd.isAgg62
  z24 := Tryd.sizeOf62
  v24 := Tryd.zeroValue62 }
def Tryd.lays137_ren : Go.Shelf.Ren := ⟨fun | 137 => 48 | 217 => 65 | 266 => 78 | n => n, fun | 9 => 9 | 5 => 5 | 3 => 3 | n => n, fun | n => n⟩
theorem Tryd.lays137 : Go.Proofs.Lays.n137 Tryd.prog Tryd.lays137_ren := {
  mixed := by kernel_rfl
  f137 := Tryd.func48.trans (congrArg some (by kernel_rfl))
  f217 := Tryd.func65.trans (congrArg some (by kernel_rfl))
  f266 := Tryd.func78.trans (congrArg some (by kernel_rfl))
  t3 := Tryd.underlying3
  a3 := Tryd.isAgg3
  z3 := Tryd.sizeOf3
  v3 := Tryd.zeroValue3
  t5 := Tryd.underlying5
  a5 := Tryd.isAgg5
  z5 := Tryd.sizeOf5
  v5 := Tryd.zeroValue5
  t9 := Tryd.underlying9
  a9 := Tryd.isAgg9
  z9 := Tryd.sizeOf9
  v9 := Tryd.zeroValue9 }

theorem toList_bs (l : List UInt8) : (bs l).toList = l := by rw [ByteArray.toList_eq]; rfl
theorem news_at (w : World) (n : Nat) (hn : n = w.heap.size) (cs : List Value) (e : TypeId) : ∀ (j : Nat) (u : Value), cs[j]? = some u → (w.alloc (.cells cs.toArray e)).cell? ((⟨n, 0, none⟩ : Addr).add j) = some u := by
  subst hn
  exact news_alloc w cs e
theorem strK : ElemT Tryd.prog 28 9 (.string ⟨#[]⟩) 16 := ⟨Tryd.underlying28, by kernel_rfl, rfl⟩
theorem slice_lit (s : ByteArray) (a b : Nat) (ai bi : Int) (ha : ai = (a : Int)) (hb : bi = (b : Int)) (hab : a ≤ b) (hbs : b ≤ s.size) : ∀ wx, (Instr.slice 9 (.string s) (some (.int .i64 ai)) (some (.int .i64 bi)) none).run Tryd.prog wx = .ok (.string (s.extract a b)) wx := by
  subst ha hb
  intro wx
  rw [run_slice_string _ _ _ _ _ _ _ Tryd.underlying9 (by omega) (by omega) (by omega)]
  simp
theorem slice_h (s : ByteArray) (b : Nat) (bi : Int) (hb : bi = (b : Int)) (hbs : b ≤ s.size) : ∀ wx, (Instr.slice 9 (.string s) none (some (.int .i64 bi)) none).run Tryd.prog wx = .ok (.string (s.extract 0 b)) wx := by
  subst hb
  intro wx
  rw [run_slice_string_h (ht := Tryd.underlying9) (h0 := by omega) (h2 := by omega)]
  simp
theorem slice_f (s r : ByteArray) (a : Nat) (ai : Int) (ha : ai = (a : Int)) (has : a ≤ s.size) (hr : s.extract a s.size = r) : ∀ wx, (Instr.slice 9 (.string s) (some (.int .i64 ai)) none none).run Tryd.prog wx = .ok (.string r) wx := by
  subst ha hr
  intro wx
  rw [run_slice_string_l (ht := Tryd.underlying9) (h0 := by omega) (h1 := by omega)]
  simp
theorem ext_bs (s : ByteArray) (a b : Nat) : s.extract a b = bs (((bl s).drop a).take (b - a)) := by rw [← bl_extract, bs_bl]
theorem slice_ij (s : ByteArray) (i j : Nat) (hij : i ≤ j) (hj : j ≤ s.size) : ∀ wx, (Instr.slice 9 (.string s) (some (.int .i64 (i : Int))) (some (.int .i64 (j : Int))) none).run Tryd.prog wx = .ok (.string (bs (((bl s).drop i).take (j - i)))) wx := by
  rw [← ext_bs]
  exact slice_lit s i j (i : Int) (j : Int) rfl rfl hij hj
/-- s[i:j], s[:j], s[i:] of a text that is a list. -/
theorem slice_bs (l : List UInt8) (i j : Nat) (hij : i ≤ j) (hj : j ≤ l.length) : ∀ wx, (Instr.slice 9 (.string (bs l)) (some (.int .i64 (i : Int))) (some (.int .i64 (j : Int))) none).run Tryd.prog wx = .ok (.string (bs ((l.drop i).take (j - i)))) wx :=
  slice_ij (bs l) i j hij (by rw [bs_size]; exact hj)
theorem slice_to (l : List UInt8) (j : Nat) (ji : Int) (hji : ji = (j : Int)) (hj : j ≤ l.length) : ∀ wx, (Instr.slice 9 (.string (bs l)) none (some (.int .i64 ji)) none).run Tryd.prog wx = .ok (.string (bs (l.take j))) wx := by
  have h := slice_h (bs l) j ji hji (by rw [bs_size]; exact hj)
  rw [ext_bs, bl_bs, List.drop_zero, Nat.sub_zero] at h
  exact h
theorem slice_from (l : List UInt8) (i : Nat) (ii : Int) (hii : ii = (i : Int)) (hi : i ≤ l.length) : ∀ wx, (Instr.slice 9 (.string (bs l)) (some (.int .i64 ii)) none none).run Tryd.prog wx = .ok (.string (bs (l.drop i))) wx :=
  slice_f (bs l) (bs (l.drop i)) i ii hii (by rw [bs_size]; exact hi) (by rw [ext_bs, bl_bs, List.take_of_length_le (by rw [List.length_drop, bs_size]; exact Nat.le_refl _)])
theorem bl_at (s : ByteArray) (k : Nat) (h : k < s.size) : (bl s)[k]? = some s[k] := by
  have h2 : k < (bl s).length := by rw [bl_length]; exact h
  rw [List.getElem?_eq_getElem h2]
  rfl
theorem bs_at (l : List UInt8) (k : Nat) (h : k < (bs l).size) : l[k]? = some (bs l)[k] := by
  have := bl_at (bs l) k h
  rwa [bl_bs] at this
/-- the piece that stands between f and k. -/
def mid (s : ByteArray) (f k : Nat) : List UInt8 := ((bl s).drop f).take (k - f)
theorem mid_snoc (s : ByteArray) (f k : Nat) (hf : f ≤ k) (h : k < s.size) : mid s f (k + 1) = mid s f k ++ [s[k]] := by
  have h2 : k - f < ((bl s).drop f).length := by rw [List.length_drop, bl_length]; omega
  rw [mid, mid, show k + 1 - f = k - f + 1 by omega, List.take_add_one, List.getElem?_eq_getElem h2]
  congr 1
  simp only [List.getElem_drop, Option.toList_some, List.cons.injEq, and_true]
  simp only [show f + (k - f) = k by omega]
  rfl
theorem mid_nil (s : ByteArray) (k : Nat) : mid s k k = [] := by rw [mid, Nat.sub_self, List.take_zero]
theorem mid_length (s : ByteArray) (f k : Nat) (hk : k ≤ s.size) : (mid s f k).length = k - f := by rw [mid, List.length_take, List.length_drop, bl_length]; omega
theorem drop_at (s : ByteArray) {f k : Nat} (hf : f ≤ k) (hk : k < s.size) : (bl s).drop f = mid s f k ++ s[k] :: (bl s).drop (k + 1) := by
  have e : ((bl s).drop f).drop (k - f) = s[k] :: (bl s).drop (k + 1) := by
    rw [List.drop_drop, show f + (k - f) = k by omega, bl_drop_cons s k hk]
  rw [← e]
  exact (List.take_append_drop _ _).symm
theorem mid_no {s : ByteArray} {f k : Nat} (h : ∀ (x : Nat) b, f ≤ x → x < k → (bl s)[x]? = some b → b ≠ 10) : ∀ c ∈ mid s f k, c ≠ 10 := by
  intro c hc
  obtain ⟨i, hi, e⟩ := List.getElem_of_mem hc
  have e2 : (mid s f k)[i]? = some c := by rw [List.getElem?_eq_getElem hi, e]
  unfold mid at e2
  rw [List.getElem?_take] at e2
  split at e2
  · rw [List.getElem?_drop] at e2
    exact h (f + i) c (by omega) (by omega) e2
  · cases e2

/-- the library's variable MaxLen, wherever it lies. -/
def Maxl (w : World) : Prop := ∃ m, w.cell? ⟨Tryd.lays145_ren.g 1, 0, none⟩ = some (.int .i64 m)
theorem Maxl.below {w w' : World} {B : Nat} (h : Maxl w) (hb : Below B w w') (hB : Tryd.lays145_ren.g 1 < B) : Maxl w' := by
  obtain ⟨m, hm⟩ := h
  exact ⟨m, (hb.cell (p := ⟨_, 0, none⟩) hB).trans hm⟩
theorem Maxl.lt {w : World} (h : Maxl w) : Tryd.lays145_ren.g 1 < w.heap.size := by
  obtain ⟨m, hm⟩ := h
  exact World.block_lt_of_cell? w _ hm
theorem Maxl.grow {w w' : World} (h : Maxl w) (hb : Below w.heap.size w w') : Maxl w' := h.below hb h.lt
section
variable (l : List UInt8) (w : World)
theorem trim_any (hs : l.length ≤ 9223372036854775807) {t : List UInt8} (H : Hid (Gl.trimL l = t)) : Calls Tryd.prog 13 #[.string (bs l), .string ⟨#[32, 9, 13]⟩] w fun e w' => e = .returned (.string (bs t)) ∧ Below w.heap.size w w' := by
  rw [← H.out]
  exact Any.strings_Trim_laid Tryd.lays160 (by kernel_rfl) (bs l) ⟨#[32, 9, 13]⟩ w (by rw [bs_size]; exact hs) (by decide) (ascii_of_all (by decide))
theorem trimLeft_any {t : List UInt8} (H : Hid (Gl.lft l = t)) : Calls Tryd.prog 23 #[.string (bs l), .string ⟨#[32, 9, 13]⟩] w fun e w' => e = .returned (.string (bs t)) ∧ Below w.heap.size w w' := by
  rw [← H.out]
  exact Any.strings_TrimLeft_laid Tryd.lays161 (by kernel_rfl) (bs l) ⟨#[32, 9, 13]⟩ w (by decide) (ascii_of_all (by decide))
theorem trimRight_any (hs : l.length ≤ 9223372036854775807) {t : List UInt8} (H : Hid (Lib.trimRightS l Gl.bls = t)) : Calls Tryd.prog 18 #[.string (bs l), .string ⟨#[32, 9, 13]⟩] w fun e w' => e = .returned (.string (bs t)) ∧ Below w.heap.size w w' := by
  rw [← H.out]
  exact Any.strings_TrimRight_laid Tryd.lays162 (by kernel_rfl) (bs l) ⟨#[32, 9, 13]⟩ w (by rw [bs_size]; exact hs) (by decide) (ascii_of_all (by decide))
theorem trimTabs_any {t : List UInt8} (H : Hid (Lib.trimLeftS l [9] = t)) : Calls Tryd.prog 23 #[.string (bs l), .string ⟨#[9]⟩] w fun e w' => e = .returned (.string (bs t)) ∧ Below w.heap.size w w' := by
  rw [← H.out]
  exact Any.strings_TrimLeft_laid Tryd.lays161 (by kernel_rfl) (bs l) ⟨#[9]⟩ w (by decide) (ascii_of_all (by decide))
theorem trimCr_any (hs : l.length ≤ 9223372036854775807) {t : List UInt8} (H : Hid (Lib.trimRightS l [13] = t)) : Calls Tryd.prog 18 #[.string (bs l), .string ⟨#[13]⟩] w fun e w' => e = .returned (.string (bs t)) ∧ Below w.heap.size w w' := by
  rw [← H.out]
  exact Any.strings_TrimRight_laid Tryd.lays162 (by kernel_rfl) (bs l) ⟨#[13]⟩ w (by rw [bs_size]; exact hs) (by decide) (ascii_of_all (by decide))
theorem split_any (hs : l.length ≤ 2000000) (hmx : Maxl w) {ls : List (List UInt8)} (H : Hid (Gl.cutL 10 l = ls)) : Calls Tryd.prog 17 #[.string (bs l), .string ⟨#[10]⟩] w fun e w' => e = .returned (.slice (some ⟨w.heap.size, 0, none⟩) ls.length ls.length) ∧ Blk w' w.heap.size 9 (sc ls).toArray ∧ Below w.heap.size w w' := by
  obtain ⟨m, hm⟩ := hmx
  have hc := Any.strings_Split Tryd.lays146 (by kernel_rfl) (bs l) ⟨#[10]⟩ m w (by rw [bs_size]; omega) hm (by decide)
  have e1 : (Lib.splitB ⟨#[10]⟩ 0 (Lib.countB (bs l) ⟨#[10]⟩) (bs l)).map (fun x => x.data.toList) = ls := by
    rw [Lib.splitB_data, ← H.out]
    have e2 : Lib.countB (bs l) ⟨#[10]⟩ = l.count 10 := Lib.count_one 10 _
    rw [e2]
    exact Gl.splitK_cut 10 _ l (Nat.le_refl _)
  have e2 : Lib.countB (bs l) ⟨#[10]⟩ + 1 = ls.length := by
    rw [← e1, List.length_map]
    exact (Lib.splitB_all ⟨#[10]⟩ (by decide) 0 _ (bs l) rfl).symm
  have e3 : (Lib.splitB ⟨#[10]⟩ 0 (Lib.countB (bs l) ⟨#[10]⟩) (bs l)).map Value.string = sc ls := by
    rw [← e1, sc, List.map_map]
    exact List.map_congr_left fun x _ => by rw [Function.comp]; exact congrArg Value.string (bs_bl x).symm
  rw [e2, e3] at hc
  refine hc.mono ?_
  rintro e w' ⟨rfl, rfl⟩
  exact ⟨rfl, Blk.new _ _ _, (Below.refl _ _).alloc (Nat.le_refl _) _⟩
theorem cutEq_any (hs : l.length < 4294967281) (hm : Maxl w) {a r : List UInt8} {b : Bool} (hc : Hid (Lib.cut l [61] = (a, r, b))) : Calls Tryd.prog 43 #[.string (bs l), .string ⟨#[61]⟩] w fun e w' => e = .returned (.tuple #[.string (bs a), .string (bs r), .bool b]) ∧ Below w.heap.size w w' := by
  obtain ⟨m, hm⟩ := hm
  have := Any.strings_Cut Tryd.lays145 (bs l) ⟨#[61]⟩ m w (by rw [bs_size]; exact hs) hm
  refine Calls.mono this ?_
  rintro e w' ⟨rfl, n, rfl⟩
  refine ⟨?_, below_drewN (Below.refl _ _) n⟩
  have e1 : (bs l).data.toList = l := bl_bs l
  rw [e1, show (⟨#[61]⟩ : ByteArray).data.toList = [61] from rfl, hc.out]
  rfl
theorem hasPrefix_any (p : List UInt8) {b : Bool} (H : Hid (p.isPrefixOf l = b)) : Calls Tryd.prog 36 #[.string (bs l), .string (bs p)] w fun e w' => e = .returned (.bool b) ∧ w = w' := by
  refine (Any.strings_HasPrefix Tryd.lays99 (bs l) (bs p) w).mono ?_
  rintro e w' ⟨rfl, h⟩
  rw [← H.out]
  exact ⟨rfl, h.symm⟩
theorem cutDash_any {t : List UInt8} {b : Bool} (H : Hid ((Lib.trimPrefix l [45], Lib.hasPrefix l [45]) = (t, b))) : Calls Tryd.prog 55 #[.string (bs l), .string ⟨#[45]⟩] w fun e w' => e = .returned (.tuple #[.string (bs t), .bool b]) ∧ w = w' := by
  refine (Any.strings_CutPrefix Tryd.lays103 (bs l) ⟨#[45]⟩ w).mono ?_
  rintro e w' ⟨rfl, h⟩
  have e1 : (bs l).data.toList = l := bl_bs l
  have h0 := H.out
  injection h0 with h1 h2
  rw [e1, show (⟨#[45]⟩ : ByteArray).data.toList = [45] from rfl, h1, h2]
  exact ⟨rfl, h.symm⟩
theorem indexByte_any (c : UInt8) {x : Int} (H : Hid (Lib.indexByte l c = x)) : Calls Tryd.prog 48 #[.string (bs l), .int .u8 (c.toNat : Int)] w fun e w' => e = .returned (.int .i64 x) ∧ w = w' := by
  refine (Any.strings_IndexByte Tryd.lays137 (bs l) (c.toNat : Int) w).mono ?_
  rintro e w' ⟨rfl, h⟩
  have e1 : (bs l).data.toList = l := bl_bs l
  have e2 : ((c.toNat : Int)).toNat.toUInt8 = c := by
    rw [Int.toNat_natCast]
    exact UInt8.ofNat_toNat
  rw [e1, e2, H.out]
  exact ⟨rfl, h.symm⟩
end
end Go.Proofs.YtpgnfianffjpnaaDoor
