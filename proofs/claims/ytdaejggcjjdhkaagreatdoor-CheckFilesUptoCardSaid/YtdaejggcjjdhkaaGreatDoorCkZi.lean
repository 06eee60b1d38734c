/- CheckFiles: the law's walk. (Printed by wip/genfilesl.py.) -/
import Derived.Test.YtdaejggcjjdhkaaGreatDoorMkN
import Derived.Test.YtdaejggcjjdhkaaGreatDoorCkLn
import Derived.Test.YtdaejggcjjdhkaaGreatDoorCkFx
import Derived.Test.YtdaejggcjjdhkaaGreatDoorCkWk
import Derived.Test.YtdaejggcjjdhkaaGreatDoorCkLe
import Derived.Test.YtdaejggcjjdhkaaGreatDoorCkOs
namespace Go.Proofs.YtdaejggcjjdhkaaGreatDoor
open Go Go.RowKit Go.Extern.Stop Go.Stop Go.Extern
theorem filP_its (x : Option (Nat × Int)) : (filP x).1 = ((numL x : Nat) : Int) ∧ ∀ m l, x = some (m, l) → (filP x).2 = l := by
  rcases x with _ | ⟨n, l⟩
  · exact ⟨rfl, fun m l h => by cases h⟩
  · exact ⟨rfl, fun m l h => by injection h with h; injection h with _ h⟩
set_option maxRecDepth 100000 in
set_option maxHeartbeats 2000000 in
theorem lawFiles (f : FM) (w : World) (hok : f.Ok w) (hsf : f.fl.Small) (hT : Tabs w) (hV : ErrVar w) (hM : Maxl w) :
    Calls Tryz.prog 3 #[.agg #[.int .u8 (f.escape.toNat : Int), f.va, f.vg]] w fun r w' => r = .returned (.bool true) ∧ Below w.heap.size w w' := by
  have hcount := count_fl f
  have HT := Lib.hid hT
  have HV := Lib.hid hV
  have HM := Lib.hid hM
  clear hT hV hM
  obtain ⟨e, va, args, vg, stages⟩ := f
  obtain ⟨Aa, ka, ea⟩ := hok.a.1.form
  obtain ⟨Ag, kg, eg⟩ := hok.g.1.form
  dsimp only at ea eg hsf hcount ⊢
  subst ea eg
  have heb : e.toNat < 256 := UInt8.toNat_lt _
  have HOK := Lib.hid hok
  have HSF := Lib.hid hsf
  obtain ⟨hsa, hsg, hsn⟩ := hsf
  have hsn2 : stages.length + (args.length + (stages.map fun g => g.ms.length).sum) ≤ 1050000 := by rw [← hcount]; have h : (stages.map GM.sg).length + _ ≤ 1050000 := hsn; rwa [List.length_map] at h
  have HSA : Hid (∀ m ∈ args, m.s.words.length + m.s.exec.length + m.s.pairs.length + m.s.docs.length ≤ 1050000) := Lib.hid fun m hm => (hsa _ (List.mem_map.2 ⟨_, hm, rfl⟩)).1
  have HSG : Hid (∀ G ∈ stages, G.ms.length ≤ 1050000 ∧ ∀ m ∈ G.ms, m.s.words.length + m.s.exec.length + m.s.pairs.length + m.s.docs.length ≤ 1050000) := Lib.hid fun G hG => ⟨by
    have h2 : G.ms.length ≤ (stages.map fun g => g.ms.length).sum := le_sum18 (List.mem_map.2 ⟨G, hG, rfl⟩)
    omega, fun m hm => ((hsg _ (List.mem_map.2 ⟨_, hG, rfl⟩)).2.2 _ (List.mem_map.2 ⟨_, hm, rfl⟩)).1⟩
  have ha1 : args.length ≤ 1050000 := by omega
  have hg1 : stages.length ≤ 1050000 := by omega
  clear hok hsa hsg hsn hsn2 hcount
  have HB1 := Lib.hid ((Below.refl w.heap.size w).alloc (Nat.le_refl _) (.cells #[.int .u8 (e.toNat : Int), .slice Aa args.length ka, .slice Ag stages.length kg] 25))
  have HF1 := Lib.hid (Blk.new w 25 #[.int .u8 (e.toNat : Int), .slice Aa args.length ka, .slice Ag stages.length kg])
  have OK1 := Lib.hid (HOK.out.new HB1.out)
  obtain ⟨w1, hw1⟩ : ∃ y, w.alloc (.cells #[.int .u8 (e.toNat : Int), .slice Aa args.length ka, .slice Ag stages.length kg] 25) = y := ⟨_, rfl⟩
  rw [hw1] at HB1 HF1 OK1
  have HW1 := Lib.hid hw1
  clear hw1
  go_enter Tryz.func3, Tryz.ntmps3
  go_upto_region 1 with fail
  rw [HW1.out]
  clear HW1
  have b0 : w1.cell? ⟨w.heap.size, 0, none⟩ = some (.int .u8 (e.toNat : Int)) := HF1.out.cell 0
  have b1 : w1.cell? ⟨w.heap.size, 1, none⟩ = some (.slice Aa args.length ka) := HF1.out.cell 1
  have b2 : w1.cell? ⟨w.heap.size, 2, none⟩ = some (.slice Ag stages.length kg) := HF1.out.cell 2
  go_wp2_with fail
  refine (few_any (⟨e, .slice Aa args.length ka, args, .slice Ag stages.length kg, stages⟩ : FM) w1 OK1.out HSF.out).mono ?_
  rintro r w2 ⟨t1, rfl, p2⟩
  have OK2 := Lib.hid (OK1.out.new p2)
  have HB2 := Lib.hid (below_of_below HB1.out p2 HB1.out.size)
  have HF2 := Lib.hid (HF1.out.below p2 HF1.out.lt)
  clear p2 OK1 HB1 HF1 
  clear b0 b1 b2
  cases t1 with
  | false =>
    go_wp2_with fail
    go_ret
    exact ⟨rfl, HB2.out⟩
  | true =>
    have b0 : w2.cell? ⟨w.heap.size, 0, none⟩ = some (.int .u8 (e.toNat : Int)) := HF2.out.cell 0
    have b1 : w2.cell? ⟨w.heap.size, 1, none⟩ = some (.slice Aa args.length ka) := HF2.out.cell 1
    have b2 : w2.cell? ⟨w.heap.size, 2, none⟩ = some (.slice Ag stages.length kg) := HF2.out.cell 2
    obtain ⟨x, HX⟩ : ∃ x, Hid (Ck.fileL (FM.fl (⟨e, .slice Aa args.length ka, args, .slice Ag stages.length kg, stages⟩ : FM)) = x) := ⟨_, Lib.hid rfl⟩
    obtain ⟨hp1, hp2⟩ := filP_its x
    obtain ⟨n, hn⟩ : ∃ n, numL x = n := ⟨_, rfl⟩
    obtain ⟨l, hl⟩ : ∃ l, (filP x).2 = l := ⟨_, rfl⟩
    have HC18 := Lib.hid (file18_any (⟨e, .slice Aa args.length ka, args, .slice Ag stages.length kg, stages⟩ : FM) w2 OK2.out HSF.out HX)
    rw [hp1, hl, hn] at HC18
    rw [hl] at hp2
    have HN := Lib.hid hn
    have HP2 := Lib.hid hp2
    have HOKN : Hid (OkN x) := Lib.hid (by rw [← HX.out]; exact Ck.file_ok _)
    clear hn hp1 hl hp2
    go_wp2_with fail
    refine HC18.out.mono ?_
    rintro r w3 ⟨rfl, p3⟩
    clear HC18
    have OK3 := Lib.hid (OK2.out.new p3)
    have HB3 := Lib.hid (below_of_below HB2.out p3 HB2.out.size)
    have HF3 := Lib.hid (HF2.out.below p3 HF2.out.lt)
    clear p3 OK2 HB2 HF2 
    clear b0 b1 b2
    have b0 : w3.cell? ⟨w.heap.size, 0, none⟩ = some (.int .u8 (e.toNat : Int)) := HF3.out.cell 0
    have b1 : w3.cell? ⟨w.heap.size, 1, none⟩ = some (.slice Aa args.length ka) := HF3.out.cell 1
    have b2 : w3.cell? ⟨w.heap.size, 2, none⟩ = some (.slice Ag stages.length kg) := HF3.out.cell 2
    have HCL := Lib.hid (lentFile_any (⟨e, .slice Aa args.length ka, args, .slice Ag stages.length kg, stages⟩ : FM) w3 OK3.out HSF.out)
    go_wp2_with fail
    refine HCL.out.mono ?_
    rintro r w4 ⟨⟨va1, vg1, args1, stages1, rfl, hls, hlg, hea, heg⟩, p4⟩
    obtain ⟨ga, ca, e1, _⟩ := hls.r
    obtain ⟨gg, cg, e2, _⟩ := hlg.r
    subst e1 e2
    have LS4 := Lib.hid hls
    have LG4 := Lib.hid hlg
    have HEA := Lib.hid hea
    have HEG := Lib.hid heg
    have HFL : Hid (FM.fl (⟨e, .slice (some ⟨ga, 0, none⟩) args1.length ca, args1, .slice (some ⟨gg, 0, none⟩) stages1.length cg, stages1⟩ : FM) = FM.fl (⟨e, .slice Aa args.length ka, args, .slice Ag stages.length kg, stages⟩ : FM)) := Lib.hid (by show (⟨_, _, _⟩ : Ck.Fl) = ⟨_, _, _⟩; rw [hea, heg])
    clear HCL hls hlg hea heg b0 b1 b2
    have OK4 := Lib.hid (OK3.out.new p4)
    have HB4 := Lib.hid (below_of_below HB3.out p4 HB3.out.size)
    have HF4 := Lib.hid (HF3.out.below p4 HF3.out.lt)
    clear p4 OK3 HB3 HF3 
    have p5 := (Below.refl w4.heap.size w4).alloc (Nat.le_refl _) (.cells #[.int .u8 (e.toNat : Int), .slice (some ⟨ga, 0, none⟩) args1.length ca, .slice (some ⟨gg, 0, none⟩) stages1.length cg] 25)
    have HZ5 := Lib.hid (Blk.new w4 25 #[.int .u8 (e.toNat : Int), .slice (some ⟨ga, 0, none⟩) args1.length ca, .slice (some ⟨gg, 0, none⟩) stages1.length cg])
    have LS5 := Lib.hid (LS4.out.new p5)
    have LG5 := Lib.hid (LG4.out.new p5)
    clear LS4 LG4
    have OK5 := Lib.hid (OK4.out.new p5)
    have HB5 := Lib.hid (below_of_below HB4.out p5 HB4.out.size)
    have HF5 := Lib.hid (HF4.out.below p5 HF4.out.lt)
    clear p5 OK4 HB4 HF4 
    go_upto_region 5 with fail
    obtain ⟨w5, hw5⟩ : ∃ y, w4.alloc (.cells #[.int .u8 (e.toNat : Int), .slice (some ⟨ga, 0, none⟩) args1.length ca, .slice (some ⟨gg, 0, none⟩) stages1.length cg] 25) = y := ⟨_, rfl⟩
    obtain ⟨Z, hZ⟩ : ∃ Z, w4.heap.size = Z := ⟨_, rfl⟩
    rw [hw5] at OK5 HB5 HF5 HZ5 LS5 LG5
    rw [hZ] at HZ5
    rw [hw5, hZ]
    clear hw5 hZ
    have HXS : Hid ((FM.fl (⟨e, .slice (some ⟨ga, 0, none⟩) args1.length ca, args1, .slice (some ⟨gg, 0, none⟩) stages1.length cg, stages1⟩ : FM)).Small) := Lib.hid (by rw [HFL.out]; exact HSF.out)
    have HXX : Hid (Ck.fileL (FM.fl (⟨e, .slice (some ⟨ga, 0, none⟩) args1.length ca, args1, .slice (some ⟨gg, 0, none⟩) stages1.length cg, stages1⟩ : FM)) = x) := Lib.hid (by rw [HFL.out]; exact HX.out)
    obtain ⟨fv, hfv⟩ : ∃ y, filV x = y := ⟨_, rfl⟩
    have HFV := Lib.hid hfv
    clear hfv
    have z0 : w5.cell? ⟨Z, 0, none⟩ = some (.int .u8 (e.toNat : Int)) := HZ5.out.cell 0
    have z1 : w5.cell? ⟨Z, 1, none⟩ = some (.slice (some ⟨ga, 0, none⟩) args1.length ca) := HZ5.out.cell 1
    have z2 : w5.cell? ⟨Z, 2, none⟩ = some (.slice (some ⟨gg, 0, none⟩) stages1.length cg) := HZ5.out.cell 2
    have HCF := Lib.hid (file_any (⟨e, .slice (some ⟨ga, 0, none⟩) args1.length ca, args1, .slice (some ⟨gg, 0, none⟩) stages1.length cg, stages1⟩ : FM) w5 ⟨LS5.out.ok, LG5.out.ok⟩ HXS.out (HT.out.new HB5.out) (HM.out.grow HB5.out) (HV.out.below HB5.out HV.out.lt) HXX)
    rw [HFV.out] at HCF
    go_wp2_with fail
    refine HCF.out.mono ?_
    rintro r w6 ⟨rfl, p⟩
    clear HCF z0 z1 z2
    have OK6 := Lib.hid (OK5.out.new p)
    have HB6 := Lib.hid (below_of_below HB5.out p HB5.out.size)
    have HF6 := Lib.hid (HF5.out.below p HF5.out.lt)
    have HZ6 := Lib.hid (HZ5.out.below p HZ5.out.lt)
    have LS6 := Lib.hid (LS5.out.new p)
    have LG6 := Lib.hid (LG5.out.new p)
    clear p OK5 HB5 HF5 HZ5 LS5 LG5
    have HTD := Lib.hid (told_is x HOKN.out n HN.out l HP2.out w6 (HV.out.below HB6.out HV.out.lt))
    rw [HFV.out] at HTD
    go_wp2_with fail
    refine HTD.out.mono ?_
    rintro r w7 ⟨rfl, p⟩
    clear HTD
    have OK7 := Lib.hid (OK6.out.new p)
    have HB7 := Lib.hid (below_of_below HB6.out p HB6.out.size)
    have HF7 := Lib.hid (HF6.out.below p HF6.out.lt)
    have HZ7 := Lib.hid (HZ6.out.below p HZ6.out.lt)
    have LS7 := Lib.hid (LS6.out.new p)
    have LG7 := Lib.hid (LG6.out.new p)
    clear p OK6 HB6 HF6 HZ6 LS6 LG6
    have z0 : w7.cell? ⟨Z, 0, none⟩ = some (.int .u8 (e.toNat : Int)) := HZ7.out.cell 0
    have z1 : w7.cell? ⟨Z, 1, none⟩ = some (.slice (some ⟨ga, 0, none⟩) args1.length ca) := HZ7.out.cell 1
    have z2 : w7.cell? ⟨Z, 2, none⟩ = some (.slice (some ⟨gg, 0, none⟩) stages1.length cg) := HZ7.out.cell 2
    have HCF := Lib.hid (file_any (⟨e, .slice (some ⟨ga, 0, none⟩) args1.length ca, args1, .slice (some ⟨gg, 0, none⟩) stages1.length cg, stages1⟩ : FM) w7 ⟨LS7.out.ok, LG7.out.ok⟩ HXS.out (HT.out.new HB7.out) (HM.out.grow HB7.out) (HV.out.below HB7.out HV.out.lt) HXX)
    rw [HFV.out] at HCF
    go_wp2_with fail
    refine HCF.out.mono ?_
    rintro r w8 ⟨rfl, p⟩
    clear HCF z0 z1 z2
    have OK8 := Lib.hid (OK7.out.new p)
    have HB8 := Lib.hid (below_of_below HB7.out p HB7.out.size)
    have HF8 := Lib.hid (HF7.out.below p HF7.out.lt)
    have HZ8 := Lib.hid (HZ7.out.below p HZ7.out.lt)
    have LS8 := Lib.hid (LS7.out.new p)
    have LG8 := Lib.hid (LG7.out.new p)
    clear p OK7 HB7 HF7 HZ7 LS7 LG7
    have HTD := Lib.hid (told_is x HOKN.out n HN.out l HP2.out w8 (HV.out.below HB8.out HV.out.lt))
    rw [HFV.out] at HTD
    go_wp2_with fail
    refine HTD.out.mono ?_
    rintro r w9 ⟨rfl, p⟩
    clear HTD
    have OK9 := Lib.hid (OK8.out.new p)
    have HB9 := Lib.hid (below_of_below HB8.out p HB8.out.size)
    have HF9 := Lib.hid (HF8.out.below p HF8.out.lt)
    have HZ9 := Lib.hid (HZ8.out.below p HZ8.out.lt)
    have LS9 := Lib.hid (LS8.out.new p)
    have LG9 := Lib.hid (LG8.out.new p)
    clear p OK8 HB8 HF8 HZ8 LS8 LG8
    have z0 : w9.cell? ⟨Z, 0, none⟩ = some (.int .u8 (e.toNat : Int)) := HZ9.out.cell 0
    have z1 : w9.cell? ⟨Z, 1, none⟩ = some (.slice (some ⟨ga, 0, none⟩) args1.length ca) := HZ9.out.cell 1
    have z2 : w9.cell? ⟨Z, 2, none⟩ = some (.slice (some ⟨gg, 0, none⟩) stages1.length cg) := HZ9.out.cell 2
    have b0 : w9.cell? ⟨w.heap.size, 0, none⟩ = some (.int .u8 (e.toNat : Int)) := HF9.out.cell 0
    have b1 : w9.cell? ⟨w.heap.size, 1, none⟩ = some (.slice Aa args.length ka) := HF9.out.cell 1
    have b2 : w9.cell? ⟨w.heap.size, 2, none⟩ = some (.slice Ag stages.length kg) := HF9.out.cell 2
    have HCK := Lib.hid (keptFile_any e args args1 stages stages1 Aa (some ⟨ga, 0, none⟩) Ag (some ⟨gg, 0, none⟩) ka ca kg cg w9 LS9.out LG9.out OK9.out.a OK9.out.g HEA.out HEG.out HSA.out HSG.out ha1 hg1)
    go_wp2_with fail
    refine HCK.out.mono ?_
    rintro r w10 ⟨rfl, p⟩
    have HB10 := Lib.hid (below_of_below HB9.out p HB9.out.size)
    clear p HCK z0 z1 z2 b0 b1 b2 OK9 HF9 HZ9 LS9 LG9 HB9
    have HWK := Lib.hid (works_ck w10 (HT.out.new HB10.out) (HV.out.below HB10.out HV.out.lt) (HM.out.grow HB10.out))
    go_wp2_with fail
    refine HWK.out.mono ?_
    rintro r w11 ⟨rfl, p⟩
    have HB11 := Lib.hid (below_of_below HB10.out p HB10.out.size)
    clear p HWK
    go_wp2_with fail
    go_ret
    exact ⟨rfl, HB11.out⟩
theorem lawFilesW (f : FM) (w : World) (h1 : f.Ok w) (h2 : FlLe 1048576 f) (hT : Tabs w) (hV : ErrVar w) (hM : Maxl w) :
    Calls Tryz.prog 3 #[f.val] w fun r w' => r = .returned (.bool true) ∧ Below w.heap.size w w' := lawFiles f w h1 (small_fl h2) hT hV hM
end Go.Proofs.YtdaejggcjjdhkaaGreatDoor
