/- CkWk, CkTl -/
import Derived.Test.YtdaejggcjjdhkaaGreatDoorCkFile
import Derived.Test.YtdaejggcjjdhkaaGreatDoorMkB
import Derived.Test.YtdaejggcjjdhkaaGreatDoorMkF
import Derived.Test.YtdaejggcjjdhkaaGreatDoorCkV
import Derived.Deep.RegionHeld3
import Derived.Deep.DeepCutAuto
set_option maxHeartbeats 1000000
set_option maxRecDepth 100000
namespace Go.Proofs.YtdaejggcjjdhkaaGreatDoor
open Go Go.RowKit Go.Extern.Stop Go.Stop Go.Extern
theorem WH:Ck.right.Small:=⟨(fun _ h=>by cases h),fun g hg=>by rw [Ck.right,Jv] at hg;subst hg;exact ⟨by decide,by decide,fun s hs=>by rw [Jv] at hs;subst hs;exact ⟨by decide,by decide⟩⟩,by decide⟩
theorem WG:Ck.wrong.Small:=⟨(fun _ h=>by cases h),fun g hg=>by rw [Ck.wrong,Jv] at hg;subst hg;exact ⟨by decide,by decide,fun s hs=>by cases hs⟩,by decide⟩
theorem Vz:Ck.Fl.Small ⟨92,[],[]⟩:=⟨(fun _ h=>by cases h),(fun _ h=>by cases h),by decide⟩
def XZ (h:Nat):FM:=⟨92,.slice none 0 0,[],.slice (some ⟨h+1+1,0,none⟩) 1 1,[⟨1,Ck.scratch,[],.slice (some ⟨h+1,0,none⟩) 1 1,[⟨⟨2,2,[],[],false,[⟨[65],[39,120,39]⟩],false,[],[],[]⟩,.slice (some ⟨h,0,none⟩) 1 1,.slice none 0 0,.slice none 0 0,.slice none 0 0⟩]⟩]⟩
def XP (h:Nat):FM:=⟨92,.slice none 0 0,[],.slice (some ⟨h+1+1+1+1,0,none⟩) 1 1,[⟨1,Ck.scratch,[65],.slice none 0 0,[]⟩]⟩
def noneM:FM:=⟨92,.slice none 0 0,[],.slice none 0 0,[]⟩
theorem QI {wx w:World} (h0:Blk wx w.heap.size 61 #[.string ⟨#[65]⟩,.string ⟨#[39,120,39]⟩]) (h1:Blk wx (w.heap.size+1) 41 #[.int .i64 2,.int .i64 2,.string ⟨#[]⟩,.string ⟨#[]⟩,.bool false,.slice (some ⟨w.heap.size,0,none⟩) 1 1,.bool false,.slice none 0 0,.slice none 0 0,.slice none 0 0]) (h2:Blk wx (w.heap.size+1+1) 53 #[.int .i64 1,.string ⟨#[115,99,114,97,116,99,104]⟩,.string ⟨#[]⟩,.slice (some ⟨w.heap.size+1,0,none⟩) 1 1]):(XZ w.heap.size).Ok wx:=
 ⟨⟨SlA.none wx,fun _ h=>by cases h⟩,⟨SlA.blk (cs:=yH (XZ w.heap.size).stages) h2,fun g hg=>by rw [XZ,Jv] at hg;subst hg;refine ⟨SlA.blk (cs:=yv _) h1,fun m hm=>?_⟩;rw [Jv] at hm;subst hm;exact ⟨SlA.blk (cs:=yV _) h0,SlA.none wx,SlA.none wx,SlA.none wx,fun A n c e=>WK e (Jd _)⟩⟩⟩
theorem Qo {wx w:World} (h:Blk wx (w.heap.size+1+1+1+1) 53 #[.int .i64 1,.string ⟨#[115,99,114,97,116,99,104]⟩,.string ⟨#[65]⟩,.slice none 0 0]):(XP w.heap.size).Ok wx:=
 ⟨⟨SlA.none wx,fun _ h=>by cases h⟩,⟨SlA.blk (cs:=yH (XP w.heap.size).stages) h,fun g hg=>by rw [XP,Jv] at hg;subst hg;exact ⟨SlA.none wx,fun m hm=>by cases hm⟩⟩⟩
theorem jH (wx:World):noneM.Ok wx:=⟨⟨SlA.none wx,fun _ h=>by cases h⟩,⟨SlA.none wx,fun _ h=>by cases h⟩⟩
theorem zU (w:World) (hT:Tabs w) (hv:ErrVar w) (hm:Maxl w):Calls Tryz.prog 16 #[] w fun e w'=>e=.returned (.bool true)∧Below w.heap.size w w':=by
 have HT:=hY hT;have HV:=hY hv;have HM:=hY hm;clear hT hv hm;obtain ⟨w1,e1⟩:∃ y,w.alloc (.cells #[.string ⟨#[65]⟩,.string ⟨#[39,120,39]⟩] 61)=y:=⟨_,rfl⟩
 have z1:w1.heap.size=w.heap.size+1:=by rw [←e1,Jb]
 have k0:Blk w1 (w.heap.size) 61 #[.string ⟨#[65]⟩,.string ⟨#[39,120,39]⟩]:=by have q:=Blk.new w 61 #[.string ⟨#[65]⟩,.string ⟨#[39,120,39]⟩];rw [e1] at q;exact q
 have g1:Below w.heap.size w w1:=by rw [←e1];exact (Ja _ _).alloc (Jd _) _
 obtain ⟨w2,e2⟩:∃ y,w1.alloc (.cells #[.int .i64 2,.int .i64 2,.string ⟨#[]⟩,.string ⟨#[]⟩,.bool false,.slice (some ⟨w.heap.size,0,none⟩) 1 1,.bool false,.slice none 0 0,.slice none 0 0,.slice none 0 0] 41)=y:=⟨_,rfl⟩
 have z2:w2.heap.size=w.heap.size+1+1:=by rw [←e2,Jb,z1]
 have k1:Blk w2 (w.heap.size+1) 41 #[.int .i64 2,.int .i64 2,.string ⟨#[]⟩,.string ⟨#[]⟩,.bool false,.slice (some ⟨w.heap.size,0,none⟩) 1 1,.bool false,.slice none 0 0,.slice none 0 0,.slice none 0 0]:=by have q:=Blk.new w1 41 #[.int .i64 2,.int .i64 2,.string ⟨#[]⟩,.string ⟨#[]⟩,.bool false,.slice (some ⟨w.heap.size,0,none⟩) 1 1,.bool false,.slice none 0 0,.slice none 0 0,.slice none 0 0];rw [e2,z1] at q;exact q
 have g2:Below w.heap.size w w2:=by rw [←e2];exact g1.alloc g1.size _
 obtain ⟨w3,e3⟩:∃ y,w2.alloc (.cells #[.int .i64 1,.string ⟨#[115,99,114,97,116,99,104]⟩,.string ⟨#[]⟩,.slice (some ⟨w.heap.size+1,0,none⟩) 1 1] 53)=y:=⟨_,rfl⟩
 have z3:w3.heap.size=w.heap.size+1+1+1:=by rw [←e3,Jb,z2]
 have k2:Blk w3 (w.heap.size+1+1) 53 #[.int .i64 1,.string ⟨#[115,99,114,97,116,99,104]⟩,.string ⟨#[]⟩,.slice (some ⟨w.heap.size+1,0,none⟩) 1 1]:=by have q:=Blk.new w2 53 #[.int .i64 1,.string ⟨#[115,99,114,97,116,99,104]⟩,.string ⟨#[]⟩,.slice (some ⟨w.heap.size+1,0,none⟩) 1 1];rw [e3,z2] at q;exact q
 have g3:Below w.heap.size w w3:=by rw [←e3];exact g2.alloc g2.size _
 obtain ⟨w4,e4⟩:∃ y,w3.alloc (.cells #[.int .u8 92,.slice none 0 0,.slice (some ⟨w.heap.size+1+1,0,none⟩) 1 1] 25)=y:=⟨_,rfl⟩
 have z4:w4.heap.size=w.heap.size+1+1+1+1:=by rw [←e4,Jb,z3]
 have k3:Blk w4 (w.heap.size+1+1+1) 25 #[.int .u8 92,.slice none 0 0,.slice (some ⟨w.heap.size+1+1,0,none⟩) 1 1]:=by have q:=Blk.new w3 25 #[.int .u8 92,.slice none 0 0,.slice (some ⟨w.heap.size+1+1,0,none⟩) 1 1];rw [e4,z3] at q;exact q
 have g4:Below w.heap.size w w4:=by rw [←e4];exact g3.alloc g3.size _
 obtain ⟨w5,e5⟩:∃ y,w4.alloc (.cells #[.int .i64 1,.string ⟨#[115,99,114,97,116,99,104]⟩,.string ⟨#[65]⟩,.slice none 0 0] 53)=y:=⟨_,rfl⟩
 have z5:w5.heap.size=w.heap.size+1+1+1+1+1:=by rw [←e5,Jb,z4]
 have k4:Blk w5 (w.heap.size+1+1+1+1) 53 #[.int .i64 1,.string ⟨#[115,99,114,97,116,99,104]⟩,.string ⟨#[65]⟩,.slice none 0 0]:=by have q:=Blk.new w4 53 #[.int .i64 1,.string ⟨#[115,99,114,97,116,99,104]⟩,.string ⟨#[65]⟩,.slice none 0 0];rw [e5,z4] at q;exact q
 have g5:Below w.heap.size w w5:=by rw [←e5];exact g4.alloc g4.size _
 obtain ⟨w6,e6⟩:∃ y,w5.alloc (.cells #[.int .u8 92,.slice none 0 0,.slice (some ⟨w.heap.size+1+1+1+1,0,none⟩) 1 1] 25)=y:=⟨_,rfl⟩
 have z6:w6.heap.size=w.heap.size+1+1+1+1+1+1:=by rw [←e6,Jb,z5]
 have k5:Blk w6 (w.heap.size+1+1+1+1+1) 25 #[.int .u8 92,.slice none 0 0,.slice (some ⟨w.heap.size+1+1+1+1,0,none⟩) 1 1]:=by have q:=Blk.new w5 25 #[.int .u8 92,.slice none 0 0,.slice (some ⟨w.heap.size+1+1+1+1,0,none⟩) 1 1];rw [e6,z5] at q;exact q
 have g6:Below w.heap.size w w6:=by rw [←e6];exact g5.alloc g5.size _
 have K0:Hid (Blk w6 (w.heap.size) 61 #[.string ⟨#[65]⟩,.string ⟨#[39,120,39]⟩]):=hY (by rw [←e6];exact Blk.alloc ((by rw [←e5];exact Blk.alloc ((by rw [←e4];exact Blk.alloc ((by rw [←e3];exact Blk.alloc ((by rw [←e2];exact Blk.alloc (k0) _:Blk w2 _ _ _)) _:Blk w3 _ _ _)) _:Blk w4 _ _ _)) _:Blk w5 _ _ _)) _:Blk w6 _ _ _);have K1:Hid (Blk w6 (w.heap.size+1) 41 #[.int .i64 2,.int .i64 2,.string ⟨#[]⟩,.string ⟨#[]⟩,.bool false,.slice (some ⟨w.heap.size,0,none⟩) 1 1,.bool false,.slice none 0 0,.slice none 0 0,.slice none 0 0]):=hY (by rw [←e6];exact Blk.alloc ((by rw [←e5];exact Blk.alloc ((by rw [←e4];exact Blk.alloc ((by rw [←e3];exact Blk.alloc (k1) _:Blk w3 _ _ _)) _:Blk w4 _ _ _)) _:Blk w5 _ _ _)) _:Blk w6 _ _ _);have K2:Hid (Blk w6 (w.heap.size+1+1) 53 #[.int .i64 1,.string ⟨#[115,99,114,97,116,99,104]⟩,.string ⟨#[]⟩,.slice (some ⟨w.heap.size+1,0,none⟩) 1 1]):=hY (by rw [←e6];exact Blk.alloc ((by rw [←e5];exact Blk.alloc ((by rw [←e4];exact Blk.alloc (k2) _:Blk w4 _ _ _)) _:Blk w5 _ _ _)) _:Blk w6 _ _ _);have K3:Hid (Blk w6 (w.heap.size+1+1+1) 25 #[.int .u8 92,.slice none 0 0,.slice (some ⟨w.heap.size+1+1,0,none⟩) 1 1]):=hY (by rw [←e6];exact Blk.alloc ((by rw [←e5];exact Blk.alloc (k3) _:Blk w5 _ _ _)) _:Blk w6 _ _ _);have K4:Hid (Blk w6 (w.heap.size+1+1+1+1) 53 #[.int .i64 1,.string ⟨#[115,99,114,97,116,99,104]⟩,.string ⟨#[65]⟩,.slice none 0 0]):=hY (by rw [←e6];exact Blk.alloc (k4) _:Blk w6 _ _ _);have K5:Hid (Blk w6 (w.heap.size+1+1+1+1+1) 25 #[.int .u8 92,.slice none 0 0,.slice (some ⟨w.heap.size+1+1+1+1,0,none⟩) 1 1]):=hY k5;have G6:=hY g6;have Z6:=hY z6
 have E6:Hid ((((((w.alloc (.cells #[.string ⟨#[65]⟩,.string ⟨#[39,120,39]⟩] 61)).alloc (.cells #[.int .i64 2,.int .i64 2,.string ⟨#[]⟩,.string ⟨#[]⟩,.bool false,.slice (some ⟨w.heap.size,0,none⟩) 1 1,.bool false,.slice none 0 0,.slice none 0 0,.slice none 0 0] 41)).alloc (.cells #[.int .i64 1,.string ⟨#[115,99,114,97,116,99,104]⟩,.string ⟨#[]⟩,.slice (some ⟨w.heap.size+1,0,none⟩) 1 1] 53)).alloc (.cells #[.int .u8 92,.slice none 0 0,.slice (some ⟨w.heap.size+1+1,0,none⟩) 1 1] 25)).alloc (.cells #[.int .i64 1,.string ⟨#[115,99,114,97,116,99,104]⟩,.string ⟨#[65]⟩,.slice none 0 0] 53)).alloc (.cells #[.int .u8 92,.slice none 0 0,.slice (some ⟨w.heap.size+1+1+1+1,0,none⟩) 1 1] 25)=w6):=hY (by rw [e1,e2,e3,e4,e5,e6]);clear e1 e2 e3 e4 e5 e6 z1 z2 z3 z4 z5 z6 k0 k1 k2 k3 k4 k5 g1 g2 g3 g4 g5 g6;go_enter Tryz.func16,Tryz.ntmps16;go_upto_region 3 with fail;rw [E6.out];clear E6;have b0:w6.cell? ⟨w.heap.size+1+1+1,0,none⟩=some (.int .u8 92):=K3.out.cell 0;have b1:w6.cell? ⟨w.heap.size+1+1+1,1,none⟩=some (.slice none 0 0):=K3.out.cell 1;have b2:w6.cell? ⟨w.heap.size+1+1+1,2,none⟩=some (.slice (some ⟨w.heap.size+1+1,0,none⟩) 1 1):=K3.out.cell 2;have HT6:=hY (HT.out.new G6.out);have HV6:=hY (HV.out.below G6.out HV.out.lt);have HM6:=hY (HM.out.grow G6.out);go_wp2_with fail;refine (zN (XZ w.heap.size) w6 (QI K0.out K1.out K2.out) WH HT6.out HM6.out HV6.out (hY Ck.right_is)).mono ?_;rintro r w7 ⟨hr,p7⟩;obtain rfl:r=.returned (.nilIface):=hr;have G7:=hY (G6.out.trans (p7.mono G6.out.size));have K4':=hY (K4.out.below p7 K4.out.lt);have K5':=hY (K5.out.below p7 K5.out.lt);clear p7 b0 b1 b2;have HT7:=hY (HT.out.new G7.out)
 have HV7:=hY (HV.out.below G7.out HV.out.lt);have HM7:=hY (HM.out.grow G7.out);have b0:w7.cell? ⟨w.heap.size+1+1+1+1+1,0,none⟩=some (.int .u8 92):=K5'.out.cell 0;have b1:w7.cell? ⟨w.heap.size+1+1+1+1+1,1,none⟩=some (.slice none 0 0):=K5'.out.cell 1;have b2:w7.cell? ⟨w.heap.size+1+1+1+1+1,2,none⟩=some (.slice (some ⟨w.heap.size+1+1+1+1,0,none⟩) 1 1):=K5'.out.cell 2;go_wp2_with fail;refine (zN (XP w.heap.size) w7 (Qo K4'.out) WG HT7.out HM7.out HV7.out (hY Ck.wrong_is)).mono ?_;rintro r w8 ⟨hr,p8⟩;obtain rfl:r=.returned (zx 8 1 0):=hr;have G8:=hY (G7.out.trans (p8.mono G7.out.size));clear p8 b0 b1 b2;go_wp2_with fail;refine (yj 8 1 (by decide) (by decide) w8 (HV.out.below G8.out HV.out.lt)).mono ?_;rintro r w9 ⟨rfl,p9⟩;have G9:=hY (G8.out.trans (p9.mono G8.out.size));clear p9;go_wp2_with fail;refine (zN noneM w9 (jH w9) Vz (HT.out.new G9.out) (HM.out.grow G9.out) (HV.out.below G9.out HV.out.lt) (hY Ck.none_is)).mono ?_;rintro r wa ⟨hr,pa⟩;obtain rfl:r=.returned (zx 2 0 0):=hr;have Ga:=hY (G9.out.trans (pa.mono G9.out.size));clear pa;go_wp2_with fail;refine (yj 2 0 (by decide) (by decide) wa (HV.out.below Ga.out HV.out.lt)).mono ?_;rintro r wb ⟨rfl,pb⟩;have Gb:=hY (Ga.out.trans (pb.mono Ga.out.size));clear pb;go_wp2_with fail;refine (yr [97,47,98,58,99] (by decide) wb (HM.out.grow Gb.out) (hY Ck.ref_right)).mono ?_;rintro r wc ⟨hr,pc⟩;obtain rfl:r=.returned (.nilIface):=hr;have Gc:=hY (Gb.out.trans (pc.mono Gb.out.size));clear pc;go_wp2_with fail;refine (yr [65] (by decide) wc (HM.out.grow Gc.out) (hY Ck.ref_wrong)).mono ?_;rintro r wd ⟨hr,pd⟩;obtain rfl:r=.returned (.iface 70 (.int .i64 31)):=hr;have Gd:=hY (Gc.out.trans (pd.mono Gc.out.size));clear pd;go_wp2_with fail;refine (ZC wd (HV.out.below Gd.out HV.out.lt)).mono ?_;rintro r we ⟨rfl,pe⟩
 go_wp2_with fail;go_ret;exact ⟨rfl,Gd.out.trans (pe.mono Gd.out.size)⟩
end Go.Proofs.YtdaejggcjjdhkaaGreatDoor
namespace Go.Proofs.YtdaejggcjjdhkaaGreatDoor
open Go Go.RowKit Go.Extern.Stop Go.Stop Go.Extern
theorem ErrVar.drw {w:World} (h:ErrVar w):ErrVar w.drew:=h.below ((Ja _ _).drew) h.lt
theorem ref_yes (s:List UInt8) (hs:s.length≤1100000) (w:World) (hm:Maxl w) (h:Ck.refR s=true):Calls Tryz.prog 20 #[.string (bs s)] w fun e w'=>e=.returned .nilIface∧Below w.heap.size w w':=yr s hs w hm (b:=true) (hY h)
theorem ref_not (s:List UInt8) (hs:s.length≤1100000) (w:World) (hm:Maxl w) (h:Ck.refR s=false):Calls Tryz.prog 20 #[.string (bs s)] w fun e w'=>e=.returned (.iface 70 (.int .i64 31))∧Below w.heap.size w w':=yr s hs w hm (b:=false) (hY h)
theorem lawTags (p q:ByteArray) (w:World) (hT:Tabs w) (hg:ErrVar w) (hm:Maxl w):Calls Tryz.prog 8 #[.string p,.string q] w fun e w'=>e=.returned (.bool true)∧Below w.heap.size w w':=by
 have HT:=hY hT;have HV:=hY hg;have HM:=hY hm;clear hT hg hm;obtain ⟨s,rfl⟩:∃ s,p=bs s:=⟨bl p,(Ym p).symm⟩
 obtain ⟨t,rfl⟩:∃ t,q=bs t:=⟨bl q,(Ym q).symm⟩
 have zs:=zd s;have zt:=zd t;have ZS:=hY zs;have ZT:=hY zt;rcases Jh 65536 (bs s).size with ls | ls
 · have k1:decide ((65536:Int)<((bs s).size:Int))=true:=dT (by omega);clear zs zt;go_enter Tryz.func8,Tryz.ntmps8;go_wp2_with fail;go_ret;exact ⟨rfl,Ja _ _⟩
 · have k1:decide ((65536:Int)<((bs s).size:Int))=false:=dF (by omega);have k1':¬ (65536:Int)<((bs s).size:Int):=by omega
   rcases Jh 65536 (bs t).size with lt | lt
   · have k2:decide ((65536:Int)<((bs t).size:Int))=true:=dT (by omega);clear zs zt;go_enter Tryz.func8,Tryz.ntmps8;go_wp2_with fail;go_ret;exact ⟨rfl,Ja _ _⟩
   · have k2:decide ((65536:Int)<((bs t).size:Int))=false:=dF (by omega);have k2':¬ (65536:Int)<((bs t).size:Int):=by omega
     have ls':s.length≤65536:=by omega
     have lt':t.length≤65536:=by omega
     have lat:Ck.latest.length=6:=rfl;have zl:(⟨#[58,108,97,116,101,115,116]⟩:ByteArray).size=7:=rfl;obtain ⟨V1,hV1⟩:∃ V,bs s++⟨#[58,108,97,116,101,115,116]⟩=V:=⟨_,rfl⟩
     have ad1:∀ w,(Op.stringOp .add (bs s) ⟨#[58,108,97,116,101,115,116]⟩).run Tryz.prog w=.ok (.string V1) w:=fun w=>by rw [←hV1];exact run_string_add_sum w _ _ (by rw [zl];omega)
     have HV1:Hid (V1=bs (s++58::Ck.latest)):=by show _=_;rw [←hV1,←yJ];rfl
     obtain ⟨V2,hV2⟩:∃ V,(⟨#[97,58]⟩:ByteArray)++bs t=V:=⟨_,rfl⟩
     have z2:(⟨#[97,58]⟩:ByteArray).size=2:=rfl;have ad2:∀ w,(Op.stringOp .add ⟨#[97,58]⟩ (bs t)).run Tryz.prog w=.ok (.string V2) w:=fun w=>by rw [←hV2];exact run_string_add_sum w _ _ (by rw [z2];omega)
     have HV2:Hid (V2=bs ([97]++58::t)):=by show _=_;rw [←hV2];rw [show (⟨#[97,58]⟩:ByteArray)=bs [97,58] from rfl,←yJ];rfl
     obtain ⟨V3,hV3⟩:∃ V,bs s++⟨#[58]⟩=V:=⟨_,rfl⟩
     have z3:(⟨#[58]⟩:ByteArray).size=1:=rfl;have ad3:∀ w,(Op.stringOp .add (bs s) ⟨#[58]⟩).run Tryz.prog w=.ok (.string V3) w:=fun w=>by rw [←hV3];exact run_string_add_sum w _ _ (by rw [z3];omega)
     have z4:V3.size≤65537:=by rw [←hV3,Kp,z3];omega
     obtain ⟨V4,hV4⟩:∃ V,V3++bs t=V:=⟨_,rfl⟩
     have ad4:∀ w,(Op.stringOp .add V3 (bs t)).run Tryz.prog w=.ok (.string V4) w:=fun w=>by rw [←hV4];exact run_string_add_sum w _ _ (by omega)
     have HV4:Hid (V4=bs (s++58::t)):=by show _=_;rw [←hV4,←hV3];rw [show (⟨#[58]⟩:ByteArray)=bs [58] from rfl,yJ,yJ,Kv];rfl
     obtain ⟨b0,HB0⟩:∃ b,Hid (Ck.refR s=b):=⟨_,hY rfl⟩
     have l1:(s++58::Ck.latest).length≤1100000:=by rw [Jf,Ji,lat];omega
     have l2:([97]++58::t).length≤1100000:=by rw [Jf,Ji,Ji,Jp];omega
     have l4:(s++58::t).length≤1100000:=by rw [Jf,Ji];omega
     have L1:=hY l1;have L2:=hY l2;have L4:=hY l4;clear zs zt zl z2 z3 z4 lat hV1 hV2 hV3 hV4 l1 l2 l4;go_enter Tryz.func8,Tryz.ntmps8;go_wp2_with fail;refine (yr s (by omega) w HM.out HB0).mono ?_;rintro r w1 ⟨rfl,p1⟩;have P1:=hY p1;clear p1;go_wp2_with fail;go_loop [6] (fun t6=>∃ i:Nat,i≤(bs s).size∧t6=.int .i64 (i:Int)∧Hid (∀ c∈s.take i,c≠58)) (fun t6=>(bs s).size - (intOf t6).toNat)
     case atStart=>exact ⟨0,by omega,rfl,hY (fun c h=>by simp at h)⟩
     case round =>
      obtain ⟨i,hi,rfl,HC⟩:=hrel;have j0:(0:Int)≤(i:Int):=by omega
      rcases Jh i (bs s).size with hin | hin
      · have i0:decide ((i:Int)<((bs s).size:Int))=true:=dT (by omega);have i1:(i:Int)<((bs s).size:Int):=by omega
        have hil:i<s.length:=by rw [←ZS.out];exact hin
        obtain ⟨c,hc⟩:∃ c,(bs s)[i]'hin=c:=⟨_,rfl⟩
        have hsc:s[i]=c:=hc;have HSC:=hY hsc;clear hsc;rcases Decidable.em (c=58) with h58 | h58
        · have e58:((c.toNat:Int)==58)=true:=by rw [h58];rfl
          have HN:Hid ((58:UInt8)∈s):=hY (by rw [←h58,←HSC.out];exact Jl hil);clear h58;go_wp2_with fail;have hc1:=ref_not (s++58::Ck.latest) L1.out w1 (HM.out.grow P1.out) (Ck.ref_two HN.out);rw [←HV1.out] at hc1;refine hc1.mono ?_;rintro r w2 ⟨rfl,p2⟩;have P2:=hY (P1.out.trans (p2.mono P1.out.size));clear p2 hc1;go_wp2_with fail;refine (ZC w2 (HV.out.below P2.out HV.out.lt)).mono ?_;rintro r w3 ⟨rfl,p3⟩;have P3:=hY (P2.out.trans (p3.mono P2.out.size));clear p3;go_wp2_with fail;refine (zU w3 (HT.out.new P3.out) (HV.out.below P3.out HV.out.lt) (HM.out.grow P3.out)).mono ?_;rintro r w4 ⟨rfl,p4⟩;go_wp2_with fail;go_ret;exact ⟨rfl,P3.out.trans (p4.mono P3.out.size)⟩
        · have e58:((c.toNat:Int)==58)=false:=by
           rw [Jr];intro q
           exact h58 (UInt8.toNat_inj.1 (by have:c.toNat=58:=by omega
                                            exact this))
          have HC2:Hid (∀ c∈s.take (i+1),c≠58):=hY fun d hd=>by
           rw [List.take_succ_eq_append_getElem hil] at hd;rcases Km.1 hd with hd | hd
           · exact HC.out d hd
           · rw [Jv.1 hd,HSC.out];exact h58
          clear h58;go_wp2_with fail;go_round
          case rel=>exact ⟨i+1,by omega,by go_num,HC2⟩
          case measure=>simp [intOf];omega
      · have i0:decide ((i:Int)<((bs s).size:Int))=false:=dF (by omega);have HCs:Hid (∀ c∈s,c≠58):=hY (by have h:=HC.out;rw [List.take_of_length_le (by rw [←ZS.out];exact hin)] at h;exact h);have HB1:Hid (Ck.refR (s++58::Ck.latest)=b0):=hY ((Ck.ref_latest HCs.out).trans HB0.out);clear HC;go_wp2_with fail;have hc1:=yr (s++58::Ck.latest) L1.out w1 (HM.out.grow P1.out) HB1;rw [←HV1.out] at hc1;refine hc1.mono ?_;rintro r w2 ⟨rfl,p2⟩;have P2:=hY (P1.out.trans (p2.mono P1.out.size));clear p2 hc1;go_wp2_with fail;obtain ⟨b2,HB2⟩:∃ b,Hid (Ck.refR ([97]++58::t)=b):=⟨_,hY rfl⟩
        have hc2:=yr ([97]++58::t) L2.out w2 (HM.out.grow P2.out) HB2;rw [←HV2.out] at hc2;refine hc2.mono ?_;rintro r w3 ⟨rfl,p3⟩;have P3:=hY (P2.out.trans (p3.mono P2.out.size));clear p3 hc2;have HE3:=hY (HV.out.below P3.out HV.out.lt);obtain ⟨v0,hv0⟩:∃ v,QJ b0=v:=⟨_,rfl⟩
        obtain ⟨v2,hv2⟩:∃ v,QJ b2=v:=⟨_,rfl⟩
        rw [hv0,hv2];go_upto_region 11 with fail;go_cut [55] from 42 to 54 (fun s55 wx=>s55=.bool false∧Hid (Below w.heap.size w wx))
        case first =>
         cases b0 with
         | true =>obtain rfl:.nilIface=v0:=hv0;go_quiet (fail);go_wp2_with fail;go_meet;exact ⟨rfl,hY (by first | exact P3.out | exact P3.out.drew | exact zj P3.out _)⟩
         | false =>obtain rfl:.iface 70 (.int .i64 31)=v0:=hv0;go_region_held3 (fun _=>True) (trivial) ((go_at_call 19;refine (ZC _ (by first | exact HE3.out | exact HE3.out.drw)).mono ?_;rintro r w4 ⟨rfl,p4⟩;have P4:=hY p4;clear p4));go_wp2_with fail;go_meet;exact ⟨rfl,hY (P3.out.drew.trans (P4.out.mono P3.out.drew.size))⟩
        case rest =>
         obtain ⟨rfl,P4⟩:=hcut;rename World=>w4;have HE4:=hY (HV.out.below P4.out HV.out.lt);clear P1 P2 P3 HE3;go_upto_region 13 with fail;go_cut [74] from 56 to 73 (fun s74 wx=>s74=.bool false∧Hid (Below w.heap.size w wx))
         case first =>
          cases b0 with
          | false =>obtain rfl:.iface 70 (.int .i64 31)=v0:=hv0;go_wp2_with fail;go_meet;exact ⟨rfl,P4⟩
          | true =>
           obtain rfl:.nilIface=v0:=hv0;cases b2 with
           | false =>obtain rfl:.iface 70 (.int .i64 31)=v2:=hv2;go_wp2_with fail;go_meet;exact ⟨rfl,P4⟩
           | true =>
            obtain rfl:.nilIface=v2:=hv2;rcases Jh 6 (bs t).size with l6 | l6
            · have k6:decide (((bs t).size:Int)≤6)=false:=dF (by omega);have k6':¬ ((bs t).size:Int)≤6:=by omega
              go_wp2_with fail;go_meet;exact ⟨rfl,P4⟩
            · have k6:decide (((bs t).size:Int)≤6)=true:=dT (by omega);have HR4:Hid (Ck.refR (s++58::t)=true):=hY (Ck.ref_tag HCs.out HB0.out HB2.out (by rw [←ZT.out];exact l6));go_wp2_with fail;have hc4:=ref_yes (s++58::t) L4.out w4 (HM.out.grow P4.out) HR4.out;rw [←HV4.out] at hc4;refine hc4.mono ?_;rintro r w5 ⟨rfl,p5⟩;have P5:=hY (P4.out.trans (p5.mono P4.out.size));clear p5 hc4;go_wp2_with fail;go_meet;exact ⟨rfl,P5⟩
         case rest =>
          obtain ⟨rfl,P5⟩:=hcut;rename World=>w5;clear P4 HE4;rcases Jh 96 (bs s).size with l9 | l9
          · have k9:decide (((bs s).size:Int)≤96)=false:=dF (by omega);have k9':¬ ((bs s).size:Int)≤96:=by omega
            cases b0 with
            | true=>exact absurd (Ck.ref_len HB0.out) (by rw [←ZS.out];omega)
            | false =>obtain rfl:.iface 70 (.int .i64 31)=v0:=hv0;go_wp2_with fail;refine (zU w5 (HT.out.new P5.out) (HV.out.below P5.out HV.out.lt) (HM.out.grow P5.out)).mono ?_;rintro r w6 ⟨rfl,p6⟩;go_wp2_with fail;go_ret;exact ⟨rfl,P5.out.trans (p6.mono P5.out.size)⟩
          · have k9:decide (((bs s).size:Int)≤96)=true:=dT (by omega);go_wp2_with fail;refine (zU w5 (HT.out.new P5.out) (HV.out.below P5.out HV.out.lt) (HM.out.grow P5.out)).mono ?_;rintro r w6 ⟨rfl,p6⟩;go_wp2_with fail;go_ret;exact ⟨rfl,P5.out.trans (p6.mono P5.out.size)⟩
end Go.Proofs.YtdaejggcjjdhkaaGreatDoor
