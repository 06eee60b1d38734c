/- stratalaw18.numbers, walked. (Printed by wip/gennum18.py.) -/
import Derived.Test.YtdaejggcjjdhkaaGreatDoorCkKk
import Derived.Lib.ItoaWalk
set_option maxHeartbeats 1000000
set_option maxRecDepth 100000
namespace Go.Proofs.YtdaejggcjjdhkaaGreatDoor
open Go Go.RowKit
theorem numbers_any (w:World) (E:Env w):Calls Tryz.prog 29 #[] w (Yes w):=by
 have E:=hY E;go_enter Tryz.func29,Tryz.ntmps29;go_wp2_with fail;go_loopw [1,3,4,5,6] (fun t1 _ _ _ _ wr=>∃ z:Int,-1≤z∧z≤16∧t1=.int .i64 z∧Hid (Below w.heap.size w wr)) (fun t1 _ _ _ _ _=>(16 - intOf t1).toNat)
 case atStart=>exact ⟨-1,by omega,by omega,rfl,hY (Ja _ _)⟩
 case round =>
  rename World=>w1;obtain ⟨z,z0,z1,rfl,P1⟩:=hrel;rcases Int.lt_or_le 15 z with hz | hz
  · have i0:decide (z≤15)=false:=dF (by omega);have i1:¬ z≤15:=by omega
    replace E:=hY (E.out.new P1.out);go_upto_region 18 with fail;go_name_world W hW;have BW:Below w1.heap.size w1 W:=by rw [←hW];exact (Ja _ _).alloc (Jd _) _
    have D:=hY (show RowV (In 510 513) 4 W (.slice (some ⟨w1.heap.size,0,none⟩) 4 4) by rw [←hW];exact RowV.blk (p:=In 510 513) (Blk.new _ _ _) (fc ⟨510,rfl,by decide,by decide⟩ (fc ⟨511,rfl,by decide,by decide⟩ (fc ⟨512,rfl,by decide,by decide⟩ (fc ⟨513,rfl,by decide,by decide⟩ (fn))))));obtain ⟨G,hG⟩:∃ G,w1.heap.size=G:=⟨_,rfl⟩
    rw [hG] at D ⊢;replace P1:=hY (P1.out.trans (BW.mono P1.out.size));replace E:=hY (E.out.new BW);clear hG hW BW i0;go_loopw [60,8,9,10,11] (fun t60 _ _ _ _ wr=>∃ k:Nat,k≤4∧t60=.int .i64 (k:Int)∧Hid (Below W.heap.size W wr)) (fun t60 _ _ _ _ _=>4 - (intOf t60).toNat)
    case atStart=>exact ⟨0,by omega,rfl,hY (Ja _ _)⟩
    case round =>
     rename World=>w2;obtain ⟨k,hk,rfl,P2⟩:=hrel;have k0:(0:Int)≤(k:Int):=by omega
     rcases Jh k 4 with hkn | hkn
     · have k1:decide ((k:Int)<4)=true:=dT (by omega);have k2:(k:Int)<4:=by omega
       obtain ⟨u,hc,n,rfl,hn0,hn⟩:=(stab_row (stab_in _ _) _ _ _ _ P2.out D.out).el hkn;replace E:=hY (E.out.new P2.out);go_wp2_with fail;go_loopw [10,9] (fun t10 t9 wr=>∃ i:Nat,i≤n∧t10=.int .i64 (i:Int)∧Hid (NS w2.heap.size w2 i wr t9)) (fun t10 _ _=>n - (intOf t10).toNat)
       case atStart=>exact ⟨0,by omega,rfl,hY (NS.nil _)⟩
       case round =>
        rename World=>w3;obtain ⟨i,hi,rfl,HN⟩:=hrel;have i0:(0:Int)≤(i:Int):=by omega
        rcases Jh i n with hin | hin
        · have i1:decide ((i:Int)<(n:Int))=true:=dT (by omega);have i2:(i:Int)<(n:Int):=by omega
          obtain ⟨us,l1,hu,hown,hb⟩:=HN.out;obtain ⟨A,c,rfl⟩:=zc hown;have L1:=hY l1;have HU:=hY hu;clear l1 hu HN hc;go_wp2_with fail;refine (pair_ex 1 [65] []).mono ?_;rintro r w4 ⟨u,rfl,su,p4⟩;replace hown:=zy hown p4;replace hb:=hb.trans (p4.mono hb.size);replace HU:=hY (fun u h=>(HU.out u h).new p4);have hbs:=hb.size;have su2:=su;obtain ⟨p,rfl,hk⟩:=su;clear p4;go_wp2_with (at_builtin;refine zg rfl _ _ _ rfl QC _ _ _ _ rfl (hown.alloc _) _ _ _ _ rfl rfl (zA _ _ (by simp) _ _) (by simp [Value.oneCell']) (by omega) (by omega) (hb.alloc hbs _) (by rw [Jb];omega) ?_;intro v1 w5 ho hb5 hg5 hat5;obtain ⟨A6,c6,rfl⟩:=zc ho);go_roundw
          case rel=>exact ⟨i+1,by omega,by go_num,hY ⟨us++[_],by rw [Jf,L1.out];rfl,la (fun u h=>((HU.out u h).alloc _).kept (hown.alloc _) hg5) ((su2.alloc _).kept (hown.alloc _) hg5),by rw [Kf];exact ho,hb5⟩⟩
          case measure=>simp [intOf];omega
        · have i1:decide ((i:Int)<(n:Int))=false:=dF (by omega);have i2:¬ (i:Int)<(n:Int):=by omega
          obtain ⟨us,l1,hu,hown,hb⟩:=HN.out;obtain rfl:i=n:=by omega
          have S:=NS.sts l1 hu hown;rcases Zc hown with ⟨-,e⟩ | ⟨g,c,rfl,hnc⟩
          · exfalso;omega
          replace S:=hY S;replace E:=hY (E.out.new hb);replace P2:=hY (P2.out.trans (hb.mono P2.out.size));clear l1 hu hown hb HN i1 i2 hin hi hc;obtain ⟨k9,hk9⟩:∃ k,i - 200=k:=⟨_,rfl⟩
          have y0:(0:Int)≤(k9:Int):=by omega
          have y1:(k9:Int)≤(c:Int):=by omega
          have y2:(150:Int)≤(c:Int):=by omega
          have y3:(50:Int)≤(c:Int):=by omega
          have HK:=hY hk9;have hi9:k9≤i:=by omega
          have hk5:k9≤400:=by omega
          clear hk9;go_upto_region 25 with fail;refine' zk 13 (fun wx=>Below w3.heap.size w3 wx) (VLs (n25L (.slice (some ⟨g,0,none⟩) i c) i k9 w3.heap.size)) ?F5 ?hF5 (by kernel_rfl) (by kernel_rfl) (by kernel_rfl) (by decide) (by kernel_rfl) (by kernel_rfl) (by kernel_rfl) (Ja _ _).drew ?st5 ?q5
          case hF5 =>intro xs;refine (zz _ _ _).trans ?_;simp only [zR,Act.put,List.setIfInBounds_toArray,List.set_cons_zero,List.set_cons_succ,Nat.reduceAdd,Jq];exact rfl
          case st5 =>
           refine Steps.o [] (k:=1) (n25S _ _ _ _) (fun xs wx hS hV K hK=>?_) ?_
           · clear hV;go_simp;exact hK.out _ _ (Ja _ _) rfl
           refine Steps.o [] (k:=2) (n25S _ _ _ _) (fun xs wx hS hV K hK=>?_) ?_
           · clear hV;go_simp;exact hK.out _ _ (Ja _ _) rfl
           refine Steps.o [1] (k:=3) (n25S _ _ _ _) (fun xs wx hS hV K hK=>?_) ?_
           · rw [show xs 1=.int .i64 (i:Int) from hV.1] at hK ⊢;go_simp;exact hK.out _ _ (Ja _ _) (congrArg (Value.int .i64) (by rw [IntWalk.i64_in _ ⟨by omega,by omega⟩];have:=HK.out;omega))
           refine Steps.o [0,2] (k:=4) (n25S _ _ _ _) (fun xs wx hS hV K hK=>?_) ?_
           · rw [show xs 0=.slice (some ⟨g,0,none⟩) i c from hV.1,show xs 2=.int .i64 (k9:Int) from hV.2.1] at hK ⊢;go_simp;exact hK.out _ _ (Ja _ _) ((S.out.new hS).take hi9)
           refine Steps.o [] (k:=5) (n25S _ _ _ _) (fun xs wx hS hV K hK=>?_) ?_
           · clear hV;go_simp;exact hK.out _ _ (Ja _ _) rfl
           refine Steps.o [4] (k:=6) (n25S _ _ _ _) (fun xs wx hS hV K hK=>?_) ?_
           · rw [show xs 4=.slice (some ⟨g,0,none⟩) i c from hV.1] at hK ⊢;go_simp;exact hK.out _ _ (Ja _ _) ((S.out.new hS).take (by omega))
           refine Steps.o [5] (k:=7) (n25S _ _ _ _) (fun xs wx hS hV K hK=>?_) ?_
           · have s:StsV 100 150 wx (xs 5):=hV.1;obtain ⟨g3,o3,c3,e3⟩:=s.form (by decide);rw [e3] at s;rw [e3] at hK ⊢;go_simp;exact hK.out _ _ (Ja _ _) (SgV.mk (N:=200) 1 [97] [] (s.mono (by decide)) (by decide) (by decide) (by decide))
           refine Steps.o [] (k:=8) (n25S _ _ _ _) (fun xs wx hS hV K hK=>?_) ?_
           · clear hV;go_simp;exact hK.out _ _ (Ja _ _) rfl
           refine Steps.o [7] (k:=9) (n25S _ _ _ _) (fun xs wx hS hV K hK=>?_) ?_
           · rw [show xs 7=.slice (some ⟨g,0,none⟩) i c from hV.1] at hK ⊢;go_simp;exact hK.out _ _ (Ja _ _) ((S.out.new hS).take (by omega))
           refine Steps.o [8] (k:=10) (n25S _ _ _ _) (fun xs wx hS hV K hK=>?_) ?_
           · have s:StsV 100 50 wx (xs 8):=hV.1;obtain ⟨g3,o3,c3,e3⟩:=s.form (by decide);rw [e3] at s;rw [e3] at hK ⊢;go_simp;exact hK.out _ _ (Ja _ _) (SgV.mk (N:=200) 0 [98] [] (s.mono (by decide)) (by decide) (by decide) (by decide))
           refine Steps.o [6,9] (k:=11) (n25S _ _ _ _) (fun xs wx hS hV K hK=>?_) ?_
           · exact wantedp (wp_sgs [xs 6,xs 9] (fc (p:=SgV 200 wx) hV.1 (fc hV.2.1 fn)) fun w2 s b _=>hK.out _ _ b s)
           refine Steps.o [3,10] (k:=12) (n25S _ _ _ _) (fun xs wx hS hV K hK=>?_) ?_
           · have s:StsV 100 k9 wx (xs 3):=hV.1;have s2:SgsV 200 2 wx (xs 10):=hV.2.1;obtain ⟨A3,c3,e3⟩:=s.form0;obtain ⟨A4,c4,e4⟩:=s2.form;rw [e3] at s;rw [e4] at s2;rw [e3,e4] at hK ⊢;go_simp;exact hK.out _ _ (Ja _ _) (FlV.mk (N:=200) 92 (s.mono (by decide)) s2 (by omega))
           refine Steps.o [] (k:=13) (n25S _ _ _ _) (fun xs wx hS hV K hK=>?_) ?_
           · clear hV;go_simp;exact hK.out _ _ ((Ja _ _).alloc (Jd _) _) ⟨_,rfl,hS.size,Blk.new _ _ _⟩
           exact Steps.nil
          case q5 =>
           intro xs w4 hS hV;have f8:FlV 1048576 w4 (xs 11):=hV 11 (by decide);obtain ⟨p,e9,hp,hk⟩:Bx w3.heap.size w4 (xs 12):=hV 12 (by decide);clear hV;rw [e9];refine wpList_want (fun K hK=>wp_box p Q4 hk f8.flat (fun w5 X g5 z5=>hK _ _ ?_) (hZ:=rfl));clear hK K;have q5:Below w3.heap.size w3 w5:=below_but hS g5 hS.size hp;have F:=f8.but g5 hk noT0;generalize xs 11=FV at *;rw [Yh];replace X:=hY X;replace F:=hY F;replace E:=hY (E.out.new q5);replace P2:=hY (P2.out.trans (q5.mono P2.out.size));clear q5 g5 z5 f8 hk hS hp e9;go_upto_region 26 with fail;refine' z8 (fun wx=>Below w5.heap.size w5 wx) (VLs (n26L FV i)) ?F6 ?hF6 (by kernel_rfl) (by kernel_rfl) (by kernel_rfl) (Ja _ _).drew ?st6 ?q6
           case hF6 =>intro xs;refine (zz _ _ _).trans ?_;simp only [zR,Act.put,List.setIfInBounds_toArray,List.set_cons_zero,List.set_cons_succ,Nat.reduceAdd,Jq];exact rfl
           case st6 =>
            refine Steps.o [] (k:=1) (n26S _ _) (fun xs wx hS hV K hK=>?_) ?_
            · clear hV;exact wantedp (wp_unbox Q4 (X.out.new hS X.out.lt) (hK.out _ _ (Ja _ _) rfl))
            refine Steps.o [0] (k:=2) (n26S _ _) (fun xs wx hS hV K hK=>?_) ?_
            · rw [show xs 0=FV from hV.1] at hK ⊢;go_simp;refine (kFiles (F.out.new hS) (E.out.new hS)).mono ?_;rintro r w2 ⟨rfl,p⟩;exact hK.out _ _ p rfl
            refine Steps.o [1] (k:=3) (n26S _ _) (fun xs wx hS hV K hK=>?_) ?_
            · rw [show xs 1=.bool true from hV.1] at hK ⊢;go_simp;exact hK.out _ _ (Ja _ _) rfl
            refine Steps.o [2] (k:=4) (n26S _ _) (fun xs wx hS hV K hK=>?_) ?_
            · rw [show xs 2=.bool false from hV.1] at hK ⊢;go_simp;exact hK.out _ _ (Ja _ _) rfl
            refine Steps.o [3] (k:=5) (n26S _ _) (fun xs wx hS hV K hK=>?_) ?_
            · rw [show xs 3=.bool false from hV.1] at hK ⊢;refine wantedg ?_;exact wp_unbox Q4 (X.out.new hS X.out.lt) (hK.out _ _ (Ja _ _) rfl)
            refine Steps.o [3] (k:=6) (n26S _ _) (fun xs wx hS hV K hK=>?_) ?_
            · rw [show xs 3=.bool false from hV.1] at hK ⊢;refine wantedg ?_;go_simp;exact hK.out _ _ ((Ja _ _).alloc (Jd _) _) (SlA.blk (cs:=sc [[117]]) (Blk.new _ _ _))
            refine Steps.o [5,3] (k:=7) (n26S _ _) (fun xs wx hS hV K hK=>?_) ?_
            · rw [show xs 3=.bool false from hV.2.1] at hK ⊢;refine wantedg ?_;have d:SlA wx (xs 5) 1 (sc [[117]]):=hV.1;go_simp;refine (step_mk (N:=1048576) 11 [[117]] d ⟨by decide,by decide⟩).mono ?_;rintro r w2 ⟨u,rfl,s,p⟩;exact hK.out _ _ p s
            refine Steps.o [4,6,3] (k:=8) (n26S _ _) (fun xs wx hS hV K hK=>?_) ?_
            · rw [show xs 3=.bool false from hV.2.2.1] at hK ⊢;refine wantedg ?_;have s:StV 1048576 wx (xs 6):=hV.2.1;rw [show xs 4=FV from hV.1] at hK ⊢;go_simp;refine (kAlone (F.out.new hS) s (E.out.new hS)).mono ?_;rintro r w2 ⟨rfl,p⟩;exact hK.out _ _ p rfl
            refine Steps.o [7,3] (k:=9) (n26S _ _) (fun xs wx hS hV K hK=>?_) ?_
            · rw [show xs 3=.bool false from hV.2.1] at hK ⊢;refine wantedg ?_;rw [show xs 7=.bool true from hV.1] at hK ⊢;go_simp;exact hK.out _ _ (Ja _ _) rfl
            refine Steps.o [3,8] (k:=10) (n26S _ _) (fun xs wx hS hV K hK=>?_) ?_
            · rw [show xs 3=.bool false from hV.1,show xs 8=.bool false from hV.2.1] at hK ⊢;go_simp;exact hK.out _ _ (Ja _ _) rfl
            refine Steps.o [9] (k:=11) (n26S _ _) (fun xs wx hS hV K hK=>?_) ?_
            · rw [show xs 9=.bool false from hV.1] at hK ⊢;go_simp;exact hK.out _ _ (Ja _ _) rfl
            refine Steps.o [10] (k:=12) (n26S _ _) (fun xs wx hS hV K hK=>?_) ?_
            · rw [show xs 10=.bool false from hV.1] at hK ⊢;refine wantedg ?_;exact wp_unbox Q4 (X.out.new hS X.out.lt) (hK.out _ _ (Ja _ _) rfl)
            refine Steps.o [10] (k:=13) (n26S _ _) (fun xs wx hS hV K hK=>?_) ?_
            · rw [show xs 10=.bool false from hV.1] at hK ⊢;refine wantedg ?_;go_simp;exact hK.out _ _ (Ja _ _) rfl
            refine Steps.o [11,12,10] (k:=14) (n26S _ _) (fun xs wx hS hV K hK=>?_) ?_
            · rw [show xs 10=.bool false from hV.2.2.1] at hK ⊢;refine wantedg ?_;rw [show xs 11=FV from hV.1,show xs 12=.int .i64 (i:Int) from hV.2.1] at hK ⊢;go_simp;refine (kFirst i (F.out.new hS) (by omega) (by omega) (E.out.new hS)).mono ?_;rintro r w2 ⟨rfl,p⟩;exact hK.out _ _ p rfl
            refine Steps.o [13,10] (k:=15) (n26S _ _) (fun xs wx hS hV K hK=>?_) ?_
            · rw [show xs 10=.bool false from hV.2.1] at hK ⊢;refine wantedg ?_;rw [show xs 13=.bool true from hV.1] at hK ⊢;go_simp;exact hK.out _ _ (Ja _ _) rfl
            refine Steps.o [10,14] (k:=16) (n26S _ _) (fun xs wx hS hV K hK=>?_) ?_
            · rw [show xs 10=.bool false from hV.1,show xs 14=.bool false from hV.2.1] at hK ⊢;go_simp;exact hK.out _ _ (Ja _ _) rfl
            exact Steps.nil
           case q6 =>
            intro xs w6 hS hV;have e15:xs 15=.bool false:=hV 15 (by decide);rw [e15];clear e15 hV;go_wp2_with fail;go_roundw
            case rel=>exact ⟨k+1,by omega,by go_num,hY (P2.out.trans (hS.mono P2.out.size))⟩
            case measure=>simp [intOf];omega
     · have k1:decide ((k:Int)<4)=false:=dF (by omega);have k2:¬ (k:Int)<4:=by omega
       replace E:=hY (E.out.new P2.out);go_wp2_with fail;go_loopw [12,13,14] (fun t12 _ _ wr=>∃ n:Nat,n≤35∧t12=.int .i64 (n:Int)∧Hid (Below w2.heap.size w2 wr)) (fun t12 _ _ _=>35 - (intOf t12).toNat)
       case atStart=>exact ⟨0,by omega,rfl,hY (Ja _ _)⟩
       case round =>
        rename World=>w3;obtain ⟨n,hn,rfl,P3⟩:=hrel;have n0:(0:Int)≤(n:Int):=by omega
        rcases Jh n 35 with hnn | hnn
        · have n1:decide ((n:Int)≤34)=true:=dT (by omega);have n2:(n:Int)≤34:=by omega
          have E3:=hY (E.out.new P3.out);obtain ⟨w4,hr,s4,b4⟩:=mk_sgs w3 n (by omega);go_wp2_with fail;refine (kFiles (FlV.mk (N:=100) 96 (StsV.nil _) s4 (by omega)) (E3.out.new b4)).mono ?_;rintro r w5 ⟨rfl,p5⟩;replace E3:=hY (E3.out.new (b4.trans (p5.mono b4.size)));replace P3:=hY (P3.out.trans ((b4.trans (p5.mono b4.size)).mono P3.out.size));clear s4 b4 p5 hr;go_wp2_with fail;go_loopw [14,13] (fun t14 t13 wr=>∃ i:Nat,i≤n∧t14=.int .i64 (i:Int)∧Hid (GS w5.heap.size w5 i wr t13)) (fun t14 _ _=>n - (intOf t14).toNat)
          case atStart=>exact ⟨0,by omega,rfl,hY (GS.nil _)⟩
          case round =>
           rename World=>w6;obtain ⟨i,hi,rfl,HN⟩:=hrel;obtain ⟨gs,l1,hown,hg,hb⟩:=HN.out;have i0:(0:Int)≤(i:Int):=by omega
           have hbs:=hb.size;obtain ⟨A,c,rfl⟩:=zc hown;rcases Jh i n with hin | hin
           · have i1:decide ((i:Int)<(n:Int))=true:=dT (by omega);have i2:(i:Int)<(n:Int):=by omega
             have L1:=hY l1;clear l1 HN;have i3:(i:Int)<35:=by omega
             have cv:=conv2 w6 5 (48+(i:Int) / 10) (48+(i:Int) % 10);obtain ⟨q,hq⟩:∃ q,bs [UInt8.ofNat (48+(i:Int) / 10).toNat,UInt8.ofNat (48+(i:Int) % 10).toNat]=q:=⟨_,rfl⟩
             rw [hq] at cv;have hq2:q.size≤2:=by rw [←hq];exact Jd _
             clear hq;go_wp2_with (at_builtin;refine zg rfl _ _ _ rfl Uh _ _ _ _ rfl ((hown.alloc _).alloc _) _ _ _ _ rfl rfl (zA _ _ (by simp) _ _) (by simp [Value.oneCell']) (by omega) (by omega) ((hb.alloc hbs _).alloc (by rw [Jb];omega) _) (by rw [Jb,Jb];omega) ?_;intro v1 w7 ho hb7 hg7 hat7;obtain ⟨A6,c6,rfl⟩:=zc ho);go_roundw
             case rel=>exact ⟨i+1,by omega,by go_num,hY ⟨gs++[⟨(i:Int)+1,[98],bl (⟨#[115]⟩++q),.slice none 0 0,[]⟩],by rw [Jf,L1.out];rfl,by rw [gm_snoc];exact ho,la hg ⟨rfl,rfl,by show 1≤100;decide,by rw [Qi];exact szA (m:=1) (by decide) hq2⟩,hb7⟩⟩
             case measure=>simp [intOf];omega
           · have i1:decide ((i:Int)<(n:Int))=false:=dF (by omega);have i2:¬ (i:Int)<(n:Int):=by omega
             obtain rfl:i=n:=by omega
             have S:=GS.sgs l1 hg hown;have F:=hY (FlV.mk (M:=1048576) 96 (StsV.nil _) S (by omega));have P5:=P3;have E5:=E3;replace E3:=hY (E3.out.new hb);replace P3:=hY (P3.out.trans (hb.mono P3.out.size));go_wp2_with fail;refine (kFiles F.out E3.out).mono ?_;rintro r w7 ⟨rfl,p7⟩;replace E3:=hY (E3.out.new p7);replace P3:=hY (P3.out.trans (p7.mono P3.out.size));rcases Ju i with h0 | h0
             · have m1:decide ((0:Int)<(i:Int))=false:=dF (by omega);have m2:¬ (0:Int)<(i:Int):=by omega
               clear h0;go_wp2_with fail;go_roundw
               case rel=>exact ⟨i+1,by omega,by go_num,P3⟩
               case measure=>simp [intOf];omega
             · have m1:decide ((0:Int)<(i:Int))=true:=dT (by omega);have m2:(0:Int)<(i:Int):=by omega
               rcases Zc hown with ⟨-,e⟩ | ⟨g,c2,e,-⟩
               · exfalso;omega
               injection e with e1 _ e3;subst e1 e3;have q0:(0:Int)≤(i:Int) / 2:=by omega
               have q1:(i:Int) / 2<(i:Int):=by omega
               have h7:=zy hown p7;have hb7:=hb.trans (p7.mono hb.size);have hbs7:=hb7.size;obtain ⟨G,hG⟩:∃ G,gs[i / 2]'(by omega)=G:=⟨_,rfl⟩
               have cc:∀ q,q<4→w7.cell? ⟨g,i / 2*4+q,none⟩=(VU G)[q]?:=fun q hq=>by rw [h7.cellAt _ (by omega),←hG];exact yX (k:=4) (f:=VU) (fun _=>rfl) gs (i / 2) q (by omega) hq
               have hgG:=hg G (hG ▸ Jl _);have c0:w7.cell? ⟨g,i / 2*4,none⟩=some (.int .i64 G.line):=cc 0 (by omega);have c1:w7.cell? ⟨g,i / 2*4+1,none⟩=some (.string (bs G.base)):=cc 1 (by omega);have c2:w7.cell? ⟨g,i / 2*4+2,none⟩=some (.string (bs G.name)):=cc 2 (by omega);have c3:w7.cell? ⟨g,i / 2*4+3,none⟩=some (.slice none 0 0):=by rw [cc 3 (by omega),←hgG.1];rfl
               have L1:=hY l1;have HG:=hY hg;have HGG:=hY hgG;clear hgG cc hG l1 hg hown hb HN;go_wp2_with (at_builtin;refine wpList_want (fun K hK=>wp_appk _ _ _ rfl Uh _ _ _ _ rfl (h7.alloc _) _ _ _ _ rfl rfl (zA _ _ (by simp) _ _) (by simp [Value.oneCell']) (by omega) (by omega) (hb7.alloc hbs7 _) (by rw [Jb];omega) (fun v1 w8 ho hb8=>hK _ _ ?_));clear hK K;obtain ⟨A6,c6,rfl⟩:=zc ho);have S8:=GS.sgs (n:=i+1) (gs:=gs++[G]) (by rw [Jf,L1.out,List.length_singleton]) (la HG.out HGG.out) (by rw [yH,Kf];rw [yH] at ho;rw [show [G].flatMap VU=[.int .i64 G.line,.string (bs G.base),.string (bs G.name),.slice none 0 0] by rw [Ke,List.flatMap_nil,Kw,VU,HGG.out.1]];exact ho);refine (kFiles (FlV.mk (M:=1048576) 96 (StsV.nil _) S8 (by omega)) (E5.out.new hb8)).mono ?_;rintro r w9 ⟨rfl,p9⟩;go_wp2_with fail;go_roundw
               case rel=>exact ⟨i+1,by omega,by go_num,hY (P5.out.trans ((hb8.trans (p9.mono hb8.size)).mono P5.out.size))⟩
               case measure=>simp [intOf];omega
        · have n1:decide ((n:Int)≤34)=false:=dF (by omega);have n2:¬ (n:Int)≤34:=by omega
          replace E:=hY (E.out.new P3.out);go_wp2_with fail;go_loopw [15] (fun t15 wr=>∃ b:Nat,b≤256∧t15=.int .i64 (b:Int)∧Hid (Below w3.heap.size w3 wr)) (fun t15 _=>256 - (intOf t15).toNat)
          case atStart=>exact ⟨0,by omega,rfl,hY (Ja _ _)⟩
          case round =>
           rename World=>w4;obtain ⟨b,hb,rfl,P4⟩:=hrel;have b0:(0:Int)≤(b:Int):=by omega
           rcases Jh b 256 with hbn | hbn
           · have b1:decide ((b:Int)<256)=true:=dT (by omega);have b2:(b:Int)<256:=by omega
             replace E:=hY (E.out.new P4.out);obtain ⟨y,hy⟩:∃ y:UInt8,(y.toNat:Int)=(b:Int):=u8_of hbn;have HY:=hY hy;clear hy;go_wp2_with fail;rw [←HY.out];refine (kFiles (FlV.mk (N:=100) y (StsV.nil _) (SgsV.nil _) (by decide)) E.out).mono ?_;rintro r w1 ⟨rfl,p2⟩;replace E:=hY (E.out.new p2);replace P4:=hY (P4.out.trans (p2.mono P4.out.size));clear p2;rw [HY.out];go_wp2_with fail;rw [←HY.out];refine (kFiles (FlV.mk (N:=1000) y (StsV.nil _) (sgs1 (line:=5) (b:=[115,99,114,97,116,99,104]) (nm:=[]) (Blk.new _ _ _) (StsV.nil _) (by decide) (by decide) (Nat.zero_le _)) (by decide)) (E.out.new ((Ja _ _).alloc (Jd _) _))).mono ?_;rintro r w3 ⟨rfl,p4⟩;replace p4:=below_new p4;replace E:=hY (E.out.new p4);replace P4:=hY (P4.out.trans (p4.mono P4.out.size));clear p4;rw [HY.out];go_wp2_with fail;go_roundw
             case rel=>exact ⟨b+1,by omega,by go_num,P4⟩
             case measure=>simp [intOf];omega
           · have b1:decide ((b:Int)<256)=false:=dF (by omega);have b2:¬ (b:Int)<256:=by omega
             go_wp2_with fail;go_ret;exact ⟨rfl,P1.out.trans ((P2.out.trans ((P3.out.trans (P4.out.mono P3.out.size)).mono P2.out.size)).mono P1.out.size)⟩
  · have i0:decide (z≤15)=true:=dT (by omega);go_upto_region 5 with fail;go_name_world W hW;have BW:Below w1.heap.size w1 W:=by rw [←hW];exact (Ja _ _).alloc (Jd _) _
    have D:=hY (show RowV (In 0 66) 8 W (.slice (some ⟨w1.heap.size,0,none⟩) 8 8) by rw [←hW];exact RowV.blk (p:=In 0 66) (Blk.new _ _ _) (fc ⟨0,rfl,by decide,by decide⟩ (fc ⟨1,rfl,by decide,by decide⟩ (fc ⟨2,rfl,by decide,by decide⟩ (fc ⟨3,rfl,by decide,by decide⟩ (fc ⟨63,rfl,by decide,by decide⟩ (fc ⟨64,rfl,by decide,by decide⟩ (fc ⟨65,rfl,by decide,by decide⟩ (fc ⟨66,rfl,by decide,by decide⟩ (fn))))))))));obtain ⟨G,hG⟩:∃ G,w1.heap.size=G:=⟨_,rfl⟩
    rw [hG] at D ⊢;replace P1:=hY (P1.out.trans (BW.mono P1.out.size));replace E:=hY (E.out.new P1.out);clear hG hW BW i0;go_loopw [22,3,4,5,6] (fun t22 _ _ _ _ wr=>∃ k:Nat,k≤8∧t22=.int .i64 (k:Int)∧Hid (Below W.heap.size W wr)) (fun t22 _ _ _ _ _=>8 - (intOf t22).toNat)
    case atStart=>exact ⟨0,by omega,rfl,hY (Ja _ _)⟩
    case round =>
     rename World=>w2;obtain ⟨k,hk,rfl,P2⟩:=hrel;have k0:(0:Int)≤(k:Int):=by omega
     rcases Jh k 8 with hkn | hkn
     · have k1:decide ((k:Int)<8)=true:=dT (by omega);have k2:(k:Int)<8:=by omega
       obtain ⟨u,hc,n,rfl,-,hn⟩:=(stab_row (stab_in _ _) _ _ _ _ P2.out D.out).el hkn;replace E:=hY (E.out.new P2.out);go_wp2_with fail;go_loopw [6,4,5] (fun t6 t4 t5 wr=>∃ i:Nat,i≤n∧t6=.int .i64 (i:Int)∧Hid (NW w2.heap.size w2 i wr t4 t5)) (fun t6 _ _ _=>n - (intOf t6).toNat)
       case atStart=>exact ⟨0,by omega,rfl,hY (NW.nil _)⟩
       case round =>
        rename World=>w3;obtain ⟨i,hi,rfl,HN⟩:=hrel;obtain ⟨ws,ps,l1,l2,hw,hp,bw,bp,hb⟩:=HN.out;obtain ⟨A4,c4,rfl⟩:=zc hw;obtain ⟨A5,c5,rfl⟩:=zc hp;have i0:(0:Int)≤(i:Int):=by omega
        have hbs:=hb.size;rcases Jh i n with hin | hin
        · have i1:decide ((i:Int)<(n:Int))=true:=dT (by omega);have i2:(i:Int)<(n:Int):=by omega
          have L1:=hY l1;have L2:=hY l2;clear l1 l2 HN hc;go_wp2_with (first | (at_builtin;refine zg rfl _ _ _ rfl Yz _ _ _ _ rfl (hw.alloc _) _ 1 1 [.string (bs [55])] rfl rfl (zA _ _ (by simp) _ _) (zr rfl) (by omega) (by omega) (hb.alloc hbs _) (by rw [Jb];omega) ?_;intro v1 w4 hw4 hb4 hg4 hat4;obtain ⟨A6,c6,rfl⟩:=zc hw4;have hp4:=(hp.alloc _).kept hg4 (XA hp hw (by decide));have hbs4:=hb4.size) | (at_builtin;refine zg rfl _ _ _ rfl lpK _ _ _ _ rfl (hp4.alloc _) _ 1 1 [.string (bs [65]),.string (bs [])] rfl rfl (zA _ _ (by simp) _ _) (zr rfl) (by omega) (by omega) (hb4.alloc hbs4 _) (by rw [Jb];omega) ?_;intro v2 w5 hp5 hb5 hg5 hat5;obtain ⟨A7,c7,rfl⟩:=zc hp5;have hw5:=(hw4.alloc _).kept hg5 (XA hw4 hp4 (by decide))));go_roundw
          case rel=>exact ⟨i+1,by omega,by go_num,hY ⟨ws++[[55]],ps++[⟨[65],[]⟩],by rw [Jf,L1.out];rfl,by rw [Jf,L2.out];rfl,by rw [zG];exact hw5,by rw [yV,Kf];exact hp5,la bw (by decide),la bp ⟨by decide,by decide⟩,hb5⟩⟩
          case measure=>simp [intOf];omega
        · have i1:decide ((i:Int)<(n:Int))=false:=dF (by omega);have i2:¬ (i:Int)<(n:Int):=by omega
          have hw1:SlA w3 (.slice A4 i c4) ws.length (sc ws):=by rw [l1];exact SlA.own hw
          have hp1:SlA w3 (.slice A5 i c5) ps.length (yV ps):=by rw [l2];exact SlA.own hp
          have S1:=hY (StV.mk (N:=1048576) z 3 [] [] false false [] ws [] [] (SlA.none _) hw1 (SlA.none _) (SlA.none _) nil_dn (le_w (by omega) (fun x hx=>Jg (bw x hx) (by decide))));have S2:=hY (StV.mk (N:=1048576) z 3 [] [] false false ps [] [] [] hp1 (SlA.none _) (SlA.none _) (SlA.none _) nil_dn (le_mk (by show 0+0+ps.length+0≤_;omega) fn fn (fun x hx=>⟨Jg (bp x hx).1 (by decide),Jg (bp x hx).2 (by decide)⟩) fn (by decide) (by decide)));have S3:=hY (StV.mk (N:=1048576) z 3 [] [] false false [] [] [] ws (SlA.none _) (SlA.none _) (SlA.none _) hw1 nil_dn (le_mk (by show 0+ws.length+0+0≤_;omega) fn (fun x hx=>Jg (bw x hx) (by decide)) fn fn (by decide) (by decide)));replace P2:=hY (P2.out.trans (hb.mono P2.out.size));replace E:=hY (E.out.new hb);clear l1 l2 hw hp hw1 hp1 bw bp hb hbs HN hc;go_wp2_with fail;refine (kSteps false S1.out E.out).mono ?_;rintro r w1 ⟨rfl,p2⟩;replace E:=hY (E.out.new p2);replace S2:=hY (S2.out.new p2);replace S3:=hY (S3.out.new p2);replace P2:=hY (P2.out.trans (p2.mono P2.out.size));clear p2;go_wp2_with fail;refine (kSteps false S2.out E.out).mono ?_;rintro r w3 ⟨rfl,p4⟩;replace E:=hY (E.out.new p4);replace S3:=hY (S3.out.new p4);replace P2:=hY (P2.out.trans (p4.mono P2.out.size));clear p4;go_wp2_with fail;refine (kSteps true S3.out E.out).mono ?_;rintro r w5 ⟨rfl,p6⟩;replace E:=hY (E.out.new p6);replace P2:=hY (P2.out.trans (p6.mono P2.out.size));clear p6;go_wp2_with fail;go_roundw
          case rel=>exact ⟨k+1,by omega,by go_num,P2⟩
          case measure=>simp [intOf];omega
     · have k1:decide ((k:Int)<8)=false:=dF (by omega);have k2:¬ (k:Int)<8:=by omega
       go_wp2_with fail;go_roundw
       case rel=>exact ⟨z+1,by omega,by omega,by go_num,hY (P1.out.trans (P2.out.mono P1.out.size))⟩
       case measure=>simp [intOf];omega
end Go.Proofs.YtdaejggcjjdhkaaGreatDoor
