/- stratalaw18.stages, walked. (Printed by wip/genstages.py.) -/
import Derived.Test.YtdaejggcjjdhkaaGreatDoorCkKf
import Derived.Test.YtdaejggcjjdhkaaGreatDoorCkRl
import Derived.Lib.ItoaWalk
set_option maxHeartbeats 4000000
set_option maxRecDepth 100000
namespace Go.Proofs.YtdaejggcjjdhkaaGreatDoor
open Go Go.RowKit
theorem stages_any (w:World) (E:Env w):Calls Tryz.prog 33 #[] w (Yes w):=by
 have E:=hY E;go_enter Tryz.func33,Tryz.ntmps33;go_wp2_with fail;refine (rights_any _).mono ?_;rintro r w1 ⟨g,rfl,s1,p1⟩;have D:=hY (show RowV (Tx 10) 8 w1 (.slice (some ⟨w.heap.size,0,none⟩) 8 8) from stab_row (stab_tx _) _ _ _ _ p1 (RowV.blk (Blk.new _ _ _) (by repeat' first | exact fn | refine fc ⟨_,rfl,by decide⟩ ?_)));replace p1:=below_new p1;have P:=hY p1;replace E:=hY (E.out.new p1);have S:=hY s1;obtain ⟨G,hG⟩:∃ G,w.heap.size=G:=⟨_,rfl⟩
 rw [hG] at D ⊢;clear hG p1 s1;go_wp2_with fail;go_loopw [3,4,5] (fun t3 _ _ wr=>∃ i:Nat,i≤8∧t3=.int .i64 (i:Int)∧Hid (Below w1.heap.size w1 wr)) (fun t3 _ _ _=>8 - (intOf t3).toNat)
 case atStart=>exact ⟨0,by omega,rfl,hY (Ja _ _)⟩
 case round =>
  rename World=>w2;obtain ⟨i,hi,rfl,P2⟩:=hrel;have i0:(0:Int)≤(i:Int):=by omega
  rcases Jh i 8 with hin | hin
  · have i1:decide ((i:Int)<8)=true:=dT (by omega);have i2:(i:Int)<8:=by omega
    go_wp2_with fail;go_loopw [4,5] (fun t4 _ wr=>∃ k:Nat,k≤8∧t4=.int .i64 (k:Int)∧Hid (Below w2.heap.size w2 wr)) (fun t4 _ _=>8 - (intOf t4).toNat)
    case atStart=>exact ⟨0,by omega,rfl,hY (Ja _ _)⟩
    case round =>
     rename World=>w3;obtain ⟨k,hk,rfl,P3⟩:=hrel;have k0:(0:Int)≤(k:Int):=by omega
     rcases Jh k 8 with hkn | hkn
     · have k1:decide ((k:Int)<8)=true:=dT (by omega);have k2:(k:Int)<8:=by omega
       have Q:=hY (P2.out.trans (P3.out.mono P2.out.size));replace D:=hY (stab_row (stab_tx _) _ _ _ _ Q.out D.out);replace S:=hY (S.out.new Q.out);replace E:=hY (E.out.new Q.out);clear Q;have s0:(0:Int)≤(i:Int)+(k:Int):=by omega
       have s1:(i:Int)+(k:Int)<17:=by omega
       go_upto_region 9 with fail;refine' zk 28 (fun wx=>Below w3.heap.size w3 wx) (VLs (n9L (.slice (some ⟨G,0,none⟩) 8 8) (.slice (some ⟨g,0,none⟩) 17 17) i k w3.heap.size)) ?F ?hF (by kernel_rfl) (by kernel_rfl) (by kernel_rfl) (by decide) (by kernel_rfl) (by kernel_rfl) (by kernel_rfl) (Ja _ _).drew ?st ?q
       case hF =>intro xs;refine (zz _ _ _).trans ?_;simp only [zR,Act.put,List.setIfInBounds_toArray,List.set_cons_zero,List.set_cons_succ,Nat.reduceAdd,Jq];exact rfl
       case st =>
        refine Steps.o [] (k:=1) (n9S _ _ _ _ _) (fun xs wx hS hV K hK=>?_) ?_
        · clear hV;go_simp;exact hK.out _ _ (Ja _ _) rfl
        refine Steps.o [] (k:=2) (n9S _ _ _ _ _) (fun xs wx hS hV K hK=>?_) ?_
        · clear hV;go_simp;exact hK.out _ _ (Ja _ _) rfl
        refine Steps.o [0,1] (k:=3) (n9S _ _ _ _ _) (fun xs wx hS hV K hK=>?_) ?_
        · rw [show xs 0=.slice (some ⟨G,0,none⟩) 8 8 from hV.1,show xs 1=.int .i64 (i:Int) from hV.2.1] at hK ⊢;obtain ⟨y,hc,x,rfl,hx⟩:=(stab_row (stab_tx _) _ _ _ _ hS D.out).el hin;go_simp;exact hK.out _ _ (Ja _ _) ⟨_,_,x,rfl,hc,Jg hx (by decide)⟩
        refine Steps.o [2] (k:=4) (n9S _ _ _ _ _) (fun xs wx hS hV K hK=>?_) ?_
        · obtain ⟨g2,q2,x,e,hc,hx⟩:PTx 200 wx (xs 2):=hV.1;rw [e] at hK ⊢;go_simp;exact hK.out _ _ (Ja _ _) ⟨x,rfl,hx⟩
        refine Steps.o [3] (k:=5) (n9S _ _ _ _ _) (fun xs wx hS hV K hK=>?_) ?_
        · obtain ⟨y1,e1,z1⟩:Tx 200 wx (xs 3):=hV.1;obtain ⟨l1,rfl⟩:∃ l,y1=bs l:=⟨bl y1,(Ym y1).symm⟩
          rw [zd] at z1;rw [e1] at hK ⊢;go_simp;exact hK.out _ _ (Ja _ _) (SgV.mk (N:=200) (n:=0) 3 l1 [120] (StsV.nil wx) z1 (by decide) (by decide))
        refine Steps.o [] (k:=6) (n9S _ _ _ _ _) (fun xs wx hS hV K hK=>?_) ?_
        · clear hV;go_simp;exact hK.out _ _ (Ja _ _) rfl
        refine Steps.o [] (k:=7) (n9S _ _ _ _ _) (fun xs wx hS hV K hK=>?_) ?_
        · clear hV;go_simp;exact hK.out _ _ (Ja _ _) rfl
        refine Steps.o [5,6] (k:=8) (n9S _ _ _ _ _) (fun xs wx hS hV K hK=>?_) ?_
        · rw [show xs 5=.slice (some ⟨G,0,none⟩) 8 8 from hV.1,show xs 6=.int .i64 (k:Int) from hV.2.1] at hK ⊢;obtain ⟨y,hc,x,rfl,hx⟩:=(stab_row (stab_tx _) _ _ _ _ hS D.out).el hkn;go_simp;exact hK.out _ _ (Ja _ _) ⟨_,_,x,rfl,hc,Jg hx (by decide)⟩
        refine Steps.o [7] (k:=9) (n9S _ _ _ _ _) (fun xs wx hS hV K hK=>?_) ?_
        · obtain ⟨g2,q2,x,e,hc,hx⟩:PTx 200 wx (xs 7):=hV.1;rw [e] at hK ⊢;go_simp;exact hK.out _ _ (Ja _ _) ⟨x,rfl,hx⟩
        refine Steps.o [] (k:=10) (n9S _ _ _ _ _) (fun xs wx hS hV K hK=>?_) ?_
        · clear hV;go_simp;exact hK.out _ _ ((Ja _ _).alloc (Jd _) _) (RowV.blk (p:=Tx 10) (Blk.new _ _ _) (by repeat' first | exact fn | refine fc ⟨_,rfl,by decide⟩ ?_))
        refine Steps.o [] (k:=11) (n9S _ _ _ _ _) (fun xs wx hS hV K hK=>?_) ?_
        · clear hV;go_simp;exact hK.out _ _ (Ja _ _) rfl
        refine Steps.o [10] (k:=12) (n9S _ _ _ _ _) (fun xs wx hS hV K hK=>?_) ?_
        · rw [show xs 10=.int .i64 (k:Int) from hV.1] at hK ⊢;go_simp;exact hK.out _ _ (Ja _ _) ⟨k % 4,Nat.mod_lt _ (by decide),rfl⟩
        refine Steps.o [9,11] (k:=13) (n9S _ _ _ _ _) (fun xs wx hS hV K hK=>?_) ?_
        · obtain ⟨g2,c2,e⟩:=(show RowV (Tx 10) 4 wx (xs 9) from hV.1).form;have d:RowV (Tx 10) 4 wx (xs 9):=hV.1;rw [e] at d;obtain ⟨j,hj,e2⟩:Ix 4 wx (xs 11):=hV.2.1;rw [e,e2] at hK ⊢;obtain ⟨y,hc,x,rfl,hx⟩:=d.el hj;have j0:(0:Int)≤(j:Int):=by omega
          have j1:(j:Int)<4:=by omega
          clear hV d e e2;go_simp;exact hK.out _ _ (Ja _ _) ⟨_,_,x,rfl,hc,Jg hx (by decide)⟩
        refine Steps.o [12] (k:=14) (n9S _ _ _ _ _) (fun xs wx hS hV K hK=>?_) ?_
        · obtain ⟨g2,q2,x,e,hc,hx⟩:PTx 200 wx (xs 12):=hV.1;rw [e] at hK ⊢;go_simp;exact hK.out _ _ (Ja _ _) ⟨x,rfl,hx⟩
        refine Steps.o [] (k:=15) (n9S _ _ _ _ _) (fun xs wx hS hV K hK=>?_) ?_
        · clear hV;go_simp;exact hK.out _ _ (Ja _ _) rfl
        refine Steps.o [] (k:=16) (n9S _ _ _ _ _) (fun xs wx hS hV K hK=>?_) ?_
        · clear hV;go_simp;exact hK.out _ _ (Ja _ _) rfl
        refine Steps.o [] (k:=17) (n9S _ _ _ _ _) (fun xs wx hS hV K hK=>?_) ?_
        · clear hV;go_simp;exact hK.out _ _ (Ja _ _) rfl
        refine Steps.o [15,16] (k:=18) (n9S _ _ _ _ _) (fun xs wx hS hV K hK=>?_) ?_
        · rw [show xs 15=.int .i64 (i:Int) from hV.1,show xs 16=.int .i64 (k:Int) from hV.2.1] at hK ⊢;go_simp;exact hK.out _ _ (Ja _ _) (congrArg (Value.int .i64) (IntWalk.i64_in _ ⟨by omega,by omega⟩))
        refine Steps.o [] (k:=19) (n9S _ _ _ _ _) (fun xs wx hS hV K hK=>?_) ?_
        · clear hV;go_simp;exact hK.out _ _ (Ja _ _) rfl
        refine Steps.o [18] (k:=20) (n9S _ _ _ _ _) (fun xs wx hS hV K hK=>?_) ?_
        · rw [show xs 18=.slice (some ⟨g,0,none⟩) 17 17 from hV.1] at hK ⊢;go_simp;exact hK.out _ _ (Ja _ _) rfl
        refine Steps.o [17,19] (k:=21) (n9S _ _ _ _ _) (fun xs wx hS hV K hK=>?_) ?_
        · rw [show xs 17=.int .i64 ((i:Int)+(k:Int)) from hV.1,show xs 19=.int .i64 17 from hV.2.1] at hK ⊢;go_simp;exact hK.out _ _ (Ja _ _) ⟨(i+k) % 17,Nat.mod_lt _ (by decide),by rw [←Int.natCast_add];rfl⟩
        refine Steps.o [14,20] (k:=22) (n9S _ _ _ _ _) (fun xs wx hS hV K hK=>?_) ?_
        · obtain ⟨j,hj,e2⟩:Ix 17 wx (xs 20):=hV.2.1;rw [show xs 14=.slice (some ⟨g,0,none⟩) 17 17 from hV.1,e2] at hK ⊢;obtain ⟨T,a,c,b⟩:=(S.out.new hS).el hj;rw [Jq] at a;have j0:(0:Int)≤(j:Int):=by omega
          have j1:(j:Int)<17:=by omega
          clear hV e2;go_simp;exact hK.out _ _ (Ja _ _) ⟨_,_,T,rfl,a,c,b⟩
        refine Steps.o [21] (k:=23) (n9S _ _ _ _ _) (fun xs wx hS hV K hK=>?_) ?_
        · obtain ⟨g2,q2,T,e,a,c,b⟩:PSt 100 wx (xs 21):=hV.1;rw [e] at hK ⊢;exact wantedp (wp_mid yu a c (hK.out _ _ (Ja _ _) b))
        refine Steps.o [22] (k:=24) (n9S _ _ _ _ _) (fun xs wx hS hV K hK=>?_) ?_
        · exact wantedp (wp_sts [xs 22] (fc (p:=StV 100 wx) hV.1 fn) fun w2 s _ b _=>hK.out _ _ b s)
        refine Steps.o [8,13,23] (k:=25) (n9S _ _ _ _ _) (fun xs wx hS hV K hK=>?_) ?_
        · obtain ⟨y1,e1,z1⟩:Tx 200 wx (xs 8):=hV.1;obtain ⟨l1,rfl⟩:∃ l,y1=bs l:=⟨bl y1,(Ym y1).symm⟩
          rw [zd] at z1;obtain ⟨y2,e2,z2⟩:Tx 200 wx (xs 13):=hV.2.1;obtain ⟨l2,rfl⟩:∃ l,y2=bs l:=⟨bl y2,(Ym y2).symm⟩
          rw [zd] at z2;have s:StsV 100 1 wx (xs 23):=hV.2.2.1;obtain ⟨g3,o3,c3,e3⟩:=s.form (by decide);rw [e3] at s;rw [e1,e2,e3] at hK ⊢;go_simp;exact hK.out _ _ (Ja _ _) (SgV.mk (N:=200) 5 l1 l2 (s.mono (by decide)) z1 z2 (by decide))
        refine Steps.o [4,24] (k:=26) (n9S _ _ _ _ _) (fun xs wx hS hV K hK=>?_) ?_
        · exact wantedp (wp_sgs [xs 4,xs 24] (fc (p:=SgV 200 wx) hV.1 (fc hV.2.1 fn)) fun w2 s b _=>hK.out _ _ b s)
        refine Steps.o [25] (k:=27) (n9S _ _ _ _ _) (fun xs wx hS hV K hK=>?_) ?_
        · have s:SgsV 200 2 wx (xs 25):=hV.1;obtain ⟨A3,c3,e3⟩:=s.form;rw [e3] at s;rw [e3] at hK ⊢;go_simp;exact hK.out _ _ (Ja _ _) (FlV.mk (N:=200) 92 (StsV.nil wx) s (by decide))
        refine Steps.o [] (k:=28) (n9S _ _ _ _ _) (fun xs wx hS hV K hK=>?_) ?_
        · clear hV;go_simp;exact hK.out _ _ ((Ja _ _).alloc (Jd _) _) ⟨_,rfl,hS.size,Blk.new _ _ _⟩
        exact Steps.nil
       case q =>
        intro xs w4 hS hV;have f26:FlV 1048576 w4 (xs 26):=hV 26 (by decide);obtain ⟨p,e27,hp,hk⟩:Bx w3.heap.size w4 (xs 27):=hV 27 (by decide);clear hV;rw [e27];refine wpList_want (fun K hK=>wp_box p Q4 hk f26.flat (fun w5 X g5 z5=>hK _ _ ?_) (hZ:=rfl));clear hK K;have q5:Below w3.heap.size w3 w5:=below_but hS g5 hS.size hp;have F:=f26.but g5 hk noT0;have q5:Below w3.heap.size w3 w5:=below_but hS g5 hS.size hp;have F:=f26.but g5 hk noT0;generalize xs 26=FV at *;rw [Yh];replace X:=hY X;replace F:=hY F;replace S:=hY (S.out.new q5);replace E:=hY (E.out.new q5);replace P3:=hY (P3.out.trans (q5.mono P3.out.size));clear q5 g5 z5 f26 hk hS hp;go_upto_region 10 with fail;refine' z8 (fun wx=>Below w5.heap.size w5 wx) (VLs (n10L FV (.slice (some ⟨g,0,none⟩) 17 17) i k)) ?F2 ?hF2 (by kernel_rfl) (by kernel_rfl) (by kernel_rfl) (Ja _ _).drew ?st2 ?q2
        case hF2 =>intro xs;refine (zz _ _ _).trans ?_;simp only [zR,Act.put,List.setIfInBounds_toArray,List.set_cons_zero,List.set_cons_succ,Nat.reduceAdd,Jq];exact rfl
        case st2 =>
         refine Steps.o [] (k:=1) (n10S _ _ _ _) (fun xs wx hS hV K hK=>?_) ?_
         · clear hV;exact wantedp (wp_unbox Q4 (X.out.new hS X.out.lt) (hK.out _ _ (Ja _ _) rfl))
         refine Steps.o [0] (k:=2) (n10S _ _ _ _) (fun xs wx hS hV K hK=>?_) ?_
         · rw [show xs 0=FV from hV.1] at hK ⊢;go_simp;refine (kFiles (F.out.new hS) (E.out.new hS)).mono ?_;rintro r w2 ⟨rfl,p⟩;exact hK.out _ _ p rfl
         refine Steps.o [1] (k:=3) (n10S _ _ _ _) (fun xs wx hS hV K hK=>?_) ?_
         · rw [show xs 1=.bool true from hV.1] at hK ⊢;go_simp;exact hK.out _ _ (Ja _ _) rfl
         refine Steps.o [2] (k:=4) (n10S _ _ _ _) (fun xs wx hS hV K hK=>?_) ?_
         · rw [show xs 2=.bool false from hV.1] at hK ⊢;go_simp;exact hK.out _ _ (Ja _ _) rfl
         refine Steps.o [3] (k:=5) (n10S _ _ _ _) (fun xs wx hS hV K hK=>?_) ?_
         · rw [show xs 3=.bool false from hV.1] at hK ⊢;refine wantedg ?_;exact wp_unbox Q4 (X.out.new hS X.out.lt) (hK.out _ _ (Ja _ _) rfl)
         refine Steps.o [3] (k:=6) (n10S _ _ _ _) (fun xs wx hS hV K hK=>?_) ?_
         · rw [show xs 3=.bool false from hV.1] at hK ⊢;refine wantedg ?_;go_simp;exact hK.out _ _ (Ja _ _) rfl
         refine Steps.o [4,5,3] (k:=7) (n10S _ _ _ _) (fun xs wx hS hV K hK=>?_) ?_
         · rw [show xs 3=.bool false from hV.2.2.1] at hK ⊢;refine wantedg ?_;rw [show xs 4=FV from hV.1,show xs 5=.int .i64 (i:Int) from hV.2.1] at hK ⊢;go_simp;refine (kFirst i (F.out.new hS) (by omega) (by omega) (E.out.new hS)).mono ?_;rintro r w2 ⟨rfl,p⟩;exact hK.out _ _ p rfl
         refine Steps.o [6,3] (k:=8) (n10S _ _ _ _) (fun xs wx hS hV K hK=>?_) ?_
         · rw [show xs 3=.bool false from hV.2.1] at hK ⊢;refine wantedg ?_;rw [show xs 6=.bool true from hV.1] at hK ⊢;go_simp;exact hK.out _ _ (Ja _ _) rfl
         refine Steps.o [3,7] (k:=9) (n10S _ _ _ _) (fun xs wx hS hV K hK=>?_) ?_
         · rw [show xs 3=.bool false from hV.1,show xs 7=.bool false from hV.2.1] at hK ⊢;go_simp;exact hK.out _ _ (Ja _ _) rfl
         refine Steps.o [8] (k:=10) (n10S _ _ _ _) (fun xs wx hS hV K hK=>?_) ?_
         · rw [show xs 8=.bool false from hV.1] at hK ⊢;go_simp;exact hK.out _ _ (Ja _ _) rfl
         refine Steps.o [9] (k:=11) (n10S _ _ _ _) (fun xs wx hS hV K hK=>?_) ?_
         · rw [show xs 9=.bool false from hV.1] at hK ⊢;refine wantedg ?_;exact wp_unbox Q4 (X.out.new hS X.out.lt) (hK.out _ _ (Ja _ _) rfl)
         refine Steps.o [9] (k:=12) (n10S _ _ _ _) (fun xs wx hS hV K hK=>?_) ?_
         · rw [show xs 9=.bool false from hV.1] at hK ⊢;refine wantedg ?_;go_simp;exact hK.out _ _ (Ja _ _) rfl
         refine Steps.o [9] (k:=13) (n10S _ _ _ _) (fun xs wx hS hV K hK=>?_) ?_
         · rw [show xs 9=.bool false from hV.1] at hK ⊢;refine wantedg ?_;go_simp;exact hK.out _ _ (Ja _ _) rfl
         refine Steps.o [11,12,9] (k:=14) (n10S _ _ _ _) (fun xs wx hS hV K hK=>?_) ?_
         · rw [show xs 9=.bool false from hV.2.2.1] at hK ⊢;refine wantedg ?_;rw [show xs 11=.slice (some ⟨g,0,none⟩) 17 17 from hV.1,show xs 12=.int .i64 (k:Int) from hV.2.1] at hK ⊢;obtain ⟨T,a,c,b⟩:=(S.out.new hS).el (i:=k) (by omega);rw [Jq] at a;have k17:(k:Int)<17:=by omega
           go_simp;exact hK.out _ _ (Ja _ _) ⟨_,_,T,rfl,a,c,b⟩
         refine Steps.o [13,9] (k:=15) (n10S _ _ _ _) (fun xs wx hS hV K hK=>?_) ?_
         · rw [show xs 9=.bool false from hV.2.1] at hK ⊢;refine wantedg ?_;obtain ⟨g2,q2,T,e,a,c,b⟩:PSt 100 wx (xs 13):=hV.1;rw [e] at hK ⊢;exact wp_mid yu a c (hK.out _ _ (Ja _ _) b)
         refine Steps.o [10,14,9] (k:=16) (n10S _ _ _ _) (fun xs wx hS hV K hK=>?_) ?_
         · rw [show xs 9=.bool false from hV.2.2.1] at hK ⊢;refine wantedg ?_;have s:StV 100 wx (xs 14):=hV.2.1;rw [show xs 10=FV from hV.1] at hK ⊢;go_simp;refine (kAlone (F.out.new hS) (s.mono (by decide)) (E.out.new hS)).mono ?_;rintro r w2 ⟨rfl,p⟩;exact hK.out _ _ p rfl
         refine Steps.o [15,9] (k:=17) (n10S _ _ _ _) (fun xs wx hS hV K hK=>?_) ?_
         · rw [show xs 9=.bool false from hV.2.1] at hK ⊢;refine wantedg ?_;rw [show xs 15=.bool true from hV.1] at hK ⊢;go_simp;exact hK.out _ _ (Ja _ _) rfl
         refine Steps.o [9,16] (k:=18) (n10S _ _ _ _) (fun xs wx hS hV K hK=>?_) ?_
         · rw [show xs 9=.bool false from hV.1,show xs 16=.bool false from hV.2.1] at hK ⊢;go_simp;exact hK.out _ _ (Ja _ _) rfl
         exact Steps.nil
        case q2 =>
         intro xs w6 hS hV;have e17:xs 17=.bool false:=hV 17 (by decide);rw [e17];clear e17 hV;go_wp2_with fail;go_roundw
         case rel=>exact ⟨k+1,by omega,by go_num,hY (P3.out.trans (hS.mono P3.out.size))⟩
         case measure=>simp [intOf];omega
     · have k1:decide ((k:Int)<8)=false:=dF (by omega);have k2:¬ (k:Int)<8:=by omega
       go_wp2_with fail;go_roundw
       case rel=>exact ⟨i+1,by omega,by go_num,hY (P2.out.trans (P3.out.mono P2.out.size))⟩
       case measure=>simp [intOf];omega
  · have i1:decide ((i:Int)<8)=false:=dF (by omega);have i2:¬ (i:Int)<8:=by omega
    go_wp2_with fail;go_loopw [6,7,8,9] (fun t6 _ _ _ wr=>∃ j:Nat,j≤17∧t6=.int .i64 (j:Int)∧Hid (Below w2.heap.size w2 wr)) (fun t6 _ _ _ _=>17 - (intOf t6).toNat)
    case atStart=>exact ⟨0,by omega,rfl,hY (Ja _ _)⟩
    case round =>
     rename World=>w3;obtain ⟨j,hj,rfl,P3⟩:=hrel;have j0:(0:Int)≤(j:Int):=by omega
     rcases Jh j 17 with hjn | hjn
     · have j1:decide ((j:Int)<17)=true:=dT (by omega);have j2:(j:Int)<17:=by omega
       have Q:=hY (P2.out.trans (P3.out.mono P2.out.size));replace S:=hY (S.out.new Q.out);replace E:=hY (E.out.new Q.out);clear Q;go_upto_region 15 with fail;refine' zk 10 (fun wx=>Below w3.heap.size w3 wx) (VLs (n15L (.slice (some ⟨g,0,none⟩) 17 17) j w3.heap.size)) ?F3 ?hF3 (by kernel_rfl) (by kernel_rfl) (by kernel_rfl) (by decide) (by kernel_rfl) (by kernel_rfl) (by kernel_rfl) (Ja _ _).drew ?st3 ?q3
       case hF3 =>intro xs;refine (zz _ _ _).trans ?_;simp only [zR,Act.put,List.setIfInBounds_toArray,List.set_cons_zero,List.set_cons_succ,Nat.reduceAdd,Jq];exact rfl
       case st3 =>
        refine Steps.o [] (k:=1) (n15S _ _ _) (fun xs wx hS hV K hK=>?_) ?_
        · clear hV;go_simp;refine (pair_mk (N:=100) 1 [65] [120] ⟨by decide,by decide⟩).mono ?_;rintro r w2 ⟨u,rfl,s,p⟩;exact hK.out _ _ p s
        refine Steps.o [] (k:=2) (n15S _ _ _) (fun xs wx hS hV K hK=>?_) ?_
        · clear hV;go_simp;exact hK.out _ _ (Ja _ _) rfl
        refine Steps.o [] (k:=3) (n15S _ _ _) (fun xs wx hS hV K hK=>?_) ?_
        · clear hV;go_simp;exact hK.out _ _ (Ja _ _) rfl
        refine Steps.o [1,2] (k:=4) (n15S _ _ _) (fun xs wx hS hV K hK=>?_) ?_
        · rw [show xs 1=.slice (some ⟨g,0,none⟩) 17 17 from hV.1,show xs 2=.int .i64 (j:Int) from hV.2.1] at hK ⊢;obtain ⟨T,a,c,b⟩:=(S.out.new hS).el hjn;rw [Jq] at a;go_simp;exact hK.out _ _ (Ja _ _) ⟨_,_,T,rfl,a,c,b⟩
        refine Steps.o [3] (k:=5) (n15S _ _ _) (fun xs wx hS hV K hK=>?_) ?_
        · obtain ⟨g2,q2,T,e,a,c,b⟩:PSt 100 wx (xs 3):=hV.1;rw [e] at hK ⊢;exact wantedp (wp_mid yu a c (hK.out _ _ (Ja _ _) b))
        refine Steps.o [0,4] (k:=6) (n15S _ _ _) (fun xs wx hS hV K hK=>?_) ?_
        · exact wantedp (wp_sts [xs 0,xs 4] (fc (p:=StV 100 wx) hV.1 (fc hV.2.1 fn)) fun w2 s _ b _=>hK.out _ _ b s)
        refine Steps.o [] (k:=7) (n15S _ _ _) (fun xs wx hS hV K hK=>?_) ?_
        · clear hV;go_simp;exact hK.out _ _ (Ja _ _) (SgV.mk (N:=200) (n:=0) 9 [97] [] (StsV.nil wx) (by decide) (by decide) (by decide))
        refine Steps.o [6] (k:=8) (n15S _ _ _) (fun xs wx hS hV K hK=>?_) ?_
        · exact wantedp (wp_sgs [xs 6] (fc (p:=SgV 200 wx) hV.1 fn) fun w2 s b _=>hK.out _ _ b s)
        refine Steps.o [5,7] (k:=9) (n15S _ _ _) (fun xs wx hS hV K hK=>?_) ?_
        · have s:StsV 100 2 wx (xs 5):=hV.1;have s2:SgsV 200 1 wx (xs 7):=hV.2.1;obtain ⟨g3,o3,c3,e3⟩:=s.form (by decide);obtain ⟨A4,c4,e4⟩:=s2.form;rw [e3] at s;rw [e4] at s2;rw [e3,e4] at hK ⊢;go_simp;exact hK.out _ _ (Ja _ _) (FlV.mk (N:=200) 92 (s.mono (by decide)) s2 (by decide))
        refine Steps.o [] (k:=10) (n15S _ _ _) (fun xs wx hS hV K hK=>?_) ?_
        · clear hV;go_simp;exact hK.out _ _ ((Ja _ _).alloc (Jd _) _) ⟨_,rfl,hS.size,Blk.new _ _ _⟩
        exact Steps.nil
       case q3 =>
        intro xs w4 hS hV;have f8:FlV 2000 w4 (xs 8):=hV 8 (by decide);obtain ⟨p,e9,hp,hk⟩:Bx w3.heap.size w4 (xs 9):=hV 9 (by decide);clear hV;rw [e9];refine wpList_want (fun K hK=>wp_box p Q4 hk f8.flat (fun w5 X g5 z5=>hK _ _ ?_) (hZ:=rfl));clear hK K;have q5:Below w3.heap.size w3 w5:=below_but hS g5 hS.size hp;have F:=f8.but g5 hk noT0;generalize xs 8=FV at *;obtain ⟨T,rfl,-,-⟩:=F.flat;rw [Yh];replace X:=hY X;replace F:=hY F;replace E:=hY (E.out.new q5);replace P3:=hY (P3.out.trans (q5.mono P3.out.size));clear q5 g5 z5 f8 hk hS hp e9;go_wp2_with fail;refine (pair_mk (N:=100) 1 [65] [] ⟨by decide,by decide⟩).mono ?_;rintro r w1 ⟨u,rfl,su,p2⟩;replace E:=hY (E.out.new p2);replace X:=hY (X.out.new p2 X.out.lt);replace F:=hY (F.out.new p2);replace P3:=hY (P3.out.trans (p2.mono P3.out.size));clear p2;have fu:=su.flat;obtain ⟨T8,rfl,-,-⟩:=su.flat;rename World=>w6;go_upto_region 17 with (refine wpList_want (fun K hK=>wp_box0 yu fu fun w7 Y q8 z8=>hK _ _ ?_);clear hK K)
        rw [Yh];replace z8:=hY z8;obtain ⟨y6,c6⟩:=Y.cell (i:=6) (by omega);have f6:=Y.frozen 6;go_upto_region 18 with fail;replace q8:Below w6.heap.size w6 (w7.setCell ⟨w6.heap.size,6,none⟩ (.bool true)):=q8.setCell (Jd _) _;replace Y:=Y.setF 6 (.bool true);have SY:=(su.bare_ true).new q8;obtain ⟨w8,hw8⟩:∃ y,w7.setCell ⟨w6.heap.size,6,none⟩ (.bool true)=y:=⟨_,rfl⟩
        rw [hw8] at Y SY q8 ⊢;replace Y:=hY Y;replace SY:=hY SY;replace E:=hY (E.out.new q8);replace X:=hY (X.out.new q8 X.out.lt);replace F:=hY (F.out.new q8);replace P3:=hY (P3.out.trans (q8.mono P3.out.size));clear hw8 q8 z8 c6 f6 su fu;go_upto_region 19 with (first | (refine wpList_want (fun K hK=>wp_unbox Q4 X.out (hK _ _ ?_));clear hK K) | (refine wpList_want (fun K hK=>wp_box0 Q4 F.out.flat fun w9 Z q9 z9=>hK _ _ ?_);clear hK K))
        rw [Yh];replace q9:=hY q9;replace Z:=hY Z;clear z9;have Y8:=Y;have SY8:=SY;replace Y:=hY (Y8.out.new q9.out Y8.out.lt);replace SY:=hY (SY8.out.new q9.out);clear Y8 SY8;refine' zk 3 (fun wx=>Below w9.heap.size w9 wx) (VLs (n19L)) ?F4 ?hF4 (by kernel_rfl) (by kernel_rfl) (by kernel_rfl) (by decide) (by kernel_rfl) (by kernel_rfl) (by kernel_rfl) (Ja _ _).drew ?st4 ?q4
        case hF4 =>intro xs;refine (zz _ _ _).trans ?_;simp only [zR,Act.put,List.setIfInBounds_toArray,List.set_cons_zero,List.set_cons_succ,Nat.reduceAdd,Jq];exact rfl
        case st4 =>
         refine Steps.o [] (k:=1) n19S (fun xs wx hS hV K hK=>?_) ?_
         · clear hV;exact wantedp (wp_unbox yu (Y.out.new hS Y.out.lt) (hK.out _ _ (Ja _ _) (SY.out.new hS)))
         refine Steps.o [] (k:=2) n19S (fun xs wx hS hV K hK=>?_) ?_
         · clear hV;go_simp;refine (pair_mk (N:=100) 1 [65] [39] ⟨by decide,by decide⟩).mono ?_;rintro r w2 ⟨u,rfl,s,p⟩;exact hK.out _ _ p s
         refine Steps.o [0,1] (k:=3) n19S (fun xs wx hS hV K hK=>?_) ?_
         · exact wantedp (wp_sts [xs 0,xs 1] (fc (p:=StV 100 wx) hV.1 (fc hV.2.1 fn)) fun w2 s _ b _=>hK.out _ _ b s)
         exact Steps.nil
        case q4 =>
         intro xs w10 hS hV;have s2:StsV 100 2 w10 (xs 2):=hV 2 (by decide);obtain ⟨g2,o2,c2,e2⟩:=s2.form (by decide);rw [e2] at s2 ⊢;have Z9:=Z.out.new hS Z.out.lt;have q10:=q9.out.trans (hS.mono q9.out.size);have X10:=X.out.new q10 X.out.lt;obtain ⟨W,u,hW,X7,X9,F7,F9,qW⟩:=bxf X10 Z9 (F.out.new q10) s2 (Nat.ne_of_lt X.out.lt) q10 (Jd _) (by decide) (by decide);obtain ⟨y9,c9⟩:=Z9.cell (i:=1) (by omega);have f9:=Z9.frozen 1;clear hV s2 e2;go_upto_region 20 with fail;replace E:=hY (E.out.new qW);replace P3:=hY (P3.out.trans (qW.mono P3.out.size));replace X:=hY X7;replace F:=hY F7;replace Z:=hY X9;have G9:=hY F9;clear X7 F7 X9 F9 hW qW c9 f9 Z9 X10 q10 hS q9 Y SY;go_wp2_with (refine wpList_want (fun K hK=>wp_unbox Q4 X.out (hK _ _ ?_));clear hK K);refine (kFiles  F.out E.out).mono ?_;rintro r w3 ⟨rfl,p4⟩;replace E:=hY (E.out.new p4);replace X:=hY (X.out.new p4 X.out.lt);replace F:=hY (F.out.new p4);replace Z:=hY (Z.out.new p4 Z.out.lt);replace G9:=hY (G9.out.new p4);replace P3:=hY (P3.out.trans (p4.mono P3.out.size));clear p4;go_wp2_with (refine wpList_want (fun K hK=>wp_unbox Q4 Z.out (hK _ _ ?_));clear hK K);refine (kFiles  G9.out E.out).mono ?_;rintro r w5 ⟨rfl,p6⟩;replace E:=hY (E.out.new p6);replace X:=hY (X.out.new p6 X.out.lt);replace F:=hY (F.out.new p6);replace Z:=hY (Z.out.new p6 Z.out.lt);replace G9:=hY (G9.out.new p6);replace P3:=hY (P3.out.trans (p6.mono P3.out.size));clear p6;go_wp2_with (refine wpList_want (fun K hK=>wp_unbox Q4 X.out (hK _ _ ?_));clear hK K);refine (kFirst (j:Int) F.out (by omega) (by omega) E.out).mono ?_;rintro r w7 ⟨rfl,p8⟩;replace E:=hY (E.out.new p8);replace X:=hY (X.out.new p8 X.out.lt);replace F:=hY (F.out.new p8);replace Z:=hY (Z.out.new p8 Z.out.lt);replace G9:=hY (G9.out.new p8);replace P3:=hY (P3.out.trans (p8.mono P3.out.size))
         clear p8;go_wp2_with fail;go_roundw
         case rel=>exact ⟨j+1,by omega,by go_num,P3⟩
         case measure=>simp [intOf];omega
     · have j1:decide ((j:Int)<17)=false:=dF (by omega);have j2:¬ (j:Int)<17:=by omega
       go_wp2_with fail;go_ret;exact ⟨rfl,P.out.trans ((P2.out.trans (P3.out.mono P2.out.size)).mono P.out.size)⟩
end Go.Proofs.YtdaejggcjjdhkaaGreatDoor
