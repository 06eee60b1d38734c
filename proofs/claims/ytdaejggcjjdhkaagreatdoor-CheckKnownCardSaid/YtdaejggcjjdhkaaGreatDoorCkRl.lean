/- CkRl, CkKb, CkKc, CkOv -/
import Derived.Test.YtdaejggcjjdhkaaGreatDoorCkFu
import Derived.Test.YtdaejggcjjdhkaaGreatDoorCkWk
import Derived.Test.YtdaejggcjjdhkaaGreatDoorCkKa
import Derived.Test.YtdaejggcjjdhkaaGreatDoorCkFx
import Derived.Test.YtdaejggcjjdhkaaGreatDoorCkZi
import Derived.Test.YtdaejggcjjdhkaaGreatDoorCkAl
import Derived.Test.YtdaejggcjjdhkaaGreatDoorCkFl
import Derived.Test.YtdaejggcjjdhkaaGreatDoorCards
import Derived.Test.YtdaejggcjjdhkaaGreatDoorTie
import Derived.ProofKit
import Derived.OpenShut
import Derived.ShutString
import Derived.ChangeOld
import Derived.LaidHandle
import Derived.Deep.DeepHandedRow
import Derived.Shelf.Strings.Shaped
import Derived.SliceStrings
import Derived.Lib.LaidU8T
set_option maxHeartbeats 2000000
set_option maxRecDepth 1000000
namespace Go.Proofs.YtdaejggcjjdhkaaGreatDoor
open Go Go.RowKit
theorem ref18_yes (s:List UInt8) (hs:s.length≤70000) (w:World) (H:Hid (Ck.refR s=true)):Calls Tryz.prog 18 #[.string (bs s)] w fun r w'=>r=.returned (.int .i64 0)∧Below w.heap.size w w':=Yp s hs w H
theorem ref18_no (s:List UInt8) (hs:s.length≤70000) (w:World) (H:Hid (Ck.refR s=false)):Calls Tryz.prog 18 #[.string (bs s)] w fun r w'=>r=.returned (.int .i64 31)∧Below w.heap.size w w':=Yp s hs w H
theorem lawRefs (p:ByteArray) (w:World) (hT:Tabs w) (hg:ErrVar w) (hm:Maxl w):Calls Tryz.prog 5 #[.string p] w fun e w'=>e=.returned (.bool true)∧Below w.heap.size w w':=by
 obtain ⟨s,rfl⟩:∃ s,bs s=p:=⟨_,Ym p⟩
 have hz:=zd s;rcases Jh 65536 (bs s).size with h0 | h0
 · have k0:decide ((65536:Int)<((bs s).size:Int))=true:=dT (by omega);have k1:(65536:Int)<((bs s).size:Int):=by omega
   go_enter Tryz.func5,Tryz.ntmps5;go_wp2_with fail;go_ret;exact ⟨rfl,Ja _ _⟩
 have k0:decide ((65536:Int)<((bs s).size:Int))=false:=dF (by omega);have k1:¬ (65536:Int)<((bs s).size:Int):=by omega
 obtain ⟨b,H⟩:∃ b,Hid (Ck.refR s=b):=⟨_,hY rfl⟩
 have HT:=hY hT;have HV:=hY hg;have HM:=hY hm;clear hT hg hm;cases b with
 | true =>go_enter Tryz.func5,Tryz.ntmps5;go_wp2_with fail;refine (ref18_yes s (by omega) w H).mono ?_;rintro r w1 ⟨rfl,p1⟩;have P1:=hY p1;clear p1;go_wp2_with fail;refine (ref_yes s (by omega) w1 (HM.out.grow P1.out) H.out).mono ?_;rintro r w2 ⟨rfl,p2⟩;have P2:=hY (P1.out.trans (p2.mono P1.out.size));clear p2;go_wp2_with fail;refine (YU 0 w2).mono ?_;rintro r w3 ⟨rfl,p3⟩;have P3:=hY (P2.out.trans (p3.mono P2.out.size));clear p3;go_wp2_with fail;refine (ref_yes s (by omega) w3 (HM.out.grow P3.out) H.out).mono ?_;rintro r w4 ⟨rfl,p4⟩;have P4:=hY (P3.out.trans (p4.mono P3.out.size));clear p4;go_wp2_with fail;refine (YU 0 w4).mono ?_;rintro r w5 ⟨rfl,p5⟩;have P5:=hY (P4.out.trans (p5.mono P4.out.size));clear p5;go_wp2_with fail;refine (zU w5 (HT.out.new P5.out) (HV.out.below P5.out HV.out.lt) (HM.out.grow P5.out)).mono ?_;rintro r w6 ⟨rfl,p6⟩;have P6:=hY (P5.out.trans (p6.mono P5.out.size));clear p6;go_wp2_with fail;go_ret;exact ⟨rfl,P6.out⟩
 | false =>go_enter Tryz.func5,Tryz.ntmps5;go_wp2_with fail;refine (ref18_no s (by omega) w H).mono ?_;rintro r w1 ⟨rfl,p1⟩;have P1:=hY p1;clear p1;go_wp2_with fail;refine (ref_not s (by omega) w1 (HM.out.grow P1.out) H.out).mono ?_;rintro r w2 ⟨rfl,p2⟩;have P2:=hY (P1.out.trans (p2.mono P1.out.size));clear p2;go_wp2_with fail;refine (ZC w2 (HV.out.below P2.out HV.out.lt)).mono ?_;rintro r w3 ⟨rfl,p3⟩;have P3:=hY (P2.out.trans (p3.mono P2.out.size));clear p3;go_wp2_with fail;refine (ref_not s (by omega) w3 (HM.out.grow P3.out) H.out).mono ?_;rintro r w4 ⟨rfl,p4⟩;have P4:=hY (P3.out.trans (p4.mono P3.out.size));clear p4;go_wp2_with fail;refine (ZC w4 (HV.out.below P4.out HV.out.lt)).mono ?_;rintro r w5 ⟨rfl,p5⟩;have P5:=hY (P4.out.trans (p5.mono P4.out.size));clear p5;go_wp2_with fail;refine (zU w5 (HT.out.new P5.out) (HV.out.below P5.out HV.out.lt) (HM.out.grow P5.out)).mono ?_;rintro r w6 ⟨rfl,p6⟩;have P6:=hY (P5.out.trans (p6.mono P5.out.size));clear p6;go_wp2_with fail;go_ret;exact ⟨rfl,P6.out⟩
theorem Blk.new1 (w:World) (o:Obj) (t:TypeId) (cs:Array Value):Blk ((w.alloc o).alloc (.cells cs t)) (w.heap.size+1) t cs:=by
 have q:=Blk.new (w.alloc o) t cs
 rwa [Jb] at q
def Yes (w:World) (r:Ending) (w':World):Prop:=r=.returned (.bool true)∧Below w.heap.size w w'
section
variable {N:Nat} {w:World} {u v:Value}
theorem kSteps (b:Bool) (h:StV 1048576 w u) (E:Env w):Calls Tryz.prog 4 #[u,.bool b] w (Yes w):=by obtain ⟨m,rfl,h1,h2⟩:=h;exact lawSteps m b w h1 (Zy h2) E.t E.v E.m
theorem kFiles (h:FlV 1048576 w u) (E:Env w):Calls Tryz.prog 3 #[u] w (Yes w):=by obtain ⟨f,rfl,h1,h2⟩:=h;exact lawFiles f w h1 (Yd h2) E.t E.v E.m
theorem kAlone (h:FlV 1048576 w u) (k:StV 1048576 w v) (E:Env w):Calls Tryz.prog 6 #[u,v] w (Yes w):=by obtain ⟨f,rfl,h1,h2⟩:=h;obtain ⟨m,rfl,k1,k2⟩:=k;exact lawAlone f m w h1 k1 (Yd h2) (Zy k2) (jd h2) E.t E.v E.m
theorem kFirst (n:Int) (h:FlV 1048576 w u) (h1:0≤n) (h2:n≤1000) (E:Env w):Calls Tryz.prog 7 #[u,.int .i64 n] w (Yes w):=by obtain ⟨f,rfl,k1,k2⟩:=h;exact lawFirst f n w k1 (Yd k2) (by omega) (by omega) E.t E.v E.m
def PairV (op:Int) (k x:List UInt8) (w:World) (u:Value):Prop:=∃ p,u=.agg #[.int .i64 op,.int .i64 2,.string ⟨#[]⟩,.string ⟨#[]⟩,.bool false,.slice (some ⟨p,0,none⟩) 1 1,.bool false,.slice none 0 0,.slice none 0 0,.slice none 0 0]∧Blk w p 61 #[.string (bs k),.string (bs x)]
def Got (N:Nat) (w:World) (r:Ending) (w':World):Prop:=∃ u,r=.returned u∧StV N w' u∧Below w.heap.size w w'
def FullX (u:Value):Prop:=∃ (T:Array Value) (A:Option Addr) (n:Nat),u=.agg T∧T[9]?=some (.slice A n n)∧(A=none∨0<n)∧T[8]?=some (.slice none 0 0)
def GotX (N:Nat) (w:World) (r:Ending) (w':World):Prop:=∃ u,r=.returned u∧(StV N w' u∧FullX u)∧Below w.heap.size w w'
theorem step_mx (op:Int) (ws:List (List UInt8)) (h:SlA w v ws.length (sc ws)) (hl:StLe N ⟨op,2,[],[],false,[],false,ws,[],[]⟩):Calls Tryz.prog 56 #[.int .i64 op,v] w (GotX N w):=by obtain ⟨A,c,rfl⟩:=h.form;have HS:Hid (StV N w (.agg #[.int .i64 op,.int .i64 2,.string ⟨#[]⟩,.string ⟨#[]⟩,.bool false,.slice none 0 0,.bool false,.slice A ws.length c,.slice none 0 0,.slice none 0 0])):=hY (StV.mk op 2 [] [] false false [] ws [] [] (SlA.none w) h (SlA.none w) (SlA.none w) nil_dn hl);clear h hl;go_enter Tryz.func56,Tryz.ntmps56;go_wp2_with fail;have hb:=(Ja w.heap.size w).alloc (Jd _) (.cells #[.int .i64 op,.int .i64 2,.string ⟨#[]⟩,.string ⟨#[]⟩,.bool false,.slice none 0 0,.bool false,.slice A ws.length c,.slice none 0 0,.slice none 0 0] 41);exact bodyPost_ret (zo rfl yu rfl (Blk.new _ _ _) rfl) rfl ⟨_,rfl,⟨HS.out.new hb,_,none,0,rfl,rfl,.inl rfl,rfl⟩,hb⟩
theorem step_mk (op:Int) (ws:List (List UInt8)) (h:SlA w v ws.length (sc ws)) (hl:StLe N ⟨op,2,[],[],false,[],false,ws,[],[]⟩):Calls Tryz.prog 56 #[.int .i64 op,v] w (Got N w):=(step_mx op ws h hl).mono fun _ _ ⟨u,e,h,b⟩=>⟨u,e,h.1,b⟩
theorem pair_ex (op:Int) (k x:List UInt8):Calls Tryz.prog 57 #[.int .i64 op,.string (bs k),.string (bs x)] w fun r w'=>∃ u,r=.returned u∧PairV op k x w' u∧Below w.heap.size w w':=by
 go_enter Tryz.func57,Tryz.ntmps57;go_wp2_with fail;obtain ⟨W,hW⟩:∃ y,(w.alloc (.cells #[.int .i64 op,.int .i64 2,.string ⟨#[]⟩,.string ⟨#[]⟩,.bool false,.slice (some ⟨w.heap.size+1,0,none⟩) 1 1,.bool false,.slice none 0 0,.slice none 0 0,.slice none 0 0] 41)).alloc (.cells #[.string (bs k),.string (bs x)] 61)=y:=⟨_,rfl⟩
 have hb:Below w.heap.size w W:=by rw [←hW];exact ((Ja w.heap.size w).alloc (Jd _) _).alloc (by rw [Jb];omega) _
 have h1:Blk W w.heap.size 41 #[.int .i64 op,.int .i64 2,.string ⟨#[]⟩,.string ⟨#[]⟩,.bool false,.slice (some ⟨w.heap.size+1,0,none⟩) 1 1,.bool false,.slice none 0 0,.slice none 0 0,.slice none 0 0]:=by rw [←hW];exact (Blk.new _ _ _).alloc _
 have h2:Blk W (w.heap.size+1) 61 #[.string (bs k),.string (bs x)]:=by rw [←hW];exact Blk.new1 _ _ _ _
 rw [hW];exact bodyPost_ret (zo rfl yu rfl h1 rfl) rfl ⟨_,rfl,⟨_,rfl,h2⟩,hb⟩
theorem PairV.st {op:Int} {k x:List UInt8} (h:PairV op k x w u) (hl:StLe N ⟨op,2,[],[],false,[⟨k,x⟩],false,[],[],[]⟩):StV N w u:=by obtain ⟨p,rfl,h2⟩:=h;exact StV.mk op 2 [] [] false false [⟨k,x⟩] [] [] [] (SlA.blk (cs:=yV [⟨k,x⟩]) h2) (SlA.none _) (SlA.none _) (SlA.none _) nil_dn hl
theorem pair_mx (op:Int) (k x:List UInt8) (hl:StLe N ⟨op,2,[],[],false,[⟨k,x⟩],false,[],[],[]⟩):Calls Tryz.prog 57 #[.int .i64 op,.string (bs k),.string (bs x)] w (GotX N w):=
 (pair_ex op k x).mono fun _ _ ⟨u,e,h,b⟩=>⟨u,e,⟨h.st hl,by obtain ⟨p,rfl,-⟩:=h;exact ⟨_,none,0,rfl,rfl,.inl rfl,rfl⟩⟩,b⟩
theorem pair_mk (op:Int) (k x:List UInt8) (hl:StLe N ⟨op,2,[],[],false,[⟨k,x⟩],false,[],[],[]⟩):Calls Tryz.prog 57 #[.int .i64 op,.string (bs k),.string (bs x)] w (Got N w):=
 (pair_ex op k x).mono fun _ _ ⟨u,e,h,b⟩=>⟨u,e,h.st hl,b⟩
end
theorem xf_at (q:Nat) (hq:q<10):∀ (us:List Value),(∀ u∈us,Flat 10 u)→∀ (i:Nat) (h:i<us.length),(us.flatMap fun u=>u.cells.toList)[i*10+q]?=us[i].cells.toList[q]?
 | [],_,_,h=>absurd h (by simp)
 | u::us,hf,0,_=>by obtain ⟨T,rfl,h1,-⟩:=hf u Kh;rw [Ke,Nat.zero_mul,Jq,Kb (by show _<T.toList.length;rw [Array.length_toList,h1];exact hq)];rfl
 | u::us,hf,i+1,h=>by
  obtain ⟨T,rfl,h1,-⟩:=hf u Kh;have hl:(Value.agg T).cells.toList.length=10:=by show T.toList.length=10;rw [Array.length_toList,h1]
  rw [Ke,Kc (by rw [hl];omega),hl,show (i+1)*10+q - 10=i*10+q by omega,xf_at q hq us (fun x hx=>hf x (Kg _ hx)) i (by simpa using h)];rfl
theorem rights_x (w:World):Calls Tryz.prog 55 #[] w fun r w'=>∃ g,r=.returned (.slice (some ⟨g,0,none⟩) 17 17)∧(StsV 100 17 w' (.slice (some ⟨g,0,none⟩) 17 17)∧∀ i,i<17→∃ A n,w'.cell? ⟨g,i*10+9,none⟩=some (.slice A n n)∧(A=none∨0<n)∧w'.cell? ⟨g,i*10+8,none⟩=some (.slice none 0 0))∧Below w.heap.size w w':=by
 go_enter Tryz.func55,Tryz.ntmps55;go_wp2_with fail;refine (pair_mx (N:=100) 1 [65] [120] ⟨by decide,by decide⟩).mono ?_;rintro r w1 ⟨u1,rfl,s1,q1⟩;go_wp2_with fail;refine (pair_mx (N:=100) 2 [65] [36,66] ⟨by decide,by decide⟩).mono ?_;rintro r w2 ⟨u2,rfl,s2,q2⟩;go_wp2_with fail;refine (pair_mx (N:=100) 3 [97,47,98] [] ⟨by decide,by decide⟩).mono ?_;rintro r w3 ⟨u3,rfl,s3,q3⟩;go_wp2_with fail;refine (step_mx (N:=100) 4 [[47,97]] (SlA.blk (cs:=sc [[47,97]]) (Blk.new _ _ _)) ⟨by decide,by decide⟩).mono ?_;rintro r w4 ⟨u4,rfl,s4,p4⟩;have q4:=below_new p4;clear p4;go_wp2_with fail;refine (step_mx (N:=100) 5 [[97],[98]] (SlA.blk (cs:=sc [[97],[98]]) (Blk.new _ _ _)) ⟨by decide,by decide⟩).mono ?_;rintro r w5 ⟨u5,rfl,s5,p5⟩;have q5:=below_new p5;clear p5;go_wp2_with fail;refine (step_mx (N:=100) 6 [[97],[98]] (SlA.blk (cs:=sc [[97],[98]]) (Blk.new _ _ _)) ⟨by decide,by decide⟩).mono ?_;rintro r w6 ⟨u6,rfl,s6,p6⟩;have q6:=below_new p6;clear p6;go_wp2_with fail;refine (step_mx (N:=100) 7 [[97]] (SlA.blk (cs:=sc [[97]]) (Blk.new _ _ _)) ⟨by decide,by decide⟩).mono ?_;rintro r w7 ⟨u7,rfl,s7,p7⟩;have q7:=below_new p7;clear p7;go_wp2_with fail;refine (step_mx (N:=100) 8 [[97]] (SlA.blk (cs:=sc [[97]]) (Blk.new _ _ _)) ⟨by decide,by decide⟩).mono ?_;rintro r w8 ⟨u8,rfl,s8,p8⟩;have q8:=below_new p8;clear p8;go_wp2_with fail;refine (step_mx (N:=100) 9 [[97],[98]] (SlA.blk (cs:=sc [[97],[98]]) (Blk.new _ _ _)) ⟨by decide,by decide⟩).mono ?_;rintro r w9 ⟨u9,rfl,s9,p9⟩;have q9:=below_new p9;clear p9;go_wp2_with fail;refine (step_mx (N:=100) 10 [[55],[97]] (SlA.blk (cs:=sc [[55],[97]]) (Blk.new _ _ _)) ⟨by decide,by decide⟩).mono ?_;rintro r w10 ⟨u10,rfl,s10,p10⟩;have q10:=below_new p10;clear p10;go_wp2_with fail
 refine (step_mx (N:=100) 11 [[117]] (SlA.blk (cs:=sc [[117]]) (Blk.new _ _ _)) ⟨by decide,by decide⟩).mono ?_;rintro r w11 ⟨u11,rfl,s11,p11⟩;have q11:=below_new p11;clear p11;go_wp2_with fail;refine (step_mx (N:=100) 12 [[56,48]] (SlA.blk (cs:=sc [[56,48]]) (Blk.new _ _ _)) ⟨by decide,by decide⟩).mono ?_;rintro r w12 ⟨u12,rfl,s12,p12⟩;have q12:=below_new p12;clear p12;have e0:w12.heap.size≤w12.heap.size:=Jd _;obtain ⟨wz,hwz⟩:∃ x,w12.alloc (.cells #[.string ⟨#[120]⟩] 9)=x:=⟨_,rfl⟩
 have rz:Below w12.heap.size w12 wz:=by rw [←hwz];exact (Ja _ _).alloc e0 _
 have r11:=q12.trans (rz.mono q12.size);have r10:=q11.trans (r11.mono q11.size);have r9:=q10.trans (r10.mono q10.size);have r8:=q9.trans (r9.mono q9.size);have r7:=q8.trans (r8.mono q8.size);have r6:=q7.trans (r7.mono q7.size);have r5:=q6.trans (r6.mono q6.size);have r4:=q5.trans (r5.mono q5.size);have r3:=q4.trans (r4.mono q4.size);have r2:=q3.trans (r3.mono q3.size);have r1:=q2.trans (r2.mono q2.size);have b0:=q1.trans (r1.mono q1.size);have kz:SlA wz (.slice (some ⟨w12.heap.size,0,none⟩) 1 1) 1 (sc [[120]]):=by rw [←hwz];exact SlA.blk (cs:=sc [[120]]) (Blk.new _ _ _)
 obtain ⟨us,hus⟩:∃ l,[.agg #[.int .i64 0,.int .i64 0,.string ⟨#[]⟩,.string ⟨#[]⟩,.bool false,.slice none 0 0,.bool false,.slice none 0 0,.slice none 0 0,.slice none 0 0],u1,u2,u3,u4,u5,u6,u7,u8,u9,u10,u11,u12,.agg #[.int .i64 13,.int .i64 2,.string ⟨#[]⟩,.string ⟨#[]⟩,.bool false,.slice none 0 0,.bool false,.slice none 0 0,.slice none 0 0,.slice (some ⟨w12.heap.size,0,none⟩) 1 1],.agg #[.int .i64 14,.int .i64 2,.string ⟨#[]⟩,.string ⟨#[]⟩,.bool false,.slice none 0 0,.bool false,.slice none 0 0,.slice none 0 0,.slice none 0 0],.agg #[.int .i64 15,.int .i64 0,.string ⟨#[]⟩,.string ⟨#[]⟩,.bool false,.slice none 0 0,.bool false,.slice none 0 0,.slice none 0 0,.slice none 0 0],.agg #[.int .i64 (-1),.int .i64 9,.string ⟨#[]⟩,.string ⟨#[]⟩,.bool false,.slice none 0 0,.bool false,.slice none 0 0,.slice none 0 0,.slice none 0 0]]=l:=⟨_,rfl⟩
 have HU:Hid (∀ u∈us,StV 100 wz u∧FullX u):=hY (by
  rw [←hus];intro u hu;simp only [Kn,Kl,or_false] at hu;rcases hu with rfl | rfl | rfl | rfl | rfl | rfl | rfl | rfl | rfl | rfl | rfl | rfl | rfl | rfl | rfl | rfl | rfl
  · exact ⟨StV.mk 0 0 [] [] false false [] [] [] [] (SlA.none _) (SlA.none _) (SlA.none _) (SlA.none _) nil_dn ⟨by decide,by decide⟩,_,none,0,rfl,rfl,.inl rfl,rfl⟩
  · exact ⟨s1.1.new r1,s1.2⟩
  · exact ⟨s2.1.new r2,s2.2⟩
  · exact ⟨s3.1.new r3,s3.2⟩
  · exact ⟨s4.1.new r4,s4.2⟩
  · exact ⟨s5.1.new r5,s5.2⟩
  · exact ⟨s6.1.new r6,s6.2⟩
  · exact ⟨s7.1.new r7,s7.2⟩
  · exact ⟨s8.1.new r8,s8.2⟩
  · exact ⟨s9.1.new r9,s9.2⟩
  · exact ⟨s10.1.new r10,s10.2⟩
  · exact ⟨s11.1.new r11,s11.2⟩
  · exact ⟨s12.1.new rz,s12.2⟩
  · exact ⟨StV.mk 13 2 [] [] false false [] [] [] [[120]] (SlA.none _) (SlA.none _) (SlA.none _) kz nil_dn ⟨by decide,by decide⟩,_,_,1,rfl,rfl,.inr (by decide),rfl⟩
  · exact ⟨StV.mk 14 2 [] [] false false [] [] [] [] (SlA.none _) (SlA.none _) (SlA.none _) (SlA.none _) nil_dn ⟨by decide,by decide⟩,_,none,0,rfl,rfl,.inl rfl,rfl⟩
  · exact ⟨StV.mk 15 0 [] [] false false [] [] [] [] (SlA.none _) (SlA.none _) (SlA.none _) (SlA.none _) nil_dn ⟨by decide,by decide⟩,_,none,0,rfl,rfl,.inl rfl,rfl⟩
  · exact ⟨StV.mk (-1) 9 [] [] false false [] [] [] [] (SlA.none _) (SlA.none _) (SlA.none _) (SlA.none _) nil_dn ⟨by decide,by decide⟩,_,none,0,rfl,rfl,.inl rfl,rfl⟩)
 have HL:Hid (us.length=17):=hY (by rw [←hus];rfl);have HW:=hY hwz;have HB:=hY b0;clear s1 s2 s3 s4 s5 s6 s7 s8 s9 s10 s11 s12 q1 q2 q3 q4 q5 q6 q7 q8 q9 q10 q11 q12 r1 r2 r3 r4 r5 r6 r7 r8 r9 r10 r11 rz kz b0 e0 hwz;go_wp2_with (rw [HW.out];refine wpList_plain rfl fun K hK=>wp_sts (hn:=HL.out) (hev:=(by rw [←hus];kernel_rfl)) us (fun u h=>(HU.out u h).1) fun wy hs hown hb hz=>hK _ _ ?_;clear hK K);go_ret;refine ⟨_,rfl,⟨hs,fun i hi=>?_⟩,HB.out.trans (hb.mono HB.out.size)⟩;have hi2:i<us.length:=by rw [HL.out];exact hi
 obtain ⟨T,A,n,e,hT,hA,hD⟩:=(HU.out us[i] (Jl hi2)).2;refine ⟨A,n,?_,hA,?_⟩
 · rw [hown.cellAt _ (by omega),xf_at 9 (by decide) us (fun u h=>(HU.out u h).1.flat) i hi2,e];exact (Array.getElem?_toList ..).trans hT
 · rw [hown.cellAt _ (by omega),xf_at 8 (by decide) us (fun u h=>(HU.out u h).1.flat) i hi2,e];exact (Array.getElem?_toList ..).trans hD
theorem rights_any (w:World):Calls Tryz.prog 55 #[] w fun r w'=>∃ g,r=.returned (.slice (some ⟨g,0,none⟩) 17 17)∧StsV 100 17 w' (.slice (some ⟨g,0,none⟩) 17 17)∧Below w.heap.size w w':=(rights_x w).mono fun _ _ ⟨g,e,h,b⟩=>⟨g,e,h.1,b⟩
end Go.Proofs.YtdaejggcjjdhkaaGreatDoor
namespace Go.Proofs.YtdaejggcjjdhkaaGreatDoor
open Go.ChangeShapes Go.WideShapes Go.ChangeAt Go.RowKit Go.Shelf

theorem et : Tryz.prog.globalNamed "errors.errorType" = some 0 := by kernel_rfl
theorem rt : (Tryz.prog.cutTypes.find? (·.1 == "internal/reflectlite.rtype")).map (·.2) = some 152 := by kernel_rfl
theorem oneRow:((List.range 258).filter fun t=>Tryz.prog.rowNamed t [101,114,114,111,114])=[32]:=by kernel_rfl
theorem tsize:Tryz.prog.types.size=258:=by kernel_rfl
def laidL3 : List (String × DataW Unit) := [("unicode/utf8.acceptRanges", Rows.laid_unicode_utf8_acceptRanges), ("errors.errorType", Rows.laid_errors_errorType), ("unicode/utf8.first", Rows.laid_unicode_utf8_first)]
theorem laid_filter3 : (laidL3.filter fun x => x.2.handleName?.isSome) = [("errors.errorType", Rows.laid_errors_errorType)] := by rfl
theorem laid_plain3 : (laidL3.filter fun x => x.2.handleName?.isNone) = [("unicode/utf8.acceptRanges", Rows.laid_unicode_utf8_acceptRanges), ("unicode/utf8.first", Rows.laid_unicode_utf8_first)] := by rfl
theorem errVar3 {W:World} (h:laidMetH Tryz.prog laidL3 W):ErrVar W:=by
 unfold laidMetH at h;rw [laid_filter3] at h;have hh:=h.2 _ (Jv.2 rfl);obtain ⟨name,u,ty,e1,e2,e3,e4,e5⟩:=hh;have en:name=[101,114,114,111,114]:=(Jc e1).symm;subst en;obtain rfl:=Jc (rt.symm.trans e2);have hm:ty∈(List.range 258).filter fun t=>Tryz.prog.rowNamed t [101,114,114,111,114]:=List.mem_filter.2 ⟨List.mem_range.2 (by rw [←tsize];exact e3),e4⟩;rw [oneRow] at hm;obtain rfl:=Jv.1 hm;have hq:typeHandle Tryz.prog 32=.pointer (some ⟨4,32,none⟩):=by kernel_rfl
 rw [hq] at e5;unfold ErrVar;simpa using World.var?_cell et e5 0
theorem tabs3 {W:World} (h:laidMetH Tryz.prog laidL3 W):Tabs W:=by unfold laidMetH at h;rw [laid_filter3] at h;have h1:=h.1;rw [laid_plain3] at h1;exact utf8Tabs_of_readsT (ρ:=Tryz.lays196_ren) (U8Types.of196 Tryz.lays196) ⟨by kernel_rfl,by kernel_rfl,by kernel_rfl,by kernel_rfl,by kernel_rfl,by kernel_rfl,by kernel_rfl⟩ (Lib.laidMet.reads h1 (.tail _ (.head _))) (Lib.laidMet.reads h1 (.head _))
def Tryz.laysM145_ren : Go.Shelf.Ren := ⟨fun | 145 => 50 | 220 => 108 | 219 => 144 | 217 => 145 | 225 => 168 | 224 => 169 | 267 => 170 | 266 => 171 | 314 => 192 | n => n, fun | 9 => 9 | 4 => 4 | 59 => 84 | 3 => 3 | 5 => 5 | 46 => 130 | 146 => 221 | 51 => 220 | n => n, fun | 1 => 3 | n => n⟩
theorem Tryz.laysM145 : Go.Proofs.LaysM.n145 Tryz.prog Tryz.laysM145_ren := {
  mixed := by kernel_rfl
  f145 := Tryz.func50.trans (congrArg some (by kernel_rfl))
  f217 := Tryz.func145.trans (congrArg some (by kernel_rfl))
  f219 := Tryz.func144.trans (congrArg some (by kernel_rfl))
  f220 := Tryz.func108.trans (congrArg some (by kernel_rfl))
  f224 := Tryz.func169.trans (congrArg some (by kernel_rfl))
  f225 := Tryz.func168.trans (congrArg some (by kernel_rfl))
  f266 := Tryz.func171.trans (congrArg some (by kernel_rfl))
  f267 := Tryz.func170.trans (congrArg some (by kernel_rfl))
  f314 := Tryz.func192.trans (congrArg some (by kernel_rfl))
  t3 := Tryz.underlying3
  a3 := Tryz.isAgg3
  z3 := Tryz.sizeOf3
  v3 := Tryz.zeroValue3
  t4 := Tryz.underlying4
  a4 := Tryz.isAgg4
  z4 := Tryz.sizeOf4
  v4 := Tryz.zeroValue4
  t5 := Tryz.underlying5
  a5 := Tryz.isAgg5
  z5 := Tryz.sizeOf5
  v5 := Tryz.zeroValue5
  t9 := Tryz.underlying9
  a9 := Tryz.isAgg9
  z9 := Tryz.sizeOf9
  v9 := Tryz.zeroValue9
  t46 := Tryz.underlying130
  a46 := Tryz.isAgg130
  z46 := Tryz.sizeOf130
  v46 := Tryz.zeroValue130
  t51 := Tryz.underlying220
  a51 := Tryz.isAgg220
  z51 := Tryz.sizeOf220
  v51 := Tryz.zeroValue220
  t59 := Tryz.underlying84
  a59 := Tryz.isAgg84
  z59 := Tryz.sizeOf84
  v59 := Tryz.zeroValue84
  t146 := Tryz.underlying221
  a146 := Tryz.isAgg221
  z146 := Tryz.sizeOf221
  v146 := Tryz.zeroValue221
  g1 := by kernel_rfl
  i3 := by kernel_rfl
  i4 := by kernel_rfl
  i5 := by kernel_rfl
  i9 := by kernel_rfl
  i46 := by kernel_rfl
  i51 := by kernel_rfl
  i59 := by kernel_rfl
  i146 := by kernel_rfl
  m1 := by kernel_rfl
  s1_3 := fun w h => Go.Proofs.cell_of_shapedOpen_int (zero := #[.int .i64 0]) (t := 3) h (of_decide_eq_true (by kernel_rfl)) (by kernel_rfl) rfl (by kernel_rfl) (by kernel_rfl) Tryz.underlying3 }
theorem maxl {W:World} (h:W.ShapedOpen Tryz.prog):Maxl W:=Tryz.laysM145.s1_3 W h
def setCells_ (cs:List Value):Obj→Obj
 | .cells _ t frozen=>.cells cs.toArray t frozen
 | o=>o
def flat1:DataW Unit→List Value
 | .lit (.int k a)=>[.int k a]
 | _=>[]
def flat2:DataW Unit→List Value
 | .agg l=>l.flatMap flat1
 | _=>[]
def arCells:List Value:=match (Rows.laid_unicode_utf8_acceptRanges:DataW Unit) with
 | .agg l=>l.flatMap flat2
 | _=>[]
def fiCells:List Value:=flat2 Rows.laid_unicode_utf8_first
noncomputable def laidWorld3 (os:Os):World:=
 { World.holding Tryz.prog os ⟨#[],#[],[]⟩ with heap:=(((World.holding Tryz.prog os ⟨#[],#[],[]⟩).heap.modify 0 (setCells_ [.iface 152 (.agg #[.pointer (some ⟨4,32,none⟩)])])).modify 2 (setCells_ arCells)).modify 1 (setCells_ fiCells) }
end Go.Proofs.YtdaejggcjjdhkaaGreatDoor
