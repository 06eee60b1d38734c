/- MkL, CkLt -/
import Derived.Test.YtdaejggcjjdhkaaGreatDoorMkK
import Derived.Test.YtdaejggcjjdhkaaGreatDoorMkH
import Derived.Deep.DeepCutAuto
import Derived.Test.YtdaejggcjjdhkaaGreatDoorMkG
import Derived.Test.YtdaejggcjjdhkaaGreatDoorMkB
import Derived.Test.YtdaejggcjjdhkaaGreatDoorMkC
import Derived.Test.YtdaejggcjjdhkaaGreatDoorMkA
import Derived.Laws.BytesArg
import Derived.Laws.StructEq
import Derived.BigQuiet
set_option maxHeartbeats 1000000
set_option maxRecDepth 100000
namespace Go.Proofs.YtdaejggcjjdhkaaGreatDoor
open Go Go.RowKit
structure V15 (w0 w:World) (R:Nat) (s:List UInt8) (p:Nat) (e:UInt8) (no:Int) (v0 v:Value) (Z:Nat) (cz:Array Value):Prop where
 rs:RS15 w R s p e no v
 nw:Nw w0 v0 v
 fx:Fx (Qm R v0) w0 w
 kz:Blk w Z 203 cz
 ne:v.ownBlock≠some Z
 lz:w0.heap.size≤Z
 lt:R<w0.heap.size
section
variable {w0 w w1:World} {R p:Nat} {s:List UInt8} {e:UInt8} {no:Int} {v0 v:Value} {Z:Nat} {cz:Array Value}
theorem RS15.lt (h:RS15 w R s p e no v) {b:Nat} (hb:v.ownBlock=some b):b<w.heap.size:=by obtain ⟨_,⟨n,ns,ho,_⟩,_⟩:=h;exact (ho.lt b hb).2
theorem V15.start (h:RS15 w R s p e no v) (cz:Array Value):V15 w (w.alloc (.cells cz 203)) R s p e no v v w.heap.size cz:=
 ⟨h.new ((Ja _ _).alloc (Jd _) _),.inl rfl,Fx.new ((Ja _ _).alloc (Jd _) _),Blk.new _ _ _,fun hv=>by have:=h.lt hv;omega,Jd _,h.1.lt⟩
theorem V15.go {p':Nat} {no':Int} {v':Value} (h:V15 w0 w R s p e no v0 v Z cz) (hr:RS15 w1 R s p' e no' v') (hn:Nw w v v') (k:Fx (Qm R v) w w1):V15 w0 w1 R s p' e no' v0 v' Z cz:=by
 have hlt:=h.lt;have hlz:=h.lz;refine ⟨hr,h.nw.trans hn h.fx.size,h.fx.s15 k h.nw,k.blk h.kz (fun hs=>hs.elim (fun hs=>by omega) h.ne),fun hv=>?_,hlz,hlt⟩;rcases hn with e | ⟨b,e,hb⟩
 · exact h.ne (e ▸ hv)
 · rw [e] at hv;injection hv with hv;have:=h.kz.lt;omega
theorem V15.new (h:V15 w0 w R s p e no v0 v Z cz) (k:Below w.heap.size w w1):V15 w0 w1 R s p e no v0 v Z cz:=h.go (h.rs.new k) (.inl rfl) (Fx.new k)
theorem V15.drew (h:V15 w0 w R s p e no v0 v Z cz):V15 w0 w.drew R s p e no v0 v Z cz:=h.new (Ja _ _).drew
theorem V15.alloc (h:V15 w0 w R s p e no v0 v Z cz) (o:Obj):V15 w0 (w.alloc o) R s p e no v0 v Z cz:=h.new ((Ja _ _).alloc (Jd _) o)
theorem V15.at_ {q:Nat} (h:V15 w0 w R s p e no v0 v Z cz) (hq:p≤q):V15 w0 (w.setCell ⟨R,1,none⟩ (.int .i64 (q:Int))) R s q e no v0 v Z cz:=h.go (h.rs.at_ hq) (.inl rfl) (yb w R 1 _).to15
theorem V15.to {q:Nat} {no':Int} (h:V15 w0 w R s p e no v0 v Z cz) (k:Fx (fun b=>b=R) w w1) (hq:min p s.length≤q) (hb:Blk w1 R 180 (yC s q e no' v)):V15 w0 w1 R s q e no' v0 v Z cz:=h.go (h.rs.to k hq hb) (.inl rfl) k.to15
theorem V15.oth {S:Nat→Prop} (h:V15 w0 w R s p e no v0 v Z cz) (k:Fx S w w1) (hS:∀ b,S b→w0.heap.size≤b∧v.ownBlock≠some b) (hz:¬ S Z):V15 w0 w1 R s p e no v0 v Z cz:=by have hlt:=h.lt;exact ⟨h.rs.fx k (fun b _ hb=>⟨fun e=>by have:=(hS b hb).1;omega,(hS b hb).2⟩),h.nw,h.fx.then k (fun b hb hs=>by have:=(hS b hs).1;omega),k.blk h.kz hz,h.ne,h.lz,hlt⟩
theorem V15.own {cz':Array Value} (h:V15 w0 w R s p e no v0 v Z cz) (k:Fx (fun b=>b=Z) w w1) (hk:Blk w1 Z 203 cz'):V15 w0 w1 R s p e no v0 v Z cz':=by have hlt:=h.lt;have hlz:=h.lz;exact ⟨h.rs.fx k (fun b _ hb=>⟨fun e=>by have h2:b=Z:=hb;omega,fun hv=>h.ne (by rw [hv];exact congrArg _ hb)⟩),h.nw,h.fx.then k (fun b hb hs=>by have h2:b=Z:=hs;omega),hk,h.ne,hlz,hlt⟩
theorem V15.grow {cz':Array Value} (h:V15 w0 w R s p e no v0 v Z cz) (k:w.grownBy w1 (some Z)) (hk:Blk w1 Z 203 cz'):V15 w0 w1 R s p e no v0 v Z cz':=
 h.own ((Fx.of_grown k).mono fun b _ hb=>by injection hb with hb;exact hb.symm) hk
theorem V15.set (h:V15 w0 w R s p e no v0 v Z cz) (i:Nat) (u:Value):V15 w0 (w.setCell ⟨Z,i,none⟩ u) R s p e no v0 v Z (cz.setIfInBounds i u):=h.own (yb w Z i u) (h.kz.set_ i u)
theorem V15.flat {x:Ex.E} {t nm:List UInt8} {op:UInt8} (h:V15 w0 w R s p e no v0 v Z #[.string (bs t),.string (bs nm),.int .u8 (op.toNat:Int),.slice none 0 0]) (ht:t.length≤2000000) (hn:nm.length≤2000000) {p0:Nat} (hp:p0+1≤p) (hd:Zp .plain s x no p):Ya w0 R s p0 e v0 x (.returned (.agg #[.string (bs t),.string (bs nm),.int .u8 (op.toNat:Int),.slice none 0 0])) w:=
 ⟨p,no,v,t,nm,op,none,0,0,[],rfl,h.rs,h.nw,h.fx,ht,hn,by omega,fun hm=>absurd hm (by omega),PC.nil,hp,hd⟩
end
def brE (e:UInt8):Ex.Vs→Ex.E
 | .bad=>.inl 4
 | .flat _ r'=>.inr r'
 | .deep _ _ r'=>Ex.er (Ex.readL e .braces r')
theorem Vf (e:UInt8) (r:List UInt8):Ex.er (Ex.vR e (123::r))=brE e (Ex.braceL r):=by
 rw [Ex.vR_brace];cases Ex.braceL r with
 | bad=>rfl
 | flat t r'=>rfl
 | deep n op r' =>
  simp only [brE];cases Ex.readL e .braces r' with
  | inl z=>rfl
  | inr pr=>rfl
section
variable {w0 w w1:World} {R p:Nat} {s:List UInt8} {e:UInt8} {no:Int} {v0 v:Value} {Z:Nat} {cz:Array Value}
theorem V15.more (h:V15 w0 w R s p e no v0 v Z cz) (cp:Array Value):V15 w0 (w.alloc (.cells cp 203)) R s p e no v0 v w.heap.size cp:=by have h2:=h.alloc (.cells cp 203);exact ⟨h2.rs,h2.nw,h2.fx,Blk.new _ _ _,fun hv=>by have:=h.rs.lt hv;omega,h.fx.size,h.lt⟩
theorem RS15.after {q b:Nat} (hb:Blk w R 180 (yC s p e no v)) (hn:jY w v b) (hv:v.ownBlock≠some R) (hq:b≤min q s.length):RS15 (w.setCell ⟨R,1,none⟩ (.int .i64 (q:Int))) R s q e no v:=by obtain ⟨n,ns,ho,hnb,hl⟩:=hn;exact ⟨by have:=hb.set_ 1 (.int .i64 (q:Int));simpa [yC] using this,⟨n,ns,(yb w R 1 _).own ho (fun g hg hs=>hv (by rw [hg];exact congrArg _ hs)),by omega,hl⟩,hv⟩
theorem Fx.at15 (k:Fx (Qm R v) w w1) (u:Value):Fx (Qm R v) w (w1.setCell ⟨R,1,none⟩ u):=k.trans ((yb w1 R 1 u).mono fun _ _ h=>.inl h)
end
theorem Yi:yP Tryz.prog 181 203 (.agg #[.string ⟨#[]⟩,.string ⟨#[]⟩,.int .u8 0,.slice none 0 0]) 4 64:=⟨Tryz.underlying181,by kernel_rfl,rfl,by decide⟩
section
variable {s:List UInt8} {e c:UInt8} {k:Ex.Kd} {p p':Nat} {X:Ex.E} {no:Int}
theorem Wb {t:List Ex.Tk} (hR:Ex.readL e k (s.drop p)=Ex.adds t (Ex.readL e k (s.drop p'))) (H:Ex.er (Ex.readL e k (s.drop p))=X):Ex.er (Ex.readL e k (s.drop p'))=X:=by rw [←H,hR,Ex.er_adds]
theorem jR (h:p<s.length):s[p]?=some (s.getD p 0):=by rw [List.getD_eq_getElem?_getD,Jk h];rfl
def Xr (k:Ex.Kd) (e:UInt8) (s:List UInt8) (p:Nat):Bool:=decide (p+1<s.length)&&Ex.escs k e (s.getD (p+1) 0)
theorem VP (hc:s[p]?=some e) (hy:Xr k e s p=true) (H:Ex.er (Ex.readL e k (s.drop p))=X):p+2≤s.length∧Ex.er (Ex.readL e k (s.drop (p+2)))=X:=by unfold Xr at hy;rw [Jy,Jj] at hy;refine ⟨by omega,Wb (t:=[.b (s.getD (p+1) 0)]) ?_ H⟩;rw [yi hc,yi (jR hy.1)];exact Ex.read_esc hy.2
theorem Yq (hc:s[p]?=some e) (hy:Xr k e s p=false) (H:Ex.er (Ex.readL e k (s.drop p))=X):Ex.er (Ex.readL e k (s.drop (p+1)))=X:=by refine Wb (t:=[.b e]) ?_ H;rw [yi hc];refine Ex.read_esc_no fun d hd=>?_;rw [List.head?_drop] at hd;unfold Xr at hy;have hl:=(List.getElem?_eq_some_iff.1 hd).1;rw [decide_eq_true hl,Bool.true_and,List.getD_eq_getElem?_getD,hd] at hy;exact hy
theorem Wa (hc:s[p]?=some c) (h0:c≠e) (h1:c≠36) (h:Ex.stops k c=false) (h2:(Ex.quotes k&&(c==34||c==39))=false) (H:Ex.er (Ex.readL e k (s.drop p))=X):Ex.er (Ex.readL e k (s.drop (p+1)))=X:=by refine Wb (t:=[.b c]) ?_ H;rw [yi hc];exact Ex.read_byte h0 h1 h h2
theorem Ut (hc:s[p]?=some c) (h0:c≠e) (h1:c≠36) (h:Ex.stops k c=true) (H:Ex.er (Ex.readL e k (s.drop p))=X):X=.inr (s.drop (p+1)):=by rw [←H,yi hc,Ex.read_stop h0 h1 h];rfl
theorem VO (h0:(36:UInt8)≠e) (hc:s[p]?=some 36) (H:Ex.er (Ex.readL e k (s.drop p))=X) (hd:Zp .plain s (Ex.er (Ex.vR e (s.drop (p+1)))) no p'):YA k s e X no p':=by
 rw [yi hc] at H;cases hv:Ex.vR e (s.drop (p+1)) with
 | inl z =>rw [hv] at hd;rw [(Ex.read_dollar h0).1 z hv] at H;obtain ⟨a1,a2,a3,a4⟩:=hd;exact .inr ⟨z,H.symm,a1,a2,a3,a4⟩
 | inr pr =>obtain ⟨t,r'⟩:=pr;rw [hv] at hd;obtain ⟨a1,a2⟩:=hd;have a3:p'+r'.length+0=s.length:=a2;rw [(Ex.read_dollar h0).2 t r' hv,Ex.er_adds] at H;have hs:=ZL (Ex.vR_suf hv);refine .inl ⟨a1,by omega,?_⟩;rw [show p'=s.length - r'.length by omega,←hs];exact H
theorem zak (h0:(34:UInt8)≠e) (hq:Ex.quotes k=true) (hc:s[p]?=some 34) (H:Ex.er (Ex.readL e k (s.drop p))=X) (hd:Zp .quoted s (Ex.er (Ex.readL e .quoted (s.drop (p+1)))) no p'):YA k s e X no p':=by
 rw [yi hc] at H;cases hv:Ex.readL e .quoted (s.drop (p+1)) with
 | inl z =>rw [hv] at hd;rw [Ex.read_double_err h0 hq hv] at H;obtain ⟨a1,a2,a3,a4⟩:=hd;exact .inr ⟨z,H.symm,a1,a2,a3,by have:p'+0≤s.length+1:=a4;omega⟩
 | inr pr =>obtain ⟨l,r'⟩:=pr;rw [hv] at hd;obtain ⟨a1,a2⟩:=hd;have a3:p'+r'.length+0=s.length:=a2;rw [Ex.read_double h0 hq hv,Ex.er_adds] at H;have hs:=ZL (Ex.readL_suf hv);refine .inl ⟨a1,by omega,?_⟩;rw [show p'=s.length - r'.length by omega,←hs];exact H
theorem QW (h:YA k s e X no p) (hp:p<s.length):no=0∧Ex.er (Ex.readL e k (s.drop p))=X:=by
 rcases h with ⟨a,_,b⟩ | ⟨z,_,_,_,h,_⟩
 · exact ⟨a,b⟩
 · omega
theorem Y3 (h:YA k s e X no p):p≤s.length+1:=by
 rcases h with ⟨_,a,_⟩ | ⟨z,_,_,_,_,a⟩
 · omega
 · exact a
theorem W4 {q:Nat} (h:YA k s e X no p) (hp:s.length≤p) (hq:Ex.endR k=.inl q) (h0:q≠0):Zp k s X (if no=0 then (q:Int) else no) s.length:=by
 have hk:kb k≤1:=by cases k <;> decide
 rcases h with ⟨a,b,H⟩ | ⟨z,rfl,a,b,_,_⟩
 · rw [Jt hp,Ex.readL_nil,hq] at H;subst H;rw [if_pos a];exact ⟨rfl,h0,Jd _,by omega⟩
 · rw [if_neg (by omega)];exact ⟨a,b,Jd _,by omega⟩
theorem QV (h:YA k s e X no p) (hp:s.length≤p) (hq:Ex.endR k=.inr ([],[])) (hk:kb k=0):Zp k s X no p:=by
 rcases h with ⟨a,b,H⟩ | ⟨z,rfl,a,b,c,d⟩
 · rw [Jt hp,Ex.readL_nil,hq] at H;subst H;exact ⟨a,by show p+0+_=_;omega⟩
 · exact ⟨a,b,c,by omega⟩
theorem jN (h0:(39:UInt8)≠e) (hq:Ex.quotes k=true) (hc:s[p]?=some 39) (hno:∀ c∈s.drop (p+1),c≠39) (H:Ex.er (Ex.readL e k (s.drop p))=X):X=.inl 18:=by rw [←H,yi hc,Ex.read_q1_no h0 hq hno];rfl
theorem lp_q {n:Nat} (h0:(39:UInt8)≠e) (hq:Ex.quotes k=true) (hc:s[p]?=some 39) (hno:∀ i,i<n→s[p+1+i]?≠some 39) (hn:s[p+1+n]?=some 39) (H:Ex.er (Ex.readL e k (s.drop p))=X):Ex.er (Ex.readL e k (s.drop (p+1+n+1)))=X:=by
 have e1:s.drop (p+1)=(s.drop (p+1)).take n++39::s.drop (p+1+n+1):=by have h:=(List.take_append_drop n (s.drop (p+1))).symm;rw [List.drop_drop,yi hn] at h;exact h
 rw [yi hc,e1] at H;rw [Ex.read_q1 h0 hq,Ex.er_adds] at H
 · exact H
 · intro c hc2 h39;obtain ⟨i,hi,hci⟩:=List.getElem_of_mem hc2;rw [Kt] at hi;refine hno i (by omega) ?_;rw [←h39,←hci,List.getElem_take,List.getElem_drop,Jk]
theorem QR {n:Nat} (hno:∀ i,i<n→s[p+i]?≠some 39) (hn:p+n=s.length):∀ c∈s.drop p,c≠39:=by intro c hc h39;obtain ⟨i,hi,hci⟩:=List.getElem_of_mem hc;rw [Jn] at hi;refine hno i (by omega) ?_;rw [←h39,←hci,List.getElem_drop,Jk]
end
theorem L15.push1 {w0 w w1:World} {R p:Nat} {s:List UInt8} {e:UInt8} {no:Int} {v0 v lv lv':Value} {n:Nat} {xs:List Value} {t nm:List UInt8} {op:UInt8} {A:Option Addr} {m c:Nat} {ys:List Value} (h:L15 w0 w R s p e no v0 v lv n xs) (o:Obj)
  (ht:t.length≤2000000) (hn:nm.length≤2000000) (hm:m≤2000001) (hr:Rw4 w (fun b=>b<w0.heap.size∨v.ownBlock=some b∨lv.ownBlock=some b) A m ys) (hp:PC w (fun b=>b<w0.heap.size∨v.ownBlock=some b∨lv.ownBlock=some b) m ys)
  (k:(w.alloc o).grownBy w1 lv.ownBlock) (ho:w1.ownsRow w0.heap.size 203 4 lv' (n+1) (xs++[.string (bs t),.string (bs nm),.int .u8 (op.toNat:Int),.slice A m c])) (hv:lv'.ownBlock=lv.ownBlock∨lv'.ownBlock=some (w.alloc o).heap.size):L15 w0 w1 R s p e no v0 v lv' (n+1) (xs++[.string (bs t),.string (bs nm),.int .u8 (op.toNat:Int),.slice A m c]):=by
 have kn:Fx (fun _=>False) w (w.alloc o):=Fx.new ((Ja _ _).alloc (Jd _) o);exact (h.alloc o).push k ho (hv.imp id fun e=>⟨_,Jd _,e⟩) (PC.one ht hn hm (hr.fx kn fun b _ h=>h.elim False.elim id) (hp.fx kn fun b _ h=>h.elim False.elim id))
theorem yz {w:World} {X:Nat→Prop}:Rw4 w X none 0 []:=fun h=>absurd h (by omega)
theorem Zc {w:World} {base:Nat} {e:TypeId} {k:Nat} {v:Value} {n:Nat} {xs:List Value} (h:w.ownsRow base e k v n xs):(v=.slice none 0 0∧n=0)∨∃ b c,v=.slice (some ⟨b,0,none⟩) n c∧n≤c:=by
 rcases h.2 with h | ⟨g,cap,cur,rfl,_,_,hc,_⟩
 · exact .inl h
 · exact .inr ⟨g,cap,rfl,hc⟩
def Y2 (k i:Int):ByteArray:=strOfNums [35,k % 256,k / 256 % 256,i % 256,i / 256 % 256]
theorem Wn (w:World) (e:TypeId) (xs:List Int):∀ i,i<xs.length→(w.alloc (.cells (xs.map (Value.int .u8)).toArray e)).cell? ⟨w.heap.size,0+i,none⟩=some (.int .u8 (xs.getD i 0)):=by
 intro i hi;have:=Z0 w (xs.map (Value.int .u8)) e i (.int .u8 (xs.getD i 0)) (by simp [List.getD,hi])
 rwa [Addr.add_lit] at this
theorem Zm (k i:Int) (w:World):
  Calls Tryz.prog 196 #[.int .i64 k,.int .i64 i] w fun e w'=>e=.returned (.string (Y2 k i))∧Below w.heap.size w w':=by
 have hcv:=run_convert_bytes_arg (P:=Tryz.prog) (w.alloc (.cells #[.int .u8 35,.int .u8 (k % 256),.int .u8 (k / 256 % 256),.int .u8 (i % 256),.int .u8 (i / 256 % 256)] 5)) 98 5 Tryz.underlying98 Tryz.underlying5 w.heap.size 0 5 5 [35,k % 256,k / 256 % 256,i % 256,i / 256 % 256] rfl (Wn w _ [35,k % 256,k / 256 % 256,i % 256,i / 256 % 256]) 9 Tryz.underlying9;go_enter Tryz.func196,Tryz.ntmps196;go_wp2_with fail;go_ret;exact ⟨rfl,(Ja _ _).alloc (Jd _) _⟩

def jK (k i:Int):List UInt8:=bl (Y2 k i)
def zJ (n:Nat):List (List UInt8):=(List.range n).map fun i:Nat=>jK 90 (i:Int)
theorem W1 (n:Nat):zJ (n+1)=zJ n++[jK 90 (n:Int)]:=by simp [zJ,List.range_succ]
theorem Z2 (n:Nat):(zJ n).length=n:=by simp [zJ]
theorem Uk (l:List (List UInt8)) (x:List UInt8):sc (l++[x])=sc l++[.string (bs x)]:=by simp [sc]
theorem ZR (k i:Int) (w:World) {m:List UInt8} (H:Hid (jK k i=m)):Calls Tryz.prog 187 #[.int .i64 k,.int .i64 i] w fun e w'=>e=.returned (.string (bs m))∧Below w.heap.size w w':=by have hmt:=Zm k i w;rw [show Y2 k i=bs m by rw [←H.out,jK,Ym]] at hmt;go_enter Tryz.func187,Tryz.ntmps187;go_wp2_with fail;refine hmt.mono ?_;rintro e w1 ⟨rfl,hb1⟩;go_wp2_with fail;go_ret;exact ⟨rfl,hb1⟩
theorem U7 (ms:List (List UInt8)) (At:Option Addr) (ct:Nat) (w:World) (hR:SlA w (.slice At ms.length ct) ms.length (sc ms)) (hn:ms.length≤1100000):Calls Tryz.prog 159 #[.slice At ms.length ct] w fun e w'=>(∃ g c,e=.returned (.slice (some ⟨g,0,none⟩) (ms.length+16) c)∧w'.ownsRow w.heap.size 9 1 (.slice (some ⟨g,0,none⟩) (ms.length+16) c) (ms.length+16) (sc (ms++zJ 16)))∧Below w.heap.size w w':=by
 have HR:=hY hR;clear hR;go_enter Tryz.func159,Tryz.ntmps159;go_wp2_with fail;go_loopw [3,4] (fun t3 t4 wr=>∃ i:Nat,i≤ms.length∧t4=.int .i64 (i:Int)∧wr.ownsRow w.heap.size 9 1 t3 i (sc (ms.take i))∧Below w.heap.size w wr) (fun _ t4 _=>ms.length - (intOf t4).toNat)
 case atStart=>exact ⟨0,by omega,rfl,Kj _ _ _ _,Ja _ _⟩
 case round =>
  obtain ⟨i,hi,rfl,hown,hB⟩:=hrel;obtain ⟨AA,ca,rfl⟩:=zc hown;have j0:(0:Int)≤(i:Int):=by omega
  rcases Jh i ms.length with hin | hin
  · have i0:decide ((i:Int)<(ms.length:Int))=true:=dT (by omega);have i1:(i:Int)<(ms.length:Int):=by omega
    have hE:=HR.out.new hB;obtain ⟨g,o,c,hvl,c0⟩:=Yf hE hin;obtain ⟨hA,hcc⟩:At=some ⟨g,o,none⟩∧ct=c:=by injection hvl with e1 _ e3;exact ⟨e1,e3⟩
    subst hA hcc;have hT:Hid (sc (ms.take (i+1))=sc (ms.take i)++[.string (bs ms[i])]):=hY (by rw [List.take_add_one,Jk hin];exact Uk _ _);obtain ⟨x,hxe⟩:∃ x,ms[i]=x:=⟨_,rfl⟩
    rw [hxe] at c0 hT;have hbs:=hB.size;clear hvl hE hxe;go_wp2_with (at_builtin;refine zg rfl _ _ _ rfl Yz _ _ _ _ rfl (hown.alloc _) _ _ _ _ rfl rfl (zA _ _ (by simp) _ _) (by simp [Value.oneCell']) (by omega) (by omega) (hB.alloc hbs _) (by rw [Jb];omega) ?_;intro v1 w1 ho1 hb1 hg1 hat1;obtain ⟨B1,q1,rfl⟩:=zc ho1);go_roundw
    case rel=>exact ⟨i+1,by omega,by go_num,by rw [hT.out];exact ho1,hb1⟩
    case measure=>simp [intOf];omega
  · have i0:decide ((i:Int)<(ms.length:Int))=false:=dF (by omega);obtain rfl:i=ms.length:=by omega
    rw [Ks] at hown;have HO:Hid (wr.ownsRow w.heap.size 9 1 (.slice AA ms.length ca) (ms.length+0) (sc (ms++zJ 0))):=hY (by rw [show zJ 0=[] from rfl,Kw];exact hown);clear hown;go_wp2_with fail;go_loopw [3,5] (fun t3 t5 wv=>∃ j:Nat,j≤16∧t5=.int .i64 (j:Int)∧wv.ownsRow w.heap.size 9 1 t3 (ms.length+j) (sc (ms++zJ j))∧Below w.heap.size w wv) (fun _ t5 _=>16 - (intOf t5).toNat)
    case atStart=>exact ⟨0,by omega,rfl,HO.out,hB⟩
    case round =>
     clear HO hB;obtain ⟨j,hj,rfl,hown,hB⟩:=hrel;obtain ⟨A2,c2,rfl⟩:=zc hown;rcases Jh j 16 with hjn | hjn
     · have j1:(j:Int)<16:=by omega
       obtain ⟨y,hy⟩:∃ y,Hid (jK 90 (j:Int)=y):=⟨_,hY rfl⟩
       have hT:Hid (sc (ms++zJ (j+1))=sc (ms++zJ j)++[.string (bs y)]):=hY (by rw [W1,hy.out,←Kv,Uk]);go_wp2_with (first | (go_at_call 187;refine (ZR _ _ _ hy).mono ?_;rintro e w1 ⟨rfl,hb1⟩;have hownW:=zy hown hb1;have hBW:=za hB hb1 hB.size;have hbs:=hBW.size) | (at_builtin;refine zg rfl _ _ _ rfl Yz _ _ _ _ rfl (hownW.alloc _) _ _ _ _ rfl rfl (zA _ _ (by simp) _ _) (by simp [Value.oneCell']) (by omega) (by omega) (hBW.alloc hbs _) (by rw [Jb];omega) ?_;intro v1 w2 ho1 hb2 hg1 hat1;obtain ⟨B1,q1,rfl⟩:=zc ho1));go_roundw
       case rel=>exact ⟨j+1,by omega,by go_num,by rw [hT.out];exact ho1,hb2⟩
       case measure=>simp [intOf];omega
     · obtain rfl:j=16:=by omega
       obtain ⟨g,cap,hv,_⟩:=hown.form (by omega);rw [hv] at hown;rw [hv];clear hv;go_wp2_with fail;go_ret;exact ⟨⟨g,cap,rfl,hown⟩,hB⟩
theorem XG (ms:List (List UInt8)) (At:Option Addr) (ct:Nat) (w:World) (hR:SlA w (.slice At ms.length ct) ms.length (sc ms)) (hn:ms.length≤1100000):Calls Tryz.prog 132 #[.slice At ms.length ct] w fun e w'=>(∃ g c,e=.returned (.slice (some ⟨g,0,none⟩) ms.length c)∧ms.length+16≤c∧w'.ownsRow w.heap.size 9 1 (.slice (some ⟨g,0,none⟩) (ms.length+16) c) (ms.length+16) (sc (ms++zJ 16)))∧Below w.heap.size w w':=by
 have HR:=hY hR;clear hR;go_enter Tryz.func132,Tryz.ntmps132;go_wp2_with fail;refine (U7 ms At ct _ HR.out hn).mono ?_;rintro e w1 ⟨⟨g,c,rfl,ho⟩,b1⟩;have hc:ms.length+16≤c:=by
  rcases Zc ho with ⟨h,_⟩ | ⟨b,c',h,hc⟩
  · cases h
  · simp only [Value.slice.injEq] at h;omega
 have HO:=hY ho;have i1:(0:Int)≤(ms.length:Int):=by omega
 have i2:(ms.length:Int)≤(c:Int):=by omega
 have i3:ms.length≤c:=by omega
 clear ho;go_wp2_with fail;go_ret;exact ⟨⟨g,c,rfl,hc,HO.out⟩,b1⟩
theorem UZ (n i:Nat) (h:i<n):(zJ n)[i]?=some (jK 90 (i:Int)):=by simp [zJ,h]
theorem QX (es:List (List UInt8)) (i:Nat) (h:i<(es++zJ 16).length):(es++zJ 16)[i]=if h2:i<es.length then es[i] else jK 90 ((i:Int) - (es.length:Int)):=by
 split
 · rename_i h2;rw [List.getElem_append_left h2]
 · rename_i h2;rw [List.getElem_append_right (by omega)];have h3:i - es.length<(zJ 16).length:=by rw [Jf] at h;omega
   have e:=UZ 16 (i - es.length) (by rw [Z2] at h3;exact h3);rw [Jk h3] at e;rw [Jc e];congr 1;omega
theorem Xo (es E:List (List UInt8)) (hE:E=es++zJ 16) (A1 At:Option Addr) (c1 ct:Nat) (w:World) (hR1:SlA w (.slice A1 E.length c1) E.length (sc E)) (hR2:SlA w (.slice At es.length ct) es.length (sc es)) (hn:es.length≤1100000):Calls Tryz.prog 166 #[.slice A1 E.length c1,.slice At es.length ct] w fun e w'=>e=.returned (.bool true)∧Below w.heap.size w w':=by
 have hl:E.length=es.length+16:=by rw [hE,Jf,Z2]
 have HE:Hid (∀ i (h:i<E.length),E[i]=if h2:i<es.length then es[i] else jK 90 ((i:Int) - (es.length:Int))):=hY (by subst hE;exact QX es);have HR1:=hY hR1;have HR2:=hY hR2;have t0:((E.length:Int) != (es.length:Int)+16)=false:=by rw [hl];simp
 have hl1:E.length≤es.length+16:=by omega
 have hl2:es.length+16≤E.length:=by omega
 clear hR1 hR2 hE hl;go_enter Tryz.func166,Tryz.ntmps166;go_wp2_with fail;go_loopw [5,6] (fun t5 _ wr=>∃ i:Nat,i≤E.length∧t5=.int .i64 (i:Int)∧Below w.heap.size w wr) (fun t5 _ _=>E.length - (intOf t5).toNat)
 case atStart=>exact ⟨0,by omega,rfl,Ja _ _⟩
 case round =>
  obtain ⟨i,hi,rfl,hB⟩:=hrel;have j0:(0:Int)≤(i:Int):=by omega
  rcases Jh i E.length with hin | hin
  · have i0:decide ((i:Int)<(E.length:Int))=true:=dT (by omega);have i1:(i:Int)<(E.length:Int):=by omega
    have hw:IntKind.i64.wrap ((i:Int) - (es.length:Int))=(i:Int) - (es.length:Int):=by unfold IntKind.wrap;simp [IntKind.bits,IntKind.signed];omega
    obtain ⟨y,hy⟩:∃ y,Hid (jK 90 ((i:Int) - (es.length:Int))=y):=⟨_,hY rfl⟩
    have hEi:=HE.out i hin;obtain ⟨z,hz⟩:∃ z,Hid (E[i]=z):=⟨_,hY rfl⟩
    have xn:((bs z).toList==(bs z).toList)=true:=beq_self_eq_true _;go_wp2_with fail;refine (ZR 90 ((i:Int) - (es.length:Int)) _ hy).mono ?_;rintro e w1 ⟨rfl,hb1⟩;have hbw:=za hB hb1 hB.size;have HBW:=hY hbw;obtain ⟨g1,o1,c1',hv1,d0⟩:=Yf (HR1.out.new hbw) hin;rw [hz.out] at d0;injection hv1 with hA1 _ hc1;subst hA1 hc1;clear hb1 hbw hB
    by_cases hlt:i<es.length
    · rw [dif_pos hlt,hz.out] at hEi;have k0:decide ((i:Int)<(es.length:Int))=true:=dT (by omega);have k1:(i:Int)<(es.length:Int):=by omega
      obtain ⟨g2,o2,c2',hv2,f0⟩:=Yf (HR2.out.new HBW.out) hlt;rw [←hEi] at f0;injection hv2 with hA2 _ hc2;subst hA2 hc2;clear hEi;go_wp2_with fail;go_roundw
      case rel=>exact ⟨i+1,by omega,by go_num,HBW.out⟩
      case measure=>simp [intOf];omega
    · rw [dif_neg hlt,hz.out,hy.out] at hEi;subst hEi;have k0:decide ((i:Int)<(es.length:Int))=false:=dF (by omega);have k1:¬ (i<es.length):=hlt;go_wp2_with fail;go_roundw
      case rel=>exact ⟨i+1,by omega,by go_num,HBW.out⟩
      case measure=>simp [intOf];omega
  · have i0:decide ((i:Int)<(E.length:Int))=false:=dF (by omega);go_wp2_with fail;go_ret;exact ⟨rfl,hB⟩
theorem XH (es:List (List UInt8)) (g c:Nat) (At:Option Addr) (ct:Nat) (w:World) (ho:SlA w (.slice (some ⟨g,0,none⟩) (es.length+16) c) (es.length+16) (sc (es++zJ 16))) (hc:es.length+16≤c) (hR2:SlA w (.slice At es.length ct) es.length (sc es)) (hn:es.length≤1100000):
  Calls Tryz.prog 141 #[.slice (some ⟨g,0,none⟩) es.length c,.slice At es.length ct] w fun e w'=>e=.returned (.bool true)∧Below w.heap.size w w':=by
 obtain ⟨E,hE⟩:∃ E,E=es++zJ 16:=⟨_,rfl⟩
 have hl:E.length=es.length+16:=by rw [hE,Jf,Z2]
 have HR1:Hid (SlA w (.slice (some ⟨g,0,none⟩) E.length c) E.length (sc E)):=hY (by rw [←hE,←hl] at ho;exact ho);have HR2:=hY hR2;have HE:=hY hE;have t0:((es.length:Int) != (es.length:Int))=false:=by simp
 have i1:(0:Int)≤(es.length:Int)+16:=by omega
 have i2:(es.length:Int)+16≤(c:Int):=by omega
 clear hR2 hE ho;go_enter Tryz.func141,Tryz.ntmps141;go_wp2_with fail;have hk:=Xo es E HE.out (some ⟨g,0,none⟩) At c ct w HR1.out HR2.out hn;rw [hl] at hk;refine hk.mono ?_;rintro e w1 ⟨rfl,b1⟩;go_wp2_with fail;go_ret;exact ⟨rfl,b1⟩
end Go.Proofs.YtdaejggcjjdhkaaGreatDoor
