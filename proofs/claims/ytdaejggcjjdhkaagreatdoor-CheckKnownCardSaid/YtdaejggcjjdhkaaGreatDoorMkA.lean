/- Cells, blocks, rows, slices. -/
import Derived.WalkKit
import Derived.Maps.AppendAt
import Derived.Deep.AppendLies
import Derived.Deep.Draws
import Derived.Lib.Hide
import Derived.Laws.Rows
import Derived.Laws.Tables
import Derived.ProofKit
import Derived.Laws.OwnMore
import Derived.Lib.SplitLaws
import Derived.Lib.SlTrimSet
import Derived.Test.YtdaejggcjjdhkaaGreatDoorSq
namespace Go.Proofs.YtdaejggcjjdhkaaGreatDoor
open Go.RowKit

def bc (l:List UInt8):List Value:=l.map fun b=>Value.int .u8 (b.toNat:Int)
def bs (l:List UInt8):ByteArray:=⟨l.toArray⟩
def bl (s:ByteArray):List UInt8:=s.data.toList
def sc (l:List (List UInt8)):List Value:=l.map fun s=>Value.string (bs s)
theorem Zh (l:List UInt8):bl (bs l)=l:=rfl
theorem Ym (s:ByteArray):bs (bl s)=s:=by cases s;simp [bs,bl]
theorem Qi (s:ByteArray):(bl s).length=s.size:=by simp [bl]
theorem zd (l:List UInt8):(bs l).size=l.length:=by simp [bs,ByteArray.size]
theorem yJ (a b:List UInt8):bs a++bs b=bs (a++b):=by apply ByteArray.ext;simp [bs,ByteArray.data_append]
theorem Qj (a b:List UInt8):bc (a++b)=bc a++bc b:=by simp [bc]
theorem zG (a b:List (List UInt8)):sc (a++b)=sc a++sc b:=by simp [sc]
theorem Zb (l:List (List UInt8)):(sc l).length=l.length:=by simp [sc]
theorem zad (l:List (List UInt8)):∀ u∈sc l,u.oneCell'=true:=by intro u hu;obtain ⟨_,_,rfl⟩:=List.mem_map.1 hu;rfl
theorem Zq (s:ByteArray) (a b:Nat):bl (s.extract a b)=((bl s).drop a).take (b - a):=by simp [bl,ByteArray.data_extract,Array.toList_extract,List.extract]
theorem Z0 (w:World) (cs:List Value) (e:TypeId):∀ (j:Nat) (u:Value),cs[j]?=some u→(w.alloc (.cells cs.toArray e)).cell? ((⟨w.heap.size,0,none⟩:Addr).add j)=some u:=by intro j u hu;rw [Addr.add_lit,Jq,cell_of_row _ w.heap.size j cs.toArray e (0,0) (heap_alloc_new w _)];simpa using hu

theorem zr {l:List Value} (h:l.all Value.oneCell'=true):∀ u∈l,u.oneCell'=true:=by simpa using h
theorem WL {P:Program} {w:World} {base:Nat} {t e:TypeId} {v:Value} {n:Nat} {l:List UInt8} (ht:P.underlying t=some (.slice e)) (he:P.underlying e=some (.int .u8)) (h:w.ownsRow base e 1 v n (bc l)):
  ∀ dst,P.underlying dst=some .string→(convert t dst v).run P w=.ok (.string (bs l)) w:=by
 intro dst hd;rcases h.2 with ⟨rfl,rfl⟩ | ⟨g,cap,cur,rfl,hb,hg,hn,hc,hs,htk⟩
 · have hl:l=[]:=by have:=h.1;simp [bc] at this;exact this
   subst hl;exact run_convert_bytes_nil w t e ht he 0 0 dst hd
 · have hlen:n=l.length:=by have:=h.1;simp [bc] at this;omega
   subst hlen;have hx:=run_convert_bytes_arg (P:=P) w t e ht he g 0 l.length cap (l.map fun b=>(b.toNat:Int)) (by simp) (fun i hi=>by rw [Jq];have:=h.cells (g:=g) rfl i (.int .u8 ((l[i]).toNat:Int)) (by simp [bc,hi]);rw [Addr.add_lit,Jq] at this;rw [this];simp [List.getD,hi]) dst hd;rw [hx];congr 2;have hf:((fun n:Int=>UInt8.ofNat n.toNat) ∘ fun b:UInt8=>(b.toNat:Int))=id:=by funext b;simp
   simp [strOfNums,bs,hf]

/-! ### A slice that reads as a list,nil let in -/
section
variable {w w':World} {B B' n:Nat} {A:Option Addr} {xs:List Value}
end
theorem zV {w w':World} (h:Below w.heap.size w w') (row:Option Nat):w.grownBy w' row:=⟨h.os,h.tape,h.output,h.size,fun i hi _=>h.block i hi⟩
theorem zy {w w':World} {base:Nat} {e:TypeId} {size:Nat} {v:Value} {n:Nat} {xs:List Value} (h:w.ownsRow base e size v n xs) (hb:Below w.heap.size w w'):w'.ownsRow base e size v n xs:=
 h.kept (zV hb none) (by cases hv:v.ownBlock <;> simp)
theorem zj {B:Nat} {a w:World} (h:Below B a w) (n:Nat):Below B a (w.drewN n):=⟨h.os,h.tape,h.output,h.size,h.block⟩
theorem za {B:Nat} {a b c:World} (h:Below B a b) (k:Below b.heap.size b c) (hB:B≤b.heap.size):Below B a c:=h.trans (k.mono hB)
end Go.Proofs.YtdaejggcjjdhkaaGreatDoor
namespace Go.Proofs.YtdaejggcjjdhkaaGreatDoor
open Go.RowKit

structure yP (P:Program) (t e:TypeId) (z:Value) (k bytes:Nat):Prop where
 ht:P.underlying t=some (.slice e)
 hi:(P.info? e).map (fun i=>(i.zero,i.size,i.bytes))=some (some z,k,bytes)
 hz:z.cells.size=k
 h0:0<k
theorem zg {P:Program} {W W0:World} {ops:Array Oper} {rest:List Oper} {o:Oper} {a:Act} {Q:Exit→Act→World→Prop} (hgd:o.guard=none) (s x:Operand) (t:TypeId)
  (ho:o.op=.call { callee:=.builtin .append,args:=#[s,x],argTypes:=#[t,t] })
  {e:TypeId} {z:Value} {k bytes:Nat} (E:yP P t e z k bytes)
  (base:Nat) (v:Value) (n:Nat) (xs:List Value) (hs:a.eval s=v) (hown:W.ownsRow base e k v n xs)
  (ad:Addr) (m c:Nat) (news:List Value) (hx:a.eval x=.slice (some ad) m c) (hl:news.length=m*k) (hnews:∀ j u,news[j]?=some u→W.cell? (ad.add j)=some u) (h1:∀ u∈news,u.oneCell'=true)
  (h63:n+m≤9223372036854775807) (hbytes:(n+m)*bytes≤140737488355328) (hb:Below base W0 W) (hbase:base≤W.heap.size)
  (h:∀ v' w',w'.ownsRow base e k v' (n+m) (xs++news)→Below base W0 w'→W.grownBy w' v.ownBlock→(v'.ownBlock=v.ownBlock∨v'.ownBlock=some W.heap.size)→wpList P ops Q rest (a.put o.dst v') w'):wpList P ops Q (o::rest) a W:=by
 obtain ⟨i,hi,hz,hsz,hby⟩:=info_parts E.hi;refine wpList_plain hgd fun K hK=>?_;obtain ⟨v',w',hr,h2,h3,_,h5⟩:=run_append_own_at (P:=P) W base t o.type e i z k bytes E.ht hi hz hsz hby E.hz E.h0 v n xs hown ad m c news hl hnews h1 (by unfold maxLen;omega) hbytes hbase;unfold Oper.wp execOp;simp only [ho,resolve,invoke,builtin,Sem.run_bind,Sem.run_pure,Result.andThen_ok,List.map_toArray,List.map_cons,List.map_nil,hs,hx,hr];exact hK _ _ (h v' w' h2 (hb.grown h3 hbase (fun k hk=>(hown.lt k hk).1)) h3 h5)
theorem zc {w:World} {base:Nat} {e:TypeId} {k:Nat} {v:Value} {n:Nat} {xs:List Value} (h:w.ownsRow base e k v n xs):∃ A c,v=.slice A n c:=by
 rcases h.2 with ⟨rfl,rfl⟩ | ⟨g,cap,cur,rfl,_⟩
 · exact ⟨_,_,rfl⟩
 · exact ⟨_,_,rfl⟩
end Go.Proofs.YtdaejggcjjdhkaaGreatDoor
namespace Go.Proofs.YtdaejggcjjdhkaaGreatDoor
open Go Go.RowKit
theorem zA (w:World) (n:Nat) (hn:n=w.heap.size) (cs:List Value) (e:TypeId):∀ (j:Nat) (u:Value),cs[j]?=some u→(w.alloc (.cells cs.toArray e)).cell? ((⟨n,0,none⟩:Addr).add j)=some u:=by subst hn;exact Z0 w cs e
end Go.Proofs.YtdaejggcjjdhkaaGreatDoor
namespace Go.Proofs.YtdaejggcjjdhkaaGreatDoor
open Go.RowKit

def Blk (w:World) (g:Nat) (t:TypeId) (cs:Array Value):Prop:=w.heap[g]?=some (.cells cs t (0,0))
section
variable {w w':World} {g:Nat} {t:TypeId} {cs:Array Value}
theorem Blk.lt (h:Blk w g t cs):g<w.heap.size:=by
 rcases Jh g w.heap.size with hlt | hge
 · exact hlt
 · unfold Blk at h;rw [Array.getElem?_eq_none hge] at h;cases h
theorem Blk.cell (h:Blk w g t cs) (i:Nat):w.cell? ⟨g,i,none⟩=cs[i]?:=cell_of_row w g i cs t (0,0) h
theorem Blk.frozen (h:Blk w g t cs) (i:Nat):w.frozen? ⟨g,i,none⟩=false:=by unfold Blk at h;simp [World.frozen?,h]
theorem Blk.new (w:World) (t:TypeId) (cs:Array Value):Blk (w.alloc (.cells cs t)) w.heap.size t cs:=heap_alloc_new w _
theorem Blk.drewN (h:Blk w g t cs) (n:Nat):Blk (w.drewN n) g t cs:=h
theorem Blk.alloc (h:Blk w g t cs) (o:Obj):Blk (w.alloc o) g t cs:=(Below.heap_alloc w o g h.lt).trans h
theorem Blk.set_ (h:Blk w g t cs) (i:Nat) (u:Value):Blk (w.setCell ⟨g,i,none⟩ u) g t (cs.setIfInBounds i u):=by unfold Blk at h ⊢;simp [World.setCell,Array.getElem?_modify,h]
theorem Blk.below {B:Nat} (h:Blk w g t cs) (hb:Below B w w') (hg:g<B):Blk w' g t cs:=(hb.block g hg).trans h
end
end Go.Proofs.YtdaejggcjjdhkaaGreatDoor
namespace Go.Proofs.YtdaejggcjjdhkaaGreatDoor
open Go Go.RowKit

structure Vq (P:Program) (t:TypeId) (k:Nat):Prop where
 agg:∃ fs,P.underlying t=some (.struct fs)
 size:(P.info? t).map (·.size)=some k
theorem yB (w:World) (g:Nat) (cs:Array Value):(w.setRow g cs).heap.size=w.heap.size:=by simp [World.setRow]
theorem Ye (w:World) (g:Nat) (cs:Array Value):w.grownBy (w.setRow g cs) (some g):=
 ⟨rfl,rfl,rfl,by rw [yB];exact Jd _,fun k _ hk=>by have:g≠k:=fun e=>hk (by rw [e]);simp [World.setRow,Array.getElem?_modify,this]⟩
theorem zS (w:World) (a:Addr) (v:Value):(w.setCell a v).heap.size=w.heap.size:=by simp [World.setCell]
theorem jO {P:Program} {w:World} {g k:Nat} {t:TypeId} {cs:Array Value} (T:Vq P t k) (hk:cs.size=k) (hg:Blk w g t cs):(loadVar t ⟨g,0,none⟩).run P w=.ok (.agg cs) w:=by obtain ⟨fs,hu⟩:=T.agg;exact run_loadVar_row w g _ _ cs (0,0) _ hg hu rfl (by rw [T.size,hk])
theorem ze {P:Program} {W:World} {ops:Array Oper} {rest:List Oper} {o:Oper} {a:Act} {Q:Exit→Act→World→Prop} (hgd:o.guard=none) (x y:Operand) (t:TypeId) (ho:o.op=.store t x y)
  {k:Nat} (T:Vq P t k) (g:Nat) (cs old:Array Value) (hx:a.eval x=.pointer (some ⟨g,0,none⟩)) (hy:a.eval y=.agg cs) (hg:Blk W g t old) (hk1:cs.size=k) (hk2:old.size=k) (h1:cs.toList.all (·.oneCell')=true)
  (hk:∀ w',Blk w' g t cs→W.grownBy w' (some g)→w'.heap.size=W.heap.size→wpList P ops Q rest (a.put o.dst undef) w'):wpList P ops Q (o::rest) a W:=
 wpList_store_row hgd t x y ho g cs hx hy _ old hg (by rw [T.size,hk1]) (by rw [hk1,hk2]) (by rw [←Array.all_toList];exact h1) (hk _ (setRow_heap W g _ _ _ _ hg) (Ye _ _ _) (yB _ _ _))
theorem zo {P:Program} {fn:Func} {s:Nat} {t:TypeId} (hf:fn.results=#[.cell s t]) {k:Nat} (T:Vq P t k) {tmps:Array Value} {w:World} {g:Nat} {cs:Array Value} (hp:tmps.getD s undef=.pointer (some ⟨g,0,none⟩)) (hg:Blk w g t cs) (hk:cs.size=k):
  (results fn tmps).run P w=.ok (.agg cs) w:=by
 have hp':tmps[s]?.getD undef=.pointer (some ⟨g,0,none⟩):=by simpa using hp
 simp [results,hf,hp',asAddr,jO T hk hg]
structure Fx (S:Nat→Prop) (w w':World):Prop where
 os:w'.os=w.os
 tape:w'.tape=w.tape
 output:w'.output=w.output
 size:w.heap.size≤w'.heap.size
 block:∀ b,b<w.heap.size→¬ S b→w'.heap[b]?=w.heap[b]?
section
variable {S S':Nat→Prop} {w w1 w2:World}
theorem Fx.refl:Fx S w w:=⟨rfl,rfl,rfl,Jd _,fun _ _ _=>rfl⟩
theorem Fx.trans (h:Fx S w w1) (k:Fx S w1 w2):Fx S w w2:=
 ⟨k.os.trans h.os,k.tape.trans h.tape,k.output.trans h.output,Jg h.size k.size,fun b hb hn=>(k.block b (Nat.lt_of_lt_of_le hb h.size) hn).trans (h.block b hb hn)⟩
theorem Fx.then (h:Fx S w w1) (k:Fx S' w1 w2) (hS:∀ b,b<w.heap.size→S' b→S b):Fx S w w2:=
 ⟨k.os.trans h.os,k.tape.trans h.tape,k.output.trans h.output,Jg h.size k.size,fun b hb hn=>(k.block b (Nat.lt_of_lt_of_le hb h.size) (fun hs=>hn (hS b hb hs))).trans (h.block b hb hn)⟩
theorem Fx.mono (h:Fx S w w1) (hS:∀ b,b<w.heap.size→S b→S' b):Fx S' w w1:=⟨h.os,h.tape,h.output,h.size,fun b hb hn=>h.block b hb (fun hs=>hn (hS b hb hs))⟩
theorem Fx.of_below {B:Nat} (h:Below B w w1):Fx (fun b=>B≤b) w w1:=⟨h.os,h.tape,h.output,h.size,fun b _ hn=>h.block b (by omega)⟩
theorem Fx.of_grown {row:Option Nat} (h:w.grownBy w1 row):Fx (fun b=>row=some b) w w1:=⟨h.os,h.tape,h.output,h.size,fun b hb hn=>h.block b hb (fun e=>hn e.symm)⟩
theorem Fx.new (h:Below w.heap.size w w1):Fx S w w1:=⟨h.os,h.tape,h.output,h.size,fun b hb _=>h.block b hb⟩
theorem Fx.to_below {B:Nat} (h:Fx S w w1) (hB:B≤w.heap.size) (hS:∀ b,S b→B≤b):Below B w w1:=⟨h.os,h.tape,h.output,h.size,fun b hb=>h.block b (by omega) (fun hs=>by have:=hS b hs;omega)⟩
theorem Fx.blk {g:Nat} {t:TypeId} {cs:Array Value} (h:Fx S w w1) (hg:Blk w g t cs) (hn:¬ S g):Blk w1 g t cs:=(h.block g hg.lt hn).trans hg
theorem Fx.cell {b o:Nat} {v:Value} (h:Fx S w w1) (hc:w.cell? ⟨b,o,none⟩=some v) (hn:¬ S b):w1.cell? ⟨b,o,none⟩=some v:=
 (World.cell?_of_block (a:=⟨b,o,none⟩) (h.block b (Je w _ hc) hn)).trans hc
theorem Fx.own {base k n:Nat} {e:TypeId} {v:Value} {xs:List Value} (h:Fx S w w1) (ho:w.ownsRow base e k v n xs) (hn:∀ g,v.ownBlock=some g→¬ S g):w1.ownsRow base e k v n xs:=by
 refine ⟨ho.1,?_⟩;rcases ho.2 with h1 | ⟨g,cap,cur,rfl,hb,hg,h2⟩
 · exact .inl h1
 · refine .inr ⟨g,cap,cur,rfl,hb,?_,h2⟩;have hlt:g<w.heap.size:=by
    rcases Jh g w.heap.size with hlt | hge
    · exact hlt
    · rw [Array.getElem?_eq_none hge] at hg;cases hg
   rw [h.block g hlt (hn g rfl)];exact hg
theorem Fx.drewN (h:Fx S w w1) (n:Nat):Fx S w (w1.drewN n):=⟨h.os,h.tape,h.output,h.size,h.block⟩
end
def SlA (w:World) (v:Value) (n:Nat) (xs:List Value):Prop:=((∃ A c,v=.slice A 0 c∧(A=none→c=0))∧n=0∧xs=[])∨∃ g o c,v=.slice (some ⟨g,o,none⟩) n c∧∀ (j:Nat) (u:Value),xs[j]?=some u→w.cell? ⟨g,o+j,none⟩=some u
section
variable {w w':World} {v:Value} {n:Nat} {xs:List Value}
theorem SlA.form (h:SlA w v n xs):∃ A c,v=.slice A n c:=by
 rcases h with ⟨⟨A,c,rfl,_⟩,rfl,_⟩ | ⟨g,o,c,rfl,_⟩
 · exact ⟨_,_,rfl⟩
 · exact ⟨_,_,rfl⟩
theorem SlA.new (h:SlA w v n xs) (k:Below w.heap.size w w'):SlA w' v n xs:=by
 rcases h with h | ⟨g,o,c,rfl,hc⟩
 · exact .inl h
 · exact .inr ⟨g,o,c,rfl,fun j u hu=>(k.cell (p:=⟨g,o+j,none⟩) (Je w _ (hc j u hu))).trans (hc j u hu)⟩
theorem SlA.get (h:SlA w v n xs) {j:Nat} {u:Value} (hu:xs[j]?=some u):∃ g o c,v=.slice (some ⟨g,o,none⟩) n c∧w.cell? ⟨g,o+j,none⟩=some u:=by
 rcases h with ⟨_,_,rfl⟩ | ⟨g,o,c,rfl,hc⟩
 · simp at hu
 · exact ⟨g,o,c,rfl,hc j u hu⟩
theorem SlA.own {base k:Nat} {e:TypeId} (h:w.ownsRow base e k v n xs):SlA w v n xs:=by
 rcases h.2 with ⟨rfl,rfl⟩ | ⟨g,cap,cur,rfl,hb,hg,hr⟩
 · refine .inl ⟨⟨none,0,rfl,fun _=>rfl⟩,rfl,Ki (by have:=h.1;simpa using this)⟩
 · refine .inr ⟨g,0,cap,rfl,fun j u hu=>?_⟩;have:=h.cells (g:=g) rfl j u hu
   rwa [Addr.add_lit] at this
end
theorem Xh (g o j:Nat):(⟨g,o,none⟩:Addr).add j=⟨g,o+j,none⟩:=by
 unfold Addr.add
 split
 · rename_i h;rw [h,Nat.add_zero]
 · rfl
theorem VS (w:World) (row:Option Nat):w.grownBy w row:=⟨rfl,rfl,rfl,Jd _,fun _ _ _=>rfl⟩
section
variable {P:Program} {W W0:World}
theorem WM (t ty:TypeId) {e:TypeId} {z:Value} {k bytes:Nat} (E:yP P t e z k bytes)
  (base:Nat) (v:Value) (n:Nat) (xs:List Value) (hown:W.ownsRow base e k v n xs) (src:Value) (m:Nat) (news:List Value) (hsrc:SlA W src m news) (hl:news.length=m*k) (h1:∀ u∈news,u.oneCell'=true)
  (h63:n+m≤9223372036854775807) (hbytes:(n+m)*bytes≤140737488355328) (hb:Below base W0 W) (hbase:base≤W.heap.size):
  ∃ v' w',(Builtin.append_ #[t,t] ty #[v,src]).run P W=.ok v' w'∧w'.ownsRow base e k v' (n+m) (xs++news)∧Below base W0 w'∧W.grownBy w' v.ownBlock∧(v'.ownBlock=v.ownBlock∨v'.ownBlock=some W.heap.size):=by
 obtain ⟨i,hi,hz,hsz,hby⟩:=info_parts E.hi;rcases hsrc with ⟨⟨A,c,rfl,hA⟩,rfl,rfl⟩ | ⟨g,o,c,rfl,hc⟩
 · rcases A with _ | a
   · obtain rfl:=hA rfl;exact ⟨v,W,run_append_owned_none W base t ty e i k E.ht hi v n xs hown,by rw [Nat.add_zero,Kw];exact hown,hb,VS _ _,.inl rfl⟩
   · obtain ⟨v',w',hr,h2,h3,_,h5⟩:=run_append_own_at (P:=P) W base t ty e i z k bytes E.ht hi hz hsz hby E.hz E.h0 v n xs hown a 0 c [] hl (fun j u hu=>by simp at hu) h1 (by unfold maxLen;omega) hbytes hbase;exact ⟨v',w',hr,h2,hb.grown h3 hbase (fun k hk=>(hown.lt k hk).1),h3,h5⟩
 · obtain ⟨v',w',hr,h2,h3,_,h5⟩:=run_append_own_at (P:=P) W base t ty e i z k bytes E.ht hi hz hsz hby E.hz E.h0 v n xs hown ⟨g,o,none⟩ m c news hl (fun j u hu=>by rw [Xh];exact hc j u hu) h1 (by unfold maxLen;omega) hbytes hbase;exact ⟨v',w',hr,h2,hb.grown h3 hbase (fun k hk=>(hown.lt k hk).1),h3,h5⟩
theorem zp {ops:Array Oper} {rest:List Oper} {o:Oper} {a:Act} {Q:Exit→Act→World→Prop} (hgd:o.guard=none) (s x:Operand) (t:TypeId)
  (ho:o.op=.call { callee:=.builtin .append,args:=#[s,x],argTypes:=#[t,t] })
  {e:TypeId} {z:Value} {k bytes:Nat} (E:yP P t e z k bytes)
  (base:Nat) (v:Value) (n:Nat) (xs:List Value) (hs:a.eval s=v) (hown:W.ownsRow base e k v n xs)
  (src:Value) (m:Nat) (news:List Value) (hx:a.eval x=src) (hsrc:SlA W src m news) (hl:news.length=m*k) (h1:∀ u∈news,u.oneCell'=true)
  (h63:n+m≤9223372036854775807) (hbytes:(n+m)*bytes≤140737488355328) (hb:Below base W0 W) (hbase:base≤W.heap.size)
  (h:∀ v' w',w'.ownsRow base e k v' (n+m) (xs++news)→Below base W0 w'→W.grownBy w' v.ownBlock→(v'.ownBlock=v.ownBlock∨v'.ownBlock=some W.heap.size)→wpList P ops Q rest (a.put o.dst v') w'):wpList P ops Q (o::rest) a W:=by
 refine wpList_plain hgd fun K hK=>?_;obtain ⟨v',w',hr,h2,h3,h4,h5⟩:=WM (P:=P) (W0:=W0) t o.type E base v n xs hown src m news hsrc hl h1 h63 hbytes hb hbase;unfold Oper.wp execOp;simp only [ho,resolve,invoke,builtin,Sem.run_bind,Sem.run_pure,Result.andThen_ok,List.map_toArray,List.map_cons,List.map_nil,hs,hx,hr];exact hK _ _ (h v' w' h2 h3 h4 h5)
theorem ZM {ops:Array Oper} {o:Oper} {a:Act} {K:Act→World→Prop} {Q:Exit→Act→World→Prop} {F:Prop} (hgd:o.guard=none) (s x:Operand) (t:TypeId)
  (ho:o.op=.call { callee:=.builtin .append,args:=#[s,x],argTypes:=#[t,t] })
  {e:TypeId} {z:Value} {k bytes:Nat} (E:yP P t e z k bytes)
  (base:Nat) (v:Value) (n:Nat) (xs:List Value) (hs:a.eval s=v) (hown:W.ownsRow base e k v n xs)
  (src:Value) (m:Nat) (news:List Value) (hx:a.eval x=src) (hsrc:SlA W src m news) (hl:news.length=m*k) (h1:∀ u∈news,u.oneCell'=true)
  (h63:n+m≤9223372036854775807) (hbytes:(n+m)*bytes≤140737488355328) (hb:Below base W0 W) (hbase:base≤W.heap.size)
  (h:∀ v' w',w'.ownsRow base e k v' (n+m) (xs++news)→Below base W0 w'→W.grownBy w' v.ownBlock→(v'.ownBlock=v.ownBlock∨v'.ownBlock=some W.heap.size)→K (a.put o.dst v') w'):
  if Region.wanted o (yielded ops a.tmps)=true then Oper.wp P o a W K Q else F:=by
 have hw:Region.wanted o (yielded ops a.tmps)=true:=by simp [Region.wanted,hgd]
 rw [if_pos hw];obtain ⟨v',w',hr,h2,h3,h4,h5⟩:=WM (P:=P) (W0:=W0) t o.type E base v n xs hown src m news hsrc hl h1 h63 hbytes hb hbase;unfold Oper.wp execOp;simp only [ho,resolve,invoke,builtin,Sem.run_bind,Sem.run_pure,Result.andThen_ok,List.map_toArray,List.map_cons,List.map_nil,hs,hx,hr];exact h v' w' h2 h3 h4 h5
end
namespace Gl
def cutL (k:UInt8):List UInt8→List (List UInt8)
 | []=>[[]]
 | c::r=>if c=k then []::cutL k r else (c::(cutL k r).headD [])::(cutL k r).tail
theorem cutL_ne (k:UInt8) (s:List UInt8):cutL k s=(cutL k s).headD []::(cutL k s).tail:=by
 cases s with
 | nil=>rfl
 | cons c r=>unfold cutL;split <;> rfl
theorem cutL_no (k:UInt8):∀ (a:List UInt8),(∀ c∈a,c≠k)→cutL k a=[a]
 | [],_=>rfl
 | c::a,h=>by have hc:¬ c=k:=h c (Kh ..);have ih:=cutL_no k a (fun x hx=>h x (Kg _ hx));rw [cutL,if_neg hc,ih];rfl
theorem cutL_cut (k:UInt8):∀ (a r:List UInt8),(∀ c∈a,c≠k)→cutL k (a++k::r)=a::cutL k r
 | [],r,_=>by rw [Kx,cutL,if_pos rfl]
 | c::a,r,h=>by have hc:¬ c=k:=h c (Kh ..);have ih:=cutL_cut k a r (fun x hx=>h x (Kg _ hx));rw [List.cons_append,cutL,if_neg hc,ih];rfl
theorem cutL_length (k:UInt8):∀ s:List UInt8,(cutL k s).length≤s.length+1
 | []=>by simp [cutL]
 | c::r=>by
  have ih:=cutL_length k r;rw [cutL]
  split
  · simp;omega
  · simp only [Ji,List.length_tail];omega
theorem cutL_piece (k:UInt8):∀ (s:List UInt8) (x:List UInt8),x∈cutL k s→x.length≤s.length
 | [],x,h=>by simp [cutL] at h;simp [h]
 | c::r,x,h=>by
  have ih:=cutL_piece k r;rw [cutL_ne k r] at ih;rw [cutL] at h
  split at h
  · rcases Kn.1 h with rfl | h
    · simp
    · have:=cutL_piece k r x h;simp;omega
  · rcases Kn.1 h with rfl | h
    · have:=ih _ (Kh ..);simp only [Ji];omega
    · have:=ih x (Kg _ h);simp;omega
theorem index_byte (k:UInt8):∀ (l:List UInt8),(Lib.index l [k]=-1∧∀ c∈l,c≠k)∨(∃ a r,l=a++k::r∧(∀ c∈a,c≠k)∧Lib.index l [k]=(a.length:Int))
 | []=>.inl ⟨rfl,by simp⟩
 | b::l=>by
  by_cases h:b=k
  · subst h;exact .inr ⟨[],l,rfl,by simp,by simp [Lib.index,List.isPrefixOf]⟩
  · have hp:List.isPrefixOf [k] (b::l)=false:=by simp only [List.isPrefixOf,Bool.and_eq_false_iff];exact .inl (by simpa using fun e=>h e.symm)
    rcases index_byte k l with ⟨h1,h2⟩ | ⟨a,r,h1,h2,h3⟩
    · refine .inl ⟨by simp [Lib.index,hp,h1],fun x hx=>?_⟩;rcases Kn.1 hx with rfl | hx
      · exact h
      · exact h2 x hx
    · refine .inr ⟨b::a,r,by rw [h1];rfl,fun x hx=>?_,?_⟩
      · rcases Kn.1 hx with rfl | hx
        · exact h
        · exact h2 x hx
      · have hne:(Lib.index l [k]==-1)=false:=by rw [h3];simp
        rw [Lib.index,if_neg (by rw [hp];simp),if_neg (by rw [hne];simp),h3];simp
theorem splitK_cut (k:UInt8):∀ (n:Nat) (s:List UInt8),s.length≤n→Lib.splitK [k] 0 (s.count k) s=cutL k s
 | n,s,hn=>by
  rcases index_byte k s with ⟨h1,h2⟩ | ⟨a,r,h1,h2,h3⟩
  · have hc:s.count k=0:=List.count_eq_zero.2 fun h=>h2 k h rfl;rw [hc,cutL_no k s h2,Lib.splitK]
  · have hc:s.count k=r.count k+1:=by rw [h1,List.count_append,List.count_cons_self,List.count_eq_zero.2 fun h=>h2 k h rfl];omega
    have hr:r.length<s.length:=by rw [h1,Jf,Ji];omega
    cases n with
    | zero=>omega
    | succ n =>
     have ih:=splitK_cut k n r (by omega);rw [hc,Lib.splitK,h3,if_neg (by rw [Jx];omega)];have e1:s.take (((a.length:Int)).toNat+0)=a:=by rw [h1];simp
     have e2:s.drop (((a.length:Int)).toNat+[k].length)=r:=by rw [h1,Int.toNat_natCast,List.length_singleton,List.drop_append];simp
     rw [e1,e2,ih,h1,cutL_cut k a r h2]
end Gl
end Go.Proofs.YtdaejggcjjdhkaaGreatDoor
