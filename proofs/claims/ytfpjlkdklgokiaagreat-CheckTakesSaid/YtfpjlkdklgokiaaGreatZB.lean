/- A part of the proof of CheckTakes. -/
import Derived.Deep.DeepCutAuto
import Derived.Great.BuildSlice
import Derived.Laws.Append
import Derived.Laws.Cover3
import Derived.Lib.AppendStr
import Derived.Maps.Ext
import Derived.Maps.Keyed
import Derived.Maps.OwnOps
import Derived.Maps.OwnSet
import Derived.Maps.Views
import Derived.RangeFuncBound
import Derived.RangeFuncCalls
import Derived.RangeFuncLeaves
import Derived.RangeFuncNested
import Derived.Test.YtfpjlkdklgokiaaGreatZA
namespace Go.Proofs.YtfpjlkdklgokiaaGreat
set_option maxRecDepth 100000
set_option maxHeartbeats 40000000
open Go.RowKit
open Tryz
variable {n g k gp gd c gl i id b size s r cb mb fb cd h N m fuel j ct p B cap sz gr z gt x aL:Nat} {v c1 c2 c3 c0 c5 c4:Value} {w' W:World} {A D T:Option Addr} {a:Act} {ids q fl l rest:List Nat} {xs fs:List Value} {o oi:Oper} {listed:Array Bool} {P:Program} {e t:TypeId} {args cs' buf:Array Value} {tm:Bool}
theorem CA (s:Sp.Bs) (w:World) (h4:4<=s.length) (hl:s.length<=1000000000) (hne:Sp.cI (s.take (s.length-4))≠s):
 Calls prog 197 #[str s] w λe w'=>e=.returned (.tuple #[str [],.bool false])/\zB w w':=by
 obtain⟨n,hn⟩:∃n,s.length=n+4:=⟨s.length-4,by omega⟩;have hn':s.length-4=n:=by omega
 rw[hn'] at hne;have HS:=zH λw=>mr (s.take n) w (by simp;omega);have hneq:((⟨(Sp.cI (s.take n)).toArray⟩:ByteArray).toList==(⟨s.toArray⟩:ByteArray).toList)=false:=by simpa using hne
 have hneq2:(Sp.cI (s.take n)==s)=false:=by simpa using hne
 generalize hs:Sp.cI (s.take n)=s' at*;have HX:=zH hs;clear hs;go_enter func197,ntmps197;go_wp2_with fail;have hex:(⟨s.toArray⟩:ByteArray).extract 0 n=⟨(s.take n).toArray⟩:=by rw[dw,Nat.sub_zero,List.drop_zero]
 rw[hex];refine(HS.out w).mono ?_;rintro e w1 ⟨rfl,hb1⟩;go_wp2_with fail
 go_ret2
 exact⟨rfl,hb1⟩
theorem vB (s:Sp.Bs) (w:World) (h4:4<=s.length) (hl:s.length<=1000000000) (hne:Sp.cI (s.take (s.length-4))≠s):
 Calls prog 137 #[str s] w λe w'=>e=.returned (.tuple #[.agg #[.int .u8 0,.int .u8 0,.int .u32 0,.int .u64 0,.int .u32 0,.slice none 0 0],.int .i64 60])/\zB w w':=by
 have HO:=zH λW=>CA s W h4 hl hne;clear hne;go_enter func137,ntmps137;go_wp2_with fail;refine(HO.out _).mono ?_;rintro e w1 ⟨rfl,hb1⟩;have fN:=(aj.new w 64 #[.int .u8 0,.int .u8 0,.int .u32 0,.int .u64 0,.int .u32 0,.slice none 0 0]).below hb1 (by simp);have cH:=((Below.refl _ w).alloc (za _) (.cells #[.int .u8 0,.int .u8 0,.int .u32 0,.int .u64 0,.int .u32 0,.slice none 0 0] 64)).trans (hb1.mono (by simp));have z0:=fN.cell 0;have z1:=fN.cell 1;have z2:=fN.cell 2;have z3:=fN.cell 3;have z4:=fN.cell 4;have z5:=fN.cell 5;have f0:=fN.frozen 0;have f1:=fN.frozen 1;have f2:=fN.frozen 2;have f3:=fN.frozen 3;have f4:=fN.frozen 4;have f5:=fN.frozen 5;simp only[zGA,zGB,zGC] at z0 z1 z2 z3 z4 z5;have HX:=zH fN;clear fN hb1;go_wp2_with fail;obtain⟨W8,BX,iB,ig,Fu⟩:=lB HX.out (.int .u8 0) (.int .u8 0) (.int .u32 0) (.int .u64 0) (.int .u32 0) (.slice none 0 0);rw[BX];have z0:=iB.cell 0;have z1:=iB.cell 1;have z2:=iB.cell 2;have z3:=iB.cell 3;have z4:=iB.cell 4;have z5:=iB.cell 5;simp only[zGA,zGB,zGC] at z0 z1 z2 z3 z4 z5;refine bodyPost_ret (v:=.tuple #[.agg #[.int .u8 0,.int .u8 0,.int .u32 0,.int .u64 0,.int .u32 0,.slice none 0 0],.int .i64 60]) (by rw[results_cell_tmp rfl];go_simp) rfl ⟨rfl,cH.trans (ig.below cH.size (λb hb=>by rw[hb];exact za _))⟩
namespace Sp
structure Dk where
 sure:List Bs
 loose:List (Nat×Bs)
 bk:Int
def lay (l:List (Nat×Bs)) (s:List Bs):List Bs:=l.foldl (λs x=>s.set x.1 x.2) s
@[simp] theorem xY:∀(l:List (Nat×Bs)) (s:List Bs),(lay l s).length=s.length
 | [],_=>rfl
 | x::l,s=>by rw[lay,zbh,<-lay,xY l];simp
theorem ny (a b:List (Nat×Bs)) (s:List Bs):lay (a++b) s=lay b (lay a s):=by simp[lay]
structure Dk.wf (d:Dk):Prop where
 some_:1<=d.sure.length
 few:d.sure.length<=16384
 sure:∀s∈d.sure,s.length=128
 loose:∀x∈d.loose,x.1<d.sure.length/\x.2.length=128
def Dk.view (d:Dk):List Bs:=lay d.loose d.sure
theorem Kb {l:List (Nat×Bs)} {s:List Bs} (hs:∀x∈s,x.length=n) (hl:∀x∈l,x.2.length=n):∀x∈lay l s,x.length=n:=by
 induction l generalizing s with
 | nil=>exact hs
 | cons y l ih=>
  rw[lay,zbh,<-lay];refine ih (λx hx=>?_) (λx hx=>hl x (by simp[hx]));rcases List.mem_or_eq_of_mem_set hx with h | h
  ·exact hs x h
  ·rw[h];exact hl y (by simp)
theorem Dk.wf.view {d:Dk} (h:d.wf):∀s∈d.view,s.length=128:=Kb h.sure (λx hx=>(h.loose x hx).2)
def tE (f:Int):Int:=if 0<f then f-1 else f
def Dk.put (d:Dk) (k:Nat) (s:Bs):Dk:={d with loose:=d.loose++[(k,s)],bk:=tE d.bk}
def Dk.synced (d:Dk):Dk:={sure:=d.view,loose:=[],bk:=tE d.bk}
theorem Dk.WW {d:Dk} (h:d.wf) {s:Bs} (hk:k<d.sure.length) (hs:s.length=128):(d.put k s).wf:=
 ⟨h.some_,h.few,h.sure,λx hx=>by
  rcases zz.1 hx with h' | h'
  ·exact h.loose x h'
  ·rw[zq.1 h'];exact⟨hk,hs⟩⟩
theorem Dk.Lu {d:Dk} (h:d.wf):d.synced.wf:=
 ⟨by simpa[synced,view] using h.some_,by simpa[synced,view] using h.few,h.view,λx hx=>by simp[synced] at hx⟩
@[simp] theorem Dk.OL (d:Dk) (k:Nat) (s:Bs):(d.put k s).view=d.view.set k s:=by simp[put,view,lay]
@[simp] theorem Dk.U8 (d:Dk):d.synced.view=d.view:=by simp[synced,view,lay]
end Sp
abbrev dS (A v:Value) (bk:Int):Array Value:=#[A,v,.int .i64 bk]
theorem Cb {w:World} {a:Addr} {bk:Int} (hB:aj w g 160 (dS (.slice (some a) n c) v bk)) (hn:1<=n):
 Calls prog 85 #[.pointer (some ⟨g,0,none⟩)] w λe w'=>e=.returned (.bool false)/\w'=w:=by
 have c0:=hB.cell 0;simp only[dS,zGA,zGC] at c0;have d0:((n:Int)==0)=false:=by simp;omega
 have d1:(n==0)=false:=by simp;omega
 clear hB;go_enter func85,ntmps85;go_wp2_with fail;go_ret;exact⟨by simp_all,rfl⟩
theorem yJ {w:World} {a:Addr} {bk:Int} (hB:aj w g 160 (dS (.slice (some a) n c) v bk)) (hn:1<=n) (hf:bk≠0):
 Calls prog 132 #[.pointer (some ⟨g,0,none⟩)] w λe w'=>e=.returned (.int .i64 0)/\w'=w:=by
 have c2:=hB.cell 2;simp only[dS,zGA,zGB,zGC] at c2;have d0:(bk==0)=false:=by simpa using hf
 have HN:=zH (Cb hB hn);clear hB;go_enter func132,ntmps132;go_wp2_with fail;refine HN.out.mono ?_;rintro e w1 ⟨rfl,rfl⟩;go_wp2_with fail;go_ret;exact⟨rfl,rfl⟩
theorem yK {w:World} {A:Value} {bk:Int} (hB:aj w g 160 (dS A v bk)) (h1:bk<=9223372036854775807):
 Calls prog 133 #[.pointer (some ⟨g,0,none⟩)] w λe w'=>e=.returned (.tuple #[])/\
  aj w' g 160 (dS A v (Sp.tE bk))/\aa (only g) (only g) w w':=by
 have c2:=hB.cell 2;have f2:=hB.frozen 2;simp only[dS,zGA,zGB,zGC] at c2;have HB:=zH hB;clear hB;by_cases hp:0<bk
 ·have d0:decide (0<bk)=true:=by simpa using hp
  have hw:IntKind.i64.wrap (bk-1)=bk-1:=IntWalk.i64_in _ (by omega);have Aa:Hid (Sp.tE bk=bk-1):=zH (by simp[Sp.tE,hp]);go_enter func133,ntmps133;go_wp2_with fail
  go_end0
  refine⟨rfl,?_,(aa.refl (only g) w).setCell (p:=⟨g,2,none⟩) (.inl rfl) _⟩;rw[Aa.out];exact HB.out.a_ 2 (.int .i64 (bk-1))
 ·have d0:decide (0<bk)=false:=by simpa using hp
  have Aa:Hid (Sp.tE bk=bk):=zH (by simp[Sp.tE,hp]);go_enter func133,ntmps133;go_wp2_with fail
  go_end0
  refine⟨rfl,?_,aa.refl (only g) w⟩;rw[Aa.out];exact HB.out
def secs (l:List Sp.Bs):List Value:=(l.map eU).flatten
def qh (l:List (Nat×Sp.Bs)):List Value:=(l.map λx=>.int .i64 (x.1:Int)::eU x.2).flatten
theorem bZ {α β:Type} (f:α->List β) (m:Nat):∀(l:List α),(∀x∈l,(f x).length=m)->((l.map f).flatten).length=l.length*m
 | [],_=>by simp
 | x::l,h=>by
  rw[zF,zbk,zo,h x (by simp),bZ f m l (λy hy=>h y (by simp[hy])),zP,Nat.add_mul,Nat.one_mul,Nat.add_comm]
structure cR (F:af) (w:World) (g:Nat) (d:Sp.Dk):Prop where
 wf:d.wf
 bk:d.bk<=9223372036854775807
 mem:∃a v,aj w g 160 (dS (.slice (some ⟨a,0,none⟩) d.sure.length d.sure.length) v d.bk)/\aj w a 162 (secs d.sure).toArray/\
  w.ownsRow 0 164 129 v d.loose.length (qh d.loose)/\∀b,F b↔b=g\/b=a\/v.ownBlock=some b
theorem Aw {z:Array Value} (hz:z=Array.replicate m v) (hm:0<m) (n:Nat):madeCells z n=(List.replicate n v).toArray:=by
 subst hz;unfold madeCells;apply Array.ext_getElem?;intro j;rcases za4 j n with hj | hj
 ·have hlt:=Nat.mod_lt j hm;simp[hj,hlt]
 ·rw[zah (by simpa using hj)];simp;omega
theorem LK (n:Nat):secs (List.replicate n (Sp.zeros 128))=List.replicate (n*128) (.int .u8 0):=by
 have hb:eU (Sp.zeros 128)=List.replicate 128 (.int .u8 0):=by simp[eU,Sp.zeros]
 induction n with
 | zero=>rfl
 | succ n ih=>
  rw[List.replicate_succ,secs,zF,zbk,<-secs,ih,hb,List.replicate_append_replicate,Nat.add_mul,Nat.one_mul,Nat.add_comm]
theorem Ex:(prog.info? 162).map (λi=>(i.zero,i.size,i.bytes))=some (some (.agg (Array.replicate 128 (.int .u8 0))),128,128):=by kernel_rfl
theorem LL:(Value.agg (Array.replicate 128 (.int .u8 0))).cells=Array.replicate 128 (.int .u8 0):=by kernel_rfl
def Sp.lJ (n:Nat):Sp.Dk:=⟨List.replicate n (Sp.zeros 128),[],-1⟩
theorem Sp.Pb (h1:1<=n) (h2:n<=16384):(Sp.lJ n).wf:=
 ⟨by simpa[Sp.lJ] using h1,by simpa[Sp.lJ] using h2,λs hs=>by rw[(List.mem_replicate.1 hs).2];simp[Sp.zeros],λx hx=>by simp[Sp.lJ] at hx⟩
theorem Rs (n:Nat) (w:World) (h1:1<=n) (h2:n<=16384):
 Calls prog 106 #[.int .i64 n] w λe w'=>∃g F,e=.returned (.tuple #[.pointer (some ⟨g,0,none⟩),.int .i64 0])/\cR F w' g (Sp.lJ n)/\aa bM F w w':=by
 obtain⟨i0,hi,hz0,hz1,hz2⟩:=info_parts Ex;have hmk:∀W,(Instr.makeSlice 157 (.int .i64 (n:Int)) (.int .i64 (n:Int))).run prog W=.ok (.slice (some ⟨W.heap.size,0,none⟩) n n) (W.alloc (.cells (secs (Sp.lJ n).sure).toArray 162)):=λW=>by
  have:=jk (P:=prog) 157 162 i0 (.agg (Array.replicate 128 (.int .u8 0))) underlying157 hi hz0 .i64 .i64 n n (za _) (by rw[hz2];omega) (by omega) W;rw[this,hz1,Aw (m:=128) (v:=.int .u8 0) LL (by omega),<-LK];rfl
 have d1:decide ((n:Int)<1)=false:=by rw[ze];omega
 have d2:decide ((16384:Int)<n)=false:=by rw[ze];omega
 clear hi hz0 hz1 hz2;go_enter func106,ntmps106;go_wp2_with fail
 go_ret2
 have hB:=aj.new (w.alloc (.cells (secs (Sp.lJ n).sure).toArray 162)) 160 (dS (.slice (some ⟨w.heap.size,0,none⟩) n n) (.slice none 0 0) (-1));rw[World.size_alloc] at hB;refine⟨_,λb=>b=w.heap.size+1\/b=w.heap.size,rfl,⟨Sp.Pb h1 h2,by simp[Sp.lJ],w.heap.size,.slice none 0 0,?_,(aj.new w _ _).alloc _,World.ownsRow_nil _ _ _ _,?_⟩,?_⟩
 ·rw[show(Sp.lJ n).sure.length=n by simp[Sp.lJ]];exact hB
 ·intro b;simp[Value.ownBlock]
 ·have ht:=((aa.refl bM w).alloc (.cells (secs (Sp.lJ n).sure).toArray 162)).alloc (.cells (dS (.slice (some ⟨w.heap.size,0,none⟩) n n) (.slice none 0 0) (-1)) 160);exact⟨ht.os,ht.tape,ht.output,ht.size,ht.block,λb hb=>.inr (by rcases hb with rfl | rfl<;>omega)⟩
theorem cR.below {F:af} {w:World} {d:Sp.Dk} (h:cR F w g d) (hb:zB w w'):cR F w' g d:=by
 obtain⟨h1,h2,a,v,h3,h4,h5,h6⟩:=h;refine⟨h1,h2,a,v,h3.below hb h3.lt,h4.below hb h4.lt,?_,h6⟩;refine h5.kept (row:=none) ⟨hb.os,hb.tape,hb.output,hb.size,λk hk _=>hb.block k hk⟩ ?_
 cases v.ownBlock<;>simp
theorem cR.keep {F:af} {w:World} {d:Sp.Dk} (h:cR F w g d) (hk:∀b,F b->w'.heap[b]? =w.heap[b]?):cR F w' g d:=by
 obtain⟨h1,h2,a,v,h3,h4,h5,h6⟩:=h;refine⟨h1,h2,a,v,h3.keep (hk g ((h6 g).2 (.inl rfl))),h4.keep (hk a ((h6 a).2 (.inr (.inl rfl)))),⟨h5.1,?_⟩,h6⟩;rcases h5.2 with h | ⟨b,cap,cur,rfl,hb,hh,rest⟩
 ·exact .inl h
 ·exact .inr ⟨b,cap,cur,rfl,hb,(hk b ((h6 b).2 (.inr (.inr rfl)))).trans hh,rest⟩
theorem cR.dA {F:af} {w:World} {d:Sp.Dk} (h:cR F w g d):∀b,F b->b<w.heap.size:=by
 obtain⟨h1,h2,a,v,h3,h4,h5,h6⟩:=h;intro b hb;rcases(h6 b).1 hb with rfl | rfl | hb
 ·exact h3.lt
 ·exact h4.lt
 ·exact(h5.lt b hb).2
theorem oV {F:af} {w:World} {d:Sp.Dk} (h:cR F w g d):
 Calls prog 128 #[.pointer (some ⟨g,0,none⟩)] w λe w'=>e=.returned (.int .i64 d.sure.length)/\w'=w:=by
 obtain⟨h1,h2,a,v,h3,h4,h5,h6⟩:=h;have c0:=h3.cell 0;simp only[dS,zGA,zGC] at c0;have HN:=zH (Cb h3 h1.some_);clear h1 h2 h3 h4 h5 h6;go_enter func128,ntmps128;go_wp2_with fail;refine HN.out.mono ?_;rintro e w1 ⟨rfl,rfl⟩;go_wp2_with fail;go_ret;exact⟨rfl,rfl⟩
section
variable {P:Program}
theorem eW (w:World) (a:Addr) (ty:TypeId) (cs:List Value) (d:TypeDesc) (hc:∀j v,cs[j]? =some v->w.cell? (a.add j)=some v)
 (hu:P.underlying ty=some d) (hd:(match d with | .struct _ | .array _ _=>true | _=>false)=true) (hi:(P.info? ty).map (·.size)=some cs.length):
 (loadVar ty a).run P w=.ok (.agg cs.toArray) w:=by
 have hl:=run_loadCells_list (P:=P) w a cs hc
 cases hq:P.info? ty with
 | none=>simp[hq] at hi
 | some i=>
  have hs:i.size=cs.length:=by simpa[hq] using hi
  have hagg:(isAgg ty).run P w=.ok true w:=by
   unfold isAgg;rw[Sem.run_bind,run_underlying hu w]
   cases d<;>simp_all
  simp[loadVar,Sem.run_bind,hagg,sizeOf,typeInfo,hq,hs,hl]
def aD (old:Array Value) (o:Nat) (cells:List Value):Array Value:=(old.toList.take o++cells++old.toList.drop (o+cells.length)).toArray
theorem ax (w:World) (g o:Nat) (t ty:TypeId) (old cells:Array Value) (hg:w.heap[g]? =some (.cells old t (0,0))) (hi:(P.info? ty).map (·.size)=some cells.size)
 (ho:o+cells.size<=old.size) (h1:cells.all (·.oneCell')=true):
 (storeVar ty ⟨g,o,none⟩ (.agg cells)).run P w=.ok () (w.setRow g (aD old o cells.toList)):=by
 have hst:=run_storeCells_at P g o t cells.toList 0 old w hg (by simpa using ho) (λv hv=>(Array.all_eq_true_iff_forall_mem.1 h1) v (by simpa using hv));simp only[Nat.add_zero] at hst
 cases hq:P.info? ty with
 | none=>simp[hq] at hi
 | some i=>
  have hs:cells.size=i.size:=by simp[hq] at hi;omega
  simp[storeVar,sizeOf,typeInfo,hq,Value.cells,hs,hst,aD]
theorem cL {ops:Array Oper} {rest:List Oper} {w:World} {Q:Exit->Act->World->Prop} (hgd:o.guard=none) (ty:TypeId) (x y:Operand) (ho:o.op=.store ty x y)
 (g k:Nat) (cells:Array Value) (hx:a.eval x=.pointer (some ⟨g,k,none⟩)) (hy:a.eval y=.agg cells)
 (t:TypeId) (old:Array Value) (hg:w.heap[g]? =some (.cells old t (0,0))) (hi:(P.info? ty).map (·.size)=some cells.size)
 (hold:k+cells.size<=old.size) (h1:cells.all (·.oneCell')=true)
 (h:wpList P ops Q rest (a.put o.dst undef) (w.setRow g (aD old k cells.toList))):wpList P ops Q (o::rest) a w:=
 wpList_plain hgd λK hK=>by
  unfold Oper.wp execOp;simp only[ho,hx,hy,Instr.storeAt,Instr.sureAddr,Sem.run_bind,Sem.run_pure,Result.andThen_ok,ax w g k t ty old cells hg hi hold h1];exact hK _ _ h
end
theorem E0 (l:List (Nat×Sp.Bs)) (k:Nat) (s:Sp.Bs):qh (l++[(k,s)])=qh l++(.int .i64 (k:Int)::eU s):=by simp[qh]
theorem Cv:(prog.info? 164).map (λi=>(i.zero,i.size,i.bytes))=some (some (.agg (#[.int .i64 0]++Array.replicate 128 (.int .u8 0))),129,136):=by kernel_rfl
def mh (k:Nat) (s:Sp.Bs):Array Value:=(Value.int .i64 (k:Int)::eU s).toArray
theorem mq {s:Sp.Bs} (hs:s.length=128):(mh k s).size=129:=by simp[mh,hs]
theorem wQ (k:Nat) (s:Sp.Bs):(mh k s).toList=.int .i64 (k:Int)::eU s:=by simp[mh]
theorem JP (k:Nat) (s:Sp.Bs):∀u∈(mh k s).toList,u.oneCell'=true:=by
 intro u hu;rw[wQ] at hu;rcases zW.1 hu with rfl | hu
 ·rfl
 ·obtain⟨b,_,rfl⟩:=zn.1 hu;rfl
def mA (s:Sp.Bs):Array Value:=(eU s).toArray
theorem pN {s:Sp.Bs} (hs:s.length=128):(mA s).size=128:=by simp[mA,hs]
theorem NV (parts:List (Nat×Value)):prog.built 164 parts=Instr.fill (#[(0,1),(1,128)][·]?) (#[.int .i64 0]++Array.replicate 128 (.int .u8 0)) parts:=by kernel_rfl
theorem Ri (pl:Nat->Option (Nat×Nat)) (v0 v1 x:Value) (n:Nat) (cells cs:Array Value) (h0:pl 0=some (0,1)) (h1:pl 1=some (1,n)) (c0:v0.cells=#[x]) (c1:v1.cells=cs) (hs:cs.size=n) (hc:cells.size=1+n):
 Instr.fill pl cells [(0,v0),(1,v1)]=some (x::cs.toList).toArray:=by
 subst c1;unfold Instr.fill;simp only[h0,c0];rw[zD (by simp[hc])];unfold Instr.fill;simp only[h1,hs];have hsz:((#[x].zipIdx).foldl (λcs (x:Value×Nat)=>cs.setIfInBounds (0+x.2) x.1) cells)=cells.setIfInBounds 0 x:=by simp
 rw[hsz,zD (by simp[hc])];unfold Instr.fill
 congr 1
 rw[<-Array.foldl_toList,Array.toList_zipIdx];obtain⟨g1,g2⟩:=Great.foldl_set 1 v1.cells.toList 0 (cells.setIfInBounds 0 x);apply Array.ext_getElem?;intro k;rw[g2 k];rcases k with _ | k
 ·rw[zD (by omega)];simp[show 0<cells.size by omega]
 ·by_cases hk:k<n
  ·rw[zK (by simp;omega)];simp only[Nat.add_zero,zGA,zGB,zZ]
   congr 1
  ·rw[zD (by simp;omega),zah (by simp;omega),zah (by simp;omega)]
theorem NW (k:Nat) (s:Sp.Bs) (hs:s.length=128) (W:World):
 (Instr.build 164 #[(0,.int .i64 k),(1,.agg (mA s))]).run prog W=.ok (.agg (mh k s)) W:=by
 refine run_build W _ _ _ ?_;rw[NV,Ri _ _ _ (.int .i64 k) 128 _ (mA s) rfl rfl rfl rfl (pN hs) (by simp)];rfl
theorem NU (k:Nat) (s:Sp.Bs) (hs:s.length=128) (W:World):
 (Instr.buildSlice 158 1 #[(0,.agg (mh k s))]).run prog W=.ok (.slice (some ⟨W.heap.size,0,none⟩) 1 1) (W.alloc (.cells (mh k s) 164)):=by
 obtain⟨i0,hi,hz0,hz1,hz2⟩:=info_parts Cv;have hsz:=mq (k:=k) hs;refine run_buildSlice W _ _ 1 _ _ i0 _ underlying158 hi hz0 (by rw[hz1];decide) (by rw[hz1];decide) ?_;rw[hz1];have:=Great.fill_whole (s:=129) (by omega) [Value.agg (mh k s)] ((Array.range (1*129)).map ((Value.agg (#[.int .i64 0]++Array.replicate 128 (.int .u8 0))).cells[· %(Value.agg (#[.int .i64 0]++Array.replicate 128 (.int .u8 0))).cells.size]!)) (λv hv=>by rw[zq.1 hv];exact hsz) (by simp);rw[show([Value.agg (mh k s)].flatMap λv=>v.cells.toList).toArray=mh k s by simp[Value.cells]] at this;exact this
theorem dI {w:World} {base e t:Nat} {cs:Array Value} (h:w.ownsRow base e size v n xs) (hB:aj w g t cs) (hne:e≠t):v.ownBlock≠some g:=by
 rcases h.2 with⟨rfl,_⟩ | ⟨b,cap,cur,rfl,hb,hh,_⟩
 ·simp[Value.ownBlock]
 ·intro he;have:b=g:=by simpa[Value.ownBlock] using he
  subst this;unfold aj at hB;rw[hB] at hh;injection hh with hh;injection hh with _ ht;exact hne ht.symm
theorem sG {w:World} {base e:Nat} (h:w.ownsRow base e size v (n+1) xs):∃g c,v=.slice (some ⟨g,0,none⟩) (n+1) c:=by
 rcases h.2 with⟨_,h0⟩ | ⟨g,c,_,h0,_⟩
 ·omega
 ·exact⟨g,c,h0⟩
theorem aa.yC {F':af} {w:World} (h:aa (only g) F' w w'):w.grownBy w' (some g):=⟨h.os,h.tape,h.output,h.size,λb hb hne=>h.block b hb (λe=>hne (by rw[e]))⟩
section
variable {P:Program} (w:World)
theorem gS (base:Nat) (t ty e:TypeId) (i:TypeInfo) (z:Value) (size bytes:Nat) (ht:P.underlying t=some (.slice e)) (hi:P.info? e=some i) (hz:i.zero=some z)
 (hsize:i.size=size) (hby:i.bytes=bytes) (hzs:z.cells.size=size) (hsz:0<size)
 (v:Value) (n:Nat) (xs:List Value) (hown:w.ownsRow base e size v n xs)
 (a:Addr) (m c:Nat) (news:List Value) (hl:news.length=m*size) (hnews:∀j u,news[j]? =some u->w.cell? (a.add j)=some u) (h1:∀u∈news,u.oneCell'=true)
 (h63:n+m<=maxLen) (hbytes:(n+m)*bytes<=140737488355328) (hbase:base<=w.heap.size):
 ∃v' w',(Builtin.append_ #[t,t] ty #[v,.slice (some a) m c]).run P w=.ok v' w'/\w'.ownsRow base e size v' (n+m) (xs++news)/\w.grownBy w' v.ownBlock/\
  (∀k,v'.ownBlock=some k->v.ownBlock=some k\/w.heap.size<=k):=by
 obtain⟨v',w',hr,h2,h3,_⟩:=run_append_own (P:=P) w base t ty e i z size bytes ht hi hz hsize hby hzs hsz v n xs hown a m c news hl hnews h1 h63 hbytes hbase;refine⟨v',w',hr,h2,h3,λk hk=>?_⟩;rcases hown.2 with⟨rfl,rfl⟩ | ⟨g,cap,cur,rfl,hbg,hg,hnc,hcm,hcs,gJ⟩
 ·have hx:xs=[]:=zy (by simpa using hown.1);subst hx;obtain⟨v2,w2,hr2,VX,_,_⟩:=run_append_own (P:=P) w w.heap.size t ty e i z size bytes ht hi hz hsize hby hzs hsz _ 0 [] (World.ownsRow_nil w w.heap.size e size) a m c news hl hnews h1 h63 hbytes (za _);rw[hr] at hr2;injection hr2 with hv hw;subst hv hw;exact .inr (VX.lt k hk).1
 ·subst hsize;subst hby;by_cases hroom:n+m<=cap
  ·have hfit:n*i.size+news.length<=cur.size:=by rw[hl,hcs,<-Nat.add_mul];exact Nat.mul_le_mul_right _ hroom
   have hr2:=run_append_room (P:=P) w t ty e i ht hi g n cap cur hg a m c news hl hnews h1 hroom hfit;rw[hr] at hr2;injection hr2 with hv _;subst hv;exact .inl hk
  ·have holds:∀j u,xs[j]? =some u->w.cell? ((⟨g,0,none⟩:Addr).add j)=some u:=hown.cells (g:=g) rfl;have hr2:=run_append_grow (P:=P) w t ty e i z ht hi hz ⟨g,0,none⟩ n cap xs hown.1 holds a m c news hl hnews (by omega) (by simp only[maxLen] at h63;omega) (growslice_fits (by omega) hbytes);rw[hr] at hr2;injection hr2 with hv _;subst hv;refine .inr ?_;simp only[Value.ownBlock,Option.some.injEq] at hk;omega
theorem bX {K:Act->World->Prop} {Q:Exit->Act->World->Prop} (s x:Operand) (t:TypeId)
 (ho:o.op=.call {callee:=.builtin .append,args:=#[s,x],argTypes:=#[t,t]})
 (base:Nat) (e:TypeId) (i:TypeInfo) (z:Value) (size bytes:Nat) (ht:P.underlying t=some (.slice e)) (hi:P.info? e=some i) (hz:i.zero=some z)
 (hsize:i.size=size) (hby:i.bytes=bytes) (hzs:z.cells.size=size) (hsz:0<size)
 (v:Value) (n:Nat) (xs:List Value) (hs:a.eval s=v) (hown:w.ownsRow base e size v n xs)
 (ad:Addr) (m c:Nat) (news:List Value) (hx:a.eval x=.slice (some ad) m c) (hl:news.length=m*size) (hnews:∀j u,news[j]? =some u->w.cell? (ad.add j)=some u) (h1:∀u∈news,u.oneCell'=true)
 (h63:n+m<=maxLen) (hbytes:(n+m)*bytes<=140737488355328) (hbase:base<=w.heap.size)
 (h:∀v' w',w'.ownsRow base e size v' (n+m) (xs++news)->w.grownBy w' v.ownBlock->(∀k,v'.ownBlock=some k->v.ownBlock=some k\/w.heap.size<=k)->K (a.put o.dst v') w'):o.wp P a w K Q:=by
 obtain⟨v',w',hr,h2,h3,h4⟩:=gS (P:=P) w base t o.type e i z size bytes ht hi hz hsize hby hzs hsz v n xs hown ad m c news hl hnews h1 h63 hbytes hbase;unfold Oper.wp execOp;simp only[ho,resolve,invoke,builtin,Sem.run_bind,Sem.run_pure,Result.andThen_ok,zar,zF,zaw,hs,hx,hr];exact h v' w' h2 h3 h4
theorem aO {ops:Array Oper} {rest:List Oper} {Q:Exit->Act->World->Prop} (hgd:o.guard=none) (s x:Operand) (t:TypeId)
 (ho:o.op=.call {callee:=.builtin .append,args:=#[s,x],argTypes:=#[t,t]})
 (base:Nat) (e:TypeId) (i:TypeInfo) (z:Value) (size bytes:Nat) (ht:P.underlying t=some (.slice e)) (hi:P.info? e=some i) (hz:i.zero=some z)
 (hsize:i.size=size) (hby:i.bytes=bytes) (hzs:z.cells.size=size) (hsz:0<size)
 (v:Value) (n:Nat) (xs:List Value) (hs:a.eval s=v) (hown:w.ownsRow base e size v n xs)
 (ad:Addr) (m c:Nat) (news:List Value) (hx:a.eval x=.slice (some ad) m c) (hl:news.length=m*size) (hnews:∀j u,news[j]? =some u->w.cell? (ad.add j)=some u) (h1:∀u∈news,u.oneCell'=true)
 (h63:n+m<=maxLen) (hbytes:(n+m)*bytes<=140737488355328) (hbase:base<=w.heap.size)
 (h:∀v' w',w'.ownsRow base e size v' (n+m) (xs++news)->w.grownBy w' v.ownBlock->(∀k,v'.ownBlock=some k->v.ownBlock=some k\/w.heap.size<=k)->wpList P ops Q rest (a.put o.dst v') w'):wpList P ops Q (o::rest) a w:=
 wpList_plain hgd λ_ hK=>bX w s x t ho base e i z size bytes ht hi hz hsize hby hzs hsz v n xs hs hown ad m c news hx hl hnews h1 h63 hbytes hbase λv' w' h2 h3 h4=>hK _ _ (h v' w' h2 h3 h4)
end
theorem nG {F:af} {w:World} {d:Sp.Dk} (h:cR F w g d) (k:Nat) (s:Sp.Bs) (hk:k<d.sure.length) (hs:s.length=128) (hf:d.bk≠0) (hl:d.loose.length<=1000000):
 Calls prog 124 #[.pointer (some ⟨g,0,none⟩),.int .i64 k,str s] w λe w'=>∃F',e=.returned (.int .i64 0)/\cR F' w' g (d.put k s)/\aa F F' w w':=by
 obtain⟨h1,h2,a,v,h3,h4,h5,h6⟩:=h;obtain⟨i0,hi0,Py,TH,TG⟩:=info_parts Cv;have hi:=zH hi0;have hz0:=zH Py;have hz1:=zH TH;have hz2:=zH TG;clear hi0 Py TH TG;have c0:=h3.cell 0;simp only[dS,zGA,zGC] at c0;have d1:decide ((k:Int)<0)=false:=by simp
 have d2:decide ((d.sure.length:Int)<=k)=false:=by rw[ze];omega
 have d3:((s.length:Int) != 128)=false:=by rw[hs];rfl
 have HM:=zH (yJ h3 h1.some_ hf);have HB:=zH (yK h3 h2);have H5:=zH h5;have H4:=zH h4;have HD:=zH h3;have HS:=zH hs;have hlt:=h3.lt;have hcv:=yN (P:=prog) 9 129 5 s underlying9 underlying129 underlying5;have hat:∀w ad c,(Instr.arrayAt 162 (.slice ad s.length c)).run prog w=.ok (.pointer ad) w:=λw ad c=>run_arrayAt w 162 _ 128 ad s.length c underlying162 (by omega);have Vy:∀W,(loadVar 162 ⟨W.heap.size,0,none⟩).run prog (dU W 5 s)=.ok (.agg (mA s)) (dU W 5 s):=λW=>by
  refine eW _ _ _ (eU s) _ (λj v hv=>?_) underlying162 rfl ?_
  ·obtain⟨hj,rfl⟩:=zad.1 hv;have hj':j<s.length:=by simpa[eU] using hj
   have hadd:(⟨W.heap.size,0,none⟩:Addr).add j=⟨W.heap.size,j,none⟩:=by unfold Addr.add;split<;>simp_all
   rw[hadd,(j6 W 5 s).2.2.1 j hj'];simp[eU]
  ·have hq:=congrArg (λo=>o.map (·.2.1)) Ex;simp only[Option.map_map] at hq;rw[show(eU s).length=128 by simpa[eU] using hs];simpa using hq
 have hbd:=NW k s hs;have vg:=NU k s hs;clear h3 h4 h5 hs;go_enter func124,ntmps124;go_wp2_with fail;refine HM.out.mono ?_;rintro e w1 ⟨rfl,hw⟩;subst w1;go_wp2_with fail;refine HB.out.mono ?_;rintro e w1 ⟨rfl,aM,gX⟩;have b1:=aM.cell 1;have f1:=aM.frozen 1;simp only[dS,zGA,zGB,zGC] at b1;have hne:=dI H5.out HD.out (by decide);have HO:=zH (H5.out.kept gX.yC (.inr hne));have cA:=zH aM;have l6:=aM.lt;have Wy:=zH (H4.out.turns gX (λe=>aj.Tq H4.out HD.out (by decide) e));have hs1:(mh k s).size=129*1:=mq HS.out;clear aM H5;go_wp2_with fail;have cH:=j6 w1.drew 5 s;have hbsz:(dU w1.drew 5 s).heap.size=w1.heap.size+1:=cH.2.1;have GD:(dU w1.drew 5 s).cell? ⟨g,1,none⟩=some v:=(cH.1.cell (p:=⟨g,1,none⟩) l6).trans b1;have X9:=Vy w1.drew;change(loadVar 162 ⟨w1.heap.size,0,none⟩).run _ _=_ at X9;clear Vy;have jA:=zH cH;clear cH;have BZ:w1.drew.cell? ⟨g,1,none⟩=some v:=b1;refine fQ (λW=>zC W g 1 v) (λj=>j==15) ?_
 repeat (refine bK BZ ?_)
 refine fe 7 38 (v:=.slice (some ⟨w1.heap.size,0,none⟩) s.length (yR w1.drew 5 s)) (w':=dU w1.drew 5 s) rfl (by go_simp) (λ_=>GD) ?_;refine bK GD ?_;refine fe 9 40 (v:=.agg (mA s)) (w':=dU w1.drew 5 s) rfl (ay _ _ ⟨w1.heap.size,0,none⟩ rfl rfl X9) (λ_=>GD) ?_;refine kT 10 41 rfl GD (λW _=>si _ _ #[(0,.int .i64 k),(1,.agg (mA s))] rfl rfl (hbd W)) ?_;have hSc:((dU w1.drew 5 s).alloc (.cells (mh k s) 164)).cell? ⟨g,1,none⟩=some v:=(World.cell?_alloc_lt _ _ _ (show g<_ by omega)).trans GD;refine fe 11 42 rfl (sg _ _ _ #[(0,.agg (mh k s))] rfl rfl (vg _)) (λ_=>hSc) ?_;refine jf 12 rfl (by rfl) (by kernel_rfl) ?_;refine bX _ _ _ 158 rfl 0 164 i0 _ 129 136 underlying158 hi.out hz0.out hz1.out hz2.out rfl (by decide) v d.loose.length (qh d.loose) rfl
  ((HO.out.kept (row:=none) ⟨jA.out.1.os,jA.out.1.tape,jA.out.1.output,jA.out.1.size,λb hb _=>jA.out.1.block b hb⟩ (by cases v.ownBlock<;>simp)).alloc _)
  ⟨(dU w1.drew 5 s).heap.size,0,none⟩ 1 1 (mh k s).toList rfl (by simpa using hs1) (λj u hu=>?_) (JP k s) (by unfold maxLen;omega) (by omega) (za0 _) (λv6 w6 hown hgrow PA=>?_)
 ·rw[show(⟨(dU w1.drew 5 s).heap.size,0,none⟩:Addr).add j=⟨(dU w1.drew 5 s).heap.size,j,none⟩ by unfold Addr.add;split<;>simp_all];exact((aj.new _ _ _).cell j).trans (by simpa using hu)
 obtain⟨g6,c6,rfl⟩:=sG hown;have gM:=((cA.out.drew.below jA.out.1 l6).alloc (.cells (mh k s) 164)).grown hgrow (λe=>hne e.symm);have YN:w6.cell? ⟨g,1,none⟩=some v:=gM.cell 1;refine⟨λ_=>YN,qZ 43 rfl ?_⟩;simp only[zSA,zSB,zSC];refine fe 13 44 (v:=.pointer (some ⟨g,0,none⟩)) (w':=w6) rfl (by go_simp) (λ_=>YN) ?_;refine fe 14 45 (v:=.pointer (some ⟨g,1,none⟩)) (w':=w6) rfl (by go_simp) (λ_=>YN) ?_;refine jx 15 (w':=w6.setCell ⟨g,1,none⟩ (.slice (some ⟨g6,0,none⟩) (d.loose.length+1) c6)) rfl ?_ (λh=>absurd h (by decide)) ?_
 ·have f6:=gM.frozen 1;go_simp
 refine aC (by kernel_rfl) ?_ _;have fu:=gM.a_ 1 (.slice (some ⟨g6,0,none⟩) (d.loose.length+1) c6);have hA7:=((((Wy.out.drew.below jA.out.1 Wy.out.lt).alloc (.cells (mh k s) 164)).grown hgrow (λe=>dI HO.out Wy.out (by decide) e.symm)).far (p:=⟨g,1,none⟩) (λe=>aj.Tq Wy.out cA.out (by decide) e) (.slice (some ⟨g6,0,none⟩) (d.loose.length+1) c6));have qu:g6≠g:=λe=>dI hown gM (by decide) (by rw[e];rfl);have qU:=hown.kept (pY w6 ⟨g,1,none⟩ (.slice (some ⟨g6,0,none⟩) (d.loose.length+1) c6)) (.inr (λe=>qu (by simpa[Value.ownBlock] using e)));have iA:aa F F w w6:=(((((gX.fw (F:=F) (λb hb=>(h6 b).2 (.inl hb)) (λb hb=>.inl hb)).drew).next jA.out.1).alloc (.cells (mh k s) 164)).grown hgrow (λk hk=>.inl ((h6 k).2 (.inr (.inr hk)))));have iU:=iA.setCell (p:=⟨g,1,none⟩) (.inl ((h6 g).2 (.inl rfl))) (.slice (some ⟨g6,0,none⟩) (d.loose.length+1) c6);have hg6w:F g6\/w.heap.size<=g6:=by
  rcases PA g6 rfl with hk | hk
  ·exact .inl ((h6 g6).2 (.inr (.inr hk)))
  ·refine .inr ?_;have:=gX.size;simp only[World.size_alloc] at hk;omega
 have jr:=zH fu;have Sw:=zH hA7;have Wa:=zH qU;have HLA:=zH (E0 d.loose k s);have HWC:=zH (wQ k s);have H6:=zH h6;clear fu hA7 qU iA hown hgrow PA gM YN GD hSc hbsz hne b1 f1 hbd vg hat hcv X9 h6 hs1 BZ;generalize w6.setCell ⟨g,1,none⟩ (.slice (some ⟨g6,0,none⟩) (d.loose.length+1) c6)=w7 at*;go_wp2_with fail;go_ret;refine⟨λb=>b=g\/b=a\/b=g6,rfl,⟨Sp.Dk.WW h1 hk HS.out,?_,a,_,jr.out,Sw.out,?_,λb=>?_⟩,⟨iU.os,iU.tape,iU.output,iU.size,iU.block,?_⟩⟩
 ·simp only[Sp.Dk.put,Sp.tE]
  split<;>omega
 ·rw[HWC.out,<-HLA.out] at Wa;simpa[Sp.Dk.put] using Wa.out
 ·simp[Value.ownBlock,eq_comm]
 ·rintro b (rfl | rfl | rfl)
  ·exact .inl ((H6.out b).2 (.inl rfl))
  ·exact .inl ((H6.out b).2 (.inr (.inl rfl)))
  ·exact hg6w
theorem uM (a b:List Sp.Bs):secs (a++b)=secs a++secs b:=by simp[secs]
theorem oB {l:List Sp.Bs} (h:∀s∈l,s.length=128):(secs l).length=l.length*128:=
 bZ eU 128 l (λx hx=>by rw[nJ];exact h x hx)
theorem CP {l:List Sp.Bs} (h:∀s∈l,s.length=128) (hk:k<l.length) {s:Sp.Bs} (hs:s.length=128):
 aD (secs l).toArray (k*128) (mA s).toList=(secs (l.set k s)).toArray:=by
 have e:l=l.take k++l[k]::l.drop (k+1):=by rw[<-zao hk,zS]
 have h1:(secs (l.take k)).length=k*128:=by
  rw[oB (λx hx=>h x (zax hx)),zag,Nat.min_eq_left (by omega)]
 have h2:(eU l[k]).length=128:=by rw[nJ];exact h _ (zw hk)
 have h3:(mA s).toList.length=128:=by simp[mA,hs]
 have e2:secs l=secs (l.take k)++(eU l[k]++secs (l.drop (k+1))):=by
  conv=>lhs;rw[e]
  rw[uM];rfl
 unfold aD;rw[List.toList_toArray,e2,zaz h1,show k*128+(mA s).toList.length=(secs (l.take k)).length+128 by omega,<-za1,List.drop_left,zav h2,List.set_eq_take_append_cons_drop,zK hk];simp[secs,mA]
theorem Pe (a b:List (Nat×Sp.Bs)):qh (a++b)=qh a++qh b:=by simp[qh]
theorem Tv {l:List (Nat×Sp.Bs)} (h:∀x∈l,x.2.length=128) (hi:i<l.length):((qh l).drop (i*129)).take 129=(mh l[i].1 l[i].2).toList:=by
 have e:l=l.take i++l[i]::l.drop (i+1):=by rw[<-zao hi,zS]
 have h1:(qh (l.take i)).length=i*129:=by
  unfold qh;rw[bZ _ 129 _ (λx hx=>by simp[h x (zax hx)]),zag,Nat.min_eq_left (by omega)]
 have h2:(mh l[i].1 l[i].2).toList.length=129:=by simp[mh,h _ (zw hi)]
 have e2:qh l=qh (l.take i)++((mh l[i].1 l[i].2).toList++qh (l.drop (i+1))):=by
  conv=>lhs;rw[e]
  rw[Pe,wQ];rfl
 rw[e2,zav h1,zaz h2]
theorem Lf (k:Nat) (s:Sp.Bs):(mh k s)[0]? =some (.int .i64 (k:Int)):=by simp[mh]
theorem NY (k:Nat) (s:Sp.Bs) (j:Nat):(mh k s)[1+j]? =(mA s)[j]? :=by simp[mh,mA,Nat.add_comm 1 j]
theorem ES {Z:Array Value} {cs:List Value} (h:Z.size=cs.length):aD Z 0 cs=cs.toArray:=by
 simp[aD,List.drop_eq_nil_of_le,h]
theorem NX:(prog.info? 164).map (·.size)=some 129:=by kernel_rfl
theorem JV:(prog.info? 162).map (·.size)=some 128:=by kernel_rfl
theorem SR {w:World} {base:Nat} {l:List (Nat×Sp.Bs)} (h:w.ownsRow base 164 129 (.slice (some ⟨b,0,none⟩) n c) l.length (qh l)) (hl:∀x∈l,x.2.length=128) (hi:i<l.length):
 (loadVar 164 ⟨b,i*129,none⟩).run prog w=.ok (.agg (mh l[i].1 l[i].2)) w:=by
 have hsz:=mq (k:=l[i].1) (hl _ (zw hi));have:=eW (P:=prog) w ⟨b,i*129,none⟩ 164 (mh l[i].1 l[i].2).toList _ (λj v hv=>?_) underlying164 rfl (by rw[NX];simp[hsz])
 ·rw[this]
 ·have hj:j<129:=by have:=(zad.1 hv).1;simp[hsz] at this;exact this
  rw[show(⟨b,i*129,none⟩:Addr).add j=(⟨b,0,none⟩:Addr).add (i*129+j) by unfold Addr.add;split<;>simp_all];refine h.cells (g:=b) rfl _ _ ?_;rw[<-Tv hl hi,zT,zK hj,zaf] at hv;exact hv
theorem uB {F:af} {w:World} {d:Sp.Dk} (h:cR F w g d) (hf:d.bk≠0) (hl:d.loose.length<=1000000):
 Calls prog 65 #[.pointer (some ⟨g,0,none⟩)] w λe w'=>∃F',e=.returned (.int .i64 0)/\cR F' w' g d.synced/\d.synced.loose=[]/\aa F F' w w':=by
 obtain⟨h1,h2,a,v,h3,h4,h5,h6⟩:=h;have HM:=zH (yJ h3 h1.some_ hf);have HB:=zH (yK h3 h2);have H5:=zH h5;have H4:=zH h4;have HD:=zH h3;have hlt:=h3.lt;have hwr:=λx hx=>(h1.loose x hx).2;have hne:=dI h5 h3 (by decide);obtain⟨p,c,rfl⟩:∃p c,v=.slice p d.loose.length c:=by
  rcases h5.2 with⟨rfl,e⟩ | ⟨b,cap,_,e,_⟩
  ·exact⟨none,0,by rw[e]⟩
  ·exact⟨_,_,e⟩
 clear h3 h4 h5;go_enter func65,ntmps65;go_wp2_with fail;refine HM.out.mono ?_;rintro e w1 ⟨rfl,hw⟩;subst w1;go_wp2_with fail;refine HB.out.mono ?_;rintro e w1 ⟨rfl,aM,gX⟩;have b1:=aM.cell 1;have b0:=aM.cell 0;simp only[dS,zGA,zGB,zGC] at b0 b1;have HO:=zH (H5.out.kept gX.yC (.inr hne));have cA:=zH aM;have l6:=aM.lt;have Wy:=zH (H4.out.turns gX (λe=>aj.Tq H4.out HD.out (by decide) e));clear aM H5;go_wp2_with fail;have HZ:Hid (∃Z:Array Value,(Value.agg (#[.int .i64 0]++Array.replicate 128 (.int .u8 0))).cells=Z/\Z.size=129):=⟨_,rfl,rfl⟩;obtain⟨Z,hZ,hZs⟩:=HZ.out;have hZ':=zH hZ;have hZs':=zH hZs;clear hZ hZs HZ;obtain⟨i0,hi0,Py,TH,TG⟩:=info_parts Cv;have hi:=zH hi0;have hz0:=zH Py;clear hi0 Py TH TG;have HWF:=zH hwr;have HSU:=zH h1.sure;have Gf:=zH (λx hx=>(h1.loose x hx).1);have hc0:=c;clear hwr;go_loopw [5,18] (λ_ i wr=>∃k:Nat,k<=d.loose.length/\i=.int .i64 k/\aj wr a 162 (secs (Sp.lay (d.loose.take k) d.sure)).toArray/\aa (only a) (only a) w1 wr) (λ_ i _=>d.loose.length-(intOf i).toNat)
 case atStart=>exact⟨0,by omega,rfl,by simpa[Sp.lay] using Wy.out,aa.refl _ _⟩
 case round=>
  obtain⟨k,hk,rfl,hA,ht⟩:=hrel;have NJ:g≠a:=λe=>aj.Tq cA.out Wy.out (by decide) e;have NQ:=cA.out.turns ht NJ;have r0:=NQ.cell 0;have r1:=NQ.cell 1;have rf1:=NQ.frozen 1;simp only[dS,zGA,zGB,zGC] at r0 r1;have jB:=zH NQ;have HA:=zH hA;clear NQ hA b0 b1;by_cases hlt:k<d.loose.length
  ·have hna:=dI HO.out Wy.out (by decide);obtain⟨b,rfl⟩:∃b,p=some ⟨b,0,none⟩:=by
    rcases HO.out.2 with⟨e,e2⟩ | ⟨b,cap,_,e,_⟩
    ·omega
    ·injection e with e;exact⟨b,e⟩
   have hOr:=HO.out.kept (w':=wr) (row:=some a) ht.yC (.inr hna);have Vy:=SR hOr HWF.out hlt;have NG:=HWF.out _ (zw hlt);have hkx:=Gf.out _ (zw hlt);have htk:Hid (Sp.lay (d.loose.take (k+1)) d.sure=(Sp.lay (d.loose.take k) d.sure).set d.loose[k].1 d.loose[k].2):=by
    rw[zg hlt,Sp.ny];rfl
   have HLD:=zH Vy;have Nk:=zH NG;clear Vy NG hOr;generalize d.loose[k]=x at*;obtain⟨xk,xs⟩:=x;dsimp only at*;have HZS:=zH (ax (P:=prog) (wr.alloc (.cells Z 164)) wr.heap.size 0 164 164 Z (mh xk xs) (heap_alloc_new _ _) (by rw[NX,mq Nk.out]) (by rw[mq Nk.out,hZs'.out];exact za _) (Array.all_eq_true_iff_forall_mem.2 λu hu=>JP xk xs u (by simpa using hu)));rw[ES (by rw[hZs'.out];simpa using(mq Nk.out).symm),World.setRow_alloc_new] at HZS;go_wp2_with (first
    | ((with_reducible refine aY (v:=.agg (mh xk xs)) (w':=wr) 21 rfl rfl ?_ ?_);exact ay _ _ ⟨b,k*129,none⟩ rfl rfl HLD.out;simp only[zSA,zSB,zSC])
    | ((with_reducible refine aY (v:=.pointer (some ⟨wr.heap.size,0,none⟩)) (w':=wr.alloc (.cells Z 164)) 5 rfl rfl ?_ ?_);exact jX _ i0 _ Z rfl hi.out hz0.out hZ'.out;simp only[zSA,zSB,zSC])
    | ((with_reducible refine wpList_skip (w':=wr.alloc (.cells (mh xk xs) 164)) rfl rfl ?_ ?_);exact aq _ _ _ ⟨wr.heap.size,0,none⟩ _ rfl rfl rfl HZS.out))
   have hnew:wr.heap.size≠a:=by have:=HA.out.lt;omega
   have eC:=aj.new wr 164 (mh xk xs);have BZ:((wr.alloc (.cells (mh xk xs) 164)).drew.cell? ⟨g,0,none⟩=some (.slice (some ⟨a,0,none⟩) d.sure.length d.sure.length))/\((wr.alloc (.cells (mh xk xs) 164)).drew.cell? ⟨wr.heap.size,0,none⟩=some (.int .i64 (xk:Int)))/\
    ((loadVar 162 ⟨wr.heap.size,1,none⟩).run prog (wr.alloc (.cells (mh xk xs) 164)).drew=.ok (.agg (mA xs)) (wr.alloc (.cells (mh xk xs) 164)).drew):=by
    refine⟨((jB.out.alloc (.cells (mh xk xs) 164)).cell 0).trans (by simp[dS]),(eC.cell 0).trans (Lf xk xs),?_⟩;refine(eW (P:=prog) (wr.alloc (.cells (mh xk xs) 164)).drew ⟨wr.heap.size,1,none⟩ 162 (mA xs).toList _ (λj v hv=>?_) underlying162 rfl (by rw[JV];simp[pN Nk.out])).trans (by rw[Array.toArray_toList]);rw[show(⟨wr.heap.size,1,none⟩:Addr).add j=⟨wr.heap.size,1+j,none⟩ by unfold Addr.add;split<;>simp_all];exact(eC.cell (1+j)).trans ((NY xk xs j).trans (by simpa using hv))
   refine eV (λW=>(zC W g 0 (.slice (some ⟨a,0,none⟩) d.sure.length d.sure.length))/\(zC W wr.heap.size 0 (.int .i64 (xk:Int)))/\
    ((loadVar 162 ⟨wr.heap.size,1,none⟩).run prog W=.ok (.agg (mA xs)) W)) (λj=>j==9) (by kernel_rfl) ?_
   repeat (refine bK BZ ?_)
   refine kT 7 29 (v:=.agg (mA xs)) rfl BZ (λW hW=>ay _ _ ⟨wr.heap.size,1,none⟩ rfl rfl hW.2.2) ?_
   repeat (refine bK BZ ?_)
   have HAn:=(HA.out.alloc (.cells (mh xk xs) 164)).drew;have hlen:(Sp.lay (d.loose.take k) d.sure).length=d.sure.length:=Sp.xY _ _;have hall:∀s∈Sp.lay (d.loose.take k) d.sure,s.length=128:=Sp.Kb HSU.out (λx hx=>HWF.out x (zax hx));have hst:=ax (P:=prog) (wr.alloc (.cells (mh xk xs) 164)).drew a (xk*128) 162 162 (secs (Sp.lay (d.loose.take k) d.sure)).toArray (mA xs) HAn (by rw[JV,pN Nk.out])
    (by rw[pN Nk.out,zV,oB hall,hlen];omega) (Array.all_eq_true_iff_forall_mem.2 λu hu=>by
     obtain⟨b,_,rfl⟩:=zn.1 (show u∈eU xs by simpa[mA] using hu);rfl)
   rw[CP hall (by omega) Nk.out,<-htk.out] at hst;have oq:=HAn.setRow (secs (Sp.lay (d.loose.take (k+1)) d.sure)).toArray;refine jx 9 rfl (aq _ _ _ ⟨a,xk*128,none⟩ _ rfl rfl rfl hst) (λh=>absurd h (by decide)) ?_;refine aC (by kernel_rfl) ?_ _;have VO:=((ht.alloc (.cells (mh xk xs) 164)).drew).setRow (g:=a) (.inl rfl) (secs (Sp.lay (d.loose.take (k+1)) d.sure)).toArray;have Gk:=zH oq;have GK:=zH VO;clear oq VO hst BZ HAn hall hlen eC;generalize(wr.alloc (.cells (mh xk xs) 164)).drew.setRow a (secs (Sp.lay (d.loose.take (k+1)) d.sure)).toArray=w5 at*;go_wp2_with fail;go_roundw
   case rel=>exact⟨k+1,by omega,by go_num,Gk.out,GK.out⟩
   case measure=>simp[intOf];omega
  ·obtain rfl:k=d.loose.length:=by omega
   rw[zL] at HA;go_wp2_with fail;go_ret;have XM:d.synced.sure.length=d.sure.length:=by simp[Sp.Dk.synced,Sp.Dk.view]
   have iU:aa F F w (wr.setCell ⟨g,1,none⟩ (.slice none 0 0)):=
    ((gX.fw (F:=F) (λb hb=>(h6 b).2 (.inl hb)) (λb hb=>.inl hb)).trans (ht.fw (F:=F) (λb hb=>(h6 b).2 (.inr (.inl hb))) (λb hb=>.inl hb))).setCell (p:=⟨g,1,none⟩) (.inl ((h6 g).2 (.inl rfl))) (.slice none 0 0)
   refine⟨λb=>b=g\/b=a,rfl,⟨Sp.Dk.Lu h1,?_,a,.slice none 0 0,?_,HA.out.far (p:=⟨g,1,none⟩) (λe=>NJ e.symm) _,World.ownsRow_nil _ _ _ _,λb=>by simp[Value.ownBlock]⟩,rfl,⟨iU.os,iU.tape,iU.output,iU.size,iU.block,?_⟩⟩
   ·simp only[Sp.Dk.synced,Sp.tE]
    split<;>omega
   ·rw[XM];exact jB.out.a_ 1 (.slice none 0 0)
   ·rintro b (rfl | rfl)
    ·exact .inl ((h6 b).2 (.inl rfl))
    ·exact .inl ((h6 b).2 (.inr (.inl rfl)))
theorem DI (p:Option Addr) (n c:Nat) (w:World):
 Calls prog 134 #[.slice p n c] w λe w'=>e=.returned (.func (.func 196) #[] #[.pointer (some ⟨w.heap.size,0,none⟩)])/\w'=w.alloc (.cells #[.slice p n c] 158):=by
 go_enter func134,ntmps134;go_wp2_with fail;go_ret;exact⟨rfl,rfl⟩
theorem S3 {l:List Sp.Bs} (h:∀s∈l,s.length=128) (hi:i<l.length) (hj:j<128):(secs l)[i*128+j]? =(eU l[i])[j]? :=by
 have e:l=l.take i++l[i]::l.drop (i+1):=by rw[<-zao hi,zS]
 have h1:(secs (l.take i)).length=i*128:=by
  rw[oB (λx hx=>h x (zax hx)),zag,Nat.min_eq_left (by omega)]
 have h2:(eU l[i]).length=128:=by rw[nJ];exact h _ (zw hi)
 have e2:secs l=secs (l.take i)++(eU l[i]++secs (l.drop (i+1))):=by
  conv=>lhs;rw[e]
  rw[uM];rfl
 rw[e2,zO (by omega),h1,za5,zai (by omega)]
theorem sB (w:World) (D:Nat) (o:Obj) (b:Nat) (h:b≠D):(w.putObj D o).heap[b]? =w.heap[b]? :=World.putObj_heap_other h
theorem Be {w:World} {p:Option Addr} (hc:w.cell? ⟨B,0,none⟩=some (.slice p 0 c)) (hB:B<w.heap.size):
 SeqStopsA Fence.wide n prog 196 #[.pointer (some ⟨B,0,none⟩)] (λ_:Empty=>#[undef,undef]) (λ_=>True) (λ_=>False) 0 w:=by
 intro l J Jx W hW hJ hJx hY h0;have hcW:=(hW.cell (p:=⟨B,0,none⟩) hB).trans hc;refine callsIn_wide.2 ?_;clear hY hJ hJx;simp only[zae,zal,zaa];go_enter func196,ntmps196;go_wp2_with fail
 go_loop [3] (λi=>i=.int .i64 (-1)) (λ_=>0)
 case atStart=>rfl
 case round=>
  subst hrel;go_wp2_with fail
  go_end0
  exact⟨⟨_,rfl⟩,[],h0⟩
theorem uC {F:af} {w:World} {d:Sp.Dk} (h:cR F w g d) (hf:d.bk≠0) (hl:d.loose=[]) (k:Nat) (hk:k<d.sure.length):
 Calls prog 66 #[.pointer (some ⟨g,0,none⟩),.int .i64 k] w λe w'=>e=.returned (.tuple #[str d.sure[k],.int .i64 0])/\zB w w':=by
 obtain⟨h1,h2,a,v,h3,h4,h5,h6⟩:=h;have HM:=zH λW (h:aj W g 160 (dS (.slice (some ⟨a,0,none⟩) d.sure.length d.sure.length) v d.bk))=>yJ h h1.some_ hf;have HD:=zH h3;have H4:=zH h4;have hlt:=h3.lt;have hs:=h1.sure _ (zw hk);have HS:=zH hs;obtain⟨p,c,rfl⟩:∃p c,v=.slice p 0 c:=by
  rw[hl] at h5;rcases h5.2 with⟨rfl,e⟩ | ⟨b,cap,_,e,_⟩
  ·exact⟨none,0,rfl⟩
  ·exact⟨_,_,e⟩
 have d1:decide ((k:Int)<0)=false:=by simp
 have d2:decide ((d.sure.length:Int)<=k)=false:=by rw[ze];omega
 clear h3 h4 h5 hl hs;refine(callsIn_wide (n:=3)).1 ?_;refine callsIn_of_wp_marks func66 rfl trivial ?_ rfl;rw[wpIn_wide];simp only[ntmps66,zV,zP,zap,Nat.reduceAdd,Nat.reduceSub,zac,zab,zan,zae,zaa,zal];go_wp2_with fail;obtain⟨W0,hW0⟩:∃W0,((w.alloc (.cells #[.int .i64 k] 3)).alloc (.cells #[.string ⟨#[]⟩] 9)).alloc (.cells #[.int .i64 0] 47)=W0:=⟨_,rfl⟩;have b3:aj W0 w.heap.size 3 #[.int .i64 k]:=by rw[<-hW0];exact((aj.new w _ _).alloc _).alloc _
 have b4:aj W0 (w.heap.size+1) 9 #[.string ⟨#[]⟩]:=by
  rw[<-hW0];have:=(aj.new (w.alloc (.cells #[.int .i64 k] 3)) 9 #[.string ⟨#[]⟩]).alloc (.cells #[.int .i64 0] 47)
  rwa [World.size_alloc] at this
 have b5:aj W0 (w.heap.size+1+1) 47 #[.int .i64 0]:=by
  rw[<-hW0];have:=aj.new ((w.alloc (.cells #[.int .i64 k] 3)).alloc (.cells #[.string ⟨#[]⟩] 9)) 47 #[.int .i64 0]
  rwa [World.size_alloc,World.size_alloc] at this
 have Qt:zB w W0:=by rw[<-hW0];exact(((Below.refl _ w).alloc (za _) _).alloc (by simp) _).alloc (by simp;omega) _
 have hs0:W0.heap.size=w.heap.size+3:=by rw[<-hW0];simp
 rw[hW0];clear hW0;have HS0:=zH hs0;have hs0':w.heap.size+3<=W0.heap.size:=by omega
 clear hs0;have hD0:=HD.out.below Qt hlt;have Ae:=H4.out.below Qt H4.out.lt;refine(HM.out _ hD0).mono ?_;rintro e w1 ⟨rfl,hw⟩;subst w1;have c3:=b3.cell 0;have c0:=hD0.cell 0;have c1:=hD0.cell 1;simp only[dS,zGA,zGB,zGC] at c0 c1 c3;have B3:=zH b3;have B4:=zH b4;have B5:=zH b5;have Wk:=zH hD0;have HA0:=zH Ae;clear b3 b4 b5 hD0 Ae;go_wp2_with fail;go_quiet (fail);go_wp2_with fail;refine(DI _ _ _ _).mono ?_;rintro e w2 ⟨rfl,rfl⟩;go_wp2_with fail;have qT:zB w (W0.drewN nq):=below_drewN' Qt nq;have Y0:=aj.new (W0.drewN nq) 158 #[.slice p 0 c];have rY:=zH ((B3.out.drewN nq).alloc (.cells #[.slice p 0 c] 158));have jh:=zH ((B4.out.drewN nq).alloc (.cells #[.slice p 0 c] 158));have mj:=zH ((B5.out.drewN nq).alloc (.cells #[.slice p 0 c] 158));have HDq:=zH ((Wk.out.drewN nq).alloc (.cells #[.slice p 0 c] 158));have HAq:=zH ((HA0.out.drewN nq).alloc (.cells #[.slice p 0 c] 158));have AU:=qT.alloc qT.size (.cells #[.slice p 0 c] 158);have hcB:=Y0.cell 0;have hBlt:=Y0.lt;have hsz:w.heap.size+3<((W0.drewN nq).alloc (.cells #[.slice p 0 c] 158)).heap.size:=by simp;omega
 rw[show(W0.drewN nq).heap.size=W0.heap.size from rfl] at hcB hBlt;clear Y0 qT B3 B4 B5 Wk HA0 c0 c1 c3;generalize(W0.drewN nq).alloc (.cells #[.slice p 0 c] 158)=W1 at*;rw[<-wpIn_wide (n:=3)];refine wpIn_rangeFunc_ownF (α:=Empty) rfl (by decide) (gf:=196) (lb:=#[.pointer (some ⟨W0.heap.size,0,none⟩)]) rfl trivial (enters_of func196 (by kernel_rfl) rfl)
  (seqStopsA_iff.1 (Be hcB hBlt)) (λh k=>walksK_t h k) walksK_b (zR _) (λx=>x.elim) (λ_ W=>zB W1 W) (λ_ _ _=>False) (ownFrom_below (za _) (za _)) (λ_ _ _ _ _ h=>h.elim) (zR _) (λx=>x.elim) (λ_ x=>x.elim) (λ_ _ x=>x.elim) ?done (λ_ _ _ _ _ _ h=>h.elim)
 case done=>
  intro D xs W hD _ hI hK;have cg:=rY.out.below hI (by omega);have dn:=jh.out.below hI (by omega);have eC:=mj.out.below hI (by omega);have hDW:=HDq.out.below hI (by omega);have hAW:=HAq.out.below hI HAq.out.lt;have hbW:=AU.trans (hI.mono AU.size);have HK:=zH hK;clear hI hK;go_wp2_with fail;have c3:=cg.cell 0;have c0:=hDW.cell 0;simp only[dS,zGA,zGC] at c0 c3;have hcv:(convert 129 9 (.slice (some ⟨a,k*128,none⟩) 128 128)).run prog W.drew=.ok (str d.sure[k]) W.drew:=by
   refine bt W.drew _ _ 5 a (k*128) 128 128 d.sure[k] underlying129 underlying5 underlying9 HS.out.symm (λj hj=>?_);refine(hAW.cell (k*128+j)).trans ?_;rw[zGA];have:=S3 h1.sure hk (show j<128 by rw[HS.out] at hj;exact hj);rw[this,pE _ _ hj]
  have BZ:(W.drew.cell? ⟨g,0,none⟩=some (.slice (some ⟨a,0,none⟩) d.sure.length d.sure.length))/\(W.drew.cell? ⟨w.heap.size,0,none⟩=some (.int .i64 k))/\
   ((convert 129 9 (.slice (some ⟨a,k*128,none⟩) 128 128)).run prog W.drew=.ok (str d.sure[k]) W.drew):=⟨c0,c3,hcv⟩
  have HAW:=zH hAW;have jh:=zH dn;have mj:=zH eC;clear c0 c3 hcv hAW cg hDW dn eC;refine wp_region_noPanic ?_;refine eV (λW=>(zC W g 0 (.slice (some ⟨a,0,none⟩) d.sure.length d.sure.length))/\(zC W w.heap.size 0 (.int .i64 k))/\
   ((convert 129 9 (.slice (some ⟨a,k*128,none⟩) 128 128)).run prog W=.ok (str d.sure[k]) W)) (λj=>j==8||j==9) (by kernel_rfl) ?_
  repeat (refine bK BZ ?_)
  have f4:=jh.out.drew.frozen 0;have vO:=jh.out.drew.cell 0;have f5:=mj.out.frozen 0;have hc5:=mj.out.cell 0;simp only[zGA,zGC] at vO hc5;refine jx 8 (w':=W.drew.setCell ⟨w.heap.size+1,0,none⟩ (str d.sure[k])) rfl (by go_simp) (λh=>absurd h (by decide)) ?_;refine jx 9 (w':=(W.drew.setCell ⟨w.heap.size+1,0,none⟩ (str d.sure[k])).setCell ⟨w.heap.size+1+1,0,none⟩ (.int .i64 0)) rfl (aq _ _ _ ⟨w.heap.size+1+1,0,none⟩ _ rfl rfl rfl (by go_simp)) (λh=>absurd h (by decide)) ?_;refine aC (by kernel_rfl) (NoPanic.normal ?_) _;go_wp2_with fail;have b4:=((jh.out.drew.a_ 0 (str d.sure[k])).far (p:=⟨w.heap.size+1+1,0,none⟩) (by simp) (.int .i64 0));have b5:=((mj.out.drew.far (p:=⟨w.heap.size+1,0,none⟩) (by simp) (str d.sure[k])).a_ 0 (.int .i64 0));have hKD:((W.drew.setCell ⟨w.heap.size+1,0,none⟩ (str d.sure[k])).setCell ⟨w.heap.size+1+1,0,none⟩ (.int .i64 0)).heap[D]? =some (.deferred (some [])):=by
   rw[Below.heap_setCell _ _ _ D (show D≠w.heap.size+1+1 by omega),Below.heap_setCell _ _ _ D (show D≠w.heap.size+1 by omega)];exact HK.out
  have jZ:zB w ((W.drew.setCell ⟨w.heap.size+1,0,none⟩ (str d.sure[k])).setCell ⟨w.heap.size+1+1,0,none⟩ (.int .i64 0)):=(hbW.drew.setCell (by simp) _).setCell (by simp;omega) _;clear BZ HAW jh mj f4 f5 vO hc5;generalize(W.drew.setCell ⟨w.heap.size+1,0,none⟩ (str d.sure[k])).setCell ⟨w.heap.size+1+1,0,none⟩ (.int .i64 0)=W7 at*;refine⟨by simp,.inl ⟨_,_,rfl,run_takeDeferred hKD,?_⟩⟩;have b4':aj (W7.putObj D (.deferred none)) (w.heap.size+1) 9 #[str d.sure[k]]:=b4.keep (sB _ _ _ _ (by omega));have b5':aj (W7.putObj D (.deferred none)) (w.heap.size+1+1) 47 #[.int .i64 0]:=b5.keep (sB _ _ _ _ (by omega));have qw:zB w (W7.putObj D (.deferred none)):=jZ.grown (grownBy_putObj' _ _ _) jZ.size (λq e=>by cases e;omega);have c4:=b4'.cell 0;have c5:=b5'.cell 0;simp only[zGA,zGC] at c4 c5;refine⟨.tuple #[str d.sure[k],.int .i64 0],?_,rfl,qw⟩;simp[results,Tryz.results66,go_sem,c4,c5]
theorem Em {F:af} {w:World} {d:Sp.Dk} (h:cR F w g d) (at_ base:Nat) (h1:at_+33<=d.sure.length) (h2:base<=d.sure.length):
 Calls prog 166 #[.pointer (some ⟨g,0,none⟩),.int .i64 at_,.int .i64 base] w λe w'=>e=.returned (.int .i64 0)/\w'=w:=by
 have jb:=h.wf.few;have HL:=zH (oV h);have d1:decide ((at_:Int)<0)=false:=by simp
 have d2:decide ((base:Int)<0)=false:=by simp
 have d3:decide ((d.sure.length:Int)-33<at_)=false:=by rw[ze];omega
 have d4:decide ((d.sure.length:Int)<base)=false:=by rw[ze];omega
 clear h;go_enter func166,ntmps166;go_wp2_with fail;refine HL.out.mono ?_;rintro e w1 ⟨rfl,hw⟩;subst w1;go_wp2_with fail;refine HL.out.mono ?_;rintro e w1 ⟨rfl,hw⟩;subst w1;go_wp2_with fail;go_ret;exact⟨rfl,rfl⟩
def Sp.inside (n at_ base page:Nat):Prop:=base+page*4+4<=n/\at_+33<=base+page*4
theorem En {F:af} {w:World} {d:Sp.Dk} (h:cR F w g d) (at_ base page:Nat) (hp:page<4294967296) (hi:Sp.inside d.sure.length at_ base page):
 Calls prog 217 #[.pointer (some ⟨g,0,none⟩),.int .i64 at_,.int .i64 base,.int .u32 page] w λe w'=>e=.returned (.bool true)/\w'=w:=by
 have jb:=h.wf.few;obtain⟨i1,i2⟩:=hi;have HL:=zH (oV h);have d1:decide ((base:Int)+page*4+4<=d.sure.length)=true:=by rw[zx];omega
 have d2:decide ((at_:Int)+33<=base+page*4)=true:=by rw[zx];omega
 clear h;go_enter func217,ntmps217;go_wp2_with fail;refine HL.out.mono ?_;rintro e w1 ⟨rfl,hw⟩;subst w1;go_wp2_with fail;go_ret;exact⟨rfl,rfl⟩
def Ld (n:Nat):Array Value:=(List.replicate n (Value.int .u8 0)).toArray
theorem N_:(prog.info? 5).map (λi=>(i.zero,i.size,i.bytes))=some (some (.int .u8 0),1,1):=by kernel_rfl
theorem Bw (n:Nat) (hn:n<=1000000) (W:World):(Instr.makeSlice 129 (.int .i64 (n:Int)) (.int .i64 (n:Int))).run prog W=.ok (.slice (some ⟨W.heap.size,0,none⟩) n n) (W.alloc (.cells (Ld n) 5)):=by
 obtain⟨i0,hi,hz0,hz1,hz2⟩:=info_parts N_;have:=jk (P:=prog) 129 5 i0 (.int .u8 0) underlying129 hi hz0 .i64 .i64 n n (za _) (by rw[hz2];omega) (by omega) W;rw[this,hz1,Nat.mul_one];rw[show(Value.int IntKind.u8 0).cells=#[.int .u8 0] from rfl,qK];rfl
theorem Bx (n:Nat) (W:World):(convert 129 9 (.slice (some ⟨W.heap.size,0,none⟩) n n)).run prog (W.alloc (.cells (Ld n) 5))=.ok (str (Sp.zeros n)) (W.alloc (.cells (Ld n) 5)):=by
 refine bt _ _ _ 5 W.heap.size 0 n n (Sp.zeros n) underlying129 underlying5 underlying9 (by simp[Sp.zeros]) (λj hj=>?_);have hj':j<n:=by simpa[Sp.zeros] using hj
 refine((aj.new W 5 (Ld n)).cell (0+j)).trans ?_;simp[Ld,Sp.zeros,hj']
theorem GX (w:World):
 Calls prog 167 #[] w λe w'=>e=.returned (str (Sp.zeros 128))/\zB w w':=by
 have hmk:=Bw 128 (by omega);have hbk:=Bx 128;change ∀W,(Instr.makeSlice 129 (.int .i64 128) (.int .i64 128)).run _ W=_ at hmk;obtain⟨z,hz⟩:∃z,Sp.zeros 128=z:=⟨_,rfl⟩;rw[hz] at hbk ⊢;clear hz;go_enter func167,ntmps167;go_wp2_with fail;go_ret;exact⟨rfl,(Below.refl _ w).alloc (za _) _⟩
def Sp.cM (s:List Sp.Bs) (at_:Nat):Sp.Bs:=((s.drop at_).take 4).flatten
theorem tX {F:af} {w:World} {d:Sp.Dk} (h:cR F w g d) (hf:d.bk≠0) (hl:d.loose=[]) (base page:Nat) (hp:page<4294967296) (hi:base+page*4+4<=d.sure.length):
 Calls prog 136 #[.pointer (some ⟨g,0,none⟩),.int .i64 base,.int .u32 page] w λe w'=>e=.returned (.tuple #[str (Sp.cM d.sure (base+page*4)),.int .i64 0])/\zB w w':=by
 have jb:=h.wf.few;have PE:=h.wf.sure;have HL:=zH (oV h);have HR:=zH λW (h:cR F W g d)=>uC h hf hl;have HD:=zH h;have Zu:=zH PE;have d1:decide ((base:Int)<0)=false:=by simp
 have d2:decide ((d.sure.length:Int)<base)=false:=by rw[ze];omega
 have d3:decide ((d.sure.length:Int)-4<base+page*4)=false:=by rw[ze];omega
 clear h hf hl PE;go_enter func136,ntmps136;go_wp2_with fail;refine HL.out.mono ?_;rintro e w1 ⟨rfl,hw⟩;subst w1;go_wp2_with fail;refine HL.out.mono ?_;rintro e w1 ⟨rfl,hw⟩;subst w1;go_wp2_with fail;go_loopw [8,9,10,11,31] (λs _ _ _ i wr=>∃k:Nat,k<=4/\i=.int .i64 k/\s=str ((d.sure.drop (base+page*4)).take k).flatten/\zB w wr) (λ_ _ _ _ i _=>4-(intOf i).toNat)
 case atStart=>exact⟨0,by omega,rfl,by simp,Below.refl _ _⟩
 case round=>
  obtain⟨k,hk,rfl,rfl,hb⟩:=hrel;by_cases hlt:k<4
  ·have hR:=HR.out _ (HD.out.below hb) (base+page*4+k) (by omega);have htk:((d.sure.drop (base+page*4)).take (k+1)).flatten=((d.sure.drop (base+page*4)).take k).flatten++d.sure[base+page*4+k]:=by
    rw[zg (by rw[za2];omega),List.flatten_append];simp
   have hlen:(((d.sure.drop (base+page*4)).take k).flatten).length<=1000:=by
    have:=bZ (λx:Sp.Bs=>x) 128 ((d.sure.drop (base+page*4)).take k) (λx hx=>Zu.out x (List.mem_of_mem_drop (zax hx)));rw[List.map_id'] at this;rw[this,zag];have:=Nat.min_le_left k (d.sure.drop (base+page*4)).length;omega
   have Fq:=Zu.out _ (zw (show base+page*4+k<d.sure.length by omega));have hlen3:(d.sure[base+page*4+k]).length<=128:=by omega
   have uG:=zH htk;have Ge:=zH hR;clear htk hR Fq;generalize d.sure[base+page*4+k]=s1 at*;generalize((d.sure.drop (base+page*4)).take k).flatten=s0 at*;go_wp2_with fail;refine Ge.out.mono ?_;rintro e w1 ⟨rfl,hb1⟩;go_wp2_with fail;go_roundw
   case rel=>exact⟨k+1,by omega,by go_num,by rw[uG.out,aP],hb.trans (hb1.mono hb.size)⟩
   case measure=>simp[intOf];omega
  ·obtain rfl:k=4:=by omega
   go_wp2_with fail
   go_ret2
   exact⟨rfl,hb⟩
inductive Sp.fP
 | wr (k:Nat) (s:Sp.Bs)
 | sync
def Sp.Dk.act (d:Sp.Dk):Sp.fP->Sp.Dk
 | .wr k s=>d.put k s
 | .sync=>d.synced
def Sp.Dk.acts (d:Sp.Dk) (l:List Sp.fP):Sp.Dk:=l.foldl Sp.Dk.act d
def Sp.fP.ok (n:Nat):Sp.fP->Prop
 | .wr k s=>k<n/\s.length=128
 | .sync=>True
abbrev ptr (b:Nat):Value:=.pointer (some ⟨b,0,none⟩)
def jz (G:af) (w:World) (g:Nat) (v:Value):Sp.fP->Prop
 | .wr k s=>(∃b0 b1 b2 b3 p t j,v=.func (.func 218) #[] #[ptr b0,ptr b1,ptr b2,ptr b3]/\(G b0/\G b1/\G b2/\G b3)/\aj w b0 40 #[ptr g]/\aj w b1 3 #[.int .i64 (k:Nat)]/\
  aj w b2 194 #[.int .u32 (p:Nat),str t]/\aj w b3 3 #[.int .i64 (j:Nat)]/\j<4/\t.length=512/\s=(t.drop (j*128)).take 128)\/
  (∃b0 b1 b2,v=.func (.func 219) #[] #[ptr b0,ptr b1,ptr b2]/\(G b0/\G b1/\G b2)/\aj w b0 40 #[ptr g]/\aj w b1 3 #[.int .i64 (k:Nat)]/\aj w b2 9 #[str s])
 | .sync=>v=.func (.func 65) #[ptr g] #[]
theorem jz.keep {G:af} {w:World} {a:Sp.fP} (h:jz G w g v a) (hk:∀b,G b->w'.heap[b]? =w.heap[b]?):jz G w' g v a:=by
 cases a with
 | sync=>exact h
 | wr k s=>
  rcases h with⟨b0,b1,b2,b3,p,t,j,e,⟨g0,g1,g2,g3⟩,h0,h1,h2,h3,rest⟩ | ⟨b0,b1,b2,e,⟨g0,g1,g2⟩,h0,h1,h2⟩
  ·exact .inl ⟨b0,b1,b2,b3,p,t,j,e,⟨g0,g1,g2,g3⟩,h0.keep (hk _ g0),h1.keep (hk _ g1),h2.keep (hk _ g2),h3.keep (hk _ g3),rest⟩
  ·exact .inr ⟨b0,b1,b2,e,⟨g0,g1,g2⟩,h0.keep (hk _ g0),h1.keep (hk _ g1),h2.keep (hk _ g2)⟩
theorem jz.mono {G G':af} {w:World} {a:Sp.fP} (h:jz G w g v a) (hG:∀b,G b->G' b):jz G' w g v a:=by
 cases a with
 | sync=>exact h
 | wr k s=>
  rcases h with⟨b0,b1,b2,b3,p,t,j,e,⟨g0,g1,g2,g3⟩,rest⟩ | ⟨b0,b1,b2,e,⟨g0,g1,g2⟩,rest⟩
  ·exact .inl ⟨b0,b1,b2,b3,p,t,j,e,⟨hG _ g0,hG _ g1,hG _ g2,hG _ g3⟩,rest⟩
  ·exact .inr ⟨b0,b1,b2,e,⟨hG _ g0,hG _ g1,hG _ g2⟩,rest⟩
abbrev wM (F:af) (w:World) (g:Nat) (d':Sp.Dk):Ending->World->Prop:=λe w'=>∃F',e=.returned (.int .i64 0)/\cR F' w' g d'/\aa F F' w w'
theorem Ib {F:af} {w:World} {d:Sp.Dk} (h:cR F w g d) (k:Nat) (s:Sp.Bs) (hk:k<d.sure.length) (hs:s.length=128) (hf:d.bk≠0) (hl:d.loose.length<=1000000)
 {b0 b1 b2:Nat} (h0:aj w b0 40 #[ptr g]) (h1:aj w b1 3 #[.int .i64 (k:Nat)]) (h2:aj w b2 9 #[str s]):
 Calls prog 219 #[ptr b0,ptr b1,ptr b2] w (wM F w g (d.put k s)):=by
 have HW:=zH (nG h k s hk hs hf hl);have c0:=h0.cell 0;have c1:=h1.cell 0;have c2:=h2.cell 0;simp only[zGA,zGC] at c0 c1 c2;clear h h0 h1 h2 hk hs;go_enter func219,ntmps219;go_wp2_with fail;refine HW.out.mono ?_;rintro e w1 ⟨F',rfl,hD,ht⟩;have H1:=zH hD;have H2:=zH ht;clear hD ht;go_wp2_with fail;go_ret;exact⟨F',rfl,H1.out,H2.out⟩
theorem IC {F:af} {w:World} {d:Sp.Dk} (h:cR F w g d) (k p j:Nat) (t:Sp.Bs) (hk:k<d.sure.length) (ht:t.length=512) (hj:j<4) (hf:d.bk≠0) (hl:d.loose.length<=1000000)
 {b0 b1 b2 b3:Nat} (h0:aj w b0 40 #[ptr g]) (h1:aj w b1 3 #[.int .i64 (k:Nat)]) (h2:aj w b2 194 #[.int .u32 (p:Nat),str t]) (h3:aj w b3 3 #[.int .i64 (j:Nat)]) (hb:¬F b0/\¬F b1/\¬F b2/\¬F b3):
 Calls prog 218 #[ptr b0,ptr b1,ptr b2,ptr b3] w (wM F w g (d.put k ((t.drop (j*128)).take 128))):=by
 have XM:((t.drop (j*128)).take 128).length=128:=by rw[zag,za2];omega
 have HW:=zH λW (h:cR F W g d)=>nG h k ((t.drop (j*128)).take 128) hk XM hf hl;have c0:=h0.cell 0;have c1:=h1.cell 0;have c2:=h2.cell 1;have c3:=h3.cell 0;simp only[zGA,zGC,zGB] at c0 c1 c2 c3;have HD:=zH h;have w1:IntKind.i64.wrap ((j:Int)*128)=j*128:=IntWalk.i64_in _ (by omega);have w2:IntKind.i64.wrap ((j:Int)+1)=j+1:=IntWalk.i64_in _ (by omega);have w3:IntKind.i64.wrap (((j:Int)+1)*128)=(j+1)*128:=IntWalk.i64_in _ (by omega);have hcut:∀W,(Instr.slice 9 (str t) (some (.int .i64 ((j:Int)*128))) (some (.int .i64 (((j:Int)+1)*128))) none).run prog W=Result.ok (str ((t.drop (j*128)).take 128)) W:=λW=>by
  have:=run_slice_string (P:=prog) (w:=W) 9 ⟨t.toArray⟩ .i64 .i64 ((j:Int)*128) (((j:Int)+1)*128) underlying9 (by omega) (by omega) (by rw[w_];omega);rw[this,dw]
  congr 3
  rw[show(((j:Int)*128).toNat)=j*128 by omega,show((((j:Int)+1)*128).toNat)-j*128=128 by omega]
 have HC:=zH hcut;have H0:=zH h0.drew;have H1:=zH h1.drew;have H2:=zH h2.drew;have H3:=zH h3.drew;clear h h0 h1 h2 h3 hk XM hcut ht;go_enter func218,ntmps218;go_wp2_with fail;have BZ:(w.drew.cell? ⟨b0,0,none⟩=some (ptr g))/\(w.drew.cell? ⟨b1,0,none⟩=some (.int .i64 k))/\(w.drew.cell? ⟨b2,1,none⟩=some (str t))/\(w.drew.cell? ⟨b3,0,none⟩=some (.int .i64 j)):=⟨c0,c1,c2,c3⟩;refine fQ (λW=>(zC W b0 0 (ptr g))/\(zC W b1 0 (.int .i64 k))/\(zC W b2 1 (str t))/\(zC W b3 0 (.int .i64 j))) (λ_=>false) ?_
 repeat (refine bK BZ ?_)
 refine kT 9 14 (v:=str ((t.drop (j*128)).take 128)) rfl BZ (λW _=>CC _ _ _ _ rfl rfl rfl rfl ((run_sliceAt_string (P:=prog) (w:=W) _ _ _ _ _ underlying9).trans (HC.out W))) ?_;refine aI 10 15 (f:=124) (args:=#[ptr g,.int .i64 k,str ((t.drop (j*128)).take 128)]) (w':=w.drew) rfl rfl (by rfl) (by kernel_rfl) (by go_simp) (HW.out w.drew (HD.out.keep (λ_ _=>rfl))) (λe w'' hR=>?_);obtain⟨F',rfl,hD,gW⟩:=hR;have hS1:(w''.cell? ⟨b0,0,none⟩=some (ptr g))/\(w''.cell? ⟨b1,0,none⟩=some (.int .i64 k))/\(w''.cell? ⟨b2,1,none⟩=some (str t))/\(w''.cell? ⟨b3,0,none⟩=some (.int .i64 j)):=by
  obtain⟨n0,n1,n2,n3⟩:=hb;exact⟨(H0.out.turns gW n0).cell 0,(H1.out.turns gW n1).cell 0,(H2.out.turns gW n2).cell 1,(H3.out.turns gW n3).cell 0⟩
 refine⟨_,rfl,λ_=>hS1,?_⟩;simp only[zSA,zSB,zSC];refine fe 11 4 (v:=.int .i64 0) (w':=w'') rfl (by clear hS1;go_simp) (λ_=>hS1) ?_;refine aC (by kernel_rfl) ?_ _;have H4:=zH hD;have H5:Hid (aa F F' w w''):=zH (⟨gW.os,gW.tape,gW.output,gW.size,gW.block,gW.foot⟩);clear hD gW hS1;go_wp2_with fail;go_ret;exact⟨F',rfl,H4.out,H5.out⟩
open Go.RowKit
namespace Sp
theorem RM (d:Dk) (a:fP) (h:d.bk= -1):(d.act a).bk= -1:=by
 cases a<;>simp[Dk.act,Dk.put,Dk.synced,tE,h]
theorem RL (d:Dk) (a:fP):(d.act a).sure.length=d.sure.length:=by
 cases a<;>simp[Dk.act,Dk.put,Dk.synced,Dk.view]
theorem Nh (d:Dk) (a:fP):(d.act a).loose.length<=d.loose.length+1:=by
 cases a<;>simp[Dk.act,Dk.put,Dk.synced]
theorem qb (d:Dk) (l:List fP) (a:fP):d.acts (l++[a])=(d.acts l).act a:=by simp[Dk.acts]
theorem mP (d:Dk) (h:d.bk= -1):∀l,(d.acts l).bk= -1:=λl=>by
 induction l generalizing d with
 | nil=>exact h
 | cons a l ih=>exact ih (d.act a) (RM d a h)
theorem mO (d:Dk):∀l,(d.acts l).sure.length=d.sure.length:=λl=>by
 induction l generalizing d with
 | nil=>rfl
 | cons a l ih=>exact(ih (d.act a)).trans (RL d a)
theorem yS (d:Dk):∀l,(d.acts l).loose.length<=d.loose.length+l.length:=λl=>by
 induction l generalizing d with
 | nil=>exact za _
 | cons a l ih=>
  have h1:=ih (d.act a);have h2:=Nh d a;show(Dk.acts (d.act a) l).loose.length<=_;rw[zP];omega
end Sp
def cz (G:af) (w:World) (g:Nat) (fs:List Value) (kX:List Sp.fP):Prop:=
 fs.length=kX.length/\∀(i:Nat) (v:Value) (a:Sp.fP),fs[i]? =some v->kX[i]? =some a->jz G w g v a
theorem cz.nil (G:af) (w:World) (g:Nat):cz G w g [] []:=⟨rfl,λi v a h=>by simp at h⟩
theorem cz.app {G:af} {w:World} {hs:List Value} {kX bs:List Sp.fP} (h:cz G w g fs kX) (k:cz G w g hs bs):cz G w g (fs++hs) (kX++bs):=by
 refine⟨by simp[h.1,k.1],λi v a hv ha=>?_⟩;rcases za4 i fs.length with hi | hi
 ·rw[zai hi] at hv;rw[zai (by rw[<-h.1];exact hi)] at ha;exact h.2 i v a hv ha
 ·rw[zO hi] at hv;rw[zO (by rw[<-h.1];exact hi),<-h.1] at ha;exact k.2 _ v a hv ha
theorem cz.one {G:af} {w:World} {a:Sp.fP} (h:jz G w g v a):cz G w g [v] [a]:=by
 refine⟨rfl,λi v' a' hv ha=>?_⟩
 cases i with
 | zero=>simp at hv ha;subst hv ha;exact h
 | succ i=>simp at hv
theorem cz.mono {G G':af} {w:World} {kX:List Sp.fP} (h:cz G w g fs kX) (hG:∀b,G b->G' b):cz G' w g fs kX:=⟨h.1,λi v a hv ha=>(h.2 i v a hv ha).mono hG⟩
theorem GW {F G:af} {w:World} {d:Sp.Dk} (h:cR F w g d) (hf:d.bk= -1) {kX:List Sp.fP} (hR:Reads G w 1 A fs.length fs)
 (hA:cz G w g fs kX) (hG:rf w F G) (hok:∀a∈kX,a.ok d.sure.length) (hn:d.loose.length+kX.length<=1000000):
 Calls prog 170 #[.slice A fs.length c] w (wM F w g (d.acts kX)):=by
 have HD:=zH h;have HF:=zH hf;have HR:=zH hR;have HA:=zH hA;have HG:=zH hG;have Bk:=zH hok;have HLEN:=zH hA.1;have hlen:fs.length<=1000000:=by rw[hA.1];omega
 clear h hf hR hA hG hok;go_enter func170,ntmps170;go_wp2_with fail;go_loopw [4,5,8] (λ_ _ i wr=>∃(k:Nat) (F':af),k<=fs.length/\i=.int .i64 k/\cR F' wr g (d.acts (kX.take k))/\aa F F' w wr) (λ_ _ i _=>fs.length-(intOf i).toNat)
 case atStart=>exact⟨0,F,by omega,rfl,by simpa[Sp.Dk.acts] using HD.out,aa.refl _ _⟩
 case round=>
  obtain⟨k,F1,hk,rfl,hD,ht⟩:=hrel;by_cases hlt:k<fs.length
  ·have hka:k<kX.length:=by rw[<-HLEN.out];exact hlt
   have sS:Hid (d.acts (kX.take (k+1))=(d.acts (kX.take k)).act kX[k]):=zH (by
    rw[zg hka,Sp.qb])
   have MV:=ht.apart HG.out;obtain⟨b,o,u,rfl,_,_,hu,hc⟩:=(HR.out.turns ht HG.out).at_ hlt;have hAk:=(HA.out.2 k u kX[k] hu (zk hka)).keep (ht.keep HG.out);have hokk:=Bk.out _ (zw hka);have MI:(d.acts (kX.take k)).bk≠0:=by rw[Sp.mP d HF.out];decide
   have hsu:=Sp.mO d (kX.take k);have hlo:(d.acts (kX.take k)).loose.length<=1000000:=by
    have h1:=Sp.yS d (kX.take k);rw[zag] at h1;have:=Nat.min_le_right k kX.length;omega
   have hmeas:k+1<=fs.length:=hlt;generalize hak:kX[k]=a at*
   cases a with
   | sync=>
    have e:u=_:=hAk;subst e;have HC:=zH (uB hD MI hlo);have HT:=zH ht;clear hak hD ht hAk hu hsu MV hokk;go_wp2_with fail;refine HC.out.mono ?_;rintro e w1 ⟨F2,rfl,VT,_,gX⟩;have JL:=zH VT;have uH:=zH (HT.out.trans gX);clear VT gX;go_wp2_with fail;go_roundw
    case rel=>exact⟨k+1,F2,hmeas,by go_num,by rw[sS.out];exact JL.out,uH.out⟩
    case measure=>simp[intOf];omega
   | wr q s=>
    obtain⟨ok1,Z9⟩:=hokk;rcases hAk with⟨b0,b1,b2,b3,p,t,j,rfl,⟨g0,g1,g2,g3⟩,h0,h1,h2,h3,hj,iV,rfl⟩ | ⟨b0,b1,b2,rfl,⟨g0,g1,g2⟩,h0,h1,h2⟩
    ·have HC:=zH (IC hD q p j t (by rw[hsu];exact ok1) iV hj MI hlo h0 h1 h2 h3 ⟨(MV _ g0).2,(MV _ g1).2,(MV _ g2).2,(MV _ g3).2⟩);have HT:=zH ht;clear hak hD ht hu hsu MV h0 h1 h2 h3 iV Z9;go_wp2_with fail;refine HC.out.mono ?_;rintro e w1 ⟨F2,rfl,VT,gX⟩;have JL:=zH VT;have uH:=zH (HT.out.trans gX);clear VT gX;go_wp2_with fail;go_roundw
     case rel=>exact⟨k+1,F2,hmeas,by go_num,by rw[sS.out];exact JL.out,uH.out⟩
     case measure=>simp[intOf];omega
    ·have HC:=zH (Ib hD q s (by rw[hsu];exact ok1) Z9 MI hlo h0 h1 h2);have HT:=zH ht;clear hak hD ht hu hsu MV h0 h1 h2 Z9;go_wp2_with fail;refine HC.out.mono ?_;rintro e w1 ⟨F2,rfl,VT,gX⟩;have JL:=zH VT;have uH:=zH (HT.out.trans gX);clear VT gX;go_wp2_with fail;go_roundw
     case rel=>exact⟨k+1,F2,hmeas,by go_num,by rw[sS.out];exact JL.out,uH.out⟩
     case measure=>simp[intOf];omega
  ·obtain rfl:k=fs.length:=by omega
   rw[HLEN.out,zL] at hD;have JL:=zH hD;have uH:=zH ht;clear hD ht;go_wp2_with fail;go_ret;exact⟨F1,rfl,JL.out,uH.out⟩
theorem KE:(prog.info? 134).map (λi=>(i.zero,i.size,i.bytes))=some (some .nilFunc,1,8):=by kernel_rfl
theorem wX {w:World} (g k:Nat) (s:Sp.Bs):
 Calls prog 172 #[ptr g,.int .i64 k,str s] w λe w'=>∃b c fs,e=.returned (.slice (some ⟨b,0,none⟩) 2 c)/\w.heap.size<=b/\aj w' b 134 fs.toArray/\fs.length=2/\(∀u∈fs,u.oneCell'=true)/\
  cz (λb=>w.heap.size<=b) w' g fs [.wr k s,.sync]/\zB w w':=by
 go_enter func172,ntmps172;go_wp2_with fail;go_ret;have hb:=(((((Below.refl _ w).alloc (za _) (.cells #[ptr g] 40)).alloc (by simp) (.cells #[.int .i64 (k:Nat)] 3)).alloc (by simp;omega) (.cells #[str s] 9)).alloc (by simp;omega) (.cells #[.func (.func 219) #[] #[ptr w.heap.size,ptr (w.heap.size+1),ptr (w.heap.size+1+1)],.func (.func 65) #[ptr g] #[]] 134));have b0:=(((aj.new w 40 #[ptr g]).alloc (.cells #[.int .i64 (k:Nat)] 3)).alloc (.cells #[str s] 9)).alloc (.cells #[.func (.func 219) #[] #[ptr w.heap.size,ptr (w.heap.size+1),ptr (w.heap.size+1+1)],.func (.func 65) #[ptr g] #[]] 134);have b1:=((aj.new (w.alloc (.cells #[ptr g] 40)) 3 #[.int .i64 (k:Nat)]).alloc (.cells #[str s] 9)).alloc (.cells #[.func (.func 219) #[] #[ptr w.heap.size,ptr (w.heap.size+1),ptr (w.heap.size+1+1)],.func (.func 65) #[ptr g] #[]] 134);have b2:=(aj.new ((w.alloc (.cells #[ptr g] 40)).alloc (.cells #[.int .i64 (k:Nat)] 3)) 9 #[str s]).alloc (.cells #[.func (.func 219) #[] #[ptr w.heap.size,ptr (w.heap.size+1),ptr (w.heap.size+1+1)],.func (.func 65) #[ptr g] #[]] 134);have b3:=aj.new (((w.alloc (.cells #[ptr g] 40)).alloc (.cells #[.int .i64 (k:Nat)] 3)).alloc (.cells #[str s] 9)) 134 #[.func (.func 219) #[] #[ptr w.heap.size,ptr (w.heap.size+1),ptr (w.heap.size+1+1)],.func (.func 65) #[ptr g] #[]];simp only[World.size_alloc] at b1 b2 b3;refine⟨_,2,[.func (.func 219) #[] #[ptr w.heap.size,ptr (w.heap.size+1),ptr (w.heap.size+1+1)],.func (.func 65) #[ptr g] #[]],rfl,by omega,b3,rfl,?_,?_,hb⟩
 ·intro u hu;rcases zW.1 hu with rfl | hu
  ·rfl
  ·rw[zq.1 hu];rfl
 ·exact(cz.one (a:=.wr k s) (.inr ⟨_,_,_,rfl,⟨za _,by omega,by omega⟩,b0,b1,b2⟩)).app (cz.one (a:=.sync) rfl)
def hcs (l:List (Nat×Sp.Bs)):List Value:=(l.map λx=>[.int .u32 (x.1:Nat),str x.2]).flatten
theorem IW (l:List (Nat×Sp.Bs)):(hcs l).length=l.length*2:=bZ _ 2 l (λ_ _=>rfl)
theorem Db (a b:List (Nat×Sp.Bs)):hcs (a++b)=hcs a++hcs b:=by simp[hcs]
theorem Qj {l:List (Nat×Sp.Bs)} (hi:i<l.length):(hcs l)[i*2]? =some (.int .u32 (l[i].1:Nat))/\(hcs l)[i*2+1]? =some (str l[i].2):=by
 have e:l=l.take i++l[i]::l.drop (i+1):=by rw[<-zao hi,zS]
 have h1:(hcs (l.take i)).length=i*2:=by rw[IW,zag,Nat.min_eq_left (by omega)]
 have e2:hcs l=hcs (l.take i)++([.int .u32 (l[i].1:Nat),str l[i].2]++hcs (l.drop (i+1))):=by
  conv=>lhs;rw[e]
  rw[Db];rfl
 rw[e2];constructor
 ·rw[zO (by omega),h1,Nat.sub_self];rfl
 ·rw[zO (by omega),h1,show i*2+1-i*2=1 by omega];rfl
theorem Reads.home {G:af} {w:World} {l:List (Nat×Sp.Bs)} (h:Reads G w 2 A l.length (hcs l)) (hk:k<l.length):
 ∃b o,A=some ⟨b,o,none⟩/\G b/\b<w.heap.size/\w.cell? ⟨b,o+k*2,none⟩=some (.int .u32 (l[k].1:Nat))/\w.cell? ⟨b,o+k*2+1,none⟩=some (str l[k].2):=by
 obtain⟨b,o,e,hG,hb,hc⟩:=h.2 (by omega);have h2:=Qj hk;exact⟨b,o,e,hG,hb,hc _ _ h2.1,hc _ _ h2.2⟩
def Sp.eZ (base:Nat) (x:Nat×Sp.Bs):List Sp.fP:=(List.range 4).map λj=>.wr (base+x.1*4+j) ((x.2.drop (j*128)).take 128)
def Sp.aR (base:Nat) (l:List (Nat×Sp.Bs)):List Sp.fP:=(l.map (Sp.eZ base)).flatten
theorem Sp.jH (base:Nat) (x:Nat×Sp.Bs):(Sp.eZ base x).length=4:=by simp[Sp.eZ]
theorem Sp.uo (base:Nat) (l:List (Nat×Sp.Bs)):(Sp.aR base l).length=l.length*4:=bZ _ 4 l (λ_ _=>Sp.jH _ _)
theorem Sp.qM (base:Nat) (a b:List (Nat×Sp.Bs)):Sp.aR base (a++b)=Sp.aR base a++Sp.aR base b:=by simp[Sp.aR]
theorem Sp.yj (base:Nat) (l:List (Nat×Sp.Bs)) (i:Nat) (hi:i<l.length):Sp.aR base (l.take (i+1))=Sp.aR base (l.take i)++Sp.eZ base l[i]:=by
 rw[zg hi,Sp.qM];simp[Sp.aR]
theorem Sp.AJ (base:Nat) (x:Nat×Sp.Bs) (j:Nat) (hj:j<4):(Sp.eZ base x).take (j+1)=(Sp.eZ base x).take j++[.wr (base+x.1*4+j) ((x.2.drop (j*128)).take 128)]:=by
 rw[zg (by rw[Sp.jH];exact hj)];simp[Sp.eZ]
theorem jz.grown {G:af} {w:World} {a:Sp.fP} {row:Option Nat} (h:jz G w g v a) (hg:w.grownBy w' row) (hr:∀r,row=some r->∃cs,aj w r 134 cs):jz G w' g v a:=by
 have key:∀{b t cs},aj w b t cs->t≠134->aj w' b t cs:=fun{b t cs} hb hne=>hb.grown hg (λe=>by
  obtain⟨cs',hc⟩:=hr _ e.symm;exact aj.Tq hb hc hne rfl)
 cases a with
 | sync=>exact h
 | wr k s=>
  rcases h with⟨b0,b1,b2,b3,p,t,j,e,hG,h0,h1,h2,h3,rest⟩ | ⟨b0,b1,b2,e,hG,h0,h1,h2⟩
  ·exact .inl ⟨b0,b1,b2,b3,p,t,j,e,hG,key h0 (by decide),key h1 (by decide),key h2 (by decide),key h3 (by decide),rest⟩
  ·exact .inr ⟨b0,b1,b2,e,hG,key h0 (by decide),key h1 (by decide),key h2 (by decide)⟩
theorem cz.grown {G:af} {w:World} {kX:List Sp.fP} {row:Option Nat} (h:cz G w g fs kX) (hg:w.grownBy w' row) (hr:∀r,row=some r->∃cs,aj w r 134 cs):cz G w' g fs kX:=
 ⟨h.1,λi v a hv ha=>(h.2 i v a hv ha).grown hg hr⟩
theorem cz.below {G:af} {w:World} {kX:List Sp.fP} (h:cz G w g fs kX) (hb:zB w w'):cz G w' g fs kX:=
 h.grown (row:=none) ⟨hb.os,hb.tape,hb.output,hb.size,λb hb' _=>hb.block b hb'⟩ (λr e=>by cases e)
theorem lH {w:World} {base e:Nat} (h:w.ownsRow base e size v n xs):∀r,v.ownBlock=some r->∃cs,aj w r e cs:=by
 intro r hr;rcases h.2 with⟨rfl,_⟩ | ⟨b,cap,cur,rfl,_,hh,_⟩
 ·cases hr
 ·have:b=r:=by simpa[Value.ownBlock] using hr
  subst this;exact⟨cur,hh⟩
theorem wY {G:af} {w:World} (g base:Nat) {l:List (Nat×Sp.Bs)} (hR:Reads G w 2 A l.length (hcs l)) (hl:l.length<=1000) (hp:∀x∈l,x.1<4294967296/\x.2.length=512) (hb:base<=1000000):
 Calls prog 171 #[ptr g,.int .i64 base,.slice A l.length c] w λe w'=>∃v fs,e=.returned v/\w'.ownsRow w.heap.size 134 1 v (l.length*4+1) fs/\
  cz (λb=>w.heap.size<=b) w' g fs (Sp.aR base l++[.sync])/\zB w w':=by
 obtain⟨i0,hi,hz0,hz1,hz2⟩:=info_parts KE;have HR:=zH hR;have HP:=zH hp;clear hR hp;go_enter func171,ntmps171;go_wp2_with fail;have Dc:Hid (aj (w.alloc (.cells #[ptr g] 40)) w.heap.size 40 #[ptr g]):=aj.new w _ _;have Qt:=(Below.refl _ w).alloc (za _) (.cells #[ptr g] 40);have hs0:w.heap.size<(w.alloc (.cells #[ptr g] 40)).heap.size:=by simp
 generalize w.alloc (.cells #[ptr g] 40)=w1 at*;go_loopw [6,8,9,10,13,17] (λv _ _ _ i _ wr=>∃(k:Nat) (fs:List Value),k<=l.length/\i=.int .i64 k/\wr.ownsRow w.heap.size 134 1 v (k*4) fs/\
  cz (λb=>w.heap.size<=b) wr g fs (Sp.aR base (l.take k))/\zB w wr/\aj wr w.heap.size 40 #[ptr g]) (λ_ _ _ _ i _ _=>l.length-(intOf i).toNat)
 case atStart=>exact⟨0,[],by omega,rfl,by simpa using World.ownsRow_nil _ _ _ _,by simpa[Sp.aR] using cz.nil _ _ _,Qt,Dc.out⟩
 case round=>
  obtain⟨wo,rfl⟩:∃wo:World,wo=wr:=⟨_,rfl⟩;obtain⟨k,fs,hk,rfl,hO,hA,hbr,hB⟩:=hrel;by_cases hlt:k<l.length
  ·obtain⟨b,o,rfl,_,_,r0,r1⟩:=(Reads.below HR.out hbr).home hlt;have hpk:=HP.out _ (zw hlt);have hp1:l[k].1<4294967296:=hpk.1;have Kg:=zH hpk.2;have sS:=zH (Sp.yj base l k hlt);have hmeas:k+1<=l.length:=hlt;clear hpk;generalize hx:l[k]=x at*;obtain⟨p,t⟩:=x;dsimp only at*;have iW:=zH (aj.new wo 194 #[.int .u32 (p:Nat),str t]);have hA8:=zH (hA.below ((Below.refl _ wo).alloc (za _) (.cells #[.int .u32 (p:Nat),str t] 194)));have hO8:=zH (hO.alloc (.cells #[.int .u32 (p:Nat),str t] 194));have jq:=zH (hB.alloc (.cells #[.int .u32 (p:Nat),str t] 194));have hbr8:=hbr.alloc hbr.size (.cells #[.int .u32 (p:Nat),str t] 194);have D4:wo.heap.size<(wo.alloc (.cells #[.int .u32 (p:Nat),str t] 194)).heap.size:=by simp
   have NI:=hbr.size;clear hx hO hA hB;go_wp2_with fail;obtain⟨w8,Kf⟩:∃w8,wo.alloc (.cells #[.int .u32 (p:Nat),str t] 194)=w8:=⟨_,rfl⟩;rw[Kf] at iW hA8 hO8 jq hbr8 D4 ⊢;clear r0 r1 Kf;go_loopw [6,9,10,17] (λv _ _ j W=>∃(q:Nat) (fs:List Value),q<=4/\j=.int .i64 q/\W.ownsRow w.heap.size 134 1 v (k*4+q) fs/\
    cz (λb=>w.heap.size<=b) W g fs (Sp.aR base (l.take k)++(Sp.eZ base (p,t)).take q)/\zB w W/\aj W w.heap.size 40 #[ptr g]/\aj W wo.heap.size 194 #[.int .u32 (p:Nat),str t]) (λ_ _ _ j _=>4-(intOf j).toNat)
   case atStart=>exact⟨0,fs,by omega,rfl,hO8.out,by simpa using hA8.out,hbr8,jq.out,iW.out⟩
   case round=>
    obtain⟨q,fs2,hq,rfl,hO,hA,Ub,hB,bB⟩:=hrel;by_cases hlt2:q<4
    ·have c2:=bB.cell 0;simp only[zGA,zGC] at c2;have hlt8:=bB.lt;have hlt0:=hB.lt;have C2:=zH (Sp.AJ base (p,t) q hlt2);have HO:=zH (((hO.alloc (.cells #[.int .i64 (q:Nat)] 3)).alloc (.cells #[.int .i64 ((base:Int)+p*4+q)] 3)).alloc (.cells #[.func (.func 218) #[] #[ptr w.heap.size,ptr (wr.heap.size+1),ptr wo.heap.size,ptr wr.heap.size]] 134));have HB:=zH (((hB.alloc (.cells #[.int .i64 (q:Nat)] 3)).alloc (.cells #[.int .i64 ((base:Int)+p*4+q)] 3)).alloc (.cells #[.func (.func 218) #[] #[ptr w.heap.size,ptr (wr.heap.size+1),ptr wo.heap.size,ptr wr.heap.size]] 134));have eo:=zH (((bB.alloc (.cells #[.int .i64 (q:Nat)] 3)).alloc (.cells #[.int .i64 ((base:Int)+p*4+q)] 3)).alloc (.cells #[.func (.func 218) #[] #[ptr w.heap.size,ptr (wr.heap.size+1),ptr wo.heap.size,ptr wr.heap.size]] 134));have hbW:zB wr (((wr.alloc (.cells #[.int .i64 (q:Nat)] 3)).alloc (.cells #[.int .i64 ((base:Int)+p*4+q)] 3)).alloc (.cells #[.func (.func 218) #[] #[ptr w.heap.size,ptr (wr.heap.size+1),ptr wo.heap.size,ptr wr.heap.size]] 134)):=(((Below.refl _ wr).alloc (za _) _).alloc (by simp) _).alloc (by simp;omega) _;have HA:=zH (hA.below hbW);have VH:=Ub.trans (hbW.mono Ub.size);have B9:=zH (((aj.new wr 3 #[.int .i64 (q:Nat)]).alloc (.cells #[.int .i64 ((base:Int)+p*4+q)] 3)).alloc (.cells #[.func (.func 218) #[] #[ptr w.heap.size,ptr (wr.heap.size+1),ptr wo.heap.size,ptr wr.heap.size]] 134));have B10:Hid (aj (((wr.alloc (.cells #[.int .i64 (q:Nat)] 3)).alloc (.cells #[.int .i64 ((base:Int)+p*4+q)] 3)).alloc (.cells #[.func (.func 218) #[] #[ptr w.heap.size,ptr (wr.heap.size+1),ptr wo.heap.size,ptr wr.heap.size]] 134)) (wr.heap.size+1) 3 #[.int .i64 ((base:Int)+p*4+q)]):=by
      have:=(aj.new (wr.alloc (.cells #[.int .i64 (q:Nat)] 3)) 3 #[.int .i64 ((base:Int)+p*4+q)]).alloc (.cells #[.func (.func 218) #[] #[ptr w.heap.size,ptr (wr.heap.size+1),ptr wo.heap.size,ptr wr.heap.size]] 134);rw[World.size_alloc] at this;exact this
     have PF:=Ub.size;clear hO hA hB bB hbW;go_wp2_with (at_builtin;refine wpList_append_own _ rfl _ _ 219 rfl w.heap.size 134 i0 .nilFunc 1 8 underlying219 hi hz0 hz1 hz2 rfl (by decide) _ _ _ rfl HO.out ⟨wr.heap.size+1+1,0,none⟩ 1 1 [.func (.func 218) #[] #[ptr w.heap.size,ptr (wr.heap.size+1),ptr wo.heap.size,ptr wr.heap.size]] rfl rfl (by have:=cell_one_new ((wr.alloc (.cells #[.int .i64 (q:Nat)] 3)).alloc (.cells #[.int .i64 ((base:Int)+p*4+q)] 3)) (.func (.func 218) #[] #[ptr w.heap.size,ptr (wr.heap.size+1),ptr wo.heap.size,ptr wr.heap.size]) 134;simpa only[World.size_alloc] using this) (λx hx=>by simp at hx;subst hx;rfl) (by unfold maxLen;omega) (by omega) (by simp;omega) ?_);intro v' w6 hown hgrow hnil;have PI:=lH HO.out;have Ut:=HA.out.grown hgrow PI;have PU:∀{b t cs},aj (((wr.alloc (.cells #[.int .i64 (q:Nat)] 3)).alloc (.cells #[.int .i64 ((base:Int)+p*4+q)] 3)).alloc (.cells #[.func (.func 218) #[] #[ptr w.heap.size,ptr (wr.heap.size+1),ptr wo.heap.size,ptr wr.heap.size]] 134)) b t cs->t≠134->aj w6 b t cs:=fun{b t cs} hb hne=>hb.grown hgrow (λe=>by
      obtain⟨cs',hc⟩:=PI _ e.symm;exact aj.Tq hb hc hne rfl)
     have h0:=PU HB.out (by decide);have h1:=PU B10.out (by decide);have h2:=PU eo.out (by decide);have h3:=PU B9.out (by decide);have fI:zB w w6:=VH.grown hgrow VH.size (λr e=>(HO.out.lt r e).1);rw[show((base:Int)+p*4+q)=((base+p*4+q:Nat):Int) by omega] at h1;have hact:jz (λb=>w.heap.size<=b) w6 g (.func (.func 218) #[] #[ptr w.heap.size,ptr (wr.heap.size+1),ptr wo.heap.size,ptr wr.heap.size]) (.wr (base+p*4+q) ((t.drop (q*128)).take 128)):=
      .inl ⟨_,_,_,_,p,t,q,rfl,⟨za _,by omega,by omega,by omega⟩,h0,h1,h2,h3,hlt2,Kg.out,rfl⟩
     have Sw:=zH (Ut.app (cz.one hact));rw[zh,<-C2.out] at Sw;have Wa:=zH hown;have H0:=zH h0;have H2:=zH h2;obtain⟨g7,c7,rfl⟩:=sG hown;clear hnil hown hgrow PI PU Ut h0 h1 h2 h3 hact c2;go_wp2_with fail;go_roundw
     case rel=>exact⟨q+1,_,by omega,by go_num,Wa.out,Sw.out,fI,H0.out,H2.out⟩
     case measure=>simp[intOf];omega
    ·obtain rfl:q=4:=by omega
     have h4:(Sp.eZ base (p,t)).take 4=Sp.eZ base (p,t):=zX (by rw[Sp.jH];exact za _);rw[h4,<-sS.out] at hA;clear h4;have Wa:=zH hO;have Sw:=zH hA;have H0:=zH hB;clear hO hA hB bB;go_wp2_with fail;go_roundw
     case rel=>exact⟨k+1,_,hmeas,by go_num,by rw[show(k+1)*4=k*4+4 by omega];exact Wa.out,Sw.out,Ub,H0.out⟩
     case measure=>simp[intOf];omega
  ·obtain rfl:k=l.length:=by omega
   rw[zL] at hA;have c0:=hB.cell 0;simp only[zGA,zGC] at c0;have HA:=zH (hA.below ((Below.refl _ wo).alloc (za _) (.cells #[.func (.func 65) #[ptr g] #[]] 134)));have HO:=zH (hO.alloc (.cells #[.func (.func 65) #[ptr g] #[]] 134));have Fx:=hbr.alloc hbr.size (.cells #[.func (.func 65) #[ptr g] #[]] 134);have NI:=hbr.size;clear hA hO;go_wp2_with (at_builtin;refine wpList_append_own _ rfl _ _ 219 rfl w.heap.size 134 i0 .nilFunc 1 8 underlying219 hi hz0 hz1 hz2 rfl (by decide) _ _ _ rfl HO.out ⟨wo.heap.size,0,none⟩ 1 1 [.func (.func 65) #[ptr g] #[]] rfl rfl (cell_one_new _ _ _) (λx hx=>by simp at hx;subst hx;rfl) (by unfold maxLen;omega) (by omega) (by simp;omega) ?_);intro v' w6 hown hgrow hnil;have Ut:=(HA.out.grown hgrow (lH HO.out)).app (cz.one (a:=.sync) (v:=.func (.func 65) #[ptr g] #[]) rfl);have fI:zB w w6:=Fx.grown hgrow Fx.size (λr e=>(HO.out.lt r e).1);have Sw:=zH Ut;have Wa:=zH hown;obtain⟨g7,c7,rfl⟩:=sG hown;clear hnil hown hgrow Ut c0;go_wp2_with fail;go_ret;exact⟨_,_,rfl,Wa.out,Sw.out,fI⟩
open Go.RowKit
namespace Sp
def dM (l:List (Nat×Bs)):Bs:=[1,UInt8.ofNat l.length]++(l.map λx=>be 4 x.1).flatten
def jF (l:List (Nat×Bs)):Bs:=cI (dM l++zeros (124-(dM l).length))
theorem nQ (l:List (Nat×Bs)):(dM l).length=2+4*l.length:=by
 unfold dM;rw[zo,bZ _ 4 l (λ_ _=>aV 4 _)];simp;omega
theorem Au {l:List (Nat×Bs)} (h:l.length<=8):(jF l).length=128:=by
 unfold jF;rw[lW,zo,nQ];simp only[zeros,zbc];omega
end Sp
theorem Ln {G:af} {w:World} {l:List (Nat×Sp.Bs)} (hR:Reads G w 2 A l.length (hcs l)) (hl:l.length<=8) (hp:∀x∈l,x.1<4294967296):
 Calls prog 168 #[.slice A l.length c] w λe w'=>e=.returned (str (Sp.jF l))/\zB w w':=by
 have HR:=zH hR;have HP:=zH hp;have hbk:∀W:World,(convert 129 9 (.slice (some ⟨W.heap.size,0,none⟩) 2 2)).run prog (W.alloc (.cells #[.int .u8 1,.int .u8 (l.length:Nat)] 5))=.ok (str [1,UInt8.ofNat l.length]) (W.alloc (.cells #[.int .u8 1,.int .u8 (l.length:Nat)] 5)):=λW=>by
  refine bt _ _ _ 5 W.heap.size 0 2 2 [1,UInt8.ofNat l.length] underlying129 underlying5 underlying9 rfl (λj hj=>?_);refine((aj.new W 5 #[.int .u8 1,.int .u8 (l.length:Nat)]).cell (0+j)).trans ?_
  match j,hj with
  | 0,_=>rfl
  | 1,_=>
   simp only[zGA,zaj,zGB,zGC,zbo,zbn,UInt8.toNat_ofNat'];rw[Nat.mod_eq_of_lt (by omega)]
 have HW:Hid (∀(p:Nat) (W:World),p<4294967296->Calls prog 131 #[.int .u64 (p:Nat),.int .i64 4] W λe w'=>e=.returned (.tuple #[str (Sp.be 4 p),.bool true])/\zB W w'):=λp W hp=>d_ p 4 W (by omega) (by omega) (by omega) (by omega);have hmk:=Bw (124-(Sp.dM l).length) (by omega);have hzb:=Bx (124-(Sp.dM l).length);have hml:=Sp.nQ l;rw[show((124-(Sp.dM l).length:Nat):Int)=(124:Int)-(Sp.dM l).length by omega] at hmk;have HS:=zH fun(W:World)=>mr (Sp.dM l++Sp.zeros (124-(Sp.dM l).length)) W (by simp[Sp.zeros];omega);have HM:Hid (Sp.dM l=[1,UInt8.ofNat l.length]++(l.map λx=>Sp.be 4 x.1).flatten):=rfl;have HE:Hid (Sp.jF l=Sp.cI (Sp.dM l++Sp.zeros (124-(Sp.dM l).length))):=rfl;have HML:=zH hml;clear hR hp hml;go_enter func168,ntmps168;go_wp2_with fail;have hb1:=(Below.refl _ w).alloc (za _) (.cells #[.int .u8 1,.int .u8 (l.length:Nat)] 5);generalize w.alloc (.cells #[.int .u8 1,.int .u8 (l.length:Nat)] 5)=w1 at*;go_loopw [3,5,6,7,15] (λs _ _ _ i wr=>∃k:Nat,k<=l.length/\i=.int .i64 k/\s=str ([1,UInt8.ofNat l.length]++((l.take k).map λx=>Sp.be 4 x.1).flatten)/\zB w wr) (λ_ _ _ _ i _=>l.length-(intOf i).toNat)
 case atStart=>exact⟨0,by omega,rfl,by simp,hb1⟩
 case round=>
  obtain⟨k,hk,rfl,rfl,hbr⟩:=hrel;by_cases hlt:k<l.length
  ·obtain⟨b,o,rfl,_,_,r0,r1⟩:=(Reads.below HR.out hbr).home hlt;have hpk:=HP.out _ (zw hlt);have sS:((l.take (k+1)).map λx=>Sp.be 4 x.1).flatten=((l.take k).map λx=>Sp.be 4 x.1).flatten++Sp.be 4 l[k].1:=by
    rw[zg hlt,zI,List.flatten_append];simp only[zF,zaw,zbk,zbq,za7]
   have hlen:([1,UInt8.ofNat l.length]++((l.take k).map λx=>Sp.be 4 x.1).flatten).length<=1000:=by
    rw[zo,bZ _ 4 _ (λ_ _=>Sp.aV 4 _),zag];have:=Nat.min_le_right k l.length;simp;omega
   have hlen4:(Sp.be 4 l[k].1).length<=4:=by rw[Sp.aV];exact za _
   have UK:=zH sS;have hmeas:k+1<=l.length:=hlt;have HWK:=zH λW=>HW.out l[k].1 W hpk;have hb2:=hbr.alloc hbr.size (.cells #[.int .u32 (l[k].1:Nat),str l[k].2] 194);have NI:=hbr.size;clear sS;generalize l[k]=x at*;obtain⟨p,t⟩:=x;dsimp only at*;generalize hs0:[1,UInt8.ofNat l.length]++((l.take k).map λx=>Sp.be 4 x.1).flatten=s0 at*;have HS0:=zH hs0;clear hs0;generalize Sp.be 4 p=s1 at*;go_wp2_with fail;refine(HWK.out _).mono ?_;rintro e w2 ⟨rfl,hb3⟩;have hb4:=hb2.trans (hb3.mono hb2.size);clear hb2 hb3 r0 r1;go_wp2_with fail;go_roundw
   case rel=>exact⟨k+1,hmeas,by go_num,by rw[UK.out,<-zh,HS0.out,aP],hb4⟩
   case measure=>simp[intOf];omega
  ·obtain rfl:k=l.length:=by omega
   rw[zL,<-HM.out];have hmll:(Sp.dM l).length<=34:=by rw[HML.out];omega
   have hzl:(Sp.zeros (124-(Sp.dM l).length)).length<=124:=by simp[Sp.zeros]
   have Fx:=hbr.alloc hbr.size (.cells (Ld (124-(Sp.dM l).length)) 5);go_wp2_with fail;rw[aP];refine(HS.out _).mono ?_;rintro e w2 ⟨rfl,hb3⟩;rw[<-HE.out];have hb4:=Fx.trans (hb3.mono Fx.size);go_wp2_with fail;go_ret;exact⟨rfl,hb4⟩
section
open Go.Maps
abbrev fH (p:Nat):Lit:=.int .u32 (p:Int)
theorem mX (h:p<4294967296):(fH p).wf=true:=by
 have h1:IntKind.u32.min=0:=rfl;have h2:IntKind.u32.max=4294967295:=rfl;simp[Lit.wf,h1,h2];omega
theorem iC (p:Nat):WideAt.IsKeyLit (fH p):=trivial
theorem ou {q:Nat} (h:fH p=fH q):p=q:=by
 injection h with _ h;omega
theorem F4 {H:Type} {P:Program} {e:TypeId} (he:P.underlying e=some .bool) {x:Bool} {ps:List MemPlace} (h:plainElem (H:=H) P e v=some (.lit (.bool x),ps)):v=.bool x:=by
 unfold plainElem at h;rw[he] at h
 cases v<;>simp at h
 rw[h.1]
def jN (P:Program) (k e:TypeId) (w:World) (b n:Nat) (l:List Nat):Prop:=w.ownsMap P k (plainElem (H:=Unit) P e) b n (setOf (.lit (.bool true)) (l.map fH))
section
variable {P:Program} {k e t:TypeId} {w w':World} {b n:Nat} {l:List Nat}
theorem jN.lt (h:jN P k e w b n l):b<w.heap.size:=World.ownsMap.lt h
theorem jN.alloc (h:jN P k e w b n l) (o:Obj):jN P k e (w.alloc o) b n l:=World.ownsMap.alloc h o
theorem jN.made (w:World):jN P k e (w.alloc (.map #[] 0)) w.heap.size 0 []:=World.ownsMap_made w P k _
theorem jN.has_ (p:Nat) (l:List Nat):has (setOf (H:=Unit) (.lit (.bool true)) (l.map fH)) (fH p)=decide (p∈l):=by
 rw[has_setOf _ _ _ (λx hx=>by obtain⟨q,_,rfl⟩:=zn.1 hx;exact iC q)];by_cases h:p∈l
 ·simp only[h,decide_true];rw[List.any_eq_true];exact⟨fH p,zn.2 ⟨p,h,rfl⟩,WideAt.sameKey_self (iC p)⟩
 ·simp only[h,decide_false];rw[List.any_eq_false];intro x hx;obtain⟨q,hq,rfl⟩:=zn.1 hx;intro hs;exact h (ou ((WideAt.sameKey_iff (iC p)).1 hs)▸hq)
theorem jN.E4 (h:jN P k e w b n l) (hk:P.underlying k=some (.int .u32)) (he:P.underlying e=some .bool) (ht:P.underlying t=some (.map k e)) (hz:(zeroValue e).run P w=.ok (.bool false) w) (hp:p<4294967296) (hn:p∉l):
 (Instr.lookup t (.map (some b)) (.int .u32 (p:Int)) false).run P w=.ok (.bool false) w:=by
 obtain⟨v,ps,hrun,hv⟩:=World.ownsMap.lookup h (int_keyed hk) ht hz (plainElem_bool he false) (keyOf_int_mk hk (mX hp));have hno:has (setOf (H:=Unit) (.lit (.bool true)) (l.map fH)) (fH p)=false:=by rw[jN.has_];simpa using hn
 rw[atKey_of_not_has hno] at hv;rw[hrun,F4 he hv]
theorem jN.put (h:jN P k e w b n l) (hk:P.underlying k=some (.int .u32)) (he:P.underlying e=some .bool) (ht:P.underlying t=some (.map k e)) (hn:n<maxLen) (hp:p<4294967296):
 ∃w',(Instr.mapUpdate t (.map (some b)) (.int .u32 (p:Int)) (.bool true)).run P w=.ok () w'/\jN P k e w' b (n+1) (l++[p])/\w.grownBy w' (some b):=by
 obtain⟨w',h1,h2,h3⟩:=World.ownsMap.update h (int_keyed hk) ht hn (keyOf_int_mk hk (mX hp)) (plainElem_bool he true);refine⟨w',h1,?_,h3⟩;unfold jN;rw[zI,List.map_singleton,setOf_snoc];exact h2
end
end
theorem Tryz.zb (w:World):(zeroValue 4).run prog w=.ok (.bool false) w:=by kernel_rfl
theorem Oe {F G:af} {w:World} {d:Sp.Dk} (h:cR F w g d) (at_ base:Nat) {l:List (Nat×Sp.Bs)} (hR:Reads G w 2 A l.length (hcs l)) (h1:1<=l.length) (h8:l.length<=8)
 (hp:∀x∈l,x.1<4294967296/\x.2.length=512/\Sp.inside d.sure.length at_ base x.1) (hn:(l.map (·.1)).Nodup):
 Calls prog 169 #[ptr g,.int .i64 at_,.int .i64 base,.slice A l.length c] w λe w'=>e=.returned (.bool true)/\zB w w':=by
 have HR:=zH hR;have HP:=zH hp;have HN:=zH hn;have HD:=zH h;have z_:=@run_makeMap prog;clear h hR hp hn;go_enter func169,ntmps169;go_wp2_with fail;have hU0:jN prog 61 4 (w.alloc (.map #[] 0)) w.heap.size 0 []:=jN.made w;have hb0:=(Below.refl _ w).alloc (za _) (.map #[] 0);have HU0:=zH hU0;clear hU0 z_;generalize w.alloc (.map #[] 0)=w1 at*;go_loopw [11,15] (λ_ i wr=>∃k:Nat,k<=l.length/\i=.int .i64 k/\jN prog 61 4 wr w.heap.size k ((l.take k).map (·.1))/\zB w wr) (λ_ i _=>l.length-(intOf i).toNat)
 case atStart=>exact⟨0,by omega,rfl,HU0.out,hb0⟩
 case round=>
  obtain⟨k,hk,rfl,hU,hbr⟩:=hrel;by_cases hlt:k<l.length
  ·obtain⟨b,o,rfl,_,_,r0,r1⟩:=(Reads.below HR.out hbr).home hlt;obtain⟨hp1,sU,hp3⟩:=HP.out _ (zw hlt);have hmeas:k+1<=l.length:=hlt;have hnot:l[k].1∉(l.take k).map (·.1):=by
    have hs:l.map (·.1)=(l.take k).map (·.1)++l[k].1::(l.drop (k+1)).map (·.1):=by
     conv=>lhs;rw[<-zS k l,zao hlt]
     rw[zI,zF]
    have hnd:=HN.out;rw[hs,za3] at hnd;intro hm;exact hnd.2.2 _ hm _ (zbe) rfl
   have sS:(l.take (k+1)).map (·.1)=(l.take k).map (·.1)++[l[k].1]:=by
    rw[zg hlt,zI];rfl
   have UK:=zH sS;have d1:((l[k].2.length:Int) != 512)=false:=by rw[sU];rfl
   have hUa:=hU.alloc (.cells #[.int .u32 (l[k].1:Nat),str l[k].2] 194);have hrun:=hUa.E4 underlying61 underlying4 underlying241 (Tryz.zb _) hp1 hnot;have hb2:=hbr.alloc hbr.size (.cells #[.int .u32 (l[k].1:Nat),str l[k].2] 194);have HUA:=zH hUa;have hD2:=((HD.out.below hbr).below ((Below.refl _ wr).alloc (za _) (.cells #[.int .u32 (l[k].1:Nat),str l[k].2] 194)));have HI:=zH (En hD2 at_ base l[k].1 hp1 hp3);have NI:=hbr.size;clear hnot sS hU hUa sU hp3 hD2;generalize l[k]=x at*;obtain⟨p,t⟩:=x;dsimp only at*;go_wp2_with fail;refine HI.out.mono ?_;rintro e w2 ⟨rfl,hw⟩;subst w2;obtain⟨w3,hrun3,YK,hg3⟩:=HUA.out.put underlying61 underlying4 underlying241 (by unfold maxLen;omega) hp1;have V5:=zH YK;have hb3:=hb2.grown hg3 hb2.size (λr e=>by cases e;exact za _);clear YK hg3 hb2;go_wp2_with fail;go_roundw
   case rel=>exact⟨k+1,hmeas,by go_num,by rw[UK.out];exact V5.out,hb3⟩
   case measure=>simp[intOf];omega
  ·obtain rfl:k=l.length:=by omega
   have d2:decide (1<=(l.length:Int))=true:=by rw[zx];omega
   have d3:decide ((l.length:Int)<=8)=true:=by rw[zx];omega
   clear hU;go_wp2_with fail;go_ret;exact⟨rfl,hbr⟩
open Go.RowKit
namespace Sp
def eO (l:List (Nat×Bs)):List (Nat×Bs):=l.zipIdx.map λx=>(x.2,x.1.2)
theorem gQ (l:List (Nat×Bs)):(eO l).length=l.length:=by simp[eO]
theorem kP (l:List (Nat×Bs)) (k:Nat) (hk:k<l.length):(eO l)[k]? =some (k,l[k].2):=by simp[eO,hk]
theorem F7 (l:List (Nat×Bs)) (k:Nat) (hk:k<l.length):(eO l).take (k+1)=(eO l).take k++[(k,l[k].2)]:=by
 rw[List.take_add_one,kP l k hk];rfl
def bq (at_ base:Nat) (l:List (Nat×Bs)):List fP:=
 ((aR (at_+1) (eO l)++[.sync])++[.wr at_ (jF l),.sync])++(aR base l++[.sync])++[.wr at_ (zeros 128),.sync]
end Sp
theorem BP:(prog.info? 194).map (λi=>(i.zero,i.size,i.bytes))=some (some (.agg #[.int .u32 0,.string ⟨#[]⟩]),2,24):=by kernel_rfl
theorem jz.lt {G:af} {w:World} {a:Sp.fP} (h:jz G w g v a):jz (λb=>G b/\b<w.heap.size) w g v a:=by
 cases a with
 | sync=>exact h
 | wr k s=>
  rcases h with⟨b0,b1,b2,b3,p,t,j,e,⟨g0,g1,g2,g3⟩,h0,h1,h2,h3,rest⟩ | ⟨b0,b1,b2,e,⟨g0,g1,g2⟩,h0,h1,h2⟩
  ·exact .inl ⟨b0,b1,b2,b3,p,t,j,e,⟨⟨g0,h0.lt⟩,⟨g1,h1.lt⟩,⟨g2,h2.lt⟩,⟨g3,h3.lt⟩⟩,h0,h1,h2,h3,rest⟩
  ·exact .inr ⟨b0,b1,b2,e,⟨⟨g0,h0.lt⟩,⟨g1,h1.lt⟩,⟨g2,h2.lt⟩⟩,h0,h1,h2⟩
theorem jz.Xe {G:af} {w:World} {a:Sp.fP} (h:jz G w g v a):v.oneCell'=true:=by
 cases a with
 | sync=>
  have e:v=_:=h;rw[e];rfl
 | wr k s=>rcases h with⟨b0,b1,b2,b3,p,t,j,rfl,_⟩ | ⟨b0,b1,b2,rfl,_⟩<;>rfl
theorem cz.Xe {G:af} {w:World} {kX:List Sp.fP} (h:cz G w g fs kX):∀u∈fs,u.oneCell'=true:=by
 intro u hu;obtain⟨i,hi,rfl⟩:=List.mem_iff_getElem.1 hu;have hia:i<kX.length:=by rw[<-h.1];exact hi
 exact(h.2 i _ _ (zk hi) (zk hia)).Xe
theorem cz.lt {G:af} {w:World} {kX:List Sp.fP} (h:cz G w g fs kX):cz (λb=>G b/\b<w.heap.size) w g fs kX:=⟨h.1,λi v a hv ha=>(h.2 i v a hv ha).lt⟩
theorem bP {w:World} {base e:Nat} (h:w.ownsRow base e size v n xs) (hn:1<=n):∃g c,v=.slice (some ⟨g,0,none⟩) n c:=by
 rcases h.2 with⟨_,h0⟩ | ⟨g,c,_,h0,_⟩
 ·omega
 ·exact⟨g,c,h0⟩
theorem eX {w:World} {base e:Nat} (h:w.ownsRow base e size (.slice (some ⟨g,0,none⟩) n c) n xs):Reads (λb=>base<=b) w size (some ⟨g,0,none⟩) n xs:=by
 refine⟨h.1,λ_=>⟨g,0,rfl,(h.lt g rfl).1,(h.lt g rfl).2,λj u hu=>?_⟩⟩;have:=h.cells (g:=g) rfl j u hu;rw[show(⟨g,0,none⟩:Addr).add j=⟨g,0+j,none⟩ by unfold Addr.add;split<;>simp_all] at this;exact this
theorem cq {w:World} {base e:Nat} (h:w.ownsRow base e size v n xs) (hb:zB w w'):w'.ownsRow base e size v n xs:=
 h.kept (row:=none) ⟨hb.os,hb.tape,hb.output,hb.size,λk hk _=>hb.block k hk⟩ (by cases v.ownBlock<;>simp)
theorem add_lit (b j:Nat):(⟨b,0,none⟩:Addr).add j=⟨b,j,none⟩:=by unfold Addr.add;split<;>simp_all
theorem Reads.lt {G:af} {w:World} (h:Reads G w size A n xs):Reads (λb=>G b/\b<w.heap.size) w size A n xs:=
 ⟨h.1,λhn=>by
  obtain⟨b,o,e,hG,hb,hc⟩:=h.2 hn;exact⟨b,o,e,⟨hG,hb⟩,hb,hc⟩⟩
theorem Sp.sV {base:Nat} {l:List (Nat×Sp.Bs)} (h:∀x∈l,base+x.1*4+4<=n/\x.2.length=512):∀a∈Sp.aR base l,a.ok n:=by
 intro a ha;unfold Sp.aR at ha;rw[List.mem_flatten] at ha;obtain⟨y,hy,ha⟩:=ha;obtain⟨x,hx,rfl⟩:=zn.1 hy;obtain⟨j,hj,rfl⟩:=zn.1 ha;have hj':=zbi.1 hj;obtain⟨h1,h2⟩:=h x hx;refine⟨by omega,?_⟩;rw[zag,za2];omega
theorem Sp.Jv {l:List (Nat×Sp.Bs)} {x:Nat×Sp.Bs} (h:x∈Sp.eO l):x.1<l.length/\∃y∈l,x.2=y.2:=by
 obtain⟨k,hk,rfl⟩:=List.mem_iff_getElem.1 h;have hk':k<l.length:=by rw[Sp.gQ] at hk;exact hk
 have e:=Sp.kP l k hk';rw[zk hk,Option.some.injEq] at e;rw[e];exact⟨hk',l[k],zw hk',rfl⟩
theorem Sp.Eo {at_ base:Nat} {l:List (Nat×Sp.Bs)} (h8:l.length<=8) (hp:∀x∈l,x.2.length=512/\Sp.inside n at_ base x.1) (ha:at_+33<=n):∀a∈Sp.bq at_ base l,a.ok n:=by
 intro a h;unfold Sp.bq at h;have hs:Sp.fP.ok n .sync:=trivial;have hm:Sp.fP.ok n (.wr at_ (Sp.jF l)):=⟨by omega,Sp.Au h8⟩;have hz:Sp.fP.ok n (.wr at_ (Sp.zeros 128)):=⟨by omega,by simp[Sp.zeros]⟩;have h1:=Sp.sV (n:=n) (base:=at_+1) (l:=Sp.eO l) (λx hx=>by
  obtain⟨e1,y,hy,e2⟩:=Sp.Jv hx;exact⟨by omega,by rw[e2];exact(hp y hy).1⟩)
 have h2:=Sp.sV (n:=n) (base:=base) (l:=l) (λx hx=>⟨(hp x hx).2.1,(hp x hx).1⟩);simp only[zz,zW,zak,or_false] at h;rcases h with(((h | rfl) | (rfl | rfl)) | (h | rfl)) | (rfl | rfl)
 ·exact h1 a h
 ·exact hs
 ·exact hm
 ·exact hs
 ·exact h2 a h
 ·exact hs
 ·exact hz
 ·exact hs
theorem Sp.vr (at_ base:Nat) (l:List (Nat×Sp.Bs)):(Sp.bq at_ base l).length=l.length*8+6:=by
 simp only[Sp.bq,zo,Sp.uo,Sp.gQ,zP,zap];omega
theorem wW {F G:af} {w:World} {d:Sp.Dk} (h:cR F w g d) (hf:d.bk= -1) (hlo:d.loose.length<=1000) (at_ base:Nat) {l:List (Nat×Sp.Bs)} (hR:Reads G w 2 A l.length (hcs l)) (h1:1<=l.length) (h8:l.length<=8)
 (hp:∀x∈l,x.1<4294967296/\x.2.length=512/\Sp.inside d.sure.length at_ base x.1) (hn:(l.map (·.1)).Nodup) (ha:at_+33<=d.sure.length) (hb:base<=d.sure.length):
 Calls prog 109 #[ptr g,.int .i64 at_,.int .i64 base,.slice A l.length c] w (wM F w g (d.acts (Sp.bq at_ base l))):=by
 obtain⟨i0,hi,hz0,hz1,hz2⟩:=info_parts KE;obtain⟨j0,hj,hy0,hy1,sP⟩:=info_parts BP;have jb:=h.wf.few;have tR:=zH (Em h at_ base ha hb);have HMY:=zH (Oe h at_ base hR h1 h8 (c:=c) hp hn);have HR:=zH hR;have HP:=zH hp;have HD:=zH h;have HF:=zH hf;have tS:=zH h.dA;clear h hf hR hp hn;go_enter func109,ntmps109;go_wp2_with fail;refine tR.out.mono ?_;rintro e w1 ⟨rfl,hw⟩;subst w1;go_wp2_with fail;refine HMY.out.mono ?_;rintro e w1 ⟨rfl,hb1⟩;have hs1:=hb1.size;go_wp2_with fail;go_loopw [10,11,12,29] (λv _ _ i wr=>∃k:Nat,k<=l.length/\i=.int .i64 k/\wr.ownsRow w1.heap.size 194 2 v k (hcs ((Sp.eO l).take k))/\zB w wr/\w1.heap.size<=wr.heap.size) (λ_ _ _ i _=>l.length-(intOf i).toNat)
 case atStart=>exact⟨0,by omega,rfl,by simpa[hcs] using World.ownsRow_nil _ _ _ _,hb1,za _⟩
 case round=>
  obtain⟨k,hk,rfl,hO,hbr,NH⟩:=hrel;by_cases hlt:k<l.length
  ·obtain⟨b,o,rfl,_,_,r0,r1⟩:=(Reads.below HR.out hbr).home hlt;have sS:hcs ((Sp.eO l).take (k+1))=hcs ((Sp.eO l).take k)++[.int .u32 (k:Nat),str l[k].2]:=by
    rw[Sp.F7 l k hlt,Db];rfl
   have UK:=zH sS;have hmeas:k+1<=l.length:=hlt;clear sS;generalize l[k]=x at*;obtain⟨p,t⟩:=x;dsimp only at*;have HO:=zH ((hO.alloc (.cells #[.int .u32 (p:Nat),str t] 194)).alloc (.cells #[.int .u32 (k:Nat),str t] 194));have Fx:=(hbr.alloc hbr.size (.cells #[.int .u32 (p:Nat),str t] 194)).alloc (by have:=hbr.size;simp;omega) (.cells #[.int .u32 (k:Nat),str t] 194);have NI:=hbr.size;have hnews:Hid (∀j u,[Value.int .u32 (k:Nat),str t][j]? =some u->((wr.alloc (.cells #[.int .u32 (p:Nat),str t] 194)).alloc (.cells #[.int .u32 (k:Nat),str t] 194)).cell? ((⟨wr.heap.size+1,0,none⟩:Addr).add j)=some u):=λj u hu=>by
    rw[show(⟨wr.heap.size+1,0,none⟩:Addr).add j=⟨wr.heap.size+1,j,none⟩ by unfold Addr.add;split<;>simp_all];have:=(aj.new (wr.alloc (.cells #[.int .u32 (p:Nat),str t] 194)) 194 #[.int .u32 (k:Nat),str t]).cell j;rw[World.size_alloc] at this;rw[this];simpa using hu
   clear hO;go_wp2_with (at_builtin;refine wpList_append_own _ rfl _ _ 258 rfl w1.heap.size 194 j0 (.agg #[.int .u32 0,.string ⟨#[]⟩]) 2 24 underlying258 hj hy0 hy1 sP rfl (by decide) _ _ _ rfl HO.out ⟨wr.heap.size+1,0,none⟩ 1 1 [.int .u32 (k:Nat),str t] rfl rfl hnews.out (λx hx=>by simp at hx;rcases hx with rfl | rfl<;>rfl) (by unfold maxLen;omega) (by omega) (by simp;omega) ?_);intro v' w6 hown hgrow hnil;have fI:=Fx.grown hgrow Fx.size (λr e=>zl hs1 (HO.out.lt r e).1);have hs6:w1.heap.size<=w6.heap.size:=by have:=hgrow.size;simp at this;omega
   have HW:=zH hown;obtain⟨g7,c7,rfl⟩:=sG hown;clear hnil hown hgrow;go_wp2_with fail;go_roundw
   case rel=>exact⟨k+1,hmeas,by go_num,by rw[UK.out];exact HW.out,fI,hs6⟩
   case measure=>simp[intOf];omega
  ·obtain rfl:k=l.length:=by omega
   rw[zX (by rw[Sp.gQ];exact za _)] at hO;obtain⟨ga,ca,rfl⟩:=bP hO h1;have hra:=eX hO;rw[<-Sp.gQ l] at hra;have hlz:=Sp.gQ l;have hpa:∀x∈Sp.eO l,x.1<4294967296/\x.2.length=512:=by
    intro x hx;obtain⟨k,hk,rfl⟩:=List.mem_iff_getElem.1 hx;have hk':k<l.length:=by omega
    have e:=Sp.kP l k hk';rw[zk hk,Option.some.injEq] at e;rw[e];exact⟨by show k<_;omega,(HP.out _ (zw hk')).2.1⟩
   have hh1:=wY g (at_+1) hra (by omega) hpa (by omega) (c:=ca);rw[show((at_+1:Nat):Int)=(at_:Int)+1 by omega,hlz] at hh1;have uJ:=zH hh1;clear hh1 hra hpa hlz hO;go_wp2_with fail;refine uJ.out.mono ?_;rintro e wa ⟨v1,fs1,rfl,Ks,oh,hba⟩;obtain⟨g1,c1,rfl⟩:=bP Ks (by omega);have YC:zB w wa:=hbr.trans (hba.mono hbr.size);have hsa:=hba.size;have hsw:=hbr.size;have Wc:=zH Ks;have Wx:=zH oh;clear Ks oh;go_wp2_with fail;refine(Ln (Reads.below HR.out YC) h8 (λx hx=>(HP.out x hx).1)).mono ?_;rintro e wb ⟨rfl,AV⟩;have hbwb:zB w wb:=YC.trans (AV.mono YC.size);have hsb:=AV.size;have JK:=zH (cq Wc.out AV);have Gk:=zH (Wx.out.below AV);clear Wc Wx;go_wp2_with fail;refine(wX g at_ (Sp.jF l)).mono ?_;rintro e wc ⟨b2,c2,fs2,rfl,hb2,bB,hl2,Vu,oq,hbc⟩;have hbwc:zB w wc:=hbwb.trans (hbc.mono hbwb.size);have hsc:=hbc.size;have Wb:=zH (cq JK.out hbc);have Wu:=zH ((Gk.out.below hbc).mono (G':=λb=>w.heap.size<=b) (λb (hb:wr.heap.size<=b)=>zl hsw hb));have NR:=zH (oq.mono (G':=λb=>w.heap.size<=b) (λb (hb:wb.heap.size<=b)=>by show w.heap.size<=b;omega));have hn2:Hid (∀j u,fs2[j]? =some u->wc.cell? ((⟨b2,0,none⟩:Addr).add j)=some u):=λj u hu=>by
    rw[add_lit,bB.cell j];simpa using hu
   have ho2:=zH Vu;have hl2':=zH hl2;clear JK Gk oq Vu bB hl2;go_wp2_with (at_builtin;refine wpList_append_own _ rfl _ _ 219 rfl wr.heap.size 134 i0 .nilFunc 1 8 underlying219 hi hz0 hz1 hz2 rfl (by decide) _ _ _ rfl Wb.out ⟨b2,0,none⟩ 2 c2 fs2 rfl hl2'.out hn2.out ho2.out (by unfold maxLen;omega) (by omega) (by omega) ?_);intro v4 wd PR yo _;have La:=zH ((Wu.out.grown yo (lH Wb.out)).app (NR.out.grown yo (lH Wb.out)));have YB:zB w wd:=hbwc.grown yo hbwc.size (λr e=>zl hsw (Wb.out.lt r e).1);have XN:=yo.size;have UO:=zH PR;obtain⟨g4,c4,rfl⟩:=bP PR (by omega);clear PR yo Wu NR Wb hn2 ho2 hl2';have wL:=zH (wY g base (Reads.below HR.out YB) (by omega) (λx hx=>⟨(HP.out x hx).1,(HP.out x hx).2.1⟩) (by omega) (c:=c));go_wp2_with fail;refine wL.out.mono ?_;rintro e we ⟨v5,fs5,rfl,Kr,Y4,hbe⟩;obtain⟨g5,c5,rfl⟩:=bP Kr (by omega);have hbwe:zB w we:=YB.trans (hbe.mono YB.size);have hse:=hbe.size;have NP:=zH (cq UO.out hbe);have HA6:=zH (La.out.below hbe);have Sw:=zH (Y4.mono (G':=λb=>w.heap.size<=b) (λb (hb:wd.heap.size<=b)=>by show w.heap.size<=b;omega));have Fs:=zH Kr.1;have uZ:Hid (∀j u,fs5[j]? =some u->we.cell? ((⟨g5,0,none⟩:Addr).add j)=some u):=Kr.cells (g:=g5) rfl;have ho5:=zH Y4.Xe;clear UO La Kr Y4 wL;go_wp2_with (at_builtin;refine wpList_append_own _ rfl _ _ 219 rfl wr.heap.size 134 i0 .nilFunc 1 8 underlying219 hi hz0 hz1 hz2 rfl (by decide) _ _ _ rfl NP.out ⟨g5,0,none⟩ (l.length*4+1) c5 fs5 rfl Fs.out uZ.out ho5.out (by unfold maxLen;omega) (by omega) (by omega) ?_);intro v6 wf oL jI _;have HA8:=zH ((HA6.out.grown jI (lH NP.out)).app (Sw.out.grown jI (lH NP.out)));have hbwf:zB w wf:=hbwe.grown jI hbwe.size (λr e=>zl hsw (NP.out.lt r e).1);have hsf:=jI.size;have HO8:=zH oL;obtain⟨g6,c6,rfl⟩:=bP oL (by omega);clear oL jI HA6 Sw NP uZ ho5 Fs;go_wp2_with fail;refine(GX _).mono ?_;rintro e wg ⟨rfl,hbg⟩;have hbwg:zB w wg:=hbwf.trans (hbg.mono hbwf.size);have hsg:=hbg.size;have HO9:=zH (cq HO8.out hbg);have HA9:=zH (HA8.out.below hbg);clear HO8 HA8;go_wp2_with fail;refine(wX g at_ (Sp.zeros 128)).mono ?_;rintro e wh ⟨b7,c7,fs7,rfl,jZ,fu,hl7,Vt,hA7,hbh⟩;have hbwh:zB w wh:=hbwg.trans (hbh.mono hbwg.size);have hsh:=hbh.size;have UQ:=zH (cq HO9.out hbh);have U0:=zH (HA9.out.below hbh);have UZ:=zH (hA7.mono (G':=λb=>w.heap.size<=b) (λb (hb:wg.heap.size<=b)=>by show w.heap.size<=b;omega));have SB:Hid (∀j u,fs7[j]? =some u->wh.cell? ((⟨b7,0,none⟩:Addr).add j)=some u):=λj u hu=>by
    rw[add_lit,fu.cell j];simpa using hu
   have ho7:=zH Vt;have hl7':=zH hl7;clear HO9 HA9 hA7 Vt fu hl7;go_wp2_with (at_builtin;refine wpList_append_own _ rfl _ _ 219 rfl wr.heap.size 134 i0 .nilFunc 1 8 underlying219 hi hz0 hz1 hz2 rfl (by decide) _ _ _ rfl UQ.out ⟨b7,0,none⟩ 2 c7 fs7 rfl hl7'.out SB.out ho7.out (by unfold maxLen;omega) (by omega) (by omega) ?_);intro v8 wi Fo C9 _;have Uu:=((U0.out.grown C9 (lH UQ.out)).app (UZ.out.grown C9 (lH UQ.out))).lt;have ML:zB w wi:=hbwh.grown C9 hbwh.size (λr e=>zl hsw (UQ.out.lt r e).1);have hEQ:((Sp.aR (at_+1) (Sp.eO l)++[.sync])++[.wr at_ (Sp.jF l),.sync])++(Sp.aR base l++[.sync])++[.wr at_ (Sp.zeros 128),.sync]=Sp.bq at_ base l:=rfl;rw[hEQ] at Uu;simp only[zh] at Uu Fo;clear hEQ;have qO:=Fo.1;obtain⟨g8,c8,rfl⟩:=bP Fo (by omega);have IA:=(eX Fo).lt.mono (G':=λb=>w.heap.size<=b/\b<wi.heap.size) (λb (hb:wr.heap.size<=b/\b<wi.heap.size)=>⟨zl hsw hb.1,hb.2⟩);have hD8:cR F wi g d:=HD.out.keep (λb hb=>ML.block b (tS.out b hb));rw[Nat.mul_one] at qO;rw[<-qO] at IA;have hst:=GW hD8 HF.out (c:=c8) IA Uu (λb hb=>⟨hb.2,λhF=>by have:=tS.out b hF;have:=hb.1;omega⟩) (Sp.Eo h8 (λx hx=>(HP.out x hx).2) ha) (by
    have:=Sp.vr at_ base l;omega)
   rw[qO] at hst;have MR:aa F F w wi:=⟨ML.os,ML.tape,ML.output,ML.size,λb hb _=>ML.block b hb,λ_ hb=>.inl hb⟩;have HST:=zH hst;have HT8:=zH MR;clear hst IA hD8 Uu Fo C9 MR qO;go_wp2_with fail;refine HST.out.mono ?_;rintro e wj ⟨F',rfl,hDj,Gw⟩;have HDJ:=zH hDj;have HTJ:=zH (HT8.out.trans Gw);clear hDj Gw;go_wp2_with fail;go_ret;exact⟨F',rfl,HDJ.out,HTJ.out⟩
theorem J_ {F:af} {w:World} {d:Sp.Dk} (h:cR F w g d) (at_ n life:Nat) (h1:4<=n) (h2:n<=4096) (h3:at_+n<=d.sure.length) (h4:1<=life):
 Calls prog 59 #[ptr g,.int .i64 at_,.int .i64 n,.int .u64 life] w λe w'=>e=.returned (.int .i64 0)/\w'=w:=by
 have jb:=h.wf.few;have HL:=zH (oV h);have d1:decide ((at_:Int)<0)=false:=by simp
 have d2:decide ((n:Int)<4)=false:=by rw[ze];omega
 have d3:decide ((4096:Int)<n)=false:=by rw[ze];omega
 have d4:decide ((d.sure.length:Int)-n<at_)=false:=by rw[ze];omega
 have d5:((life:Int)==0)=false:=by simp;omega
 clear h;go_enter func59,ntmps59;go_wp2_with fail;refine HL.out.mono ?_;rintro e w1 ⟨rfl,hw⟩;subst w1;go_wp2_with fail;go_ret;exact⟨rfl,rfl⟩
abbrev dR (g at_ n life:Nat) (bv sv:Value) (first next forced reserved:Nat):Array Value:=
 #[ptr g,.int .i64 at_,.int .i64 n,.int .u64 life,bv,sv,.int .u64 first,.int .u64 next,.int .u64 forced,.int .i64 reserved]
theorem Tw {F:af} {w:World} {d:Sp.Dk} (h:cR F w g d) (at_ n life:Nat) (h1:4<=n) (h2:n<=4096) (h3:at_+n<=d.sure.length) (h4:1<=life):
 Calls prog 110 #[ptr g,.int .i64 at_,.int .i64 n,.int .u64 life] w λe w'=>e=.returned (.tuple #[ptr w.heap.size,.int .i64 0])/\
  w'=w.alloc (.cells (dR g at_ n life (.slice none 0 0) (.slice none 0 0) 110 110 110 0) 131):=by
 have HL:=zH (J_ h at_ n life h1 h2 h3 h4);clear h;go_enter func110,ntmps110;go_wp2_with fail;refine HL.out.mono ?_;rintro e w1 ⟨rfl,hw⟩;subst w1;go_wp2_with fail
 go_ret2
 exact⟨rfl,rfl⟩
open Go.RowKit
namespace Sp
def ld:List fP->List (Nat×Bs)
 | []=>[]
 | .wr k s::l=>(k,s)::ld l
 | .sync::l=>ld l
theorem ep:∀(a b:List fP),ld (a++b)=ld a++ld b
 | [],_=>rfl
 | .wr k s::a,b=>by simp[ld,ep a b]
 | .sync::a,b=>by simp[ld,ep a b]
theorem N7 (d:Dk) (k:Nat) (s:Bs):(d.put k s).view=lay [(k,s)] d.view:=by simp[Dk.put,Dk.view,ny]
theorem Ek (d:Dk):d.synced.view=d.view:=by simp[Dk.synced,Dk.view,lay]
theorem Lk (d:Dk):∀l,(d.acts l).view=lay (ld l) d.view:=λl=>by
 induction l generalizing d with
 | nil=>rfl
 | cons a l ih=>
  show(Dk.acts (d.act a) l).view=_;rw[ih]
  cases a with
  | wr k s=>simp only[Dk.act,N7,ld];rfl
  | sync=>simp only[Dk.act,Ek,ld]
theorem jw (d:Dk) (l:List fP):(d.acts (l++[.sync])).loose=[]/\(d.acts (l++[.sync])).sure=lay (ld l) d.view:=by
 rw[qb];exact⟨rfl,Lk d l⟩
theorem ia:∀(l:List (Nat×Bs)) (s:List Bs) (k:Nat),(∀x∈l,x.1≠k)->(lay l s)[k]? =s[k]?
 | [],_,_,_=>rfl
 | x::l,s,k,h=>by
  show(lay l (s.set x.1 x.2))[k]? =_;rw[ia l _ k (λy hy=>h y (zbf _ hy)),List.getElem?_set_ne (h x (zbe))]
theorem oJ (a b:List (Nat×Bs)) (s:List Bs) (k:Nat) (t:Bs) (hk:k<s.length) (hb:∀x∈b,x.1≠k):(lay (a++(k,t)::b) s)[k]? =some t:=by
 rw[ny];show(lay b ((lay a s).set k t))[k]? =_;rw[ia b _ k hb,List.getElem?_set_self (by simpa using hk)]
theorem Ed (base:Nat) (x:Nat×Bs):ld (eZ base x)=(List.range 4).map λj=>(base+x.1*4+j,(x.2.drop (j*128)).take 128):=rfl
theorem tV (base:Nat):∀l,ld (aR base l)=(l.map λx=>(List.range 4).map λj=>(base+x.1*4+j,(x.2.drop (j*128)).take 128)).flatten
 | []=>rfl
 | x::l=>by
  show ld (eZ base x++aR base l)=_;rw[ep,Ed,tV base l];rfl
theorem fG {base:Nat} {l:List (Nat×Bs)} {y:Nat×Bs} (h:y∈ld (aR base l)):∃x∈l,∃j,j<4/\y.1=base+x.1*4+j:=by
 rw[tV] at h;obtain⟨z,hz,hy⟩:=List.mem_flatten.1 h;obtain⟨x,hx,rfl⟩:=zn.1 hz;obtain⟨j,hj,rfl⟩:=zn.1 hy;exact⟨x,hx,j,zbi.1 hj,rfl⟩
theorem WV {α:Type} (f:Nat->α):(List.range 4).map f=[f 0,f 1,f 2,f 3]:=rfl
theorem Od (d:Dk) (hlo:d.loose=[]) (hf:d.bk= -1) (at_ base p:Nat) (t:Bs) (ht:t.length=512) (hin:inside d.sure.length at_ base p):
 (d.acts (bq at_ base [(p,t)])).loose=[]/\(d.acts (bq at_ base [(p,t)])).bk= -1/\(d.acts (bq at_ base [(p,t)])).sure.length=d.sure.length/\
 cM (d.acts (bq at_ base [(p,t)])).sure (base+p*4)=t/\
 ∀q,q≠p->at_+33<=base+q*4->base+q*4+4<=d.sure.length->cM (d.acts (bq at_ base [(p,t)])).sure (base+q*4)=cM d.sure (base+q*4):=by
 obtain⟨hi1,hi2⟩:=hin;have sQ:d.view=d.sure:=by simp[Dk.view,hlo,lay]
 have hw:∃a c,bq at_ base [(p,t)]=(a++aR base [(p,t)]++c)++[.sync]/\(∀x∈ld a,x.1<at_+33)/\(∀x∈ld c,x.1<at_+33):=by
  refine⟨(aR (at_+1) (eO [(p,t)])++[.sync])++[.wr at_ (jF [(p,t)]),.sync],[.sync,.wr at_ (zeros 128)],by simp[bq],λx hx=>?_,λx hx=>?_⟩
  ·rw[ep,ep] at hx;simp only[ld,za7,zz,zq] at hx;rcases hx with hx | rfl
   ·obtain⟨y,hy,j,hj,e⟩:=fG hx;have:y.1=0:=by
     simp[eO] at hy;rw[hy]
    omega
   ·show at_<at_+33;omega
  ·simp[ld] at hx;rw[hx];show at_<at_+33;omega
 obtain⟨a,c,hw,ha,hc⟩:=hw;have hs:=jw d (a++aR base [(p,t)]++c);rw[<-hw,sQ,ep,ep] at hs;have hlen:=mO d (bq at_ base [(p,t)]);have hh:ld (aR base [(p,t)])=[(base+p*4+0,(t.drop 0).take 128),(base+p*4+1,(t.drop 128).take 128),(base+p*4+2,(t.drop 256).take 128),(base+p*4+3,(t.drop 384).take 128)]:=by
  rw[tV];rfl
 refine⟨hs.1,mP d hf _,hlen,?_,λq hq h1 h2=>?_⟩
 ·rw[hs.2,hh];generalize hL:lay (ld a++[(base+p*4+0,(t.drop 0).take 128),(base+p*4+1,(t.drop 128).take 128),(base+p*4+2,(t.drop 256).take 128),(base+p*4+3,(t.drop 384).take 128)]++ld c) d.sure=L;have g0:L[base+p*4+0]? =some ((t.drop 0).take 128):=by
   rw[<-hL];have:=oJ (ld a) ([(base+p*4+1,(t.drop 128).take 128),(base+p*4+2,(t.drop 256).take 128),(base+p*4+3,(t.drop 384).take 128)]++ld c) d.sure (base+p*4+0) ((t.drop 0).take 128) (by omega) (λx hx=>by
    rcases zz.1 hx with hx | hx
    ·simp at hx;rcases hx with rfl | rfl | rfl<;>simp
    ·have:=hc x hx;omega)
   simpa using this
  have g1:L[base+p*4+1]? =some ((t.drop 128).take 128):=by
   rw[<-hL];have:=oJ (ld a++[(base+p*4+0,(t.drop 0).take 128)]) ([(base+p*4+2,(t.drop 256).take 128),(base+p*4+3,(t.drop 384).take 128)]++ld c) d.sure (base+p*4+1) ((t.drop 128).take 128) (by omega) (λx hx=>by
    rcases zz.1 hx with hx | hx
    ·simp at hx;rcases hx with rfl | rfl<;>simp
    ·have:=hc x hx;omega)
   simpa using this
  have g2:L[base+p*4+2]? =some ((t.drop 256).take 128):=by
   rw[<-hL];have:=oJ (ld a++[(base+p*4+0,(t.drop 0).take 128),(base+p*4+1,(t.drop 128).take 128)]) ([(base+p*4+3,(t.drop 384).take 128)]++ld c) d.sure (base+p*4+2) ((t.drop 256).take 128) (by omega) (λx hx=>by
    rcases zz.1 hx with hx | hx
    ·simp at hx;rw[hx];simp
    ·have:=hc x hx;omega)
   simpa using this
  have g3:L[base+p*4+3]? =some ((t.drop 384).take 128):=by
   rw[<-hL];have:=oJ (ld a++[(base+p*4+0,(t.drop 0).take 128),(base+p*4+1,(t.drop 128).take 128),(base+p*4+2,(t.drop 256).take 128)]) (ld c) d.sure (base+p*4+3) ((t.drop 384).take 128) (by omega) (λx hx=>by have:=hc x hx;omega);simpa using this
  have hd:(L.drop (base+p*4)).take 4=[(t.drop 0).take 128,(t.drop 128).take 128,(t.drop 256).take 128,(t.drop 384).take 128]:=by
   apply za9;intro k;rw[zT]
   match k with
   | 0=>simpa using g0
   | 1=>simpa using g1
   | 2=>simpa using g2
   | 3=>simpa using g3
   | k+4=>
    rw[zD (by omega)];simp
  unfold cM;rw[hd];simp only[zbk,zbq,za7,List.drop_zero];have e3:(t.drop 384).take 128=t.drop 384:=zX (by simp;omega);have e2:(t.drop 256).take 128++t.drop 384=t.drop 256:=by
   have:=zS 128 (t.drop 256);rwa [za1] at this
  have e1:(t.drop 128).take 128++t.drop 256=t.drop 128:=by
   have:=zS 128 (t.drop 128);rwa [za1] at this
  rw[e3,e2,e1,zS]
 ·rw[hs.2];unfold cM
  congr 1
  apply za9;intro k;rw[zT,zT]
  split
  ·rename_i hk;rw[zaf,zaf];refine ia _ _ _ (λx hx=>?_);rw[hh] at hx;rcases zz.1 hx with hx | hx
   ·rcases zz.1 hx with hx | hx
    ·have:=ha x hx;omega
    ·simp at hx;rcases hx with rfl | rfl | rfl | rfl<;>simp<;>omega
   ·have:=hc x hx;omega
  ·rfl
end Sp
namespace Sp
def frame (aL:Nat) (s:Bs):Bs:=be 2 s.length++be 8 aL++dK (be 2 s.length++be 8 aL++s)++s
theorem bR (aL:Nat) (s:Bs):(frame aL s).length=14+s.length:=by simp[frame];omega
def bg (k:Nat):Nat:=k-k%110
theorem kO (k:Nat):bg k<=k:=Nat.sub_le _ _
theorem nI {a:Nat} (h:a<=b):bg a<=bg b:=by unfold bg;omega
theorem Jt (k:Nat):bg k%110=0:=by unfold bg;omega
structure Lg where
 at_:Nat
 n:Nat
 life:Nat
 bytes:Bs
 starts:List Nat
 first:Nat
 next:Nat
 forced:Nat
 reserved:Nat
structure Lg.wf (l:Lg):Prop where
 n4:4<=l.n
 J6:l.n<=4096
 Ka:1<=l.life
 ug:l.life<18446744073709551616
 lo:110<=l.first
 ff:l.first<=l.forced
 fn:l.forced<=l.next
 len:l.bytes.length+bg l.first=l.next
 room:l.bytes.length<=l.n*110
 Ai:l.starts.Pairwise (· < ·)
 starts:∀x∈l.starts,l.first<=x/\x<l.next
theorem Lg.wf.few {l:Lg} (h:l.wf):l.starts.length<=l.bytes.length:=by
 have key:∀(s:List Nat) (a b:Nat),s.Pairwise (· < ·)->(∀x∈s,a<=x/\x<b)->s.length<=b-a:=λs=>by
  induction s with
  | nil=>intro a b _ _;simp
  | cons x s ih=>
   intro a b hp hx;have h1:=hx x zbe;have h2:=(List.pairwise_cons.1 hp);have:=ih (x+1) b h2.2 (λy hy=>⟨h2.1 y hy,(hx y (zbf _ hy)).2⟩);simp only[zP];omega
 have h1:=key l.starts l.first l.next h.Ai h.starts;have h2:=h.len;have:=kO l.first;omega
def Lg.left (l:Lg):Nat:=l.n*110-l.bytes.length-l.reserved
def Lg.append (l:Lg) (s:Bs):Lg:={l with bytes:=l.bytes++frame l.next s,starts:=l.starts++[l.next],next:=l.next+(14+s.length)}
theorem Lg.mM {l:Lg} (h:l.wf) {s:Bs} (hs:14+s.length<=l.left):(l.append s).wf:=by
 have h1:=h.len;have h2:=h.room;have h3:=h.ff;have h4:=h.fn;unfold Lg.left at hs;refine⟨h.n4,h.J6,h.Ka,h.ug,h.lo,h.ff,?_,?_,?_,?_,λx hx=>?_⟩
 ·show l.forced<=l.next+(14+s.length);omega
 ·show(l.bytes++frame l.next s).length+bg l.first=l.next+(14+s.length);rw[zo,bR];omega
 ·show(l.bytes++frame l.next s).length<=l.n*110;rw[zo,bR];omega
 ·show(l.starts++[l.next]).Pairwise (· < ·);refine List.pairwise_append.2 ⟨h.Ai,by simp,λa ha b hb=>?_⟩;rw[zq.1 hb];exact(h.starts a ha).2
 ·show l.first<=x/\x<l.next+(14+s.length);rcases zz.1 hx with hx | hx
  ·have:=h.starts x hx;omega
  ·rw[zq.1 hx];omega
def Lg.dQ (l:Lg) (k:Nat):Nat:=l.at_+k/110%l.n
def Lg.part (l:Lg) (k:Nat):Bs:=(l.bytes.drop (k-bg l.first)).take 110
def Lg.sec (l:Lg) (k:Nat):Bs:=be 8 k++be 8 l.life++be 2 (l.part k).length++l.part k++zeros (110-(l.part k).length)
theorem Lg.wE (l:Lg) (k:Nat):(l.part k).length<=110:=by simp[Lg.part];omega
theorem Lg.xj (l:Lg) (k:Nat):(l.sec k).length=128:=by
 have:=l.wE k;simp[Lg.sec,zeros];omega
theorem Lg.kg {l:Lg} (h:l.wf) (k:Nat):l.at_<=l.dQ k/\l.dQ k<l.at_+l.n:=by
 have:=Nat.mod_lt (k/110) (show 0<l.n by have:=h.n4;omega);unfold Lg.dQ;omega
def Lg.strs (l:Lg):Nat:=(l.next-bg l.forced+109)/110
def Lg.dO (l:Lg) (m:Nat):List fP:=(List.range m).map λj=>.wr (l.dQ (bg l.forced+j*110)) (l.sec (bg l.forced+j*110))
def Lg.eE (l:Lg):List fP:=l.dO l.strs++[.sync]
def Lg.Jb (l:Lg):Lg:={l with forced:=l.next}
theorem Lg.uA {l:Lg} (h:l.wf):l.Jb.wf:=⟨h.n4,h.J6,h.Ka,h.ug,h.lo,zl h.ff h.fn,za _,h.len,h.room,h.Ai,h.starts⟩
theorem Lg.qV (l:Lg) (m:Nat):l.dO (m+1)=l.dO m++[.wr (l.dQ (bg l.forced+m*110)) (l.sec (bg l.forced+m*110))]:=by
 unfold Lg.dO;rw[zbb,zI];rfl
theorem Lg.wu {l:Lg} (hf:l.forced<=l.next):j<l.strs↔bg l.forced+j*110<l.next:=by
 have:=kO l.forced;unfold Lg.strs;omega
theorem Lg.S1 {l:Lg} (h:l.wf):l.strs<=l.n+1:=by
 have h1:=h.len;have h2:=h.room;have h3:=nI h.ff;unfold Lg.strs;have:l.next-bg l.forced<=l.n*110:=by omega
 omega
def Lg.keep (l:Lg) (k:Nat):Lg:={l with bytes:=l.bytes.drop (bg k-bg l.first),starts:=l.starts.filter (λx=>decide (k<=x)),first:=k}
theorem Lg.C0 {l:Lg} (h:l.wf) (h1:l.first<=k) (h2:k<=l.forced):(l.keep k).wf:=by
 have e1:=nI h1;have e2:=kO k;have e3:=h.len;have e4:=h.fn;have e5:=h.lo;have e6:=h.room;refine⟨h.n4,h.J6,h.Ka,h.ug,?_,h2,h.fn,?_,?_,?_,λx hx=>?_⟩
 ·show 110<=k;omega
 ·show(l.bytes.drop (bg k-bg l.first)).length+bg k=l.next;rw[za2];omega
 ·show(l.bytes.drop (bg k-bg l.first)).length<=l.n*110;rw[za2];omega
 ·exact h.Ai.filter _
 ·have hx':=zam.1 hx;exact⟨by show k<=x;simpa using hx'.2,(h.starts x hx'.1).2⟩
theorem Bo (l:Lg) (m:Nat):ld (l.dO m)=(List.range m).map λj=>(l.dQ (bg l.forced+j*110),l.sec (bg l.forced+j*110)):=by
 induction m with
 | zero=>rfl
 | succ m ih=>rw[Lg.qV,ep,ih,zbb,zI];rfl
theorem Jd (d:Dk) (hlo:d.loose=[]) (hf:d.bk= -1) {l:Lg} (h:l.wf):(d.acts l.eE).loose=[]/\(d.acts l.eE).bk= -1/\(d.acts l.eE).sure.length=d.sure.length/\
 ∀a,(a+4<=l.at_\/l.at_+l.n<=a)->cM (d.acts l.eE).sure a=cM d.sure a:=by
 have sQ:d.view=d.sure:=by simp[Dk.view,hlo,lay]
 have hs:=jw d (l.dO l.strs);rw[sQ] at hs;refine⟨hs.1,mP d hf _,mO d _,λa ha=>?_⟩;show cM (d.acts (l.dO l.strs++[.sync])).sure a=_;rw[hs.2,Bo];unfold cM
 congr 1
 apply za9;intro k;rw[zT,zT]
 split
 ·rename_i hk;rw[zaf,zaf];refine ia _ _ _ (λx hx=>?_);obtain⟨j,_,rfl⟩:=zn.1 hx;have:=Lg.kg h (bg l.forced+j*110);show l.dQ _≠_;omega
 ·rfl
end Sp
def oa (l:List Nat):List Value:=l.map fun(n:Nat)=>Value.int .u64 (n:Int)
@[simp] theorem Vc (l:List Nat):(oa l).length=l.length:=by simp[oa]
structure dP (F:af) (w:World) (gl gd:Nat) (l:Sp.Lg):Prop where
 wf:l.wf
 mem:∃bv sv,aj w gl 131 (dR gd l.at_ l.n l.life bv sv l.first l.next l.forced l.reserved)/\w.ownsRow 0 5 1 bv l.bytes.length (eU l.bytes)/\
  w.ownsRow 0 24 1 sv l.starts.length (oa l.starts)/\∀b,F b↔b=gl\/bv.ownBlock=some b\/sv.ownBlock=some b
theorem bH {w:World} {base e:Nat} (h:w.ownsRow base e size v n xs) (hk:∀b,v.ownBlock=some b->w'.heap[b]? =w.heap[b]?):w'.ownsRow base e size v n xs:=by
 refine⟨h.1,?_⟩;rcases h.2 with h' | ⟨b,cap,cur,rfl,hb,hh,rest⟩
 ·exact .inl h'
 ·exact .inr ⟨b,cap,cur,rfl,hb,(hk b rfl).trans hh,rest⟩
theorem dP.keep {F:af} {w:World} {gl gd:Nat} {l:Sp.Lg} (h:dP F w gl gd l) (hk:∀b,F b->w'.heap[b]? =w.heap[b]?):dP F w' gl gd l:=by
 obtain⟨h1,bv,sv,h3,h4,h5,h6⟩:=h;exact⟨h1,bv,sv,h3.keep (hk _ ((h6 _).2 (.inl rfl))),bH h4 (λb hb=>hk b ((h6 b).2 (.inr (.inl hb)))),bH h5 (λb hb=>hk b ((h6 b).2 (.inr (.inr hb)))),h6⟩
theorem dP.dA {F:af} {w:World} {gl gd:Nat} {l:Sp.Lg} (h:dP F w gl gd l):∀b,F b->b<w.heap.size:=by
 obtain⟨h1,bv,sv,h3,h4,h5,h6⟩:=h;intro b hb;rcases(h6 b).1 hb with rfl | hb | hb
 ·exact h3.lt
 ·exact(h4.lt b hb).2
 ·exact(h5.lt b hb).2
theorem dP.below {F:af} {w:World} {gl gd:Nat} {l:Sp.Lg} (h:dP F w gl gd l) (hb:zB w w'):dP F w' gl gd l:=h.keep (λb hF=>hb.block b (h.dA b hF))
theorem dP.turns {F G G':af} {w:World} {gl gd:Nat} {l:Sp.Lg} (h:dP F w gl gd l) (ht:aa G G' w w') (hG:∀b,F b->¬G b):dP F w' gl gd l:=h.keep (λb hF=>ht.block b (h.dA b hF) (hG b hF))
def Sp.sI (at_ n life:Nat):Sp.Lg:=⟨at_,n,life,[],[],110,110,110,0⟩
theorem Sp.xQ {at_ life:Nat} (h1:4<=n) (h2:n<=4096) (h3:1<=life) (h4:life<18446744073709551616):(Sp.sI at_ n life).wf:=
 ⟨h1,h2,h3,h4,za _,za _,za _,by simp[Sp.sI,Sp.bg],by simp[Sp.sI],List.Pairwise.nil,λ_ h=>(by cases h)⟩
theorem Mj {w:World} {gd at_ life:Nat} (h1:4<=n) (h2:n<=4096) (h3:1<=life) (h4:life<18446744073709551616) {gl:Nat}
 (hB:aj w gl 131 (dR gd at_ n life (.slice none 0 0) (.slice none 0 0) 110 110 110 0)):dP (only gl) w gl gd (Sp.sI at_ n life):=
 ⟨Sp.xQ h1 h2 h3 h4,.slice none 0 0,.slice none 0 0,hB,World.ownsRow_nil _ _ _ _,World.ownsRow_nil _ _ _ _,λb=>by simp[Value.ownBlock]⟩
theorem aj.lg {w:World} {gl gd at_ life first next forced reserved:Nat} {bv sv:Value} (h:aj w gl 131 (dR gd at_ n life bv sv first next forced reserved)):
 w.cell? ⟨gl,0,none⟩=some (ptr gd)/\w.cell? ⟨gl,1,none⟩=some (.int .i64 at_)/\w.cell? ⟨gl,2,none⟩=some (.int .i64 n)/\w.cell? ⟨gl,3,none⟩=some (.int .u64 life)/\w.cell? ⟨gl,4,none⟩=some bv/\
 w.cell? ⟨gl,5,none⟩=some sv/\w.cell? ⟨gl,6,none⟩=some (.int .u64 first)/\w.cell? ⟨gl,7,none⟩=some (.int .u64 next)/\w.cell? ⟨gl,8,none⟩=some (.int .u64 forced)/\w.cell? ⟨gl,9,none⟩=some (.int .i64 reserved):=
 ⟨h.cell 0,h.cell 1,h.cell 2,h.cell 3,h.cell 4,h.cell 5,h.cell 6,h.cell 7,h.cell 8,h.cell 9⟩
section
variable {F:af} {w:World} {gl gd:Nat} {l:Sp.Lg}
theorem Pj (h:dP F w gl gd l):Calls prog 13 #[ptr gl] w λe w'=>e=.returned (.int .u64 l.next)/\w'=w:=by
 obtain⟨h1,bv,sv,h3,h4,h5,h6⟩:=h;obtain⟨c0,c1,c2,c3,c4,c5,c6,c7,c8,c9⟩:=h3.lg;clear c0 c1 c2 c3 c4 c5 c6 c8 c9 h3 h4 h5 h6 h1;go_enter func13,ntmps13;go_wp2_with fail;go_ret;exact⟨rfl,rfl⟩
theorem Ij (h:dP F w gl gd l):Calls prog 17 #[ptr gl] w λe w'=>e=.returned (.int .u64 l.forced)/\w'=w:=by
 obtain⟨h1,bv,sv,h3,h4,h5,h6⟩:=h;obtain⟨c0,c1,c2,c3,c4,c5,c6,c7,c8,c9⟩:=h3.lg;clear c0 c1 c2 c3 c4 c5 c6 c7 c9 h3 h4 h5 h6 h1;go_enter func17,ntmps17;go_wp2_with fail;go_ret;exact⟨rfl,rfl⟩
theorem gI (c0:w.cell? ⟨gl,0,none⟩=some (ptr g)):Calls prog 83 #[ptr gl] w λe w'=>e=.returned (.bool true)/\w'=w:=by
 go_enter func83,ntmps83;go_wp2_with fail;go_ret;exact⟨rfl,rfl⟩
end
theorem UB (n:Nat):(n:Int)-(n:Int)%110=(Sp.bg n:Nat):=by unfold Sp.bg;omega
theorem iY (n:Nat) (hn:n<18446744073709551616) (w:World):Calls prog 60 #[.int .u64 n] w λe w'=>e=.returned (.int .u64 (Sp.bg n))/\w'=w:=by
 have hb:=Sp.kO n;have hw:IntKind.u64.wrap ((n:Int)-(n:Int)%110)=(Sp.bg n:Nat):=by rw[UB,IntKind.wrap_u64];omega
 go_enter func60,ntmps60;go_wp2_with fail;go_ret;exact⟨rfl,rfl⟩
theorem kM (n:Nat) (w:World) (hn:n<1000000000):Calls prog 63 #[.int .i64 n] w λe w'=>e=.returned (.int .i64 (if 1<=n/\n<=4096 then 14+n else 0:Nat))/\w'=w:=by
 by_cases h1:1<=n
 ·have d1:decide ((n:Int)<1)=false:=by rw[ze];omega
  by_cases h2:n<=4096
  ·have d2:decide ((4096:Int)<n)=false:=by rw[ze];omega
   rw[zK ⟨h1,h2⟩];go_enter func63,ntmps63;go_wp2_with fail;go_ret;exact⟨by go_num,rfl⟩
  ·have d2:decide ((4096:Int)<n)=true:=by rw[zA];omega
   rw[zD (λh=>h2 h.2)];go_enter func63,ntmps63;go_wp2_with fail;go_ret;exact⟨rfl,rfl⟩
 ·have d1:decide ((n:Int)<1)=true:=by rw[zA];omega
  rw[zD (λh=>h1 h.1)];go_enter func63,ntmps63;go_wp2_with fail;go_ret;exact⟨rfl,rfl⟩
theorem s8 (h s:Sp.Bs) (w:World) (hl:h.length+s.length<=1000000):Calls prog 186 #[str h,str s] w λe w'=>e=.returned (str (Sp.dK (h++s)))/\zB w w':=by
 have HS:=zH (mr (h++s) w (by simp;omega));have XM:(Sp.cI (h++s)).length=h.length+s.length+4:=by simp
 have hd:((Sp.cI (h++s)).drop (h.length+s.length)).take 4=Sp.dK (h++s):=by
  have e:h.length+s.length=(h++s).length:=by simp
  rw[Sp.cI,e,List.drop_left];exact zX (by simp)
 go_enter func186,ntmps186;go_wp2_with fail;refine HS.out.mono ?_;rintro e w1 ⟨rfl,hb⟩;go_wp2_with fail;go_ret;refine⟨?_,hb⟩;show Ending.returned (Value.string (ByteArray.extract ⟨(Sp.cI (h++s)).toArray⟩ _ _))=_;rw[dw,za5,hd]
section
variable {P:Program} (w:World)
theorem jD (base:Nat) (t u ty e:TypeId) (i:TypeInfo) (ht:P.underlying t=some (.slice e)) (hu:P.underlying u=some .string) (hi:P.info? e=some i) (hz:i.zero=some (.int .u8 0))
 (hsize:i.size=1) (hby:i.bytes=1) (v:Value) (n:Nat) (xs:List Value) (hown:w.ownsRow base e 1 v n xs) (s:ByteArray)
 (h63:n+s.size<=maxLen) (hbytes:n+s.size<=140737488355328) (hbase:base<=w.heap.size):
 ∃v' w',(Builtin.append_ #[t,u] ty #[v,.string s]).run P w=.ok v' w'/\w'.ownsRow base e 1 v' (n+s.size) (xs++Lib.strCells s)/\w.grownBy w' v.ownBlock/\(∀k,v'.ownBlock=some k->v.ownBlock=some k\/w.heap.size<=k):=by
 obtain⟨v',w',hr,h2,h3,_⟩:=Lib.run_append_own_string (P:=P) w base t u ty e i ht hu hi hz hsize hby v n xs hown s h63 hbytes hbase;refine⟨v',w',hr,h2,h3,λk hk=>?_⟩;rcases hown.2 with⟨rfl,rfl⟩ | ⟨g,cap,cur,rfl,hbg,hg,hnc,hcm,hcs,gJ⟩
 ·have hx:xs=[]:=zy (by simpa using hown.1);subst hx;obtain⟨v2,w2,hr2,VX,_,_⟩:=Lib.run_append_own_string (P:=P) w w.heap.size t u ty e i ht hu hi hz hsize hby _ 0 [] (World.ownsRow_nil w w.heap.size e 1) s h63 hbytes (za _);rw[hr] at hr2;injection hr2 with hv hw;subst hv hw;exact .inr (VX.lt k hk).1
 ·by_cases hroom:n+s.size<=cap
  ·have hr2:=Lib.run_append_room_string (P:=P) w t u ty e i ht hu hi hsize g n cap cur hg s hroom (by rw[hcs];omega);rw[hr] at hr2;injection hr2 with hv _;subst hv;exact .inl hk
  ·have holds:∀j u,xs[j]? =some u->w.cell? ((⟨g,0,none⟩:Addr).add j)=some u:=hown.cells (g:=g) rfl;have hr2:=Lib.run_append_grow_string (P:=P) w t u ty e i _ ht hu hi hz ⟨g,0,none⟩ n cap xs (by rw[hsize];exact hown.1) holds s (by omega) (by simp only[maxLen] at h63;omega) (growslice_fits (by omega) (by rw[hby];omega));rw[hr] at hr2;injection hr2 with hv _;subst hv;refine .inr ?_;simp only[Value.ownBlock,Option.some.injEq] at hk;omega
theorem kr {ops:Array Oper} {rest:List Oper} {Q:Exit->Act->World->Prop} (hgd:o.guard=none) (sl x:Operand) (t u:TypeId)
 (ho:o.op=.call {callee:=.builtin .append,args:=#[sl,x],argTypes:=#[t,u]})
 (base:Nat) (e:TypeId) (i:TypeInfo) (ht:P.underlying t=some (.slice e)) (hu:P.underlying u=some .string) (hi:P.info? e=some i) (hz:i.zero=some (.int .u8 0))
 (hsize:i.size=1) (hby:i.bytes=1) (v:Value) (n:Nat) (xs:List Value) (hs:a.eval sl=v) (hown:w.ownsRow base e 1 v n xs) (s:ByteArray) (hx:a.eval x=.string s)
 (h63:n+s.size<=maxLen) (hbytes:n+s.size<=140737488355328) (hbase:base<=w.heap.size)
 (h:∀v' w',w'.ownsRow base e 1 v' (n+s.size) (xs++Lib.strCells s)->w.grownBy w' v.ownBlock->(∀k,v'.ownBlock=some k->v.ownBlock=some k\/w.heap.size<=k)->wpList P ops Q rest (a.put o.dst v') w'):wpList P ops Q (o::rest) a w:=by
 refine wpList_plain hgd λK hK=>?_;obtain⟨v',w',hr,h2,h3,h4⟩:=jD (P:=P) w base t u o.type e i ht hu hi hz hsize hby v n xs hown s h63 hbytes hbase;unfold Oper.wp execOp;simp only[ho,resolve,invoke,builtin,Sem.run_bind,Sem.run_pure,Result.andThen_ok,zar,zF,zaw,hs,hx,hr];exact hK _ _ (h v' w' h2 h3 h4)
end
theorem td (aL:Nat) (s:Sp.Bs) (w:World) (h1:1<=s.length) (h2:s.length<=4096) (tP:1<=aL) (hl:aL<18446744073709551616):
 Calls prog 116 #[.int .u64 aL,str s] w λe w'=>e=.returned (.tuple #[str (Sp.frame aL s),.int .i64 0])/\zB w w':=by
 have HZ:=zH fun(W:World)=>kM s.length W (by omega);rw[zK ⟨h1,h2⟩] at HZ;have d0:(((14+s.length:Nat):Int)==0)=false:=by simp;omega
 have d1:((aL:Int)==0)=false:=by simp;omega
 have hcv:IntKind.u64.wrap (s.length:Int)=(s.length:Nat):=by rw[IntKind.wrap_u64];omega
 have HN:=zH fun(W:World)=>d_ s.length 2 W (by omega) (by omega) (by omega) (by omega);have HA:=zH fun(W:World)=>d_ aL 8 W (by omega) (by omega) (by omega) hl;have HS:=zH fun(W:World)=>s8 (Sp.be 2 s.length++Sp.be 8 aL) s W (by simp;omega);have hfr:Hid (Sp.be 2 s.length++Sp.be 8 aL++Sp.dK (Sp.be 2 s.length++Sp.be 8 aL++s)++s=Sp.frame aL s):=rfl;have hsm:(Sp.dK (Sp.be 2 s.length++Sp.be 8 aL++s)).length=4:=rfl;have Aa:(Sp.be 2 s.length).length=2:=Sp.aV _ _;have hba:(Sp.be 8 aL).length=8:=Sp.aV _ _;generalize Sp.dK (Sp.be 2 s.length++Sp.be 8 aL++s)=sm at*;generalize Sp.be 2 s.length=bn at*;generalize Sp.be 8 aL=ba at*;go_enter func116,ntmps116;go_wp2_with fail;refine(HZ.out _).mono ?_;rintro e w1 ⟨rfl,hw⟩;subst w1;go_wp2_with fail;refine(HN.out _).mono ?_;rintro e w1 ⟨rfl,hb1⟩;go_wp2_with fail;refine(HA.out _).mono ?_;rintro e w2 ⟨rfl,hb2⟩;go_wp2_with fail;refine(HS.out _).mono ?_;rintro e w3 ⟨rfl,hb3⟩;go_wp2_with fail
 go_ret2
 have hb:=(hb1.trans (hb2.mono hb1.size)).trans (hb3.mono (zl hb1.size hb2.size));exact⟨by rw[<-hfr.out];simp[aP],hb⟩
theorem uz (aL:Nat) (s:Sp.Bs) (w:World) (h:s.length=0\/4096<s.length) (SC:s.length<1000000000):
 Calls prog 116 #[.int .u64 aL,str s] w λe w'=>e=.returned (.tuple #[str [],.int .i64 2])/\w'=w:=by
 have HZ:=zH fun(W:World)=>kM s.length W SC;rw[zD (by omega)] at HZ;go_enter func116,ntmps116;go_wp2_with fail;refine(HZ.out _).mono ?_;rintro e w1 ⟨rfl,hw⟩;subst w1;go_wp2_with fail
 go_ret2
 exact⟨rfl,rfl⟩
section
variable {F:af} {w:World} {gl gd:Nat} {l:Sp.Lg}
theorem E7 (h:dP F w gl gd l) (hn:l.next<4611686018427387904) (hr:l.reserved<1000000000):
 Calls prog 30 #[ptr gl] w λe w'=>e=.returned (.int .i64 l.left)/\zB w w':=by
 obtain⟨h1,bv,sv,h3,h4,h5,h6⟩:=h;obtain⟨c0,c1,c2,c3,c4,c5,c6,c7,c8,c9⟩:=h3.lg;have HM:=zH (gI (w:=w) c0);have hff:=h1.ff;have hfn:=h1.fn;have hlen:=h1.len;have hbl:=Sp.kO l.first;have sW:=h1.J6;have hroom:=h1.room;have HB:=zH fun(W:World)=>iY l.first (by omega) W;have e1:(l.next:Int)-(Sp.bg l.first:Nat)=(l.bytes.length:Nat):=by omega
 have hw1:IntKind.u64.wrap ((l.next:Int)-(Sp.bg l.first:Nat))=(l.bytes.length:Nat):=by rw[e1,IntKind.wrap_u64];omega
 have hw1':IntKind.u64.wrap ((l.bytes.length:Nat):Int)=(l.bytes.length:Nat):=by rw[IntKind.wrap_u64];omega
 have hw2:IntKind.i64.wrap (l.bytes.length:Nat)=(l.bytes.length:Nat):=IntWalk.i64_in _ (by omega);have hw3:IntKind.i64.wrap ((l.n:Int)*110)=(l.n:Int)*110:=IntWalk.i64_in _ (by omega);have hw4:IntKind.i64.wrap ((l.n:Int)*110-(l.bytes.length:Nat))=(l.n:Int)*110-(l.bytes.length:Nat):=IntWalk.i64_in _ (by omega);have Gu:IntKind.i64.wrap ((l.n:Int)*110-(l.bytes.length:Nat)-(l.reserved:Nat))=(l.n:Int)*110-(l.bytes.length:Nat)-(l.reserved:Nat):=IntWalk.i64_in _ (by omega);clear c0 c1 c3 c4 c5 c8;go_enter func30,ntmps30;go_wp2_with fail;refine HM.out.mono ?_;rintro e w1 ⟨rfl,hw⟩;subst w1;go_wp2_with fail;have hS:=zH (show w.drew.cell? ⟨gl,2,none⟩=some (.int .i64 l.n)/\w.drew.cell? ⟨gl,6,none⟩=some (.int .u64 l.first)/\w.drew.cell? ⟨gl,7,none⟩=some (.int .u64 l.next)/\w.drew.cell? ⟨gl,9,none⟩=some (.int .i64 l.reserved) from⟨c2,c6,c7,c9⟩);refine fQ (λW=>zC W gl 2 (.int .i64 l.n)/\zC W gl 6 (.int .u64 l.first)/\zC W gl 7 (.int .u64 l.next)/\zC W gl 9 (.int .i64 l.reserved)) (λ_=>false) ?_
 repeat (refine bK hS.out ?_)
 refine aI 13 19 (w':=w.drew) rfl rfl (by rfl) (by kernel_rfl) ?_ (HB.out _) ?_
 ·go_simp
 rintro e w2 ⟨rfl,hw⟩;subst w2;refine⟨_,rfl,λ_=>hS.out,?_⟩;simp only[zSA,zSB,zSC]
 repeat (refine bK hS.out ?_)
 refine aC (by kernel_rfl) ?_ _;have hmx:max 0 ((l.n:Int)*110-(l.bytes.length:Nat)-(l.reserved:Nat))=(l.left:Nat):=by unfold Sp.Lg.left;omega
 rw[hmx];rename_i K9 aT;refine aT _ _ ?_;clear aT hS;go_wp2_with fail;go_ret;exact⟨rfl,(zR w).drew⟩
theorem uD:(prog.info? 5).map (λi=>(i.zero,i.size,i.bytes))=some (some (.int .u8 0),1,1):=by kernel_rfl
theorem wU:(prog.info? 24).map (λi=>(i.zero,i.size,i.bytes))=some (some (.int .u64 0),1,8):=by kernel_rfl
theorem gC {w:World} {u v':Value} (sl x:Operand) (ts:Array TypeId) (ho:o.op=.call {callee:=.builtin .append,args:=#[sl,x],argTypes:=ts}) (hs:a.eval sl=v) (hx:a.eval x=u)
 (hr:(Builtin.append_ ts o.type #[v,u]).run P w=.ok v' w'):(execOp a.eval o).run P w=.ok (.value v') w':=by
 unfold execOp;simp only[ho,resolve,invoke,builtin,Sem.run_bind,Sem.run_pure,Result.andThen_ok,zar,zF,zaw,hs,hx,hr]
theorem O_ {w:World} (h:w.ownsRow b e k v n xs) (hg:v.ownBlock=some g):∃cur,aj w g e cur:=by
 rcases h.2 with⟨rfl,_⟩ | ⟨g',cap,cur,rfl,_,hh,_⟩
 ·simp[Value.ownBlock] at hg
 ·simp only[Value.ownBlock,Option.some.injEq] at hg;subst hg;exact⟨cur,hh⟩
theorem Pd (l:List Nat) (n:Nat):oa (l++[n])=oa l++[.int .u64 (n:Int)]:=by simp[oa]
structure Sy (w1 W:World) (bv v7:Value) (g8 n aL:Nat) (bs:Sp.Bs) (f:Sp.Bs):Prop where
 row:W.ownsRow 0 5 1 v7 n (eU (bs++f))
 sub:∀k,v7.ownBlock=some k->bv.ownBlock=some k\/w1.heap.size<=k
 one:aj W g8 24 #[.int .u64 aL]
 fresh:w1.heap.size<=g8
 turns:aa (λb=>bv.ownBlock=some b) (λb=>bv.ownBlock=some b) w1 W
def U2 (G:af) (w:World) (gl gd:Nat) (l:Sp.Lg) (s:Sp.Bs) (e:Ending) (w':World):Prop:=
 ∃G',e=.returned (.tuple #[.int .u64 l.next,.int .i64 0])/\dP G' w' gl gd (l.append s)/\aa G G' w w'
theorem Ik (h:dP F w gl gd l) (hn:l.next<4611686018427387904) (hr:l.reserved<1000000000) (s:Sp.Bs) (hs1:1<=s.length) (hs2:s.length<=4096) (hfit:14+s.length<=l.left):
 Calls prog 42 #[ptr gl,str s] w (U2 F w gl gd l s):=by
 have HR:=zH fun(W:World) (h:dP F W gl gd l)=>E7 h hn hr;have hin:=h.dA;have HI:=zH h;obtain⟨h1,bv,sv,h3,h4,h5,h6⟩:=h;obtain⟨c0,c1,c2,c3,c4,c5,c6,c7,c8,c9⟩:=h3.lg;have HM:=zH (gI (w:=w) c0);have hlen:=h1.len;have hlo:=h1.lo;have hff:=h1.ff;have hfn:=h1.fn;have hbl:=Sp.kO l.first;have sW:=h1.J6;have hroom:=h1.room;have Xw:=zH (Sp.Lg.mM h1 hfit);have jb:=h1.few;have HE:=zH fun(W:World)=>td l.next s W hs1 hs2 (by omega) (by omega);have hfl:=Sp.bR l.next s;have hap:Hid (l.append s={l with bytes:=l.bytes++Sp.frame l.next s,starts:=l.starts++[l.next],next:=l.next+(14+s.length)}):=rfl;generalize Sp.frame l.next s=f at*;have df:decide (l.left<f.length)=false:=by rw[ze];omega
 have hw1:IntKind.u64.wrap ((l.next:Int)+(f.length:Nat))=((l.next+(14+s.length):Nat):Int):=by rw[IntKind.wrap_u64];omega
 have hw2:IntKind.u64.wrap ((f.length:Nat):Int)=(f.length:Nat):=by rw[IntKind.wrap_u64];omega
 have hflm:f.length<=4110:=by omega
 have hfl1:14<=f.length:=by omega
 have UW:=zH hfl;clear hfl;clear c1 c2 c3 c4 c5 c6 c8 c9 c0;go_enter func42,ntmps42;go_wp2_with fail;refine HM.out.mono ?_;rintro e w1 ⟨rfl,hw⟩;subst w1;go_wp2_with fail;refine(HE.out _).mono ?_;rintro e w1 ⟨rfl,hb1⟩;go_wp2_with fail;refine(HR.out _ (HI.out.below hb1)).mono ?_;rintro e w2 ⟨rfl,Qz⟩;have hb2:zB w w2:=hb1.trans (Qz.mono hb1.size);have Ea:=h3.below hb2 h3.lt;have VY:=Ea.lg.2.2.2.2.2.2.2.1;clear c7 hb1 Qz HE HR HM;go_wp2_with fail;have C8:∀b,F b->w2.heap[b]? =w.heap[b]? :=λb hb=>hb2.block b (hin b hb);have h42:=bH h4 (w':=w2) (λb hb=>C8 b ((h6 b).2 (.inr (.inl hb))));have h52:=bH h5 (w':=w2) (λb hb=>C8 b ((h6 b).2 (.inr (.inr hb))));have C4:bv.ownBlock≠some gl:=dI h42 Ea (by decide);have hne5:sv.ownBlock≠some gl:=dI h52 Ea (by decide);have Vw:∀k,bv.ownBlock=some k->sv.ownBlock≠some k:=λk e1 e2=>by
  obtain⟨cur,hc⟩:=O_ h42 e1;exact dI h52 hc (by decide) e2
 have hbl2:∀b,bv.ownBlock=some b->b<w2.heap.size:=λb hb=>(h42.lt b hb).2;have Yj:=Ea.lt;obtain⟨ib,hib,Ir,Iq,Ip⟩:=info_parts uD;obtain⟨iu,P8,Px,Pw,Pv⟩:=info_parts wU;go_upto_region 9 with fail;go_cut [] (λwx=>∃v7 v9,aj wx gl 131 (dR gd l.at_ l.n l.life v7 v9 l.first l.next l.forced l.reserved)/\wx.ownsRow 0 5 1 v7 (l.bytes.length+f.length) (eU (l.bytes++f))/\
  wx.ownsRow 0 24 1 v9 (l.starts.length+1) (oa (l.starts++[l.next]))/\(∀k,v7.ownBlock=some k->F k\/w.heap.size<=k)/\(∀k,v9.ownBlock=some k->F k\/w.heap.size<=k)/\aa F F w wx)
 case first=>
  have c4:=Ea.lg.2.2.2.2.1;have c5:=Ea.lg.2.2.2.2.2.1;go_wp2_with fail;have hS:w2.drew.cell? ⟨gl,4,none⟩=some bv/\w2.drew.cell? ⟨gl,5,none⟩=some sv:=⟨c4,c5⟩;refine fQ (λW=>zC W gl 4 bv/\zC W gl 5 sv) (λj=>j==1||decide (17<=j)) ?_;refine R_pp 1 36 ?_
  repeat (refine bK hS ?_)
  refine gR (rs:=[7,13]) (by kernel_rfl) (by simp) (λi hi=>?_);simp only[zW,zak,or_false] at hi;have T0:aa (λb=>bv.ownBlock=some b) (λb=>bv.ownBlock=some b) w2 w2.drew:=(aa.refl _ _).drew;rcases hi with rfl | rfl
  obtain⟨v7,W,Kj,qU,mS,rJ⟩:=jD (P:=prog) w2.drew 0 129 9 129 5 ib underlying129 underlying9 hib Ir Iq Ip bv _ _ h42 ⟨f.toArray⟩ (by show _+f.toArray.size<=_;unfold maxLen;simp;omega) (by show _+f.toArray.size<=_;simp;omega) (za0 _);have T1:=T0.grown mS (λk hk=>.inl hk);refine cN 42 rfl rfl (by rfl) (gC _ _ _ rfl rfl rfl Kj) ⟨λ_=>⟨((Ea.turns T1 C4).cell 4).trans rfl,((Ea.turns T1 C4).cell 5).trans rfl⟩,?_⟩;simp only[zSA,zSB,zSC];refine fe 13 48 (v:=.slice (some ⟨W.heap.size,0,none⟩) 1 1) (w':=W.alloc (.cells #[.int .u64 l.next] 24)) rfl (by go_simp) ?_ ?_
  ·have T2:=T1.alloc (.cells #[.int .u64 l.next] 24);exact λ_=>⟨((Ea.turns T2 C4).cell 4).trans rfl,((Ea.turns T2 C4).cell 5).trans rfl⟩
  have hm:Sy w2 (W.alloc (.cells #[.int .u64 l.next] 24)) bv v7 W.heap.size (l.bytes.length+f.length) l.next l.bytes f:=
   ⟨by rw[nK];exact bH qU (λb hb=>Below.heap_alloc W _ b (qU.lt b hb).2),rJ,aj.new _ _ _,T1.size,T1.alloc _⟩
  obtain⟨g8,u_⟩:=zE W.heap.size;obtain⟨W1,hW1⟩:=zE (W.alloc (.cells #[.int .u64 l.next] 24));rw[<-hW1,<-u_] at hm ⊢;clear hW1 u_ qU mS rJ T1 Kj;rotate_left;refine cN 48 (v:=.slice (some ⟨w2.drew.heap.size,0,none⟩) 1 1) (w':=w2.drew.alloc (.cells #[.int .u64 l.next] 24)) rfl rfl (by rfl) (by go_simp) ⟨?_,?_⟩
  ·have T2:=T0.alloc (.cells #[.int .u64 l.next] 24);exact λ_=>⟨((Ea.turns T2 C4).cell 4).trans rfl,((Ea.turns T2 C4).cell 5).trans rfl⟩
  simp only[zSA,zSB,zSC];have T2:=T0.alloc (.cells #[.int .u64 l.next] 24);have Y6:=bH h42 (w':=w2.drew.alloc (.cells #[.int .u64 l.next] 24)) (λb hb=>Below.heap_alloc w2.drew _ b (hbl2 b hb));have vJ:=aj.new w2.drew 24 #[.int .u64 l.next];have IL:w2.heap.size<=w2.drew.heap.size:=za _;obtain⟨g8,u_⟩:=zE w2.drew.heap.size;obtain⟨W,hW⟩:=zE (w2.drew.alloc (.cells #[.int .u64 l.next] 24));rw[<-hW,<-u_] at vJ ⊢;rw[<-hW] at T2 Y6;rw[<-u_] at IL;clear hW u_;obtain⟨v7,W1,Kj,qU,mS,rJ⟩:=jD (P:=prog) W 0 129 9 129 5 ib underlying129 underlying9 hib Ir Iq Ip bv _ _ Y6 ⟨f.toArray⟩ (by show _+f.toArray.size<=_;unfold maxLen;simp;omega) (by show _+f.toArray.size<=_;simp;omega) (za0 _);have T1:=T2.grown mS (λk hk=>.inl hk);refine fe 7 42 rfl (gC _ _ _ rfl rfl rfl Kj) (λ_=>⟨((Ea.turns T1 C4).cell 4).trans rfl,((Ea.turns T1 C4).cell 5).trans rfl⟩) ?_;have hm:Sy w2 W1 bv v7 g8 (l.bytes.length+f.length) l.next l.bytes f:=
   ⟨by rw[nK];exact qU,λk hk=>(rJ k hk).imp id (λh=>zl T2.size h),vJ.grown mS (λe=>by have:=hbl2 g8 e.symm;omega),IL,T1⟩
  clear qU mS rJ T1 T2 Kj Y6 vJ IL;all_goals
   have hsv:=bH h52 (w':=W1) (λb hb=>hm.turns.block b (h52.lt b hb).2 (λe=>Vw b e hb));have hmt:=hm.turns;refine jf 14 rfl (by rfl) (by kernel_rfl) ?_;refine bX _ _ _ _ rfl 0 24 iu _ 1 8 underlying105 P8 Px Pw Pv rfl (by decide) sv l.starts.length (oa l.starts) rfl hsv ⟨g8,0,none⟩ 1 1 [.int .u64 l.next] rfl rfl (λj u hu=>?_) (λx hx=>by simp at hx;subst hx;rfl) (by unfold maxLen;omega) (by omega) (za0 _) ?_
   ·cases j with
    | zero=>exact(hm.one.cell 0).trans hu
    | succ j=>simp at hu
   intro v9 W2 q1 q2 q3;have T2:aa (λb=>bv.ownBlock=some b\/sv.ownBlock=some b) (λb=>bv.ownBlock=some b\/sv.ownBlock=some b) w2 W2:=(hmt.fw (λb hb=>.inl hb) (λb hb=>.inl hb)).grown q2 (λk hk=>.inl (.inr hk));have bB:=Ea.turns T2 (λe=>e.elim C4 hne5);have qU:=bH hm.row (w':=W2) (λb hb=>q2.block b (hm.row.lt b hb).2 (λe=>by
    rcases hm.sub b hb with h | h
    ·exact Vw b h e.symm
    ·have:=(h52.lt b e.symm).2;omega))
   obtain⟨x0,x2,rfl⟩:=bP q1 (by omega);obtain⟨y0,y2,rfl⟩:=bP qU (by omega);have hx0:x0≠gl:=λe=>dI q1 bB (by decide) (by rw[e];rfl);have hy0:y0≠gl:=λe=>dI qU bB (by decide) (by rw[e];rfl);have hsub:=hm.sub;refine⟨λ_=>⟨(bB.cell 4).trans rfl,(bB.cell 5).trans rfl⟩,qZ 49 rfl ?_⟩;simp only[zSA,zSB,zSC];refine fe 15 50 (v:=ptr gl) (w':=W2) rfl (by go_simp) (λ_=>⟨(bB.cell 4).trans rfl,(bB.cell 5).trans rfl⟩) ?_;refine fe 16 51 (v:=.pointer (some ⟨gl,4,none⟩)) (w':=W2) rfl (by go_simp) (λ_=>⟨(bB.cell 4).trans rfl,(bB.cell 5).trans rfl⟩) ?_;have f4:=bB.frozen 4;have b4:=(bB.cell 4).trans rfl;refine jx 17 (w':=W2.setCell ⟨gl,4,none⟩ (.slice (some ⟨y0,0,none⟩) (l.bytes.length+f.length) y2)) rfl (by go_simp) (λh=>nomatch h) ?_;have cg:=bB.a_ 4 (.slice (some ⟨y0,0,none⟩) (l.bytes.length+f.length) y2);have b53:=(cg.cell 5).trans rfl;have f5:=cg.frozen 5;refine fe 18 52 (v:=ptr gl) rfl (by go_simp;rfl) (λh=>nomatch h) ?_;refine fe 19 53 (v:=.pointer (some ⟨gl,5,none⟩)) rfl (by go_simp;rfl) (λh=>nomatch h) ?_;refine jx 20 (w':=(W2.setCell ⟨gl,4,none⟩ (.slice (some ⟨y0,0,none⟩) (l.bytes.length+f.length) y2)).setCell ⟨gl,5,none⟩ (.slice (some ⟨x0,0,none⟩) (l.starts.length+1) x2)) rfl (by go_simp) (λh=>nomatch h) ?_;have dn:=cg.a_ 5 (.slice (some ⟨x0,0,none⟩) (l.starts.length+1) x2);have T3:=((T2.fw (F:=F) (F':=F) (λb hb=>(h6 b).2 (.inr hb)) (λb hb=>.inl hb)).setCell (p:=⟨gl,4,none⟩) (.inl ((h6 gl).2 (.inl rfl))) (.slice (some ⟨y0,0,none⟩) (l.bytes.length+f.length) y2)).setCell (p:=⟨gl,5,none⟩) (.inl ((h6 gl).2 (.inl rfl))) (.slice (some ⟨x0,0,none⟩) (l.starts.length+1) x2);have k2:∀b,b≠gl->((W2.setCell ⟨gl,4,none⟩ (.slice (some ⟨y0,0,none⟩) (l.bytes.length+f.length) y2)).setCell ⟨gl,5,none⟩ (.slice (some ⟨x0,0,none⟩) (l.starts.length+1) x2)).heap[b]? =W2.heap[b]? :=λb hb=>(Below.heap_setCell _ _ _ b hb).trans (Below.heap_setCell _ _ _ b hb);have o7:=bH qU (λb hb=>k2 b (λe=>hy0 (by simpa[Value.ownBlock,e] using hb)));have o9:=bH q1 (λb hb=>k2 b (λe=>hx0 (by simpa[Value.ownBlock,e] using hb)));rw[<-Pd] at o9;refine aC (by kernel_rfl) ?_ _;rename_i J9 K9 MU aT;refine aT _ _ ?_;clear aT;go_meet;have hz2:=hb2.size;refine⟨_,_,dn,o7,by simpa using o9,λk hk=>?_,λk hk=>?_,?_⟩
   ·rcases hsub k hk with h | h
    ·exact .inl ((h6 k).2 (.inr (.inl h)))
    ·exact .inr (by omega)
   ·rcases q3 k hk with h | h
    ·exact .inl ((h6 k).2 (.inr (.inr h)))
    ·exact .inr (by have:=hmt.size;omega)
   ·exact(aa.az hb2 F).trans T3
 case rest=>
  obtain⟨v7,v9,hB,qU,hO9,s7,s9,ht⟩:=hcut;clear hb2 C8 h42 h52 VY Ea;have c7:=hB.lg.2.2.2.2.2.2.2.1;have f7:=hB.frozen 7;have mS:v7.ownBlock≠some gl:=dI qU hB (by decide);have nC:v9.ownBlock≠some gl:=dI hO9 hB (by decide);have fu:=zH (hB.a_ 7 (.int .u64 ((l.next+(14+s.length):Nat):Int)));have iU:=zH (ht.setCell (p:=⟨gl,7,none⟩) (.inl ((h6 gl).2 (.inl rfl))) (.int .u64 ((l.next+(14+s.length):Nat):Int)));have o7:=zH (bH qU (w':=wc.setCell ⟨gl,7,none⟩ (.int .u64 ((l.next+(14+s.length):Nat):Int))) (λb hb=>Below.heap_setCell _ _ _ b (λe=>mS (by rw[hb];exact congrArg some e))));have o9:=zH (bH hO9 (w':=wc.setCell ⟨gl,7,none⟩ (.int .u64 ((l.next+(14+s.length):Nat):Int))) (λb hb=>Below.heap_setCell _ _ _ b (λe=>nC (by rw[hb];exact congrArg some e))));clear hB ht qU hO9;go_wp2_with fail
  go_ret2
  refine⟨λb=>b=gl\/v7.ownBlock=some b\/v9.ownBlock=some b,rfl,?_,?_⟩
  ·have PB:=Xw.out;rw[hap.out] at PB ⊢;refine⟨PB,v7,v9,fu.out,?_,?_,λb=>Iff.rfl⟩
   ·have:=o7.out
    rwa [show(l.bytes++f).length=l.bytes.length+f.length by simp]
   ·have:=o9.out
    rwa [show(l.starts++[l.next]).length=l.starts.length+1 by simp]
  ·have h:=iU.out;refine⟨h.os,h.tape,h.output,h.size,h.block,λb hb=>?_⟩;rcases hb with rfl | hb | hb
   ·exact .inl ((h6 b).2 (.inl rfl))
   ·exact s7 b hb
   ·exact s9 b hb
end
theorem RB:(prog.info? 161).map (λi=>(i.zero,i.size,i.bytes))=some (some (.agg (Array.replicate 128 (.int .u8 0))),128,128):=by kernel_rfl
theorem vw (w:World) (h k n c t:Nat) (l p:Sp.Bs) (ty:TypeId) (hB:aj w h t (eU l).toArray) (hk:k+p.length<=l.length) (hn:p.length<=n):
 (Builtin.copy_ #[129,9] ty #[.slice (some ⟨h,k,none⟩) n c,str p]).run prog w=.ok (goInt p.length) (w.setRow h (eU (Sp.patch l k p)).toArray):=by
 have:=Lib.run_copy_row_string (P:=prog) w 129 9 ty 5 h k n c ⟨p.toArray⟩ (eU l).toArray t underlying129 wk hB (by simpa using hn) (by simpa using hk);rw[this];simp[qX,Sp.patch,eU,List.map_take,List.map_drop]
theorem vz (w:World) (h k n c t:Nat) (l p:Sp.Bs) (ty:TypeId) (a:Addr) (sc:Nat) (hB:aj w h t (eU l).toArray) (hsrc:∀j v,(eU p)[j]? =some v->w.cell? (a.add j)=some v) (hk:k+p.length<=l.length) (hn:p.length<=n):
 (Builtin.copy_ #[129,129] ty #[.slice (some ⟨h,k,none⟩) n c,.slice (some a) p.length sc]).run prog w=.ok (goInt p.length) (w.setRow h (eU (Sp.patch l k p)).toArray):=by
 have:=run_copy_row (P:=prog) w 129 129 ty 5 h k n c a p.length sc (eU l).toArray t (eU p) underlying129 wk hB (by rw[nJ];exact(Nat.min_eq_left hn).symm) hsrc (by simpa using hk) (λv hv=>by
  simp only[eU,zn] at hv;obtain⟨b,_,rfl⟩:=hv;rfl)
 rw[this];simp[Sp.patch,eU,List.map_take,List.map_drop]
theorem Md {H P:Sp.Bs} (hH:H.length=18):Sp.patch (Sp.patch (Sp.zeros 128) 0 H) 18 P=H++P++Sp.zeros (110-P.length):=by
 unfold Sp.patch;have e1:(Sp.zeros 128).drop (0+H.length)=Sp.zeros 110:=by simp[Sp.zeros,hH]
 rw[List.take_zero,zaa,e1,<-hH,List.take_left,<-za1,List.drop_left]
 congr 1
 exact List.drop_replicate
section
variable {F D:af} {w:World} {gl gd:Nat} {l:Sp.Lg} {d:Sp.Dk}
theorem Ii (h:dP F w gl gd l) (k:Nat) (hk:k<4611686018427387904) (hat:l.at_<1000000):
 Calls prog 129 #[ptr gl,.int .u64 k] w λe w'=>e=.returned (.int .i64 (l.dQ k))/\zB w w':=by
 obtain⟨h1,bv,sv,h3,h4,h5,h6⟩:=h;obtain⟨c0,c1,c2,c3,c4,c5,c6,c7,c8,c9⟩:=h3.lg;have sW:=h1.J6;have hn1:=h1.n4;have hm:=Nat.mod_lt (k/110) (show 0<l.n by omega);have e1:IntKind.u64.wrap ((l.n:Nat):Int)=(l.n:Nat):=by rw[IntKind.wrap_u64];omega
 obtain⟨m,z_⟩:=zE (k/110%l.n);have e2:((k:Int)/110)%(l.n:Nat)=(m:Int):=by rw[z_];simp
 have e3:IntKind.i64.wrap (m:Int)=(m:Int):=IntWalk.i64_in _ (by omega);have e5:IntKind.i64.wrap ((l.at_:Int)+m)=(l.at_:Int)+m:=IntWalk.i64_in _ (by omega);have e4:Hid ((l.at_:Int)+(m:Int)=(l.dQ k:Nat)):=by show _=_;unfold Sp.Lg.dQ;omega
 clear z_ hm;have hn0:¬(l.n:Int)=0:=by omega
 clear c0 c3 c4 c5 c6 c7 c8 c9 h3 h4 h5 h6;go_enter func129,ntmps129;go_wp2_with fail;go_quiet (fail);go_wp2_with fail;go_ret;rw[e4.out];exact⟨rfl,((aa.refl bM w).drewN _).ei⟩
theorem Ih (h:dP F w gl gd l) (hd:cR D w gd d) (MI:d.bk≠0) (hlo:d.loose.length<=1000000) (hfit:l.at_+l.n<=d.sure.length) (hn:l.next<4611686018427387904)
 (hk:Sp.bg l.first<=k) (hk2:k<l.next):
 Calls prog 64 #[ptr gl,.int .u64 k] w λe w'=>∃D',e=.returned (.int .i64 0)/\cR D' w' gd (d.put (l.dQ k) (l.sec k))/\aa D D' w w':=by
 obtain⟨i0,hi,hz0,hz1,hz2⟩:=info_parts RB;have HI:=zH h;obtain⟨h1,bv,sv,h3,h4,h5,h6⟩:=h;have hlen:=h1.len;have jb:=hd.wf.few;have sW:=h1.J6;have hroom:=h1.room;have hff:=h1.ff;have hfn:=h1.fn;have hbl:=Sp.kO l.first;obtain⟨a,ha⟩:=zE (k-Sp.bg l.first);have rX:a<l.bytes.length:=by omega
 obtain⟨q,hq⟩:=zE (Nat.min (a+110) l.bytes.length);have hqa:a<q/\q<=a+110/\q<=l.bytes.length:=by
  have:=Nat.min_def (n:=a+110) (m:=l.bytes.length);have e:q=if a+110<=l.bytes.length then a+110 else l.bytes.length:=by rw[hq];exact this
  split at e<;>omega
 have hmin:min ((a:Int)+110) (l.bytes.length:Nat)=(q:Nat):=by
  have e:q=min (a+110) l.bytes.length:=hq;omega
 have hpart:l.part k=(l.bytes.drop a).take (q-a):=by
  unfold Sp.Lg.part;rw[<-ha];rcases Nat.le_total (a+110) l.bytes.length with h | h
  ·have e:q=a+110:=by have e:q=min (a+110) l.bytes.length:=hq;omega
   rw[e,za5]
  ·have e:q=l.bytes.length:=by have e:q=min (a+110) l.bytes.length:=hq;omega
   rw[zX (by simp;omega),zX (by simp;omega)]
 have hpl:(l.part k).length=q-a:=by rw[hpart];simp;omega
 have hrd:∀j,j<l.bytes.length->bv.ownBlock≠none:=λj hj e=>by
  rcases h4.2 with⟨_,h0⟩ | ⟨g,c,cur,h0,_⟩
  ·omega
  ·rw[h0] at e;cases e
 obtain⟨gb,cb,rfl⟩:=bP h4 (by omega);have hcap:l.bytes.length<=cb/\cb<=maxLen:=by
  rcases h4.2 with⟨_,h0⟩ | ⟨g,c,cur,h0,_,_,e1,e2,_⟩
  ·omega
  ·injection h0 with a1 a2 a3;subst a3;exact⟨e1,e2⟩
 have hcells:=h4.cells (g:=gb) rfl;have hFgb:F gb:=(h6 gb).2 (.inr (.inl rfl));have QS:F gl:=(h6 gl).2 (.inl rfl);have Qb:gb<w.heap.size:=HI.out.dA gb hFgb;have C_:gl<w.heap.size:=h3.lt;have HB:=zH fun(W:World)=>iY l.first (by omega) W;have HK:=zH fun(W:World)=>d_ k 8 W (by omega) (by omega) (by omega) (by omega);have HL:=zH fun(W:World)=>d_ l.life 8 W (by omega) (by omega) h1.ug h1.ug;have HP:=zH fun(W:World)=>d_ (q-a) 2 W (by omega) (by omega) (by omega) (by omega);have nE:IntKind.u64.wrap ((k:Int)-(Sp.bg l.first:Nat))=(a:Nat):=by rw[IntKind.wrap_u64];omega
 have GA:IntKind.i64.wrap ((a:Nat):Int)=(a:Nat):=IntWalk.i64_in _ (by omega);have hd2:IntKind.i64.wrap ((a:Int)+110)=(a:Int)+110:=IntWalk.i64_in _ (by omega);have Qi:IntKind.u64.wrap ((q-a:Nat):Int)=((q-a:Nat):Int):=by rw[IntKind.wrap_u64];omega
 have HPART:=zH hpart;have tR:=zH hpl;have HLEN:=zH hlen;have hkl:k<4611686018427387904:=by omega
 clear ha hq hpart hpl hlen;obtain⟨c0,c1,c2,c3,c4,c5,c6,c7,c8,c9⟩:=h3.lg;have H3:=zH h3;have hb0:=aj.new w 161 (eU (Sp.zeros 128)).toArray;have hbz:(eU (Sp.zeros 128)).toArray=Array.replicate 128 (.int .u8 0):=by kernel_rfl
 clear c0 c1 c2 c5 c7 c8 c9 h3;go_enter func64,ntmps64;go_wp2_with fail;have hZ:Tryz.zeroCells161=(eU (Sp.zeros 128)).toArray:=by rw[hbz];kernel_rfl
 rw[hZ];have cH:=(zR w).alloc (za _) (.cells (eU (Sp.zeros 128)).toArray 161);have Yn:w.heap.size<=w.heap.size:=za _;obtain⟨w1,hw1⟩:=zE (w.alloc (.cells (eU (Sp.zeros 128)).toArray 161));rw[<-hw1] at hb0 cH ⊢;obtain⟨g5,jm⟩:=zE w.heap.size;rw[<-jm] at hb0 ⊢;have Yn:w.heap.size<=g5:=by omega
 clear hw1 jm hZ hbz;refine(HB.out _).mono ?_;rintro e w2 ⟨rfl,hw⟩;subst w2;have c4:=(H3.out.below cH C_).lg.2.2.2.2.1;go_wp2_with fail;have hS:=zH (show w1.drew.cell? ⟨gl,4,none⟩=some (.slice (some ⟨gb,0,none⟩) l.bytes.length cb) from c4);clear c3 c4 c6;have i1:(a:Int)<=(q:Nat):=by omega
 have Ua:¬cb=a:=by omega
 have i2:(q:Int)<=(cb:Nat):=by omega
 have i3:(0:Int)<=(a:Nat):=by omega
 refine fQ (λW=>zC W gl 4 (.slice (some ⟨gb,0,none⟩) l.bytes.length cb)) (λ_=>false) ?_
 repeat (refine bK hS.out ?_)
 refine aC (by kernel_rfl) ?_ _;rename_i K9 aT;refine aT _ _ ?_;clear aT hS;clear i1 i2 i3 Ua hmin;go_wp2_with fail;refine(HK.out _).mono ?_;rintro e w2 ⟨rfl,hb2⟩;replace hb2:zB w1 w2:=⟨hb2.os,hb2.tape,hb2.output,hb2.size,hb2.block⟩;have cG:=cH.trans (hb2.mono cH.size);have c3:=(H3.out.below cG C_).lg.2.2.2.1;go_wp2_with fail;refine(HL.out _).mono ?_;rintro e w3 ⟨rfl,hb3⟩;have dN:=cG.trans (hb3.mono cG.size);clear c3;go_wp2_with fail;refine(HP.out _).mono ?_;rintro e w4 ⟨rfl,hb4⟩;have fC:=dN.trans (hb4.mono dN.size);have qx:zB w1 w4:=hb2.trans ((hb3.mono hb2.size).trans (hb4.mono (zl hb2.size hb3.size)));have hX4:=hb0.below qx hb0.lt;have Fu:(Sp.be 8 k).length=8:=Sp.aV _ _;have hl8:(Sp.be 8 l.life).length=8:=Sp.aV _ _;have sU:(Sp.be 2 (q-a)).length=2:=Sp.aV _ _;have HSEC:Hid (Sp.be 8 k++Sp.be 8 l.life++Sp.be 2 (q-a)++l.part k++Sp.zeros (110-(q-a))=l.sec k):=by
  show _=_;rw[Sp.Lg.sec,tR.out]
 generalize Sp.be 8 k=sk at*;generalize Sp.be 8 l.life=sl at*;generalize Sp.be 2 (q-a)=sp at*;have Vf:(Sp.zeros 128).length=128:=by simp[Sp.zeros]
 have hcp1:Hid (∀ty,(Builtin.copy_ #[129,9] ty #[.slice (some ⟨g5,0,none⟩) 128 128,str (sk++sl++sp)]).run prog w4=.ok (goInt 18) (w4.setRow g5 (eU (Sp.patch (Sp.zeros 128) 0 (sk++(sl++sp)))).toArray)):=by
  intro ty;rw[zh];have:=vw w4 g5 0 128 128 161 (Sp.zeros 128) (sk++(sl++sp)) ty hX4 (by simp;omega) (by simp;omega)
  rwa [show(sk++(sl++sp)).length=18 by simp;omega] at this
 have Ab:=hX4.setRow (eU (Sp.patch (Sp.zeros 128) 0 (sk++(sl++sp)))).toArray;have hp1:(Sp.patch (Sp.zeros 128) 0 (sk++(sl++sp))).length=128:=by rw[Sp.di (by simp;omega)];exact Vf
 have hg5gb:gb≠g5:=by omega
 have YA:=zH λty=>vz (w4.setRow g5 (eU (Sp.patch (Sp.zeros 128) 0 (sk++(sl++sp)))).toArray) g5 18 110 110 161 (Sp.patch (Sp.zeros 128) 0 (sk++(sl++sp))) (l.part k) ty ⟨gb,a,none⟩ (cb-a) Ab (λj v hv=>by
  have hj:j<(l.part k).length:=by have:=(zad.1 hv).1;simpa using this
  have e1:(⟨gb,a,none⟩:Addr).add j=⟨gb,a+j,none⟩:=by unfold Addr.add;split<;>simp_all
  have e2:(⟨gb,0,none⟩:Addr).add (a+j)=⟨gb,a+j,none⟩:=by unfold Addr.add;split<;>simp_all
  rw[e1];refine(World.cell?_of_block (w:=w) (a:=⟨gb,a+j,none⟩) ?_).trans ?_
  ·exact(setRow_other _ _ _ _ hg5gb).trans (fC.block gb Qb)
  ·rw[<-e2];refine hcells (a+j) v ?_;rw[KO] at hv ⊢;rw[HPART.out,zT,zK (by rw[tR.out] at hj;exact hj),zaf] at hv;exact hv) (by rw[tR.out,hp1];omega) (by rw[tR.out];omega)
 rw[tR.out] at YA;have vh:=Ab.setRow (eU (Sp.patch (Sp.patch (Sp.zeros 128) 0 (sk++(sl++sp))) 18 (l.part k))).toArray;have oM:Sp.patch (Sp.patch (Sp.zeros 128) 0 (sk++(sl++sp))) 18 (l.part k)=l.sec k:=by
  rw[<-HSEC.out,Md (by simp;omega),tR.out,<-zh sk sl sp]
 have Zp:=zH vh;clear hX4 Ab vh;go_wp2_with (first
  | (with_reducible refine Lib.wpList_copy_run _ rfl (.tmp 56) (.tmp 61) 129 9 rfl _ _ rfl rfl (hcp1.out _) ?_)
  | (with_reducible refine Lib.wpList_copy_run _ rfl (.tmp 63) (.tmp 64) 129 129 rfl _ _ rfl rfl (YA.out _) ?_))
 simp only[Act.put];rw[oM] at Zp ⊢;obtain⟨w6,Gt⟩:=zE ((w4.setRow g5 (eU (Sp.patch (Sp.zeros 128) 0 (sk++(sl++sp)))).toArray).setRow g5 (eU (l.sec k)).toArray);have hk6:∀b,b<w.heap.size->w6.heap[b]? =w.heap[b]? :=λb hb=>by
  rw[Gt,setRow_other _ _ _ _ (by omega),setRow_other _ _ _ _ (by omega)];exact fC.block b hb
 have sZ:zB w w6:=by rw[Gt];exact below_setRow (below_setRow fC Yn _) Yn _
 rw[<-Gt] at Zp ⊢;clear Gt oM hcp1 YA hp1 Vf HSEC fC qx dN cG hb2 hb3 hb4 hb0;have HI6:=zH (HI.out.below sZ);have HD6:=zH (hd.below sZ);have hSL:=Sp.Lg.xj l k;have c0:=(H3.out.below sZ C_).lg.1;have ve:=bt (P:=prog) w6.drew 129 9 5 g5 0 128 128 (l.sec k) underlying129 underlying5 underlying9 hSL.symm (λj hj=>by
  rw[zaj];exact(Zp.out.cell j).trans (by simpa using pE (l.sec k) j hj))
 have hS:=zH (show w6.drew.cell? ⟨gl,0,none⟩=some (ptr gd)/\(convert 129 9 (.slice (some ⟨g5,0,none⟩) 128 128)).run prog w6.drew=.ok (str (l.sec k)) w6.drew from⟨c0,ve⟩);have FE:=zH fun(W:World) (hb:Below w6.heap.size w6.drew W)=>(show W.cell? ⟨gl,0,none⟩=some (ptr gd)/\(convert 129 9 (.slice (some ⟨g5,0,none⟩) 128 128)).run prog W=.ok (str (l.sec k)) W from
  ⟨(hb.cell (p:=⟨gl,0,none⟩) (zf C_ sZ.size)).trans c0,bt (P:=prog) W 129 9 5 g5 0 128 128 (l.sec k) underlying129 underlying5 underlying9 hSL.symm (λj hj=>by
   rw[zaj];exact(hb.cell (p:=⟨g5,j,none⟩) Zp.out.lt).trans ((Zp.out.cell j).trans (by simpa using pE (l.sec k) j hj)))⟩)
 have HSE:=zH (Ii (w:=w6.drew) (HI6.out.below (zR w6).drew) k hkl (by omega));have XM:=Sp.Lg.kg h1 k;clear ve c0;refine fQ (λW=>zC W gl 0 (ptr gd)/\(convert 129 9 (.slice (some ⟨g5,0,none⟩) 128 128)).run prog W=.ok (str (l.sec k)) W) (λj=>decide (9<=j)) ?_
 repeat (refine bK hS.out ?_)
 refine aI 6 72 (w':=w6.drew) rfl rfl (by rfl) (by kernel_rfl) ?_ HSE.out ?_
 ·go_simp
 rintro e w7 ⟨rfl,jZ⟩;replace jZ:zB w6 w7:=⟨jZ.os,jZ.tape,jZ.output,jZ.size,jZ.block⟩;refine⟨_,rfl,λ_=>FE.out w7 ⟨jZ.os,jZ.tape,jZ.output,jZ.size,jZ.block⟩,?_⟩;simp only[zSA,zSB,zSC];have oN:=sZ.trans (jZ.mono sZ.size);have HWR:=zH (nG (w:=w7) (HD6.out.below jZ) (l.dQ k) (l.sec k) (by omega) hSL MI hlo);clear hS FE HSE HI6 HD6 jZ;refine aI 9 75 (w':=w7) rfl rfl (by rfl) (by kernel_rfl) ?_ HWR.out ?_
 ·go_simp
 rintro e w8 ⟨D',rfl,hD8,ig⟩;refine⟨_,rfl,(λh=>nomatch h),?_⟩;simp only[zSA,zSB,zSC];refine fe 10 4 (v:=.int .i64 0) (w':=w8) rfl (by go_simp) (λh=>nomatch h) ?_;refine aC (by kernel_rfl) ?_ _;rename_i K9 aT;refine aT _ _ ?_;clear aT;have uj:=(aa.az oN D).trans ig;have HD8:=zH hD8;clear hD8 ig HWR;go_wp2_with fail;go_ret;exact⟨D',rfl,HD8.out,uj⟩
end
end Go.Proofs.YtfpjlkdklgokiaaGreat
