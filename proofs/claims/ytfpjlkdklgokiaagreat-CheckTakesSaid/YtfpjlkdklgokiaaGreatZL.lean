/- A part of the proof of CheckTakes. -/
import Derived.ChangeSlices
import Derived.Deep.Slices
import Derived.SizedLaws
import Derived.SliceStrings
import Derived.Test.YtfpjlkdklgokiaaGreatZK
namespace Go.Proofs.YtfpjlkdklgokiaaGreat
set_option maxRecDepth 100000
set_option maxHeartbeats 40000000
open Go.RowKit
open Go.Proofs.Tryz
variable {n g k gp gd c gl i id b s r cb mb fb cd h N m fuel j ct p B cap sz gr z gt x aL:Nat} {v c1 c2 c3 c0 c5 c4:Value} {w' W:World} {A D T:Option Addr} {a:Act} {ids q fl l rest:List Nat} {xs fs:List Value} {o oi:Oper} {listed:Array Bool} {P:Program} {e t:TypeId} {args cs' buf:Array Value} {tm:Bool}
open Go.RowKit Go.Conc
namespace Sp
theorem iX {A B:Bs} {v a:Nat} (ha:A.length=a) (hv:v<256 ^ k):num (((A++(be k v++B)).drop a).take k)=v:=by
 rw[zav ha,zaz (aV k v),cV hv]
def bI.h17 (x:bI):Bs:=(dy x).head
theorem bI.I6 (x:bI):x.h17.length=17:=by simp[bI.h17,Rec.head]
theorem bI.text_eq (x:bI):x.text=x.h17++x.bytes:=rfl
theorem bI.oA (x:bI):x.text.length=35+12*x.d.length+32*x.t.length:=by
 rw[bI.text_eq,zo,bI.I6];unfold bI.bytes bI.pre;simp only[zo,aV,cw,eK];omega
structure bI.Reads (x:bI) (s:Bs):Prop where
 len:s.length=35+12*x.d.length+32*x.t.length
 k0:Sp.num ((s.drop 0).take 1)=8
 k1:Sp.num ((s.drop 1).take 8)=0
 k2:Sp.num ((s.drop 9).take 8)=0
 tx:Sp.num ((s.drop 17).take 8)=x.tx
 num_:Sp.num ((s.drop 25).take 8)=x.num
 dl:Sp.num ((s.drop 33).take 1)=x.d.length
 d1:∀k,(hk:k<x.d.length)->Sp.num ((s.drop (34+12*k)).take 4)=x.d[k].1
 d2:∀k,(hk:k<x.d.length)->Sp.num ((s.drop (34+12*k+4)).take 8)=x.d[k].2
 tl:Sp.num ((s.drop (34+12*x.d.length)).take 1)=x.t.length
 t1:∀k,(hk:k<x.t.length)->Sp.num ((s.drop (35+12*x.d.length+32*k)).take 8)=x.t[k].tx
 t2:∀k,(hk:k<x.t.length)->Sp.num ((s.drop (35+12*x.d.length+32*k+8)).take 8)=x.t[k].first
 t3:∀k,(hk:k<x.t.length)->Sp.num ((s.drop (35+12*x.d.length+32*k+16)).take 8)=x.t[k].last
 t4:∀k,(hk:k<x.t.length)->Sp.num ((s.drop (35+12*x.d.length+32*k+24)).take 8)=x.t[k].next
theorem tu {l:List (Nat×Nat)} (h:k<l.length):fW l=fW (l.take k)++(be 4 l[k].1++(be 8 l[k].2++fW (l.drop (k+1)))):=by
 have e:l=l.take k++l[k]::l.drop (k+1):=by rw[List.getElem_cons_drop,zS]
 refine(congrArg fW e).trans ?_;unfold fW;rw[List.flatMap_append,List.flatMap_cons];simp only[zh]
theorem Cz {l:List Ac} (h:k<l.length):fS l=fS (l.take k)++(be 8 l[k].tx++(be 8 l[k].first++(be 8 l[k].last++(be 8 l[k].next++fS (l.drop (k+1)))))):=by
 have e:l=l.take k++l[k]::l.drop (k+1):=by rw[List.getElem_cons_drop,zS]
 refine(congrArg fS e).trans ?_;unfold fS;rw[List.flatMap_append,List.flatMap_cons];simp only[zh]
theorem bI.reads (x:bI) (hF:x.Fits):x.Reads x.text:=by
 have hd:=hF.dl;have ht:=hF.tl;have e:x.text=be 1 8++(be 8 0++(be 8 0++(be 8 x.tx++(be 8 x.num++(be 1 x.d.length++(fW x.d++(be 1 x.t.length++fS x.t))))))):=by
  unfold bI.text bI.bytes bI.pre Rec.head;simp[dy]
 refine⟨x.oA,?_,?_,?_,?_,?_,?_,λk hk=>?_,λk hk=>?_,?_,λk hk=>?_,λk hk=>?_,λk hk=>?_,λk hk=>?_⟩
 ·rw[e];exact iX (A:=[]) rfl (by decide)
 ·rw[e];exact iX (aV 1 8) (by decide)
 ·rw[e,<-zh];exact iX (by simp) (by decide)
 ·rw[e,<-zh,<-zh];exact iX (by simp) hF.x64
 ·rw[e,<-zh,<-zh,<-zh];exact iX (by simp) hF.rV
 ·rw[e,<-zh,<-zh,<-zh,<-zh];exact iX (by simp) (by omega)
 ·have h0:=hF.d0 _ (zw hk);rw[e,tu hk];simp only[zh];rw[<-zh,<-zh,<-zh,<-zh,<-zh,<-zh];exact iX (by simp[cw];omega) (by omega)
 ·have h0:=hF.d0 _ (zw hk);rw[e,tu hk];simp only[zh];rw[<-zh,<-zh,<-zh,<-zh,<-zh,<-zh,<-zh];exact iX (by simp[cw];omega) (by omega)
 ·rw[e,<-zh,<-zh,<-zh,<-zh,<-zh,<-zh];exact iX (by simp[cw];omega) (by omega)
 all_goals
  have h0:=hF.t0 _ (zw hk);rw[e,Cz hk];rw[<-zh,<-zh,<-zh,<-zh,<-zh,<-zh,<-zh,<-zh]
 ·exact iX (by simp[cw,eK];omega) (by omega)
 ·rw[<-zh];exact iX (by simp[cw,eK];omega) (by omega)
 ·rw[<-zh,<-zh];exact iX (by simp[cw,eK];omega) (by omega)
 ·rw[<-zh,<-zh,<-zh];exact iX (by simp[cw,eK];omega) (by omega)
end Sp
abbrev r8 (nd nt tx num:Nat):Sp.Rec:=⟨8,0,0,0,0,0,0,[],nd,nt,tx,num⟩
abbrev dF (g4 g5 g7:Nat):af:=λb=>b=g4\/b=g5\/b=g7
def D8 (g1 g4 g5 g7:Nat) (x:Sp.bI) (s:Sp.Bs) (ot:World) (k:Nat) (wr:World):Prop:=
 ∃(A:Option Addr) (c:Nat),aj wr g7 84 (ai (r8 k 0 x.tx x.num) A none c 0)/\wr.ownsRow ot.heap.size 111 2 (.slice A k c) k (tj (x.d.take k))/\tI g1 g4 g5 s (34+12*k) wr/\aa (dF g4 g5 g7) (dF g4 g5 g7) ot wr
def T8 (g1 g4 g5 g7:Nat) (x:Sp.bI) (s:Sp.Bs) (A1:Option Addr) (k1:Nat) (JR:World) (k:Nat) (wr:World):Prop:=
 ∃(A:Option Addr) (c:Nat),aj wr g7 84 (ai (r8 x.d.length k x.tx x.num) A1 A k1 c)/\wr.ownsRow JR.heap.size 113 4 (.slice A k c) k (tG (x.t.take k))/\tI g1 g4 g5 s (35+12*x.d.length+32*k) wr/\aa (dF g4 g5 g7) (dF g4 g5 g7) JR wr
theorem xN {w:World} {base e size:Nat} (h:w.ownsRow base e size (.slice A m c) n xs):Reads (λb=>base<=b) w size A n xs:=by
 rcases h.2 with⟨h0,h1⟩ | ⟨g,cap,cur,h0,_⟩
 ·injection h0 with h2 _ _;subst h2 h1;exact⟨h.1,λe=>by omega⟩
 ·injection h0 with h2 h3 h4;subst h2 h3 h4;exact eX h
theorem Ro {l:List (Nat×Nat)} (h:k<l.length):tj (l.take (k+1))=tj (l.take k)++[.int .u32 (l[k].1:Nat),.int .u64 (l[k].2:Nat)]:=by
 unfold tj;rw[zg h,zI,List.flatten_append];simp
theorem RN {l:List Sp.Ac} (h:k<l.length):tG (l.take (k+1))=tG (l.take k)++[.int .u64 (l[k].tx:Nat),.int .u64 (l[k].first:Nat),.int .u64 (l[k].last:Nat),.int .u64 (l[k].next:Nat)]:=by
 unfold tG;rw[zg h,zI,List.flatten_append];simp
theorem pO {w:World} {base e size:Nat} {F F':af} (h:w.ownsRow base e size v n xs) (ht:aa F F' w w') (hk:∀b,base<=b->¬F b):w'.ownsRow base e size v n xs:=
 aN h (λb hb=>ht.block b (h.lt b hb).2 (hk b (h.lt b hb).1))
theorem EG {x:Sp.bI} (hF:x.Fits) (w:World):
 Calls prog 35 #[str x.text] w λe w'=>∃D T cd ct,e=.returned (.tuple #[cE (dy x) D T cd ct,.int .i64 0])/\bS (λb=>w.heap.size<=b) w' x D T/\zB w w':=by
 have HR:=zH (x.reads hF);have hlen:=x.oA;have Gz:=hF.dl;have Gv:=hF.tl;have HF:=zH hF;have ZT:=zH fun(W:World) (G:af) (D T:Option Addr) (cd ct:Nat) (h:bS G W x D T)=>uP (cd:=cd) (ct:=ct) h hF;clear hF;generalize x.text=s at*;obtain⟨w1,hw1⟩:=zE ((((w.alloc (.cells #[str s] 9)).alloc (.cells (ai cC none none 0 0) 84)).alloc (.cells #[.int .i64 0] 3)).alloc (.cells #[.bool true] 4));obtain⟨a1,a2,a4,a5,hb1⟩:=J3 w 9 84 3 4 #[str s] (ai cC none none 0 0) #[.int .i64 0] #[.bool true];rw[<-hw1] at a1 a2 a4 a5 hb1;go_enter func35,ntmps35;go_upto_region 3 with fail;change Code.wp _ _ _ _ ((((w.alloc (.cells #[str s] 9)).alloc (.cells (ai cC none none 0 0) 84)).alloc (.cells #[.int .i64 0] 3)).alloc (.cells #[.bool true] 4));rw[<-hw1];obtain⟨g1,hg1⟩:=zE w.heap.size;obtain⟨g2,hg2⟩:=zE (w.heap.size+1);obtain⟨g4,hg4⟩:=zE (w.heap.size+1+1);obtain⟨g5,jm⟩:=zE (w.heap.size+1+1+1);rw[<-jm] at a5 ⊢;rw[<-hg4] at a4 ⊢;rw[<-hg2] at a2 ⊢;rw[<-hg1] at a1 ⊢;have Qa:w.heap.size<=g1/\g1<g2/\g2<g4/\g4<g5:=⟨by omega,by omega,by omega,by omega⟩;have pH:=zH (show tI g1 g4 g5 s 0 w1 from⟨a1,a4,a5,by omega,by omega,by omega⟩);clear hw1 hg1 hg2 hg4 jm a1 a4 a5;have ZI:=zH (dL pH.out (size:=1) (by omega) (by omega) (by omega) (by omega));rw[HR.out.k0] at ZI;go_wp2_with fail;refine ZI.out.mono ?_;rintro e w2 ⟨rfl,hn2,dx⟩;have DO:=zH (dL hn2 (size:=8) (by omega) (by omega) (by omega) (by omega));rw[show 0+1=1 from rfl,HR.out.k1] at DO;clear ZI pH hn2;go_wp2_with fail;refine DO.out.mono ?_;rintro e w3 ⟨rfl,qN,gA⟩;have ZG:=zH (dL qN (size:=8) (by omega) (by omega) (by omega) (by omega));rw[show 1+8=9 from rfl,HR.out.k2] at ZG;clear DO qN;go_wp2_with fail;refine ZG.out.mono ?_;rintro e w4 ⟨rfl,sW,pV⟩;clear ZG;have gW:=(dx.trans gA).trans pV;have Gx:=gW.size;have hs1:=hb1.size;have fC:=hb1.trans (gW.below hb1.size (λb hb=>by rcases hb with rfl | rfl<;>omega));have Zg:=a2.turns gW (λhb=>by rcases hb with e | e<;>omega);have ha2:=a2.lt;clear dx gA pV;have cS:zB w4 (w4.alloc (.cells (ai (r8 0 0 0 0) none none 0 0) 84)):=(zR w4).alloc (za _) _;have a7:=aj.new w4 84 (ai (r8 0 0 0 0) none none 0 0);have uZ:=sW.below cS;have a25:=Zg.below cS Zg.lt;have gK:=fC.trans (cS.mono fC.size);clear gW a2 Zg hb1;go_upto_region 4 with fail;change Code.wp _ _ _ _ (w4.alloc (.cells (ai (r8 0 0 0 0) none none 0 0) 84));generalize w4.alloc (.cells (ai (r8 0 0 0 0) none none 0 0) 84)=w5 at cS a7 uZ a25 gK ⊢;obtain⟨g7,mS⟩:=zE w4.heap.size;rw[<-mS] at a7 ⊢;have hge7:g5<g7:=by have:=sW.all.lt;omega
 clear mS sW cS;have c0:=a7.cell 0;simp only[ai,zGA,zGC] at c0;have HN3:=zH (dL uZ (size:=8) (by omega) (by omega) (by omega) (by omega));rw[show 9+8=17 from rfl,HR.out.tx] at HN3;clear uZ;go_wp2_with fail;refine HN3.out.mono ?_;rintro e w6 ⟨rfl,hn6,iA⟩;have HN4:=zH (dL hn6 (size:=8) (by omega) (by omega) (by omega) (by omega));rw[show 17+8=25 from rfl,HR.out.num_] at HN4;clear HN3 hn6 c0;go_wp2_with fail;refine HN4.out.mono ?_;rintro e w7 ⟨rfl,SB,iU⟩;have h57:=iA.trans iU;have a77:=a7.turns h57 (λhb=>by rcases hb with e | e<;>omega);have a27:=a25.turns h57 (λhb=>by rcases hb with e | e<;>omega);have p10:=a77.cell 10;have f10:=a77.frozen 10;simp only[ai,zGA,zGC,zGB] at p10;have a78:=a77.a_ 10 (.int .u64 (x.tx:Nat));have p11:=a78.cell 11;have f11:=a78.frozen 11;have a79:=a78.a_ 11 (.int .u64 (x.num:Nat));have qP:∀b,b≠g7->((w7.setCell ⟨g7,10,none⟩ (.int .u64 (x.tx:Nat))).setCell ⟨g7,11,none⟩ (.int .u64 (x.num:Nat))).heap[b]? =w7.heap[b]? :=λb hb=>(Below.heap_setCell _ _ _ b hb).trans (Below.heap_setCell _ _ _ b hb);have HN9:=zH (SB.keep (w':=(w7.setCell ⟨g7,10,none⟩ (.int .u64 (x.tx:Nat))).setCell ⟨g7,11,none⟩ (.int .u64 (x.num:Nat))) (λb hb=>qP b (by rcases hb with e | e | e<;>omega)));have HA9:=zH (show aj ((w7.setCell ⟨g7,10,none⟩ (.int .u64 (x.tx:Nat))).setCell ⟨g7,11,none⟩ (.int .u64 (x.num:Nat))) g7 84 (ai (r8 0 0 x.tx x.num) none none 0 0) from a79);have Gk:=zH (a27.keep (qP g2 (by omega)));have oN:=gK.trans (h57.below gK.size (λb hb=>by rcases hb with rfl | rfl<;>omega));have tL:=zH ((oN.setCell (p:=⟨g7,10,none⟩) (show w.heap.size<=g7 by omega) (.int .u64 (x.tx:Nat))).setCell (p:=⟨g7,11,none⟩) (show w.heap.size<=g7 by omega) (.int .u64 (x.num:Nat)));clear HN4 SB iA iU h57 a7 a25 a77 a27 a78 a79 qP gK oN fC;go_upto_region 14 with fail;generalize(w7.setCell ⟨g7,10,none⟩ (.int .u64 (x.tx:Nat))).setCell ⟨g7,11,none⟩ (.int .u64 (x.num:Nat))=w9 at HN9 HA9 Gk tL ⊢;have ZH:=zH (dL HN9.out (size:=1) (by omega) (by omega) (by omega) (by omega));rw[show 17+8+8=33 from rfl,HR.out.dl] at ZH;go_wp2_with fail;refine ZH.out.mono ?_;rintro e ot ⟨rfl,hn10,sR⟩;have hz9:=sR.size;have U0:=zH (HA9.out.turns sR (λhb=>by rcases hb with e | e<;>omega));have Ww:=zH (Gk.out.turns sR (λhb=>by rcases hb with e | e<;>omega));have DU:=zH (tL.out.trans (sR.below tL.out.size (λb hb=>by rcases hb with rfl | rfl<;>omega)));have Wk:=zH (show D8 g1 g4 g5 g7 x s ot 0 ot from⟨none,0,U0.out,World.ownsRow_nil _ _ _ _,hn10,aa.refl _ _⟩);have hg7w:=U0.out.lt;have hdl0:x.d.length<=64:=Gz;clear hn10 sR ZH HN9 HA9 Gk tL;go_wp2_with fail;go_loopw [55] (λv55 wr=>∃k:Nat,k<=x.d.length/\v55=.int .u64 k/\D8 g1 g4 g5 g7 x s ot k wr) (λv55 _=>x.d.length-(intOf v55).toNat)
 case atStart=>exact⟨0,by omega,rfl,Wk.out⟩
 case round=>
  clear Wk;obtain⟨k,hk,rfl,hD⟩:=hrel;by_cases hlt:k<x.d.length
  ·obtain⟨A,c,pX,hO,hN,hT⟩:=hD;have hcell:wr.cell? ⟨g7,8,none⟩=some (.slice A k c):=pX.cell 8;have nE:=HF.out.d0 x.d[k] (zw hlt);have GA:=HR.out.d1 k hlt;have hd2:=HR.out.d2 k hlt;have gJ:=Ro hlt;have hzr:=hT.size;obtain⟨x1,hx1⟩:=zE (x.d[k].1);obtain⟨x2,hx2⟩:=zE (x.d[k].2);rw[<-hx1] at nE GA gJ;rw[<-hx2] at nE hd2 gJ;have hcv:IntKind.u32.wrap (x1:Int)=(x1:Nat):=by rw[IntKind.wrap_u32];omega
   have hmeas:k+1<=x.d.length:=hlt;have q64:IntKind.u64.wrap ((k:Int)+1)=((k+1:Nat):Int):=by rw[IntKind.wrap_u64];omega
   have q1:decide ((k:Int)<(x.d.length:Int))=true:=by rw[zx];omega
   clear hx1 hx2;go_upto_region 16 with fail;have hS:=zH (show wr.drew.cell? ⟨g7,8,none⟩=some (.slice A k c) from hcell);refine fQ (λW=>zC W g7 8 (.slice A k c)) (λj=>decide (13<=j)) ?_
   repeat (refine bK hS.out ?_)
   have hn0:tI g1 g4 g5 s (34+12*k) wr.drew:=hN.keep (λ_ _=>rfl);have Fl:aa (dF g4 g5 g7) (dF g4 g5 g7) ot wr.drew:=hT.drew;have ZV:=zH (dL hn0 (size:=4) (by omega) (by omega) (by omega) (by omega));rw[GA] at ZV;refine aI 4 61 (w':=wr.drew) rfl rfl (by rfl) (by kernel_rfl) ?_ ZV.out ?_
   ·go_simp
   rintro e y1 ⟨rfl,hn1,hy0⟩;have hS1:=zH (show y1.cell? ⟨g7,8,none⟩=some (.slice A k c) from(World.cell?_of_block (a:=⟨g7,8,none⟩) (hy0.block g7 (by have:=Fl.size;omega) (λe=>by rcases e with e | e<;>omega))).trans hS.out);have gX:=Fl.trans (hy0.fw (F:=dF g4 g5 g7) (F':=dF g4 g5 g7) (λb hb=>hb.elim .inl (λh=>.inr (.inl h))) (λb hb=>.inl hb));clear ZV;refine⟨_,rfl,λ_=>hS1.out,?_⟩;simp only[zSA,zSB,zSC]
   repeat (refine bK hS1.out ?_)
   have Bl:=zH (dL hn1 (size:=8) (by omega) (by omega) (by omega) (by omega));rw[hd2] at Bl;refine aI 7 64 (w':=y1) rfl rfl (by rfl) (by kernel_rfl) ?_ Bl.out ?_
   ·go_simp
   rintro e y2 ⟨rfl,hn2,hy1⟩;have gB:=zH (show y2.cell? ⟨g7,8,none⟩=some (.slice A k c) from(World.cell?_of_block (a:=⟨g7,8,none⟩) (hy1.block g7 (by have:=gX.size;omega) (λe=>by rcases e with e | e<;>omega))).trans hS1.out);have dx:=gX.trans (hy1.fw (F:=dF g4 g5 g7) (F':=dF g4 g5 g7) (λb hb=>hb.elim .inl (λh=>.inr (.inl h))) (λb hb=>.inl hb));clear Bl;refine⟨_,rfl,λ_=>gB.out,?_⟩;simp only[zSA,zSB,zSC]
   repeat (refine bK gB.out ?_)
   have hb1:=aj.new y2 111 ([.int .u32 x1,.int .u64 x2]:List Value).toArray;have GN:=zH (e8 (cs:=[.int .u32 x1,.int .u64 x2]) hb1);have hyA:=hy0.trans hy1;have uY:=(pO (w:=wr.drew) hO hyA (λb hb hf=>by rcases hf with e | e<;>omega)).alloc (.cells #[.int .u32 x1,.int .u64 x2] 111);have Mv:=dx.alloc (.cells #[.int .u32 x1,.int .u64 x2] 111);have hna:=hn2.below ((zR y2).alloc (za _) (.cells #[.int .u32 x1,.int .u64 x2] 111));have SF:=zH (show(y2.alloc (.cells #[.int .u32 x1,.int .u64 x2] 111)).cell? ⟨g7,8,none⟩=some (.slice A k c) from(Below.cell (p:=⟨g7,8,none⟩) ((zR y2).alloc (za _) _) (by have:=dx.size;show g7<_;omega)).trans gB.out);refine fe 9 66 (v:=.slice (some ⟨y2.heap.size,0,none⟩) 1 1) (w':=y2.alloc (.cells #[.int .u32 x1,.int .u64 x2] 111)) rfl (by go_simp<;>rfl) (λ_=>SF.out) ?_;obtain⟨ip,Km,oK,hp1,sU⟩:=info_parts rO;obtain⟨v7,z1,Kj,qU,yx,rJ⟩:=gS (P:=prog) (w:=y2.alloc (.cells #[.int .u32 x1,.int .u64 x2] 111)) ot.heap.size 33 33 111 ip _ 2 16 underlying33 Km oK hp1 sU rfl (by decide) (.slice A k c) k _ uY ⟨y2.heap.size,0,none⟩ 1 1 [.int .u32 x1,.int .u64 x2] rfl GN.out (by simp[Value.oneCell']) (by unfold maxLen;omega) (by omega) (by have:=Mv.size;omega);have hown:(Value.slice A k c).ownBlock≠some g7:=λe=>by have:=(hO.lt g7 e).1;omega
   have GD:=zH (show z1.cell? ⟨g7,8,none⟩=some (.slice A k c) from(World.cell?_of_block (a:=⟨g7,8,none⟩) (yx.block g7 (by have:=Mv.size;omega) (λe=>hown e.symm))).trans SF.out);refine fe 10 67 (v:=v7) (w':=z1) rfl (gC _ _ _ rfl rfl rfl Kj) (λ_=>GD.out) ?_;obtain⟨Av,nv,cv,rfl⟩:∃A n c,v7=.slice A n c:=by
    rcases qU.2 with⟨h0,_⟩ | ⟨g',cap,cur,h0,_⟩
    ·exact⟨_,_,_,h0⟩
    ·exact⟨_,_,_,h0⟩
   have hnv:nv=k+1:=by
    rcases qU.2 with⟨h0,h1⟩ | ⟨g',cap,cur,h0,_⟩
    ·omega
    ·injection h0
   subst hnv;have Y1:=((pX.drew.turns hyA (λe=>by rcases e with e | e<;>omega)).alloc (.cells #[.int .u32 x1,.int .u64 x2] 111)).grown yx (λe=>hown e.symm);have f8:=Y1.frozen 8;have MX:=Y1.a_ 8 (.slice Av (k+1) cv);have hnb:=(hna.keep (λb hb=>yx.block b (by have:=hna.s.lt;have:=hna.at_.lt;have:=hna.all.lt;rcases hb with e | e | e<;>omega) (λe=>by have h1:=(hO.lt b e.symm).1;rcases hb with e | e | e<;>omega))).keep (w':=z1.setCell ⟨g7,8,none⟩ (.slice Av (k+1) cv)) (λb hb=>Below.heap_setCell _ _ _ b (by rcases hb with e | e | e<;>show b≠g7<;>omega));have htb:=(Mv.grown yx (λb e=>.inr (hO.lt b e).1)).setCell (p:=⟨g7,8,none⟩) (.inl (.inr (.inr rfl))) (.slice Av (k+1) cv);have hOb:=aN (w':=z1.setCell ⟨g7,8,none⟩ (.slice Av (k+1) cv)) qU (λb hb=>Below.heap_setCell z1 _ _ b (λe=>by have e:b=g7:=e;have:=(qU.lt b hb).1;omega))
   repeat (refine bK GD.out ?_)
   have b8:=GD.out;refine jx 13 (w':=z1.setCell ⟨g7,8,none⟩ (.slice Av (k+1) cv)) rfl (by go_simp) (λh=>nomatch h) ?_;refine aC (by kernel_rfl) ?_ _;rename_i K9 aT;refine aT _ _ ?_;clear aT;have HX:=zH (show D8 g1 g4 g5 g7 x s ot (k+1) (z1.setCell ⟨g7,8,none⟩ (.slice Av (k+1) cv)) from⟨Av,cv,MX,by rw[gJ];exact hOb,by rw[show 34+12*(k+1)=34+12*k+4+8 by omega];exact hnb,htb⟩);clear hS hS1 gB SF GD hn0 hn1 hn2 Fl gX dx Mv hna uY hb1 GN qU yx rJ Kj Y1 MX hnb htb hOb pX hO hN hT f8 b8 hcell gJ GA hd2 hy0 hy1;go_wp2_with fail;go_roundw
   case rel=>exact⟨k+1,hmeas,by go_num,HX.out⟩
   case measure=>simp[intOf];omega
  ·obtain rfl:k=x.d.length:=by omega
   obtain⟨A1,k1,pX,hO,hN,hT⟩:=hD;rw[zL] at hO;have HC:=zH (dL hN (size:=1) (by omega) (by omega) (by omega) (by omega));rw[HR.out.tl] at HC;have hzr:=hT.size;have NQ:=zH pX;have HO:=zH hO;have jA:=zH (DU.out.trans (hT.below DU.out.size (λb hb=>by rcases hb with rfl | rfl | rfl<;>omega)));have HA2r:=zH (Ww.out.turns hT (λhb=>by rcases hb with e | e | e<;>omega));clear pX hO hN hT hk hlt;go_wp2_with fail;refine HC.out.mono ?_;rintro e JR ⟨rfl,hn11,Mw⟩;have hz11:=Mw.size;have UZ:=zH (NQ.out.turns Mw (λhb=>by rcases hb with e | e<;>omega));have Wv:=zH (HA2r.out.turns Mw (λhb=>by rcases hb with e | e<;>omega));have HO11:=zH (pO HO.out Mw (λb hb hf=>by rcases hf with e | e<;>omega));have rU:=zH (jA.out.trans (Mw.below jA.out.size (λb hb=>by rcases hb with rfl | rfl<;>omega)));have Wk:=zH (show T8 g1 g4 g5 g7 x s A1 k1 JR 0 JR from⟨none,0,UZ.out,World.ownsRow_nil _ _ _ _,by rw[show 35+12*x.d.length+32*0=34+12*x.d.length+1 by omega];exact hn11,aa.refl _ _⟩);clear hn11 Mw HC NQ HA2r HO jA;go_wp2_with fail;go_loopw [73] (λv55 wr=>∃k:Nat,k<=x.t.length/\v55=.int .u64 k/\T8 g1 g4 g5 g7 x s A1 k1 JR k wr) (λv55 _=>x.t.length-(intOf v55).toNat)
   case atStart=>exact⟨0,by omega,rfl,Wk.out⟩
   case round=>
    clear Wk;obtain⟨k,hk,rfl,hD⟩:=hrel;by_cases hlt:k<x.t.length
    ·obtain⟨A,c,pX,hO,hN,hT⟩:=hD;have hcell:wr.cell? ⟨g7,9,none⟩=some (.slice A k c):=pX.cell 9;have nE:=HF.out.t0 x.t[k] (zw hlt);have GA:=HR.out.t1 k hlt;have hd2:=HR.out.t2 k hlt;have Qi:=HR.out.t3 k hlt;have hd4:=HR.out.t4 k hlt;have gJ:=RN hlt;have hzr:=hT.size;obtain⟨x1,hx1⟩:=zE (x.t[k].tx);obtain⟨x2,hx2⟩:=zE (x.t[k].first);obtain⟨x3,hx3⟩:=zE (x.t[k].last);obtain⟨x4,hx4⟩:=zE (x.t[k].next);rw[<-hx1] at nE GA gJ;rw[<-hx2] at nE hd2 gJ;rw[<-hx3] at nE Qi gJ;rw[<-hx4] at nE hd4 gJ;have hmeas:k+1<=x.t.length:=hlt;have q1:decide ((k:Int)<(x.t.length:Int))=true:=by rw[zx];omega
     clear hx1 hx2 hx3 hx4;go_upto_region 20 with fail;have hS:=zH (show wr.drew.cell? ⟨g7,9,none⟩=some (.slice A k c) from hcell);refine fQ (λW=>zC W g7 9 (.slice A k c)) (λj=>decide (16<=j)) ?_
     repeat (refine bK hS.out ?_)
     have hn0:tI g1 g4 g5 s (35+12*x.d.length+32*k) wr.drew:=hN.keep (λ_ _=>rfl);have Fl:aa (dF g4 g5 g7) (dF g4 g5 g7) JR wr.drew:=hT.drew;have ZV:=zH (dL hn0 (size:=8) (by omega) (by omega) (by omega) (by omega));rw[GA] at ZV;refine aI 4 79 (w':=wr.drew) rfl rfl (by rfl) (by kernel_rfl) ?_ ZV.out ?_
     ·go_simp
     rintro e y1 ⟨rfl,hn1,hy0⟩;have hS1:=zH (show y1.cell? ⟨g7,9,none⟩=some (.slice A k c) from(World.cell?_of_block (a:=⟨g7,9,none⟩) (hy0.block g7 (by have:=Fl.size;omega) (λe=>by rcases e with e | e<;>omega))).trans hS.out);have gX:=Fl.trans (hy0.fw (F:=dF g4 g5 g7) (F':=dF g4 g5 g7) (λb hb=>hb.elim .inl (λh=>.inr (.inl h))) (λb hb=>.inl hb));clear ZV;refine⟨_,rfl,λ_=>hS1.out,?_⟩;simp only[zSA,zSB,zSC];have Bl:=zH (dL hn1 (size:=8) (by omega) (by omega) (by omega) (by omega));rw[hd2] at Bl;refine aI 6 81 (w':=y1) rfl rfl (by rfl) (by kernel_rfl) ?_ Bl.out ?_
     ·go_simp
     rintro e y2 ⟨rfl,hn2,hy1⟩;have gB:=zH (show y2.cell? ⟨g7,9,none⟩=some (.slice A k c) from(World.cell?_of_block (a:=⟨g7,9,none⟩) (hy1.block g7 (by have:=gX.size;omega) (λe=>by rcases e with e | e<;>omega))).trans hS1.out);have dx:=gX.trans (hy1.fw (F:=dF g4 g5 g7) (F':=dF g4 g5 g7) (λb hb=>hb.elim .inl (λh=>.inr (.inl h))) (λb hb=>.inl hb));clear Bl;refine⟨_,rfl,λ_=>gB.out,?_⟩;simp only[zSA,zSB,zSC];have HC2:=zH (dL hn2 (size:=8) (by omega) (by omega) (by omega) (by omega));rw[show 35+12*x.d.length+32*k+8+8=35+12*x.d.length+32*k+16 by omega,Qi] at HC2;refine aI 8 83 (w':=y2) rfl rfl (by rfl) (by kernel_rfl) ?_ HC2.out ?_
     ·go_simp
     rintro e y3 ⟨rfl,qN,sP⟩;have gz:=zH (show y3.cell? ⟨g7,9,none⟩=some (.slice A k c) from(World.cell?_of_block (a:=⟨g7,9,none⟩) (sP.block g7 (by have:=dx.size;omega) (λe=>by rcases e with e | e<;>omega))).trans gB.out);have gA:=dx.trans (sP.fw (F:=dF g4 g5 g7) (F':=dF g4 g5 g7) (λb hb=>hb.elim .inl (λh=>.inr (.inl h))) (λb hb=>.inl hb));clear HC2;refine⟨_,rfl,λ_=>gz.out,?_⟩;simp only[zSA,zSB,zSC];have Wo:=zH (dL qN (size:=8) (by omega) (by omega) (by omega) (by omega));rw[show 35+12*x.d.length+32*k+8+8+8=35+12*x.d.length+32*k+24 by omega,hd4] at Wo;refine aI 10 85 (w':=y3) rfl rfl (by rfl) (by kernel_rfl) ?_ Wo.out ?_
     ·go_simp
     rintro e y4 ⟨rfl,sW,Sz⟩;have nW:=zH (show y4.cell? ⟨g7,9,none⟩=some (.slice A k c) from(World.cell?_of_block (a:=⟨g7,9,none⟩) (Sz.block g7 (by have:=gA.size;omega) (λe=>by rcases e with e | e<;>omega))).trans gz.out);have pV:=gA.trans (Sz.fw (F:=dF g4 g5 g7) (F':=dF g4 g5 g7) (λb hb=>hb.elim .inl (λh=>.inr (.inl h))) (λb hb=>.inl hb));clear Wo;refine⟨_,rfl,λ_=>nW.out,?_⟩;simp only[zSA,zSB,zSC]
     repeat (refine bK nW.out ?_)
     have hb1:=aj.new y4 113 ([.int .u64 x1,.int .u64 x2,.int .u64 x3,.int .u64 x4]:List Value).toArray;have GN:=zH (e8 (cs:=[.int .u64 x1,.int .u64 x2,.int .u64 x3,.int .u64 x4]) hb1);have hyA:=((hy0.trans hy1).trans sP).trans Sz;have uY:=(pO (w:=wr.drew) hO hyA (λb hb hf=>by rcases hf with e | e<;>omega)).alloc (.cells #[.int .u64 x1,.int .u64 x2,.int .u64 x3,.int .u64 x4] 113);have Mv:=pV.alloc (.cells #[.int .u64 x1,.int .u64 x2,.int .u64 x3,.int .u64 x4] 113);have hna:=sW.below ((zR y4).alloc (za _) (.cells #[.int .u64 x1,.int .u64 x2,.int .u64 x3,.int .u64 x4] 113));have SF:=zH (show(y4.alloc (.cells #[.int .u64 x1,.int .u64 x2,.int .u64 x3,.int .u64 x4] 113)).cell? ⟨g7,9,none⟩=some (.slice A k c) from(Below.cell (p:=⟨g7,9,none⟩) ((zR y4).alloc (za _) _) (by have:=pV.size;show g7<_;omega)).trans nW.out);refine fe 12 87 (v:=.slice (some ⟨y4.heap.size,0,none⟩) 1 1) (w':=y4.alloc (.cells #[.int .u64 x1,.int .u64 x2,.int .u64 x3,.int .u64 x4] 113)) rfl (by go_simp<;>rfl) (λ_=>SF.out) ?_;obtain⟨ip,Km,oK,hp1,sU⟩:=info_parts yT;obtain⟨v7,z1,Kj,qU,yx,rJ⟩:=gS (P:=prog) (w:=y4.alloc (.cells #[.int .u64 x1,.int .u64 x2,.int .u64 x3,.int .u64 x4] 113)) JR.heap.size 34 34 113 ip _ 4 32 underlying34 Km oK hp1 sU rfl (by decide) (.slice A k c) k _ uY ⟨y4.heap.size,0,none⟩ 1 1 [.int .u64 x1,.int .u64 x2,.int .u64 x3,.int .u64 x4] rfl GN.out (by simp[Value.oneCell']) (by unfold maxLen;omega) (by omega) (by have:=Mv.size;omega);have hown:(Value.slice A k c).ownBlock≠some g7:=λe=>by have:=(hO.lt g7 e).1;omega
     have GD:=zH (show z1.cell? ⟨g7,9,none⟩=some (.slice A k c) from(World.cell?_of_block (a:=⟨g7,9,none⟩) (yx.block g7 (by have:=Mv.size;omega) (λe=>hown e.symm))).trans SF.out);refine fe 13 88 (v:=v7) (w':=z1) rfl (gC _ _ _ rfl rfl rfl Kj) (λ_=>GD.out) ?_;obtain⟨Av,nv,cv,rfl⟩:∃A n c,v7=.slice A n c:=by
      rcases qU.2 with⟨h0,_⟩ | ⟨g',cap,cur,h0,_⟩
      ·exact⟨_,_,_,h0⟩
      ·exact⟨_,_,_,h0⟩
     have hnv:nv=k+1:=by
      rcases qU.2 with⟨h0,h1⟩ | ⟨g',cap,cur,h0,_⟩
      ·omega
      ·injection h0
     subst hnv;have Y1:=((pX.drew.turns hyA (λe=>by rcases e with e | e<;>omega)).alloc (.cells #[.int .u64 x1,.int .u64 x2,.int .u64 x3,.int .u64 x4] 113)).grown yx (λe=>hown e.symm);have f8:=Y1.frozen 9;have MX:=Y1.a_ 9 (.slice Av (k+1) cv);have hnb:=(hna.keep (λb hb=>yx.block b (by have:=hna.s.lt;have:=hna.at_.lt;have:=hna.all.lt;rcases hb with e | e | e<;>omega) (λe=>by have h1:=(hO.lt b e.symm).1;rcases hb with e | e | e<;>omega))).keep (w':=z1.setCell ⟨g7,9,none⟩ (.slice Av (k+1) cv)) (λb hb=>Below.heap_setCell _ _ _ b (by rcases hb with e | e | e<;>show b≠g7<;>omega));have htb:=(Mv.grown yx (λb e=>.inr (hO.lt b e).1)).setCell (p:=⟨g7,9,none⟩) (.inl (.inr (.inr rfl))) (.slice Av (k+1) cv);have hOb:=aN (w':=z1.setCell ⟨g7,9,none⟩ (.slice Av (k+1) cv)) qU (λb hb=>Below.heap_setCell z1 _ _ b (λe=>by have e:b=g7:=e;have:=(qU.lt b hb).1;omega))
     repeat (refine bK GD.out ?_)
     have b8:=GD.out;refine jx 16 (w':=z1.setCell ⟨g7,9,none⟩ (.slice Av (k+1) cv)) rfl (by go_simp) (λh=>nomatch h) ?_;refine aC (by kernel_rfl) ?_ _;rename_i K9 aT;refine aT _ _ ?_;clear aT;have HX:=zH (show T8 g1 g4 g5 g7 x s A1 k1 JR (k+1) (z1.setCell ⟨g7,9,none⟩ (.slice Av (k+1) cv)) from⟨Av,cv,MX,by rw[gJ];exact hOb,by rw[show 35+12*x.d.length+32*(k+1)=35+12*x.d.length+32*k+8+8+8+8 by omega];exact hnb,htb⟩);clear hS hS1 gB gz nW SF GD hn0 hn1 hn2 qN sW Fl gX dx gA pV Mv hna uY hb1 GN qU yx rJ Kj Y1 MX hnb htb hOb pX hO hN hT f8 b8 hcell gJ GA hd2 Qi hd4 hy0 hy1 sP Sz;go_wp2_with fail;go_roundw
     case rel=>exact⟨k+1,hmeas,by go_num,HX.out⟩
     case measure=>simp[intOf];omega
    ·obtain rfl:k=x.t.length:=by omega
     obtain⟨A2,k2,pX,hO,hN,hT⟩:=hD;rw[zL] at hO;have Ks:=pO HO11.out hT (λb hb hf=>by rcases hf with e | e | e<;>omega);have hz12:=hT.size;have De:bS (λb=>ot.heap.size<=b) wr x A1 A2:=⟨xN Ks,(xN hO).mono (λb hb=>by have hb:JR.heap.size<=b:=hb;show _<=b;omega)⟩;have hBw:=rU.out.trans (hT.below rU.out.size (λb hb=>by rcases hb with rfl | rfl | rfl<;>omega));have oq:=Wv.out.turns hT (λhb=>by rcases hb with e | e | e<;>omega);have Iz:ai (r8 x.d.length x.t.length x.tx x.num) A1 A2 k1 k2=ai (dy x) A1 A2 k1 k2:=rfl;rw[Iz] at pX;have c0:wr.cell? ⟨g7,0,none⟩=some (.int .u8 8):=pX.cell 0;have c5:=hN.all.cell 0;have c1:=hN.s.cell 0;simp only[zGA,zGC] at c5 c1;have HL7:=zH (bY pX);have HE:=zH (ZT.out wr _ A1 A2 k1 k2 De);have NQ:=zH pX;have HN:=zH hN;have HTab:=zH De;have HBw:=zH hBw;have Gk:=zH oq;clear pX hO Ks hN hT De hBw oq hk hlt HO11 Wv rU UZ ZT Iz;go_wp2_with (first
      | ((with_reducible refine aY (v:=cE (dy x) A1 A2 k1 k2) (w':=wr) 113 rfl rfl ?_ ?_);exact ay _ _ ⟨g7,0,none⟩ rfl rfl HL7.out;simp only[zSA,zSB,zSC]))
     refine HE.out.mono ?_;rintro e w6 ⟨rfl,fI⟩;have d1:=(HN.out.s.below fI HN.out.s.lt).cell 0;simp only[zGA,zGC] at d1;have a76:=NQ.out.below fI NQ.out.lt;have a26:=Gk.out.below fI Gk.out.lt;have sZ:=HBw.out.trans (fI.mono HBw.out.size);have ZK:=zH (bY a76);have HS2:=zH (eB (r:=dy x) (D:=A1) (T:=A2) (cd:=k1) (ct:=k2) a26);have h2:=a26.setRow (ai (dy x) A1 A2 k1 k2);have jA:=zH (below_setRow sZ (show w.heap.size<=g2 by omega) (ai (dy x) A1 A2 k1 k2));have Nj:=zH (ku (w':=w6.setRow g2 (ai (dy x) A1 A2 k1 k2)) (HTab.out.below fI) (by simp) (λb hb=>ak _ _ _ _ (λe=>by have:=DU.out.size;have hb:ot.heap.size<=b:=hb;have:=Ww.out.lt;omega)));have q1:(s != s)=false:=by simp
     clear c0 c5 c1 a76 a26 fI HE HL7 HN NQ;go_wp2_with (first
      | ((with_reducible refine aY (v:=cE (dy x) A1 A2 k1 k2) (w':=w6) 125 rfl rfl ?_ ?_);exact ay _ _ ⟨g7,0,none⟩ rfl rfl ZK.out;simp only[zSA,zSB,zSC])
      | ((with_reducible refine wpList_skip (w':=w6.setRow g2 (ai (dy x) A1 A2 k1 k2)) rfl rfl ?_ ?_);exact aq _ _ _ ⟨g2,0,none⟩ (cE (dy x) A1 A2 k1 k2) rfl rfl rfl HS2.out))
     have vp:=bY h2;exact bodyPost_ret (v:=.tuple #[cE (dy x) A1 A2 k1 k2,.int .i64 0]) (by
      rw[results_cell_tmp rfl];have ea:(asAddr (ptr g2)).run prog (w6.setRow g2 (ai (dy x) A1 A2 k1 k2))=.ok ⟨g2,0,none⟩ (w6.setRow g2 (ai (dy x) A1 A2 k1 k2)):=by go_simp
      refine(congrArg (λr=>Result.andThen r _) ea).trans ?_;simp only[Result.andThen_ok];rw[vp];rfl) rfl ⟨A1,A2,k1,k2,rfl,⟨Nj.out.d.mono (λb hb=>zl DU.out.size hb),Nj.out.t.mono (λb hb=>zl DU.out.size hb)⟩,jA.out⟩
open Go.RowKit Go.Conc
namespace Sp
theorem l9:∀(l:List Nat) (b:Nat),l.foldl min b=b\/l.foldl min b∈l
 | [],_=>.inl rfl
 | y::l,b=>by
  rw[zbh];rcases l9 l (min b y) with h | h
  ·rw[h];by_cases hy:b<=y
   ·exact .inl (by omega)
   ·exact .inr (by rw[show min b y=y by omega];exact zbe)
  ·exact .inr (zbf _ h)
theorem H9 (b:Nat) (x:bI):bQ b x=b\/bQ b x∈x.d.map (·.2)\/bQ b x∈x.t.map (·.first):=by
 unfold bQ;rcases l9 (x.t.map (·.first)) ((x.d.map (·.2)).foldl min b) with h | h
 ·rw[h];rcases l9 (x.d.map (·.2)) b with h2 | h2
  ·exact .inl h2
  ·exact .inr (.inl h2)
 ·exact .inr (.inr h)
theorem ju {s:aF} (h:s.Fr N) {y:Nat×Nat} (hy:y∈s.aU):(∃x∈s.L,x.page.id=y.1)/\y.2=N:=by
 obtain⟨n,hn,rfl⟩:=zn.1 hy;have hd:=(zam.1 hn).2;unfold aW at hd
 cases hg:cJ s.L n with
 | none=>rw[hg] at hd;cases hd
 | some x=>
  rw[hg] at hd;have hx:=List.mem_of_find?_eq_some hg;have hi:=List.find?_some hg;refine⟨⟨x,hx,by simpa using hi⟩,?_⟩;exact h x hx hd
theorem xJ {l:List Nat} (h:l.Pairwise (· <= ·)) (hn:l.Nodup):l.Pairwise (· < ·):=by
 have:=List.pairwise_and_iff.2 ⟨h,hn⟩;exact this.imp (λh=>by have h1:=h.1;have h2:=h.2;omega)
theorem M8 {s:aF} (h:(s.L.map (·.page.id)).Nodup):(s.aU.map (·.1)).Pairwise (· < ·):=by
 have hs:=aX (s.L.map (·.page.id));have hp:s.pages.Pairwise (· < ·):=xJ hs.2 (hs.1.nodup_iff.2 h);have e:s.aU.map (·.1)=s.pages.filter (aW s.L):=by
  unfold aF.aU;rw[zat];exact List.map_id'' (λ_=>rfl) _
 rw[e];exact hp.sublist List.filter_sublist
theorem FR (s:aF):s.aU.length<=s.L.length:=by
 unfold aF.aU;rw[zM];have h1:=zau (aW s.L) s.pages;have h2:s.pages.length=s.L.length:=by
  have:=(aX (s.L.map (·.page.id))).1.length_eq;rw[zM] at this;exact this
 omega
end Sp
def jS (s:Sp.aF) (f:Nat->Sp.Tx) (i:Nat):Sp.bI:=⟨s.aU,Sp.cK f (List.range' 1 i),i+1,1⟩
section
variable {i:Nat} {f:Nat->Sp.Tx} {l:Sp.Lg} {rs:List (Nat×Sp.Bs)} {s:Sp.aF}
theorem RO (h:jy i f l rs) {a:Sp.Ac} (ha:a∈Sp.cK f (List.range' 1 i)):1<=a.tx/\a.tx<=i/\a.first∈l.starts/\0<a.first/\a.last=a.first/\a.next=a.first:=by
 unfold Sp.cK at ha;obtain⟨p,hp,rfl⟩:=zn.1 ha;obtain⟨h1,h2⟩:=zam.1 hp;have h2:0<(f p).first:=by simpa using h2
 have h3:=dG.1 h1;obtain⟨a1,a2,a3,a4⟩:=h.tx p h3.1 h3.2;show 1<=(f p).tx/\(f p).tx<=i/\(f p).first∈l.starts/\0<(f p).first/\(f p).last=(f p).first/\(f p).next=(f p).first
 refine⟨by omega,by omega,?_,h2,a2,a3⟩;rcases a4 with h | h
 ·omega
 ·exact h
theorem xa (h:jy i f l rs) (hn:n∈l.starts):110<=n/\n<l.next:=by
 have:=h.wf.starts n hn;have h2:=h.first;omega
theorem pT (h:jy i f l rs):110<=l.next/\l.next<=389:=by
 have h1:=h.next;have h2:=h.few;have h3:=h.i9;omega
theorem o_ (h:jy i f l rs) (hs:s.Ok) (hf:s.Fr l.next) (h4:s.frames=4):(jS s f i).Fits:=by
 have hn:=pT h;have hi:=h.i9;refine⟨Sp.M8 hs.nd,λy hy=>?_,?_,λa ha=>?_,?_,?_,by show 0<i+1;omega,by show 0<1;omega,by show i+1<_;omega,by show 1<_;omega⟩
 ·obtain⟨⟨x,hx,e⟩,e2⟩:=Sp.ju hf hy;have:=hs.dA x hx;have:=hs.top;omega
 ·show((Sp.cK f (List.range' 1 i)).map (·.tx)).Pairwise (· < ·);have e:(Sp.cK f (List.range' 1 i)).map (·.tx)=(List.range' 1 i).filter (λp=>decide (0<(f p).first)):=by
   unfold Sp.cK;rw[zat];refine(zY (g:=id) (λp hp=>?_)).trans (List.map_id _);have h3:=dG.1 (zam.1 hp).1;exact(h.tx p h3.1 h3.2).1
  rw[e];exact(List.pairwise_lt_range' (s:=1) (n:=i)).sublist List.filter_sublist
 ·obtain⟨a1,a2,a3,a4,a5,a6⟩:=RO h ha;have:=xa h a3;omega
 ·have:=Sp.FR s;have:=hs.len;show s.aU.length<=64;omega
 ·show(Sp.cK f (List.range' 1 i)).length<=64;rw[h.ac];have:=h.few;omega
theorem rQ (h:jy i f l rs) (hf:s.Fr l.next):(Sp.bQ l.next (jS s f i)∈l.starts\/Sp.bQ l.next (jS s f i)=l.next)/\l.first<=Sp.bQ l.next (jS s f i):=by
 have hn:=pT h;have h1:=h.first;rcases Sp.H9 l.next (jS s f i) with e | e | e
 ·exact⟨.inr e,by omega⟩
 ·obtain⟨y,hy,e2⟩:=zn.1 e;have:=(Sp.ju hf hy).2;exact⟨.inr (by omega),by omega⟩
 ·obtain⟨a,ha,e2⟩:=zn.1 e;have h3:=(RO h ha).2.2.1;rw[e2] at h3;have:=xa h h3;exact⟨.inl h3,by omega⟩
theorem Rw (h:jy i f l rs) (hs:s.Ok) (h4:s.frames=4):∃d,d<=4/\(jS s f i).text.length=35+12*d+32*rs.length:=by
 refine⟨s.aU.length,?_,?_⟩
 ·have:=Sp.FR s;have:=hs.len;omega
 ·rw[Sp.bI.oA];show 35+12*s.aU.length+32*(Sp.cK f (List.range' 1 i)).length=_;rw[h.ac]
theorem Zb:∀t:Fin 10,∀d:Fin 5,(110+31*t.val+31+(14+(35+12*d.val+32*t.val)))%110≠0:=by decide
theorem KL (h:jy i f l rs) (hs:s.Ok) (hf:s.Fr l.next) (h4:s.frames=4):
 31+(14+(jS s f i).text.length)<=l.left/\(jS s f i).text.length<=400/\1<=(jS s f i).text.length/\
 (l.took (jS s f i)).wf/\(l.took (jS s f i)).forced=(l.took (jS s f i)).next/\(l.took (jS s f i)).first=Sp.bQ l.next (jS s f i)/\(l.took (jS s f i)).at_=0/\(l.took (jS s f i)).n=8/\(l.took (jS s f i)).life=1/\
 (l.took (jS s f i)).next=l.next+31+(14+(jS s f i).text.length)/\(l.took (jS s f i)).next%110≠0/\(l.took (jS s f i)).first<(l.took (jS s f i)).next/\l.next+1∉(l.took (jS s f i)).starts/\
 ∃ys,(l.took (jS s f i)).Is (ys++(l.next,bC.bytes)::(l.next+31,(jS s f i).text)::[]):=by
 obtain⟨d,hd,hx⟩:=Rw (f:=f) h hs h4;have hn:=pT h;have tO:=h.next;have hfw:=h.few;have Yd:=h.i9;have hle:=h.left;have h7:=eH;obtain⟨ho,ho2⟩:=rQ (s:=s) h hf;have PT:Sp.bQ l.next (jS s f i)<=l.next:=Sp.pS _ _;generalize jS s f i=x at*;have w1:(l.append bC.bytes).wf:=Sp.Lg.mM h.wf (by omega);have n1:(l.append bC.bytes).next=l.next+31:=by show l.next+(14+bC.bytes.length)=_;omega
 have b1:(l.append bC.bytes).bytes.length=l.bytes.length+31:=by
  show(l.bytes++Sp.frame l.next bC.bytes).length=_;rw[zo,Sp.bR];omega
 have l1:(l.append bC.bytes).left=l.left-31:=by
  unfold Sp.Lg.left;show l.n*110-(l.append bC.bytes).bytes.length-l.reserved=_;rw[b1];omega
 have w2:((l.append bC.bytes).append x.text).wf:=Sp.Lg.mM w1 (by omega);have n2:((l.append bC.bytes).append x.text).next=l.next+31+(14+x.text.length):=by show(l.append bC.bytes).next+(14+x.text.length)=_;rw[n1]
 have i2:((l.append bC.bytes).append x.text).Is ((rs++[(l.next,bC.bytes)])++[(l.next+31,x.text)]):=by
  have i1:=h.is.append h.wf (s:=bC.bytes) (by omega) (by omega);have:=i1.append w1 (s:=x.text) (by omega) (by omega);rw[n1] at this;exact this
 have w3:=Sp.Lg.uA w2;have i3:=i2.uL ((l.append bC.bytes).append x.text).next
 have hfirst:({(l.append bC.bytes).append x.text with forced:=((l.append bC.bytes).append x.text).next}:Sp.Lg).first=l.first:=rfl
 have w4:(l.took x).wf:=Sp.Lg.C0 w3 ho2 (by show _<=((l.append bC.bytes).append x.text).next;omega);have hsplit:∃xs ys,rs=xs++ys/\Sp.dD l.first xs (Sp.bQ l.next x):=by
  rcases ho with hm | he
  ·rw[h.is.starts] at hm;obtain⟨r,hr,e⟩:=zn.1 hm;obtain⟨xs,ys,e2⟩:=List.append_of_mem hr;have hc:=h.is.chain;rw[e2] at hc;obtain⟨m,c1,c2⟩:=hc.split;obtain⟨e3,_⟩:=c2;exact⟨xs,r::ys,e2,by rw[<-e,e3];exact c1⟩
  ·exact⟨rs,[],by simp,by rw[he];exact h.is.chain⟩
 obtain⟨xs,ys,e1,hc1⟩:=hsplit;have i4:({(l.append bC.bytes).append x.text with forced:=((l.append bC.bytes).append x.text).next}:Sp.Lg).Is (xs++(ys++(l.next,bC.bytes)::(l.next+31,x.text)::[])):=by
  have e:(rs++[(l.next,bC.bytes)])++[(l.next+31,x.text)]=xs++(ys++(l.next,bC.bytes)::(l.next+31,x.text)::[]):=by rw[e1];simp
  rw[<-e];exact i3
 obtain⟨m,c1,c2⟩:=i4.chain.split;have hm:m=Sp.bQ l.next x:=c1.ends hc1;rw[hm] at c2;have i5:=i4.keep w3 hc1 c2;refine⟨by omega,by omega,by omega,w4,rfl,rfl,h.at_,h.n,h.life,n2,?_,?_,?_,ys,i5⟩
 ·show((l.append bC.bytes).append x.text).next%110≠0
  rw[n2,hx,tO];exact Zb ⟨rs.length,by omega⟩ ⟨d,by omega⟩
 ·show Sp.bQ l.next x<((l.append bC.bytes).append x.text).next
  omega
 ·intro hmem;have hst:(l.took x).starts=(ys++(l.next,bC.bytes)::(l.next+31,x.text)::[]).map (·.1):=i5.starts;rw[hst,zI] at hmem;rcases zz.1 hmem with hm1 | hm1
  ·have hin:l.next+1∈l.starts:=by
    rw[h.is.starts,e1,zI];exact List.mem_append_right _ hm1
   have:=xa h hin;omega
  ·simp at hm1
end
section
variable {F:af} {w:World} {gl gd:Nat} {l:Sp.Lg}
theorem Mk (h:dP F w gl gd l):Calls prog 16 #[ptr gl] w λe w'=>e=.returned (.int .u64 l.first)/\w'=w:=by
 obtain⟨h1,bv,sv,h3,h4,h5,h6⟩:=h;have c6:=h3.lg.2.2.2.2.2.2.1;go_enter func16,ntmps16;go_wp2_with fail;go_ret;exact⟨rfl,rfl⟩
theorem Ay (h:dP F w gl gd l) (hno:n∉l.starts):
 Calls prog 22 #[ptr gl,.int .u64 n] w λe w'=>e=.returned (.tuple #[str [],.int .u64 0,.int .i64 3])/\zB w w':=by
 obtain⟨h1,bv,sv,h3,h4,h5,h6⟩:=h;obtain⟨c0,c1,c2,c3,c4,c5,c6,c7,c8,c9⟩:=h3.lg;have HM:=zH (gI c0);have jb:=h1.few;have hroom:=h1.room;have sW:=h1.J6;obtain⟨A,c,rfl,hR⟩:=rB h5;have HS:=zH (rz (c:=c) (n:=n) hR h1.Ai (by omega));clear c0 c1 c2 c3 c4 c6 c7 c8 c9 h4 h5 h6 hR h3;go_enter func22,ntmps22;go_wp2_with fail;refine HM.out.mono ?_;rintro e w1 ⟨rfl,hw⟩;subst w1;go_wp2_with fail;refine HS.out.mono ?_;rintro e w1 ⟨i,hp,rfl,hb⟩;have Qg:jL l.starts n i=false:=by
  unfold jL;rw[ze];rintro⟨h1,h2⟩;rw[zG _ i h1] at h2;exact hno (h2▸zw h1)
 rw[Qg];have HB:=zH hb;clear hb hp Qg;go_wp2_with fail
 go_ret3
 exact⟨rfl,HB.out⟩
theorem Pf (h:dP F w gl gd l) {nx:Nat} (hj:j<l.starts.length) (tO:nx=if h:j+1<l.starts.length then l.starts[j+1] else l.next) (hle:l.starts[j]+14<nx) (hnext:nx<=l.next) (hn62:l.next<4611686018427387904):
 Calls prog 22 #[ptr gl,.int .u64 l.starts[j]] w λe w'=>e=.returned (.tuple #[str ((l.bytes.drop (l.starts[j]-Sp.bg l.first+14)).take (nx-l.starts[j]-14)),.int .u64 nx,.int .i64 0])/\zB w w':=by
 obtain⟨h1,bv,sv,h3,h4,h5,h6⟩:=h;obtain⟨c0,c1,c2,c3,c4,c5,c6,c7,c8,c9⟩:=h3.lg;have HM:=zH (gI c0);have jb:=h1.few;have hroom:=h1.room;have sW:=h1.J6;have hlen:=h1.len;have hbg:=Sp.kO l.first;have hst:=h1.starts _ (zw hj);obtain⟨A,c,rfl,hR⟩:=rB h5;obtain⟨n,hn⟩:=zE (l.starts[j]);have HS:=zH (rz (c:=c) (n:=n) hR h1.Ai (by omega));have HRISE:=zH h1.Ai;have HR:=zH hR;have H4:=zH h4;have H3:=zH h3;have kW:=h3.lt;have tP:l.first<18446744073709551616:=by have:=h1.ff;have:=h1.fn;omega
 have K_:=zH fun(W:World)=>iY l.first tP W;rw[<-hn] at hle hst ⊢;replace hn:=zH hn;have pH:=zH tO;clear c0 c1 c2 c3 c4 c6 c7 c8 c9 h4 h5 h6 hR h3 tO;go_enter func22,ntmps22;go_wp2_with fail;refine HM.out.mono ?_;rintro e w1 ⟨rfl,hw⟩;subst w1;go_wp2_with fail;refine HS.out.mono ?_;rintro e w1 ⟨i,hp,rfl,hb⟩;obtain rfl:i=j:=hp.found HRISE.out hj hn.out.symm;have Qg:jL l.starts n i=true:=by
  unfold jL;rw[zA];exact⟨hj,by rw[zG _ i hj];exact hn.out.symm⟩
 rw[Qg];obtain⟨c0,c1,c2,c3,c4,c5,c6,c7,c8,c9⟩:=(H3.out.below hb kW).lg;have HB:=zH hb;clear hb hp Qg c0 c1 c2 c3 c8 c9 HS;obtain⟨gb,cb,rfl⟩:=bP H4.out (by omega);have hcap:l.bytes.length<=cb/\cb<=maxLen:=by
  rcases H4.out.2 with⟨_,h0⟩ | ⟨g,c',cur,h0,_,_,e1,e2,_⟩
  ·omega
  ·injection h0 with a1 a2 a3;subst a3;exact⟨e1,e2⟩
 obtain⟨a,ha⟩:=zE (n-Sp.bg l.first);obtain⟨z,hz⟩:=zE (nx-Sp.bg l.first);have haz:a+14<=z:=by omega
 have haz':a+14<z:=by omega
 have hzl:z<=l.bytes.length:=by omega
 have hcells:=H4.out.cells (g:=gb) rfl;have Qb:gb<w.heap.size:=(H4.out.lt gb rfl).2;have ve:=bt (P:=prog) w1 129 9 5 gb (a+14) (z-(a+14)) (cb-(a+14)) ((l.bytes.drop (a+14)).take (z-(a+14))) underlying129 underlying5 underlying9 (by simp;omega) (λk hk=>by
  have hk':k<z-(a+14):=by simp at hk;omega
  have hx:=hcells (a+14+k) (.int .u8 ((l.bytes[a+14+k]'(by omega)).toNat:Int)) (pE _ _ (by omega));rw[show(⟨gb,0,none⟩:Addr).add (a+14+k)=⟨gb,a+14+k,none⟩ by rw[lR,zaj]] at hx;rw[(HB.out.cell (p:=⟨gb,a+14+k,none⟩) Qb).trans hx];simp)
 have d0:IntKind.u64.wrap ((n:Int)-(Sp.bg l.first:Nat))=(a:Nat):=by rw[IntKind.wrap_u64];omega
 have d1:IntKind.u64.wrap ((a:Int)+14)=((a+14:Nat):Int):=by rw[IntKind.wrap_u64];omega
 have d1':IntKind.u64.wrap ((a:Int)+14)=(a:Int)+14:=by rw[IntKind.wrap_u64];omega
 have d2:IntKind.u64.wrap ((nx:Int)-(Sp.bg l.first:Nat))=(z:Nat):=by rw[IntKind.wrap_u64];omega
 have d3:IntKind.i64.wrap ((i:Int)+1)=(i:Int)+1:=IntWalk.i64_in _ (by omega);have i1:((a:Int)+14)<=(z:Nat):=by omega
 have i2:(z:Int)<=(cb:Nat):=by omega
 have i3:(0:Int)<=(a:Nat):=by omega
 have i4:a+14<=z:=haz;have i5:z<=cb:=by omega
 have Ua:¬cb=a+14:=by omega
 have Kg:(l.bytes.drop (n-Sp.bg l.first+14)).take (nx-n-14)=(l.bytes.drop (a+14)).take (z-(a+14)):=by
  rw[<-ha,show nx-n-14=z-(a+14) by omega]
 have HTX:=zH Kg;clear Kg hcells H4 ha hz hle hnext hlen hbg hst;by_cases yl:i+1<l.starts.length
 ·skip;have C3:nx=l.starts[i+1]:=by have:=pH.out;rwa [dif_pos yl] at this
  obtain⟨b,o,u,hA,_,_,hu,hcell⟩:=(Reads.below HR.out HB.out).at_ yl;unfold oa at hu;rw[zN,zk yl] at hu;injection hu with hu;rw[<-hu,<-C3] at hcell;subst hA;have hcell2:w1.cell? ⟨b,o+(i+1),none⟩=some (.int .u64 nx):=hcell;have q1:decide ((i:Int)+1<(l.starts.length:Int))=true:=by rw[zA];omega
  have q2:(i:Int)+1<(l.starts.length:Int):=by omega
  have q3:i+1<l.starts.length:=yl;clear hu hcell C3;go_wp2_with fail;refine(K_.out w1).mono ?_;rintro e w2 ⟨rfl,hw⟩;subst w2;go_wp2_with fail
  go_ret3
  exact⟨by rw[HTX.out];rfl,HB.out⟩
 ·skip;have C3:nx=l.next:=by have:=pH.out;rwa [dif_neg yl] at this
  rw[<-C3] at c7;have q1:decide ((i:Int)+1<(l.starts.length:Int))=false:=by rw[ze];omega
  have q2:¬(i:Int)+1<(l.starts.length:Int):=by omega
  have q3:¬i+1<l.starts.length:=yl;clear C3;go_wp2_with fail;refine(K_.out w1).mono ?_;rintro e w2 ⟨rfl,hw⟩;subst w2;go_wp2_with fail
  go_ret3
  exact⟨by rw[HTX.out];rfl,HB.out⟩
end
section
open Go.Conc
section
variable {F:af} {w:World} {gl gd:Nat} {l:Sp.Lg}
theorem BI (h:dP F w gl gd l) {xs ys:List (Nat×Sp.Bs)} {t:Sp.Bs} (hi:l.Is (xs++(n,t)::ys)) (hn:l.next<4611686018427387904):
 Calls prog 22 #[ptr gl,.int .u64 n] w λe w'=>e=.returned (.tuple #[str t,.int .u64 ((n+(14+t.length):Nat):Int),.int .i64 0])/\zB w w':=by
 obtain⟨hj,h1,h2,h3,h4,h5,h6⟩:=hi.read;have:=Pf h hj h2 (by rw[h1];omega) h3 hn;rw[h1] at this;rw[show n+(14+t.length)-n-14=t.length by omega,h6] at this;exact this
end
theorem fK {fn:Func} {p u v:Tmp} {ty:TypeId} (h:fn.results=#[.cell p ty,.tmp u,.tmp v]) (tmps:Array Value) (P:Program) (w:World):
 (results fn tmps).run P w=
  ((asAddr (tmps.getD p undef)).run P w).andThen λa w₁=>((loadVar ty a).run P w₁).andThen λx w₂=>.ok (.tuple #[x,tmps.getD u undef,tmps.getD v undef]) w₂:=by
 simp only[results,h];simp[Sem.run_bind,Result.andThen]
theorem bS.more {G:af} {w:World} {x:Sp.bI} (h:bS G w x D T) {G':af} (hG:∀b,G b->G' b):bS G' w x D T:=⟨h.d.mono hG,h.t.mono hG⟩
def DL (w:World) (r:Sp.Rec) (x:Sp.bI) (nx:Nat) (e:Ending) (w':World):Prop:=
 ∃D T cd ct,e=.returned (.tuple #[cE r D T cd ct,.int .u64 nx,.int .i64 0])/\bS (λb=>w.heap.size<=b) w' x D T/\zB w w'
theorem vk {w:World} {gl nx kind:Nat} {t:Sp.Bs} {r:Sp.Rec} {x:Sp.bI} (hk:r.kind=kind)
 (hR:∀W,zB w W->Calls prog 22 #[ptr gl,.int .u64 n] W λe w'=>e=.returned (.tuple #[str t,.int .u64 nx,.int .i64 0])/\zB W w')
 (hD:∀W,Calls prog 35 #[str t] W λe w'=>∃D T cd ct,e=.returned (.tuple #[cE r D T cd ct,.int .i64 0])/\bS (λb=>W.heap.size<=b) w' x D T/\zB W w'):
 Calls prog 58 #[ptr gl,.int .u64 n,.int .u8 kind] w (DL w r x nx):=by
 have hb1:=(zR w).alloc (za _) (.cells (ai cC none none 0 0) 84);have a6:=aj.new w 84 (ai cC none none 0 0);have HR:=zH (hR _ hb1);have HD:=zH hD;have HK:=zH hk;obtain⟨w1,hw1⟩:=zE (w.alloc (.cells (ai cC none none 0 0) 84));obtain⟨g6,qu⟩:=zE w.heap.size;clear hR hD hk;go_enter func58,ntmps58;go_upto_region 1 with fail;change Code.wp _ _ _ _ (w.alloc (.cells (ai cC none none 0 0) 84));rw[<-hw1] at hb1 a6 HR ⊢;rw[<-qu] at a6 ⊢;have ME:w.heap.size<=g6:=by omega
 clear hw1 qu;go_wp2_with fail;refine HR.out.mono ?_;rintro e w2 ⟨rfl,hb2⟩;have cG:=hb1.trans (hb2.mono hb1.size);have VZ:=a6.below hb2 a6.lt;have ha6:=VZ.lt;have HDD:=zH (HD.out w2);clear HR HD hb1 hb2 a6;go_wp2_with fail;refine HDD.out.mono ?_;rintro e w3 ⟨D,T,cd,ct,rfl,YM,hb3⟩;have a63:=VZ.below hb3 VZ.lt;have dN:=cG.trans (hb3.mono cG.size);have HS:=zH (eB (r:=r) (D:=D) (T:=T) (cd:=cd) (ct:=ct) a63);have a64:=a63.setRow (ai r D T cd ct);have Ui:=ku (w':=w3.setRow g6 (ai r D T cd ct)) YM (by simp) (λb hb=>ak _ _ _ _ (λe=>by have hb:w2.heap.size<=b:=hb;omega));have fC:=below_setRow dN ME (ai r D T cd ct);have TP:(w3.setRow g6 (ai r D T cd ct)).heap.size=w3.heap.size:=by simp
 clear HDD VZ a63 hb3 YM dN;go_upto_region 5 with(first
  | ((with_reducible refine wpList_skip (w':=w3.setRow g6 (ai r D T cd ct)) rfl rfl ?_ ?_);exact aq _ _ _ ⟨g6,0,none⟩ (cE r D T cd ct) rfl rfl rfl HS.out))
 generalize w3.setRow g6 (ai r D T cd ct)=w4 at a64 Ui fC TP ⊢;have c0:w4.cell? ⟨g6,0,none⟩=some (.int .u8 r.kind):=a64.cell 0;have q1:((r.kind:Int) != (kind:Int))=false:=by rw[HK.out];simp
 have HL:=zH (bY a64);have HS4:=zH (eB (r:=r) (D:=D) (T:=T) (cd:=cd) (ct:=ct) a64);have a65:=a64.setRow (ai r D T cd ct);have Bi:=zH (ku (w':=w4.setRow g6 (ai r D T cd ct)) Ui (by simp) (λb hb=>ak _ _ _ _ (λe=>by have hb:w2.heap.size<=b:=hb;omega)));have mj:=zH (below_setRow fC ME (ai r D T cd ct));have hz2:=cG.size;clear HS Ui fC TP cG;go_wp2_with (first
  | ((with_reducible refine aY (v:=cE r D T cd ct) (w':=w4) 34 rfl rfl ?_ ?_);exact ay _ _ ⟨g6,0,none⟩ rfl rfl HL.out;simp only[zSA,zSB,zSC])
  | ((with_reducible refine wpList_skip (w':=w4.setRow g6 (ai r D T cd ct)) rfl rfl ?_ ?_);exact aq _ _ _ ⟨g6,0,none⟩ (cE r D T cd ct) rfl rfl rfl HS4.out))
 have vp:=bY a65;exact bodyPost_ret (v:=.tuple #[cE r D T cd ct,.int .u64 nx,.int .i64 0]) (by
  rw[fK rfl];have ea:(asAddr (ptr g6)).run prog (w4.setRow g6 (ai r D T cd ct))=.ok ⟨g6,0,none⟩ (w4.setRow g6 (ai r D T cd ct)):=by go_simp
  refine(congrArg (λr=>Result.andThen r _) ea).trans ?_;simp only[Result.andThen_ok];rw[vp];rfl) rfl ⟨D,T,cd,ct,rfl,Bi.out.more (λb hb=>zl hz2 hb),mj.out⟩
def y9 (w:World) (x:Sp.bI) (nx:Nat) (e:Ending) (w':World):Prop:=
 ∃D T cd ct,e=.returned (.tuple #[iz x D T cd ct,.int .u64 nx,.int .i64 0])/\bS (λb=>w.heap.size<=b) w' x D T/\zB w w'
theorem Jr {w:World} {gl nx nz:Nat} {x:Sp.bI}
 (h1:∀W,zB w W->Calls prog 58 #[ptr gl,.int .u64 n,.int .u8 7] W (DL W bC jC nx))
 (h2:∀W,zB w W->Calls prog 58 #[ptr gl,.int .u64 nx,.int .u8 8] W (DL W (dy x) x nz)):
 Calls prog 18 #[ptr gl,.int .u64 n] w (y9 w x nz):=by
 have hb1:=(zR w).alloc (za _) (.cells (bJ jC none none 0 0) 36);have a4:=aj.new w 36 (bJ jC none none 0 0);have Cq:=zH (h1 _ hb1);have HR2:=zH h2;obtain⟨w1,hw1⟩:=zE (w.alloc (.cells (bJ jC none none 0 0) 36));obtain⟨g4,hg4⟩:=zE w.heap.size;clear h1 h2;go_enter func18,ntmps18;go_upto_region 1 with fail;change Code.wp _ _ _ _ (w.alloc (.cells (bJ jC none none 0 0) 36));rw[<-hw1] at hb1 a4 Cq ⊢;rw[<-hg4] at a4 ⊢;have jJ:w.heap.size<=g4:=by omega
 clear hw1 hg4;go_wp2_with fail;refine Cq.out.mono ?_;rintro e w2 ⟨D,T,cd,ct,rfl,-,hb2⟩;have cG:=hb1.trans (hb2.mono hb1.size);have Zf:=a4.below hb2 a4.lt;have z7:=aj.new w2 84 (ai cC none none 0 0);have V7:=zH (eB (r:=bC) (D:=D) (T:=T) (cd:=cd) (ct:=ct) z7);have hb3:zB w2 ((w2.alloc (.cells (ai cC none none 0 0) 84)).setRow w2.heap.size (ai bC D T cd ct)):=below_setRow ((zR w2).alloc (za _) _) (za _) _;have UD:=Zf.below hb3 Zf.lt;have dN:=cG.trans (hb3.mono cG.size);have JH:=zH (HR2.out _ dN);clear z7 a4 Zf hb1 hb2 Cq HR2 hb3;go_upto_region 2 with(first
  | ((with_reducible refine wpList_skip (w':=(w2.alloc (.cells (ai cC none none 0 0) 84)).setRow w2.heap.size (ai bC D T cd ct)) rfl rfl ?_ ?_);exact aq _ _ _ ⟨w2.heap.size,0,none⟩ (cE bC D T cd ct) rfl rfl rfl V7.out))
 generalize(w2.alloc (.cells (ai cC none none 0 0) 84)).setRow w2.heap.size (ai bC D T cd ct)=w3 at UD dN JH ⊢;generalize w2.heap.size=g7 at*;clear V7 cG;go_wp2_with fail;refine JH.out.mono ?_;rintro e w4 ⟨D2,T2,vW,vS,rfl,Ui,hb4⟩;have fC:=dN.trans (hb4.mono dN.size);have a44:=UD.below hb4 UD.lt;have TT:=dN.size;have hg43:=UD.lt;have z10:=aj.new w4 84 (ai cC none none 0 0);have HS10:=zH (eB (r:=dy x) (D:=D2) (T:=T2) (cd:=vW) (ct:=vS) z10);have qc:=z10.setRow (ai (dy x) D2 T2 vW vS);have cS:zB w4 ((w4.alloc (.cells (ai cC none none 0 0) 84)).setRow w4.heap.size (ai (dy x) D2 T2 vW vS)):=below_setRow ((zR w4).alloc (za _) _) (za _) _;have a45:=a44.below cS a44.lt;have SE:=Ui.below cS;have gK:=fC.trans (cS.mono fC.size);clear z10 UD a44 Ui hb4 cS fC JH;go_upto_region 5 with(first
  | ((with_reducible refine wpList_skip (w':=(w4.alloc (.cells (ai cC none none 0 0) 84)).setRow w4.heap.size (ai (dy x) D2 T2 vW vS)) rfl rfl ?_ ?_);exact aq _ _ _ ⟨w4.heap.size,0,none⟩ (cE (dy x) D2 T2 vW vS) rfl rfl rfl HS10.out))
 generalize(w4.alloc (.cells (ai cC none none 0 0) 84)).setRow w4.heap.size (ai (dy x) D2 T2 vW vS)=w5 at qc a45 SE gK ⊢;generalize w4.heap.size=g10 at*;have HL10:=zH (ud qc);have HS4:=zH (t_ (x:=x) (D:=D2) (T:=T2) (cd:=vW) (ct:=vS) a45);have a46:=a45.setRow (bJ x D2 T2 vW vS);have HT6:=zH (ku (w':=w5.setRow g4 (bJ x D2 T2 vW vS)) SE (by simp) (λb hb=>ak _ _ _ _ (λe=>by have hb:w3.heap.size<=b:=hb;omega)));have qz:=zH (below_setRow gK jJ (bJ x D2 T2 vW vS));clear HS10 SE gK qc;go_wp2_with (first
  | ((with_reducible refine aY (v:=iz x D2 T2 vW vS) (w':=w5) 34 rfl rfl ?_ ?_);exact ay _ _ ⟨g10,8,none⟩ rfl rfl HL10.out;simp only[zSA,zSB,zSC])
  | ((with_reducible refine wpList_skip (w':=w5.setRow g4 (bJ x D2 T2 vW vS)) rfl rfl ?_ ?_);exact aq _ _ _ ⟨g4,0,none⟩ (iz x D2 T2 vW vS) rfl rfl rfl HS4.out))
 have vp:=r7 a46;exact bodyPost_ret (v:=.tuple #[iz x D2 T2 vW vS,.int .u64 nz,.int .i64 0]) (by
  rw[fK rfl];have ea:(asAddr (ptr g4)).run prog (w5.setRow g4 (bJ x D2 T2 vW vS))=.ok ⟨g4,0,none⟩ (w5.setRow g4 (bJ x D2 T2 vW vS)):=by go_simp
  refine(congrArg (λr=>Result.andThen r _) ea).trans ?_;simp only[Result.andThen_ok];rw[vp];rfl) rfl ⟨D2,T2,vW,vS,rfl,HT6.out.more (λb hb=>zl TT hb),qz.out⟩
section
variable {F:af} {w:World} {gl gd:Nat} {l:Sp.Lg}
theorem dec7 (W:World):Calls prog 35 #[str bC.bytes] W λe w'=>∃D T cd ct,e=.returned (.tuple #[cE bC D T cd ct,.int .i64 0])/\bS (λb=>W.heap.size<=b) w' jC D T/\zB W w':=by
 refine(EH W).mono ?_;rintro e w' ⟨rfl,hb⟩;exact⟨none,none,0,0,rfl,⟨⟨rfl,λh=>absurd h (by decide)⟩,⟨rfl,λh=>absurd h (by decide)⟩⟩,hb⟩
theorem pq (h:dP F w gl gd l) {xs ys:List (Nat×Sp.Bs)} {x:Sp.bI} (hF:x.Fits) (hi:l.Is (xs++(n,bC.bytes)::(n+31,x.text)::ys)) (hn:l.next<4611686018427387904):
 Calls prog 18 #[ptr gl,.int .u64 n] w (y9 w x (n+31+(14+x.text.length))):=by
 have hi2:l.Is ((xs++[(n,bC.bytes)])++(n+31,x.text)::ys):=by rw[zh];exact hi
 refine Jr (nx:=n+31) (λW hb=>?_) (λW hb=>?_)
 ·refine vk (t:=bC.bytes) rfl (λW' hb'=>?_) dec7;have:=BI ((h.below hb).below hb') hi hn;rw[eH] at this;exact this
 ·exact vk (t:=x.text) rfl (λW' hb'=>BI ((h.below hb).below hb') hi2 hn) (λW'=>EG hF W')
end
theorem Ti {gP:Nat} {O G:af} {l2:Sp.Lg} {sp sr:Sp.aF} {w:World} {x:Sp.bI} (h:eA B gP gd gl gp gr O G l2 sp sr w) (hF:x.Fits) {bg:Nat} {ys:List (Nat×Sp.Bs)} (hi:l2.Is (ys++(bg,bC.bytes)::(bg+31,x.text)::[])) (hn:l2.next<4611686018427387904) (hz:l2.next=bg+31+(14+x.text.length)):
 Calls prog 18 #[ptr gl,.int .u64 bg] w (y9 w x l2.next):=by
 obtain⟨K,vL,vD,hpk,_⟩:=h;obtain⟨p,D,F,G',dk,hpl,hd,hg,_⟩:=hpk;rw[hz];exact pq hg hF hi hn
theorem Tg {gP:Nat} {O G:af} {l2:Sp.Lg} {sp sr:Sp.aF} {w:World} (h:eA B gP gd gl gp gr O G l2 sp sr w) {rs:List (Nat×Sp.Bs)} (hi:l2.Is rs) (hf:l2.forced=l2.next) (hp:l2.next%110≠0) (hs:l2.first<l2.next) (hl:l2.life<=2) (hn:l2.next<1000000000) (h0:l2.at_=0) (h8:l2.n=8):
 Calls prog 19 #[ptr gd,.int .i64 0,.int .i64 8,.int .u64 2,.int .u64 l2.first] w λe w'=>∃g F,e=.returned (.tuple #[ptr g,.int .i64 0])/\dP F w' g gd {l2 with life:=2,reserved:=0}/\(∀b,F b->w.heap.size<=b)/\zB w w':=by
 obtain⟨K,vL,vD,hpk,_⟩:=h;obtain⟨p,D,F,G',dk,hpl,hd,hg,_,_,_,hr,_⟩:=hpk;have h:=Ph (life:=2) hd (by rw[hr.dl.bk];decide) hr.dl.loose hr.dl.fit hr.y_ hf hi (λk h1 h2 h3=>by
  have:=hr.tidy.secs k h1 h2 (by omega);rw[hf,Sp.Lg.KI hr.y_] at this;exact this) hp hs hl (by omega) hn
 rw[h0,h8] at h;rw[h0,h8];exact h
theorem Th {gP:Nat} {O G:af} {l2:Sp.Lg} {sp sr:Sp.aF} {w:World} (h:eA B gP gd gl gp gr O G l2 sp sr w) {nm:Sp.Ms} (hm:nm.Ok) (hr:sp.rest=λi=>if i=41+nm.count%2 then nm.bytes else Sp.xq i):
 Calls prog 20 #[ptr gd,.int .i64 41] w λe w'=>e=.returned (.tuple #[kH nm,.int .i64 0])/\zB w w':=by
 obtain⟨K,vL,vD,hpk,_⟩:=h;obtain⟨p,D,F,G',dk,hpl,hd,hg,_,_,_,XS,_⟩:=hpk;have hlen:dk.sure.length=72:=XS.B_.len;have h0:=XS.tidy.rest;rw[hr] at h0;refine EZ (at_:=41) hd (by rw[XS.dl.bk];decide) XS.dl.loose (by omega) (by omega) hm ?_ ?_
 ·have h1:=h0 (41+nm.count%2) (by show 8+33<=_;omega) (by show _<44;omega);dsimp only at h1
  rwa [zK rfl] at h1
 ·have h1:=h0 (41+(1-nm.count%2)) (by show 8+33<=_;omega) (by show _<44;omega);dsimp only at h1
  rwa [zD (by omega)] at h1
theorem vU {w:World} {gp:Option Addr} {kind er:Nat} (he:0<er)
 (hR:∀W,zB w W->Calls prog 22 #[.pointer gp,.int .u64 n] W λe w'=>e=.returned (.tuple #[str [],.int .u64 0,.int .i64 er])/\zB W w'):
 Calls prog 58 #[.pointer gp,.int .u64 n,.int .u8 kind] w λe w'=>e=.returned (.tuple #[cE cC none none 0 0,.int .u64 0,.int .i64 er])/\zB w w':=by
 have hb1:=(zR w).alloc (za _) (.cells (ai cC none none 0 0) 84);have a6:=aj.new w 84 (ai cC none none 0 0);have HR:=zH (hR _ hb1);obtain⟨w1,hw1⟩:=zE (w.alloc (.cells (ai cC none none 0 0) 84));obtain⟨g6,qu⟩:=zE w.heap.size;have q1:((er:Int) != 0)=true:=by simp;omega
 clear hR;go_enter func58,ntmps58;go_upto_region 1 with fail;change Code.wp _ _ _ _ (w.alloc (.cells (ai cC none none 0 0) 84));rw[<-hw1] at hb1 a6 HR ⊢;rw[<-qu] at a6 ⊢;have ME:w.heap.size<=g6:=by omega
 clear hw1 qu;go_wp2_with fail;refine HR.out.mono ?_;rintro e w2 ⟨rfl,hb2⟩;have cG:=hb1.trans (hb2.mono hb1.size);have VZ:=a6.below hb2 a6.lt;have HL:=zH (bY VZ);have HS:=zH (eB (r:=cC) (D:=none) (T:=none) (cd:=0) (ct:=0) VZ);have a63:=VZ.setRow (ai cC none none 0 0);have mj:=zH (below_setRow cG ME (ai cC none none 0 0));clear HR hb1 hb2 a6 cG;go_wp2_with (first
  | ((with_reducible refine aY (v:=cE cC none none 0 0) (w':=w2) 19 rfl rfl ?_ ?_);exact ay _ _ ⟨g6,0,none⟩ rfl rfl HL.out;simp only[zSA,zSB,zSC])
  | ((with_reducible refine wpList_skip (w':=w2.setRow g6 (ai cC none none 0 0)) rfl rfl ?_ ?_);exact aq _ _ _ ⟨g6,0,none⟩ (cE cC none none 0 0) rfl rfl rfl HS.out))
 have vp:=bY a63;exact bodyPost_ret (v:=.tuple #[cE cC none none 0 0,.int .u64 0,.int .i64 er]) (by
  rw[fK rfl];have ea:(asAddr (ptr g6)).run prog (w2.setRow g6 (ai cC none none 0 0))=.ok ⟨g6,0,none⟩ (w2.setRow g6 (ai cC none none 0 0)):=by go_simp
  refine(congrArg (λr=>Result.andThen r _) ea).trans ?_;simp only[Result.andThen_ok];rw[vp];rfl) rfl ⟨rfl,mj.out⟩
theorem py {w:World} {gp:Option Addr} {er:Nat} (he:0<er)
 (hR:∀W,zB w W->Calls prog 22 #[.pointer gp,.int .u64 n] W λe w'=>e=.returned (.tuple #[str [],.int .u64 0,.int .i64 er])/\zB W w'):
 Calls prog 18 #[.pointer gp,.int .u64 n] w λe w'=>e=.returned (.tuple #[iz jC none none 0 0,.int .u64 0,.int .i64 er])/\zB w w':=by
 have hb1:=(zR w).alloc (za _) (.cells (bJ jC none none 0 0) 36);have a4:=aj.new w 36 (bJ jC none none 0 0);have Cq:=zH (vU (kind:=7) he (λW hb=>hR W (hb1.trans (hb.mono hb1.size))));obtain⟨w1,hw1⟩:=zE (w.alloc (.cells (bJ jC none none 0 0) 36));obtain⟨g4,hg4⟩:=zE w.heap.size;have q1:((er:Int) != 0)=true:=by simp;omega
 clear hR;go_enter func18,ntmps18;go_upto_region 1 with fail;change Code.wp _ _ _ _ (w.alloc (.cells (bJ jC none none 0 0) 36));rw[<-hw1] at hb1 a4 Cq ⊢;rw[<-hg4] at a4 ⊢;have jJ:w.heap.size<=g4:=by omega
 clear hw1 hg4;go_wp2_with fail;refine Cq.out.mono ?_;rintro e w2 ⟨rfl,hb2⟩;have cG:=hb1.trans (hb2.mono hb1.size);have Zf:=a4.below hb2 a4.lt;have z7:=aj.new w2 84 (ai cC none none 0 0);have V7:=zH (eB (r:=cC) (D:=none) (T:=none) (cd:=0) (ct:=0) z7);have hb3:zB w2 ((w2.alloc (.cells (ai cC none none 0 0) 84)).setRow w2.heap.size (ai cC none none 0 0)):=below_setRow ((zR w2).alloc (za _) _) (za _) _;have UD:=Zf.below hb3 Zf.lt;have dN:=cG.trans (hb3.mono cG.size);clear z7 a4 Zf hb1 hb2 Cq hb3;go_upto_region 2 with(first
  | ((with_reducible refine wpList_skip (w':=(w2.alloc (.cells (ai cC none none 0 0) 84)).setRow w2.heap.size (ai cC none none 0 0)) rfl rfl ?_ ?_);exact aq _ _ _ ⟨w2.heap.size,0,none⟩ (cE cC none none 0 0) rfl rfl rfl V7.out))
 generalize(w2.alloc (.cells (ai cC none none 0 0) 84)).setRow w2.heap.size (ai cC none none 0 0)=w3 at UD dN ⊢;generalize w2.heap.size=g7 at*;have HS4:=zH (t_ (x:=jC) (D:=none) (T:=none) (cd:=0) (ct:=0) UD);have a44:=UD.setRow (bJ jC none none 0 0);have qz:=zH (below_setRow dN jJ (bJ jC none none 0 0));clear V7 cG dN;go_wp2_with (first
  | ((with_reducible refine wpList_skip (w':=w3.setRow g4 (bJ jC none none 0 0)) rfl rfl ?_ ?_);exact aq _ _ _ ⟨g4,0,none⟩ (iz jC none none 0 0) rfl rfl rfl HS4.out))
 have vp:=r7 a44;exact bodyPost_ret (v:=.tuple #[iz jC none none 0 0,.int .u64 0,.int .i64 er]) (by
  rw[fK rfl];have ea:(asAddr (ptr g4)).run prog (w3.setRow g4 (bJ jC none none 0 0))=.ok ⟨g4,0,none⟩ (w3.setRow g4 (bJ jC none none 0 0)):=by go_simp
  refine(congrArg (λr=>Result.andThen r _) ea).trans ?_;simp only[Result.andThen_ok];rw[vp];rfl) rfl ⟨rfl,qz.out⟩
theorem vV {F:af} {w:World} {l:Sp.Lg} (h:dP F w gl gd l) (hno:n∉l.starts):
 Calls prog 18 #[ptr gl,.int .u64 n] w λe w'=>e=.returned (.tuple #[iz jC none none 0 0,.int .u64 0,.int .i64 3])/\zB w w':=
 py (er:=3) (by omega) (λW hb=>Ay (h.below hb) hno)
theorem CW (w:World):Calls prog 83 #[.pointer none] w λe w'=>e=.returned (.bool false)/\w'=w:=by
 go_enter func83,ntmps83;go_wp2_with fail;go_ret;exact⟨rfl,rfl⟩
theorem CV (n:Nat) (w:World):Calls prog 22 #[.pointer none,.int .u64 n] w λe w'=>e=.returned (.tuple #[str [],.int .u64 0,.int .i64 1])/\zB w w':=by
 have HM:=zH (CW w);go_enter func22,ntmps22;go_wp2_with fail;refine HM.out.mono ?_;rintro e w1 ⟨rfl,hw⟩;subst w1;go_wp2_with fail
 go_ret3
 exact⟨rfl,Below.refl _ _⟩
theorem yQ (n:Nat) (w:World):
 Calls prog 18 #[.pointer none,.int .u64 n] w λe w'=>e=.returned (.tuple #[iz jC none none 0 0,.int .u64 0,.int .i64 1])/\zB w w':=
 py (er:=1) (by omega) (λW _=>CV n W)
theorem yP {m:Sp.Ms} {at_:Nat} {b:Bool} (w:World):
 Calls prog 14 #[.pointer none,.int .i64 at_,kH m,ptr gl,ptr gp,ptr gt,.bool b] w λe w'=>e=.returned (.tuple #[kH m,.int .i64 1])/\zB w w':=by
 obtain⟨a7,a8,a9,qc,vn,hb1⟩:=J4 w 40 3 26 41 26 #[.pointer none] #[.int .i64 at_] (aJ m) #[ptr gl] (aJ Sp.jE);obtain⟨w1,hw1⟩:=zE (((((w.alloc (.cells #[.pointer none] 40)).alloc (.cells #[.int .i64 at_] 3)).alloc (.cells (aJ m) 26)).alloc (.cells #[ptr gl] 41)).alloc (.cells (aJ Sp.jE) 26));rw[<-hw1] at a7 a8 a9 qc vn hb1;have c7:=a7.cell 0;simp only[zGA,zGC] at c7;go_enter func14,ntmps14;go_upto_region 1 with fail;change Code.wp _ _ _ _ (((((w.alloc (.cells #[.pointer none] 40)).alloc (.cells #[.int .i64 at_] 3)).alloc (.cells (aJ m) 26)).alloc (.cells #[ptr gl] 41)).alloc (.cells (aJ Sp.jE) 26));rw[<-hw1];obtain⟨g7,mS⟩:=zE w.heap.size;obtain⟨g8,u_⟩:=zE (w.heap.size+1);obtain⟨g9,nC⟩:=zE (w.heap.size+1+1);obtain⟨g10,MH⟩:=zE (w.heap.size+1+1+1);obtain⟨g14,MG⟩:=zE (w.heap.size+1+1+1+1);rw[<-MG] at vn ⊢;rw[<-MH] at qc ⊢;rw[<-nC] at a9 ⊢;rw[<-u_] at a8 ⊢;rw[<-mS] at a7 c7 ⊢;have kW:w.heap.size<=g14:=by omega
 have HL9:=zH (lK a9);have HS:=zH (fB (m:=m) vn);have h14:=vn.setRow (aJ m);have HB:=zH (below_setRow hb1 kW (aJ m));clear hw1 mS u_ nC MH MG a7 a8 qc hb1;go_wp2_with (first
  | ((with_reducible refine aY (v:=kH m) (w':=w1) 34 rfl rfl ?_ ?_);exact ay _ _ ⟨g9,0,none⟩ rfl rfl HL9.out;simp only[zSA,zSB,zSC])
  | ((with_reducible refine wpList_skip (w':=w1.setRow g14 (aJ m)) rfl rfl ?_ ?_);exact aq _ _ _ ⟨g14,0,none⟩ (kH m) rfl rfl rfl HS.out))
 have ZL:=lK h14;exact bodyPost_ret (v:=.tuple #[kH m,.int .i64 1]) (by
  rw[results_cell_tmp rfl];have ea:(asAddr (ptr g14)).run prog (w1.setRow g14 (aJ m))=.ok ⟨g14,0,none⟩ (w1.setRow g14 (aJ m)):=by go_simp
  refine(congrArg (λr=>Result.andThen r _) ea).trans ?_;simp only[Result.andThen_ok];rw[ZL];rfl) rfl ⟨rfl,HB.out⟩
def Sx (w:World) (x:Sp.bI) (z:Nat) (e:Ending) (w':World):Prop:=
 ∃D T cd ct,e=.returned (.tuple #[.agg #[.slice D x.d.length cd,.slice T x.t.length ct,.int .u64 x.tx,.int .u64 x.num],.int .u64 z,.int .i64 0])/\bS (λb=>w.heap.size<=b) w' x D T/\zB w w'
def Wz (er:Nat) (w:World) (e:Ending) (w':World):Prop:=
 e=.returned (.tuple #[.agg #[.slice none 0 0,.slice none 0 0,.int .u64 0,.int .u64 0],.int .u64 0,.int .i64 er])/\zB w w'
structure Z7 (w:World) (g:Nat) (x:Sp.bI) (z bg b1:Nat):Prop where
 find:∀W,zB w W->Calls prog 18 #[ptr g,.int .u64 bg] W (Sx W x z)
 none_:∀W,zB w W->Calls prog 18 #[ptr g,.int .u64 b1] W (Wz 3 W)
structure Z6 (w:World) (gd gl gp gt:Nat) (x:Sp.bI) (z n0 lf bg b1 ol c:Nat) (clean:Bool) (m:Sp.Ms):Prop where
 find:∀W,zB w W->Calls prog 18 #[ptr gl,.int .u64 bg] W (Sx W x z)
 next:∀W,zB w W->Calls prog 13 #[ptr gl] W λe w'=>e=.returned (.int .u64 z)/\w'=W
 open_:∀W,zB w W->Calls prog 19 #[ptr gd,.int .i64 0,.int .i64 8,.int .u64 2,.int .u64 ol] W λe w'=>∃g,e=.returned (.tuple #[ptr g,.int .i64 0])/\Z7 w' g x z bg b1/\zB W w'
 load:∀W,zB w W->Calls prog 20 #[ptr gd,.int .i64 41] W λe w'=>e=.returned (.tuple #[.agg #[.int .u64 n0,.int .u64 lf,.int .u64 bg,.int .u64 ol,.bool clean],.int .i64 0])/\zB W w'
 takeN:∀W,Calls prog 14 #[.pointer none,.int .i64 41,.agg #[.int .u64 c,.int .u64 lf,.int .u64 m.check,.int .u64 m.first,.bool m.clean],ptr gl,ptr gp,ptr gt,.bool clean] W λe w'=>e=.returned (.tuple #[.agg #[.int .u64 c,.int .u64 lf,.int .u64 m.check,.int .u64 m.first,.bool m.clean],.int .i64 1])/\zB W w'
 findN:∀W,Calls prog 18 #[.pointer none,.int .u64 bg] W (Wz 1 W)
 same:∀{G1 G2:af} {W:World} {D T D' T':Option Addr} {cd ct DC M9:Nat},bS G1 W x D T->bS G2 W x D' T'->Calls prog 11 #[.agg #[.slice D x.d.length cd,.slice T x.t.length ct,.int .u64 x.tx,.int .u64 x.num],.agg #[.slice D' x.d.length DC,.slice T' x.t.length M9,.int .u64 x.tx,.int .u64 x.num]] W λe w'=>e=.returned (.bool true)/\zB W w'
theorem Zc {gP:Nat} {O G:af} {l:Sp.Lg} {s:Sp.aF} {w:World} {f:Nat->Sp.Tx} {rs:List (Nat×Sp.Bs)} {x:Sp.bI} (hX:x=jS s f i) (hT:jy i f l rs) (hok:s.Ok) (hfr:s.Fr l.next) (h4:s.frames=4)
 {m:Sp.Ms} {nm:Sp.Ms} {clean:Bool} {n0 lf bg b1 ol:Nat} (hbg:bg=l.next) (hb1:b1=bg+1) (Vv:ol=Sp.bQ bg x) (hn0:n0=c+1) (hc:1<=c/\c<=1000) (hl:1<=lf/\lf<=1000) (hnm:nm=⟨n0,lf,bg,ol,clean⟩) (hz:z=(l.took x).next)
 (hp:eA B gP gd gl gp gr O G (l.took x) (s.took l x nm 41) s w) (PK:s.rest=Sp.xq):Z6 w gd gl gp gt x z n0 lf bg b1 ol c clean m:=by
 have hn:=pT hT;have qQ:=o_ hT hok hfr h4;obtain⟨o1,o2⟩:=rQ hT hfr;have kJ:=hT.first;have PT:Sp.bQ l.next (jS s f i)<=l.next:=Sp.pS _ _;obtain⟨a1,a2,a3,a4,a5,a6,a7,a8,a9,qc,a11,a12,a13,ys,hi⟩:=KL hT hok hfr h4;rw[<-hX] at qQ o1 o2 PT a2 a3 a4 a5 a6 a7 a8 a9 qc a11 a12 a13 hi;rw[<-hbg] at hn o1 o2 PT a6 qc a13 hi;have hlt:(l.took x).next<1000000000:=by omega
 have hd:=qQ.dl;have ht:=qQ.tl;have hfind:∀{F:af} {W:World} {g:Nat},dP F W g gd {l.took x with life:=2,reserved:=0}->Calls prog 18 #[ptr g,.int .u64 bg] W (Sx W x z):=λh=>by
  rw[hz,qc];exact pq h qQ ⟨hi.chain,hi.starts,hi.bytes⟩ (by show(l.took x).next<_;omega)
 refine⟨λW hW=>?_,λW hW=>?_,λW hW=>?_,λW hW=>?_,λW=>yP (m:=⟨c,lf,m.check,m.first,m.clean⟩) W,λW=>yQ bg W,λh1 h2=>uN h1 h2 (by omega) (by omega)⟩
 ·rw[hz];exact Ti (hp.below hW) qQ hi (by omega) qc
 ·rw[hz];exact pQ (hp.below hW)
 ·have h:=Tg (hp.below hW) hi a5 a11 a12 (by omega) hlt a7 a8;rw[show ol=(l.took x).first by rw[a6,Vv]];refine h.mono ?_;rintro e w' ⟨g,F,rfl,hg,hF,hb⟩;refine⟨g,rfl,⟨λW' Uh=>hfind (hg.below Uh),λW' Uh=>?_⟩,hb⟩;rw[hb1];exact vV (hg.below Uh) a13
 ·have h:=Th (hp.below hW) (nm:=nm) (by rw[hnm];exact⟨by show 0<n0;omega,by show 0<lf;omega,by show 0<ol;omega,by show ol<=bg;omega,by show n0<_;omega,by show lf<_;omega,by show bg<_;omega⟩) (by
   show(λi=>if i=41+nm.count%2 then nm.bytes else s.rest i)=_;rw[PK])
  refine h.mono ?_;rintro e w' ⟨rfl,hb⟩;exact⟨by rw[hnm];rfl,hb⟩
end
section
open Go.ChangeAt Go.ChangeShapes Go.Deep Go.WideShapes
section
variable {H:Type} {enc:TypeId×Value->H} {P:Program} {w:World}
def Small (P:Program) (t:TypeId) (d:DataW H):Prop:=∀n∈d.weights P t,n<=reachBytes
theorem Bt {ts:List TypeId} {ds:List (DataW H)} (h:(DataW.weightsEach P ts ds).all (· <=reachBytes)=true) {d:DataW H} (ht:ts[j]? =some t) (hd:ds[j]? =some d):Small P t d:=λn hn=>by
 simpa using List.all_eq_true.1 h n (DataW.weights_mem_each ht hd n hn)
theorem lz {fs:Array Field} (hs:P.underlying t=some (.struct fs)) {parts:List (DataW H)} (h:Small P t (.agg parts)) {f:Field} {d:DataW H} (hf:fs[j]? =some f) (hd:parts[j]? =some d):Small P f.type d:=λn hn=>by
 refine h n ?_;simp only[DataW.weights,hs];exact DataW.weights_mem_each (j:=j) (by rw[zN,zZ,hf];rfl) hd n hn
theorem oI:∀{ds:List (DataW H)} {d:DataW H},d∈ds->∀n∈d.weights P e,n∈DataW.weightsAll P e ds
 | x::ds,d,hd,n,hn=>by
  simp only[DataW.weightsAll,zz];rcases zW.1 hd with rfl | hd
  ·exact .inl hn
  ·exact .inr (oI hd n hn)
theorem xf (hs:P.underlying t=some (.slice e)) {elems spare:List (DataW H)} (h:Small P t (.slice elems spare)) {d:DataW H} (hd:d∈elems):Small P e d:=λn hn=>by
 refine h n ?_;simp only[DataW.weights,hs,zW,zz];exact .inr (.inl (oI hd n hn))
theorem lu (hs:P.underlying t=some (.slice e)) {elems spare:List (DataW H)} (h:Small P t (.slice elems spare)):(elems.length+spare.length)*P.bytesOf e<=140737488351232:=
 h _ (by simp[DataW.weights,hs])
theorem r9 {bytes:List UInt8} (h:Small P t (.lit (.string bytes):DataW H)):bytes.length<=140737488351232:=h _ (by simp[DataW.weights])
theorem l_ {fs:Array Field} {cs:List Value} {x:DataW H×List MemPlace} (ht:P.underlying t=some (.struct fs)) (h:DataW.trod enc P w 0 (λ_=>true) true fuel t cs=some x):
 cs.length=P.cellsOf t/\∃(ys:List (DataW H×List MemPlace)) (n:Nat),x.1=.agg (ys.map (·.1))/\∀(j:Nat) (f:Field),fs[j]? =some f->∃y,ys[j]? =some y/\(ys.map (·.1))[j]? =some y.1/\DataW.trod enc P w 0 (λ_=>true) true n f.type ((cs.drop f.offset).take (P.cellsOf f.type))=some y:=by
 obtain⟨ys,n,_,rfl,hl,hlen,hf⟩:=DataW.trod_struct ht h;refine⟨hl,ys,n,rfl,λj f hj=>?_⟩;have hjl:j<ys.length:=by rw[hlen];exact(zm.1 hj).1
 have hy:ys[j]? =some ys[j]:=zk hjl;exact⟨ys[j],hy,by rw[zN,hy];rfl,(hf j f hj).trans hy⟩
theorem wZ {x:DataW H×List MemPlace} (ht:P.underlying t=some (.slice e)) (he:P.underlying e=some .string) (hc:P.cellsOf e=1) (hb:P.bytesOf e=16)
 (h:DataW.trod enc P w 0 (λ_=>true) true fuel t [v]=some x) (hs:Small P t x.1):
 ∃(A:Option Addr) (c:Nat) (rows:List ByteArray),v=.slice A rows.length c/\Reads (λb=>b<w.heap.size) w 1 A rows.length (rows.map Value.string)/\rows.length*16<=140737488351232/\∀s∈rows,s.size<=140737488351232:=by
 rcases open_strings ht he hc h with⟨hcs,hx⟩ | ⟨a,len,cap,ss,hcs,_,hl,hm,hz,hx,Fv,_⟩
 ·obtain rfl:v=_:=by simpa using hcs
  exact⟨none,0,[],rfl,Reads.none_,by simp,by simp⟩
 ·obtain rfl:v=_:=by simpa using hcs
  have hz':ss.length=cap:=by simpa using hz
  have AL:(ss.take len).length=len:=by simp;omega
  rw[hx] at hs;have hsz:=lu ht hs;rw[hb] at hsz;simp only[strs,zM] at hsz;have hsm:∀s∈ss.take len,s.size<=140737488351232:=λs hm=>by
   have:=r9 (xf ht hs (d:=.lit (.string s.data.toList)) (zn.2 ⟨s,hm,rfl⟩));simpa using this
  refine⟨some a,cap,ss.take len,by rw[AL],⟨by simp,λhn=>?_⟩,by simp at hsz ⊢;omega,hsm⟩;rw[AL] at hn;have h0:=Fv 0 (by omega);obtain⟨b,off,spot⟩:=a;have hspot:spot=none:=by simpa[Addr.add] using World.cell?_spot h0
  subst hspot;refine⟨b,off,rfl,World.block_lt_of_cell? w _ h0,World.block_lt_of_cell? w _ h0,λj u hu=>?_⟩;have hj:j<len:=by
   have:=(zad.1 hu).1;simp at this;omega
  have e1:(⟨b,off,none⟩:Addr).add j=⟨b,off+j,none⟩:=by cases j<;>simp[Addr.add]
  rw[<-e1,Fv j (by omega)];rw[zN,zT,zK hj,zk (by omega)] at hu;rw[<-hu];simp;rw[zk (by omega)];rfl
end
theorem Cx {n:Int} (h:(Lit.int .u8 n).wf=true):∃m:Nat,n=(m:Int)/\m<256:=by
 simp[Lit.wf,IntKind.min,IntKind.max,IntKind.signed,IntKind.bits] at h;exact⟨n.toNat,by omega,by omega⟩
theorem oy {n:Int} (h:(Lit.int .u32 n).wf=true):∃m:Nat,n=(m:Int)/\m<4294967296:=by
 simp[Lit.wf,IntKind.min,IntKind.max,IntKind.signed,IntKind.bits] at h;exact⟨n.toNat,by omega,by omega⟩
theorem ow {n:Int} (h:(Lit.int .u64 n).wf=true):∃m:Nat,n=(m:Int)/\m<18446744073709551616:=by
 simp[Lit.wf,IntKind.min,IntKind.max,IntKind.signed,IntKind.bits] at h;exact⟨n.toNat,by omega,by omega⟩
instance:Inhabited dZ:=⟨⟨0,0,⟨0,0,0,0,0,[]⟩,false,[],[]⟩⟩
theorem CQ {H:Type} {enc:TypeId×Value->H} {w:World} {cs:List Value} {x:DataW H×List MemPlace} (h:DataW.trod enc prog w 0 (λ_=>true) true fuel 64 cs=some x) (hs:Small prog 64 x.1):
 ∃(p:Sp.Pg) (A:Option Addr) (c:Nat),cs=(aG p A c).toList/\p.wf/\kU A c p.rows.length/\aA (λb=>b<w.heap.size) w A p.rows/\p.rows.length<=140737488351232/\∀r∈p.rows,r.length<=140737488351232:=by
 obtain⟨hl,ys,n,hx,hf⟩:=l_ underlying64 h;rw[show prog.cellsOf 64=6 by kernel_rfl] at hl
 match cs,hl with
 | [v0,v1,v2,v3,v4,v5],_=>
  obtain⟨y0,_,_,h0⟩:=hf 0 _ rfl;obtain⟨y1,_,_,h1⟩:=hf 1 _ rfl;obtain⟨y2,_,_,h2⟩:=hf 2 _ rfl;obtain⟨y3,_,_,h3⟩:=hf 3 _ rfl;obtain⟨y4,_,_,h4⟩:=hf 4 _ rfl;obtain⟨y5,_,hy5,h5⟩:=hf 5 _ rfl;rw[hx] at hs;have hs5:=lz underlying64 hs (j:=5) rfl hy5;have c8:prog.cellsOf 5=1:=by kernel_rfl
  have c32:prog.cellsOf 61=1:=by kernel_rfl
  have Ry:prog.cellsOf 24=1:=by kernel_rfl
  have cs1:prog.cellsOf 62=1:=by kernel_rfl
  replace h0:DataW.trod enc prog w 0 (λ_=>true) true n 5 [v0]=some y0:=by rw[<-h0];show _=DataW.trod _ _ _ _ _ _ _ _ (List.take (prog.cellsOf 5) _);rw[c8];rfl
  replace h1:DataW.trod enc prog w 0 (λ_=>true) true n 5 [v1]=some y1:=by rw[<-h1];show _=DataW.trod _ _ _ _ _ _ _ _ (List.take (prog.cellsOf 5) _);rw[c8];rfl
  replace h2:DataW.trod enc prog w 0 (λ_=>true) true n 61 [v2]=some y2:=by rw[<-h2];show _=DataW.trod _ _ _ _ _ _ _ _ (List.take (prog.cellsOf 61) _);rw[c32];rfl
  replace h3:DataW.trod enc prog w 0 (λ_=>true) true n 24 [v3]=some y3:=by rw[<-h3];show _=DataW.trod _ _ _ _ _ _ _ _ (List.take (prog.cellsOf 24) _);rw[Ry];rfl
  replace h4:DataW.trod enc prog w 0 (λ_=>true) true n 61 [v4]=some y4:=by rw[<-h4];show _=DataW.trod _ _ _ _ _ _ _ _ (List.take (prog.cellsOf 61) _);rw[c32];rfl
  replace h5:DataW.trod enc prog w 0 (λ_=>true) true n 62 [v5]=some y5:=by rw[<-h5];show _=DataW.trod _ _ _ _ _ _ _ _ (List.take (prog.cellsOf 62) _);rw[cs1];rfl
  obtain⟨k,e0,_,w0⟩:=DataW.trod_int underlying5 h0;obtain⟨lv,e1,_,w1⟩:=DataW.trod_int underlying5 h1;obtain⟨id,e2,_,w2⟩:=DataW.trod_int underlying61 h2;obtain⟨aL,e3,_,w3⟩:=DataW.trod_int underlying24 h3;obtain⟨nx,e4,_,w4⟩:=DataW.trod_int underlying61 h4;have hnil:v5=.slice none 0 0\/∃a m c,v5=.slice (some a) m c:=by
   rcases open_slice underlying62 h5 with⟨hcs,_⟩ | ⟨a,len,cap,m,n,D,Pl,hcs,_⟩
   ·exact .inl (by simpa using hcs)
   ·exact .inr ⟨a,len,cap,by simpa using hcs⟩
  obtain⟨A,c,rows,Mu,hR,hlr,hz⟩:=wZ underlying62 underlying9 (by kernel_rfl) (by kernel_rfl) h5 hs5;simp at e0 e1 e2 e3 e4;subst e0 e1 e2 e3 e4;obtain⟨k,rfl,q0⟩:=Cx w0;obtain⟨lv,rfl,q1⟩:=Cx w1;obtain⟨id,rfl,q2⟩:=oy w2;obtain⟨aL,rfl,q3⟩:=ow w3;obtain⟨nx,rfl,q4⟩:=oy w4;have hN:kU A c rows.length:=by
   rcases hnil with e | ⟨a,m,c',e⟩
   ·rw[Mu] at e;injection e with e1 e2 e3;exact .inr ⟨e1,e3,e2⟩
   ·rw[Mu] at e;injection e with e1 e2 e3;exact .inl ⟨a,e1⟩
  have erow:rows.map Value.string=Ak (rows.map λs=>s.data.toList):=by
   unfold Ak;rw[zat];apply zY;intro s _;rfl
  subst Mu;refine⟨⟨k,lv,id,aL,nx,rows.map λs=>s.data.toList⟩,A,c,by simp,⟨q0,q1,q2,q3,q4⟩,by simpa using hN,?_,by simp;omega,λr hr=>?_⟩
  ·show Reads _ w 1 A (rows.map _).length _;rw[zM,<-erow];exact hR
  ·obtain⟨s,hs,rfl⟩:=zn.1 hr;have:=hz s hs;rw[Array.length_toList];exact this
theorem F8 {H:Type} {enc:TypeId×Value->H} {w:World} {cs:List Value} {x:DataW H×List MemPlace} (h:DataW.trod enc prog w 0 (λ_=>true) true fuel 67 cs=some x) (hs:Small prog 67 x.1):
 ∃(a:dZ) (AX:Option Addr) (cX:Nat) (AP:Option Addr) (cP:Nat),cs=(a.cs AX cX AP cP).toList/\a.Ok/\a.hv.ok/\kU AX cX a.x.rows.length/\aA (λb=>b<w.heap.size) w AX a.x.rows/\kU AP cP a.pages.length/\Reads (λb=>b<w.heap.size) w 1 AP a.pages.length (a.pages.map av):=by
 obtain⟨hl,ys,n,hx,hf⟩:=l_ underlying67 h;rw[show prog.cellsOf 67=11 by kernel_rfl] at hl
 match cs,hl with
 | [v0,v1,v2,v3,v4,v5,v6,v7,v8,v9,v10],hl=>
  obtain⟨y0,_,_,h0⟩:=hf 0 _ rfl;obtain⟨y1,_,_,h1⟩:=hf 1 _ rfl;obtain⟨y2,_,sP,h2⟩:=hf 2 _ rfl;obtain⟨y3,_,_,h3⟩:=hf 3 _ rfl;obtain⟨y4,_,hy4,h4⟩:=hf 4 _ rfl;obtain⟨y5,_,hy5,h5⟩:=hf 5 _ rfl;rw[hx] at hs;have hs2:=lz underlying67 hs (j:=2) rfl sP;have Gx:=lz underlying67 hs (j:=4) rfl hy4;have hs5:=lz underlying67 hs (j:=5) rfl hy5;have c8:prog.cellsOf 5=1:=by kernel_rfl
  have c32:prog.cellsOf 61=1:=by kernel_rfl
  have cpg:prog.cellsOf 64=6:=by kernel_rfl
  have cbo:prog.cellsOf 4=1:=by kernel_rfl
  have cst:prog.cellsOf 9=1:=by kernel_rfl
  have csl:prog.cellsOf 65=1:=by kernel_rfl
  replace h0:DataW.trod enc prog w 0 (λ_=>true) true n 5 [v0]=some y0:=by rw[<-h0];show _=DataW.trod _ _ _ _ _ _ _ _ (List.take (prog.cellsOf 5) _);rw[c8];rfl
  replace h1:DataW.trod enc prog w 0 (λ_=>true) true n 61 [v1]=some y1:=by rw[<-h1];show _=DataW.trod _ _ _ _ _ _ _ _ (List.take (prog.cellsOf 61) _);rw[c32];rfl
  replace h2:DataW.trod enc prog w 0 (λ_=>true) true n 64 [v2,v3,v4,v5,v6,v7]=some y2:=by rw[<-h2];show _=DataW.trod _ _ _ _ _ _ _ _ (List.take (prog.cellsOf 64) _);rw[cpg];rfl
  replace h3:DataW.trod enc prog w 0 (λ_=>true) true n 4 [v8]=some y3:=by rw[<-h3];show _=DataW.trod _ _ _ _ _ _ _ _ (List.take (prog.cellsOf 4) _);rw[cbo];rfl
  replace h4:DataW.trod enc prog w 0 (λ_=>true) true n 9 [v9]=some y4:=by rw[<-h4];show _=DataW.trod _ _ _ _ _ _ _ _ (List.take (prog.cellsOf 9) _);rw[cst];rfl
  replace h5:DataW.trod enc prog w 0 (λ_=>true) true n 65 [v10]=some y5:=by rw[<-h5];show _=DataW.trod _ _ _ _ _ _ _ _ (List.take (prog.cellsOf 65) _);rw[csl];rfl
  obtain⟨k,e0,_,w0⟩:=DataW.trod_int underlying5 h0;obtain⟨id,e1,_,w1⟩:=DataW.trod_int underlying61 h1;obtain⟨bo,e3,_⟩:=DataW.trod_bool underlying4 h3;obtain⟨s,e4,ey,_⟩:=DataW.trod_string underlying9 h4;simp at e0 e1 e3 e4;obtain⟨m,rfl,hm⟩:=Cx w0;obtain⟨pg,rfl,rW⟩:=oy w1;rw[ey] at Gx;have hsz:=r9 Gx;obtain⟨p,A,c,e7,hpw,hN,hR,hrl,hrz⟩:=CQ h2 hs2;obtain⟨q,P,cp,e10,hnp,hN2,pW,hq⟩:∃(q:List Nat) (P:Option Addr) (c:Nat),v10=.slice P q.length c/\q.length<=140737488351232/\kU P c q.length/\Reads (λb=>b<w.heap.size) w 1 P q.length (q.map av)/\∀n∈q,n<4294967296:=by
   rcases open_ints underlying65 underlying61 (by kernel_rfl) h5 with⟨hcs,_⟩ | ⟨a,len,cap,zs,hcs,_,hlc,hm',hzl,hxx,hcell,hzw⟩
   ·exact⟨[],none,0,by simpa using hcs,by simp,.inr ⟨rfl,rfl,rfl⟩,Reads.none_,by simp⟩
   ·rw[hxx] at hs5;have hss:=lu underlying65 hs5;rw[show prog.bytesOf 61=4 by kernel_rfl] at hss;have hzl':zs.length=cap:=by simpa using hzl
    simp[lits] at hss;have TV:((zs.take len).map Int.toNat).length=len:=by simp;omega
    refine⟨(zs.take len).map Int.toNat,some a,cap,by rw[TV];simpa using hcs,by rw[TV];omega,.inl ⟨a,rfl⟩,?_,λz hz=>?_⟩
    ·rw[TV];refine⟨by simp;omega,λhn=>?_⟩;have hce:∀i,i<len->w.cell? (a.add i)=some (.int .u32 (zs.getD i 0)):=λi hi=>hcell i (by omega);obtain⟨b,off,spot⟩:=a;have k0:=hce 0 hn;have k0':w.cell? ((⟨b,off,spot⟩:Addr))=some (.int .u32 (zs.getD 0 0)):=by simpa[Addr.add] using k0
     have hspot:spot=none:=by simpa using World.cell?_spot k0'
     subst hspot;refine⟨b,off,rfl,World.block_lt_of_cell? w _ k0',World.block_lt_of_cell? w _ k0',λj u hu=>?_⟩;have hj:j<len:=by
      have:=(zad.1 hu).1;simp at this;omega
     have:=hce j hj;rw[ko] at this;rw[this];have hjz:j<zs.length:=by omega
     have hwf:=oy (hzw zs[j] (zw hjz));obtain⟨m',em,_⟩:=hwf;simp only[zN,List.getElem?_take_of_lt hj,zk hjz,zas,Option.some.injEq] at hu;rw[<-hu,List.getD_eq_getElem?_getD,zk hjz,em];rfl
    ·obtain⟨z',hz',rfl⟩:=zn.1 hz;obtain⟨m',em,hm2⟩:=oy (hzw z' (zax hz'));rw[em];simpa using hm2
  subst e0 e1 e3 e4 e10;injection e7 with f2 e7;injection e7 with f3 e7;injection e7 with f4 e7;injection e7 with f5 e7;injection e7 with f6 e7;injection e7 with f7 _;subst f2 f3 f4 f5 f6 f7;refine⟨⟨m,pg,p,bo,s.data.toList,q⟩,A,c,P,cp,rfl,⟨hm,rW,hpw,hq,λr hr=>by have:=hrz r hr;omega⟩,⟨?_,by show q.length<=_;omega,by show(p.rows.map F5).length<=_;rw[zM];omega,λz hz=>?_⟩,hN,hR,hN2,pW⟩
  ·show(F5 s.data.toList).size<=_;show s.data.toList.toArray.size<=_;rw[zV];exact zl hsz (by omega)
  ·obtain⟨r,hr,rfl⟩:=zn.1 hz;have:=hrz r hr;show r.toArray.size<=_;rw[zV];omega
theorem DK {H:Type} {enc:TypeId×Value->H} {w:World} {x:DataW H×List MemPlace} (h:DataW.trod enc prog w 0 (λ_=>true) true fuel 22 [v]=some x) (hs:Small prog 22 x.1):
 ∃(A:Option Addr) (c:Nat) (l:List dZ),v=.slice A l.length c/\pG w A l/\l.length<=140737488351232/\(∀a∈l,a.hv.ok)/\∀a∈l,a.Ok:=by
 rcases open_slice underlying22 h with⟨hcs,_⟩ | ⟨a,len,cap,m,n,D,Pl,hcs,_,hl,hm,z_,hx,hc⟩
 ·obtain rfl:v=_:=by simpa using hcs
  exact⟨none,0,[],rfl,λh=>absurd h (by simp),by simp,by simp,by simp⟩
 ·obtain rfl:v=_:=by simpa using hcs
  have hlm:len<=m:=by rw[z_];split<;>omega
  rw[hx] at hs;have hsz:=lu underlying22 hs;rw[show prog.bytesOf 67=104 by kernel_rfl] at hsz;simp only[zM,List.length_range] at hsz;have c11:prog.cellsOf 67=11:=by kernel_rfl
  obtain⟨S,hS⟩:=choose_lt (α:=dZ) (n:=len) (p:=λi s=>∃cs,w.cells? 0 (a.add (i*11)) 11=some cs/\∃(AX:Option Addr) (cX:Nat) (AP:Option Addr) (cP:Nat),cs=(s.cs AX cX AP cP).toList/\s.Ok/\s.hv.ok/\kU AX cX s.x.rows.length/\aA (λb=>b<w.heap.size) w AX s.x.rows/\kU AP cP s.pages.length/\Reads (λb=>b<w.heap.size) w 1 AP s.pages.length (s.pages.map av)) (λi hi=>by
   obtain⟨cs',h1,h2⟩:=hc i (by omega);have hsi:=xf underlying22 hs (d:=D i) (zn.2 ⟨i,zbi.2 hi,rfl⟩);obtain⟨s,q⟩:=F8 h2 hsi;rw[c11] at h1;exact⟨s,cs',h1,q⟩)
  obtain⟨b,off,hab⟩:∃b off,0<len->a=⟨b,off,none⟩/\b<w.heap.size:=by
   obtain⟨b,off,spot⟩:=a;refine⟨b,off,λhn=>?_⟩;obtain⟨cs,q1,AX,cX,AP,cP,rfl,_⟩:=hS 0 hn;obtain⟨_,_,hc0⟩:=World.cells?_some q1;have k0:=hc0 0 (by omega);have k0':w.cell? ((⟨b,off,spot⟩:Addr))=some (.int .u8 (S 0).mK):=by simpa[Addr.add,dZ.cs] using k0
   have hspot:spot=none:=by simpa using World.cell?_spot k0'
   subst hspot;exact⟨rfl,World.block_lt_of_cell? w _ k0'⟩
  refine⟨some a,cap,(List.range len).map S,by simp,λhn=>?_,by simp;omega,λs hm=>?_,λs hm=>?_⟩
  ·have hn':0<len:=by simpa using hn
   refine⟨b,off,by rw[(hab hn').1],(hab hn').2,λi s hi=>?_⟩;obtain⟨hil,hi'⟩:∃hil:i<len,s=S i:=by
    rw[zN] at hi;by_cases hil:i<len
    ·rw[zbm hil] at hi;exact⟨hil,by simpa using hi.symm⟩
    ·rw[List.getElem?_eq_none (by simpa using hil)] at hi;cases hi
   subst hi';obtain⟨cs,q1,AX,cX,AP,cP,rfl,_,_,h1,h2,h3,h4⟩:=hS i hil;refine⟨AX,cX,AP,cP,h1,h2,h3,h4,λj hj=>?_⟩;obtain⟨_,_,VF⟩:=World.cells?_some q1;have:=VF j hj;rw[(hab hn').1,add_add] at this;have e2:(⟨b,off,none⟩:Addr).add (i*11+j)=⟨b,off+i*11+j,none⟩:=by
    rw[Nat.add_assoc]
    cases hz:i*11+j<;>simp[Addr.add]
   rw[e2,zZ] at this;exact this
  ·obtain⟨i,hi,rfl⟩:=zn.1 hm;obtain⟨cs,q1,AX,cX,AP,cP,_,_,h1,_⟩:=hS i (by simpa using hi);exact h1
  ·obtain⟨i,hi,rfl⟩:=zn.1 hm;obtain⟨cs,q1,AX,cX,AP,cP,_,h1,_⟩:=hS i (by simpa using hi);exact h1
theorem TL {w:World} {ls:List dZ} (h:pG w A ls):HvAt w A (ls.map dZ.hv):=λhn=>by
 obtain⟨b,o,rfl,hb,hc⟩:=h (by simpa using hn);refine⟨b,o,rfl,hb,λi x hi=>?_⟩;rw[zN] at hi
 cases ha:ls[i]? with
 | none=>rw[ha] at hi;cases hi
 | some a=>
  rw[ha] at hi;injection hi with hi;subst hi;obtain⟨AX,cX,AP,cP,_,hR,_,_,hk⟩:=hc i a ha;have el:a.hv.rows.length=a.x.rows.length:=by show(a.x.rows.map F5).length=_;rw[zM]
  have er:a.hv.rows.map Value.string=Ak a.x.rows:=by
   show(a.x.rows.map F5).map Value.string=_;unfold Ak;rw[zat];rfl
  refine⟨(hk 9 (by omega)).trans rfl,⟨AP,cP,(hk 10 (by omega)).trans rfl⟩,AX,cX,?_,?_⟩
  ·rw[el];exact(hk 7 (by omega)).trans rfl
  ·rw[el,er];exact hR
end
section
open Go.Conc
theorem Xz {ls:List dZ} (h:hvB (ls.map dZ.hv)=false):ls.length<=60/\∀a∈ls,a.row.length<=4000/\a.x.rows.length<=1000/\a.pages.length<=4000:=by
 have hle:∀(l:List Nat) (x:Nat),x∈l->x<=l.sum:=λl=>by
  induction l with
  | nil=>intro x h;cases h
  | cons y l ih=>
   intro x h;rw[List.sum_cons];rcases zW.1 h with rfl | h
   ·omega
   ·have:=ih x h;omega
 unfold hvB at h;rw[Bool.or_eq_false_iff,ze,ze,zM] at h;refine⟨by omega,λa ha=>?_⟩;have h2:=h.2;rw[zX (by rw[zM];omega)] at h2;have h3:a.hv.w<=iT (ls.map dZ.hv):=by
  unfold iT;exact hle _ _ (zn.2 ⟨a.hv,zn.2 ⟨a,ha,rfl⟩,rfl⟩)
 generalize iT (ls.map dZ.hv)=S at h2 h3;unfold Bh.w dZ.hv at h3;dsimp only at h3;have e1:(F5 a.row).size=a.row.length:=by simp[F5,ByteArray.size]
 rw[e1,zM] at h3;omega
theorem pG.below {w:World} {ls:List dZ} (h:pG w A ls) (hb:zB w w'):pG w' A ls:=λhn=>by
 obtain⟨b,o,e,cH,hc⟩:=h hn;have hs:=hb.size;refine⟨b,o,e,by omega,λi a hi=>?_⟩;obtain⟨AX,cX,AP,cP,h1,h2,h3,h4,h5⟩:=hc i a hi;exact⟨AX,cX,AP,cP,h1,(Reads.below h2 hb).mono (λb hb=>by omega),h3,(Reads.below h4 hb).mono (λb hb=>by omega),λj hj=>(hb.cell (p:=⟨b,o+i*11+j,none⟩) cH).trans (h5 j hj)⟩
theorem S6 {w:World} {r:Result Next} (h:∀ρ:Operand->Value,(execOp ρ o).run P w=r):(execOp a.eval o).run P w=r:=h _
theorem dh {w:World} {f:FuncId} {xs:Array Operand} {vs:Array Value} (ts:Array TypeId) (ho:o.op=.call {callee:=.value (.func f),args:=xs,argTypes:=ts}) (eg:∀args w,(callFunc f args).run P w=.ok (.enter f args) w) (hx:xs.map a.eval=vs):(execOp a.eval o).run P w=.ok (.enter f vs) w:=by
 unfold execOp;have hf:a.eval (.func f)=.func (.func f) #[] #[]:=rfl;simp only[ho,resolve,invoke,Sem.run_bind,hx,hf];simp[Deferred.ofValue,eg,go_sem]
section
variable {B gP gd gl gp gr mb cb gt i:Nat} {O G:af} {l:Sp.Lg} {s:Sp.aF} {w:World} {lk:Nat->Option Value} {f:Nat->Sp.Tx} {rs:List (Nat×Sp.Bs)}
theorem Td (h:eA B gP gd gl gp gr O G l s s w) (htb:j_ mb cb w gt i lk (i+1) 1) (hlk:∀p,lk p=if p∈List.range' 1 i then some (f p).val else none) (hT:jy i f l rs) (hfr:s.Fr l.next) (IQ:s.frames=4) (hok:s.Ok) {m:Sp.Ms} {clean:Bool} (h1:1<=m.count/\m.count<=1000) (h2:1<=m.life/\m.life<=1000):
 Calls prog 14 #[ptr gd,.int .i64 41,kH m,ptr gl,ptr gp,ptr gt,.bool clean] w λe w'=>e=.returned (.tuple #[.agg #[.int .u64 (m.took l (jS s f i) clean).count,.int .u64 (m.took l (jS s f i) clean).life,.int .u64 (m.took l (jS s f i) clean).check,.int .u64 (m.took l (jS s f i) clean).first,.bool (m.took l (jS s f i) clean).clean],.int .i64 0])/\eA B gP gd gl gp gr O G (l.took (jS s f i)) (s.took l (jS s f i) (m.took l (jS s f i) clean) 41) s w'/\Kept (mC gP O G) w w':=by
 obtain⟨K,vL,vD,hpk,hrf,hK,hO,nV,hP⟩:=h;obtain⟨a1,a2,a3,a4,a5,a6,a7,a8,a9,qc,a11,a12,a13,vn⟩:=KL hT hok hfr IQ;obtain⟨b1,b2⟩:=rQ (s:=s) hT hfr;have hn:=pT hT;have hi:=hT.i9;have PT:Sp.bQ l.next (jS s f i)<=l.next:=Sp.pS _ _;have kJ:=hT.first;have hm:(m.took l (jS s f i) clean).Ok:=⟨by show 0<m.count+1;omega,by show 0<m.life;omega,by show 0<Sp.bQ l.next (jS s f i);omega,PT,by show m.count+1<_;omega,by show m.life<_;omega,by show l.next<_;omega⟩;refine(Jq hpk (by omega) htb hlk List.pairwise_lt_range' (by omega) (by simp;omega) (λp hp=>by have:=dG.1 hp;omega) (x:=jS s f i) rfl (o_ hT hok hfr IQ) hm (by omega) (by omega) a3 (by omega) (by rw[hT.res];omega) (by decide) (by decide) (by decide) b1 b2 hT.wf.fn).mono ?_;rintro e w' ⟨rfl,hk,hp⟩;obtain⟨q1,q2⟩:=eA.EP hrf hK hO nV hP hk hp (λb hb=>hb);exact⟨rfl,q1,q2⟩
end
theorem OJ {B gP gd gl gp gr:Nat} {O G:af} {l:Sp.Lg} {sp sr:Sp.aF} {w:World} (h:eA B gP gd gl gp gr O G l sp sr w):Calls prog 16 #[ptr gl] w λe w'=>e=.returned (.int .u64 l.first)/\w'=w:=by
 obtain⟨K,vL,vD,hpk,_⟩:=h;obtain⟨p,D,F,G',dk,hpl,hd,hg,_⟩:=hpk;exact Mk hg
theorem xA {G:af} {w:World} {size:Nat} (h:Reads G w size A n xs) (hs:w.heap.size<=w'.heap.size) (hk:∀b,G b->b<w.heap.size->w'.heap[b]? =w.heap[b]?):Reads G w' size A n xs:=
 ⟨h.1,λhn=>by
  obtain⟨b,o,e,I2,hlt,hc⟩:=h.2 hn;exact⟨b,o,e,I2,by omega,λj u hu=>(World.cell?_of_block (w:=w) (a:=⟨b,o+j,none⟩) (hk b I2 hlt)).trans (hc j u hu)⟩⟩
def TabE (w:World) (x:Sp.bI) (e:Ending) (w':World):Prop:=
 ∃D T cd ct,e=.returned (.agg #[.slice D x.d.length cd,.slice T x.t.length ct,.int .u64 x.tx,.int .u64 x.num])/\bS (λb=>w.heap.size<=b) w' x D T/\zB w w'
theorem Fa (A:Option Addr) (cap:Nat) (ls:List dZ) (hl:ls.length<=140737488355328) (hok:∀a∈ls,a.hv.ok) (hb:∀a∈ls,a.Ok) (w:World) (ha:pG w A ls)
 (Ao:Option Addr) (co:Nat) (bs:List Bool) (vF:Reads (λb=>b<w.heap.size) w 1 Ao bs.length (bs.map .bool)) (hbl:bs.length<=140737488355328) (m:Sp.Ms) (hc64:m.count<18446744073709551616) (X_:m.life<18446744073709551616) (clean:Bool):
 Calls prog 3 #[.slice A ls.length cap,.slice Ao bs.length co,kH m,.bool clean] w λe w'=>e=.returned (.bool true)/\zB w w':=by
 have jb:=@Xz ls;have fI:=(zR w).alloc (za _) (.cells (aJ m) 26);have gM:=aj.new w 26 (aJ m);have hb6n:(w.alloc (.cells (aJ m) 26)).heap.size=w.heap.size+1:=by simp
 obtain⟨w1,hw1⟩:=zE (w.alloc (.cells (aJ m) 26));rw[<-hw1] at fI gM hb6n;have ha1:pG w1 A ls:=ha.below fI;have yf:=TL ha1;have hon1:Reads (λb=>b<w1.heap.size) w1 1 Ao bs.length (bs.map .bool):=(Reads.below vF fI).mono (λb hb=>by omega);have HHV:=zH (Mn A cap (ls.map dZ.hv) (by rw[zM];exact hl) (λx hx=>by
  obtain⟨a,ha,rfl⟩:=zn.1 hx;exact hok a ha) w1 yf)
 rw[zM] at HHV;have HW:=zH fun(W:World)=>Li W;have HA:=zH ha;have Bk:=zH hb;have Np:=zH hon1;have Sc:=zH jb;have qz:=zH gM;have jA:=zH fI;clear ha vF hok hb jb yf ha1 hon1 gM fI;generalize hvB (ls.map dZ.hv)=hz at*;go_enter func3,ntmps3;go_upto_region 1 with fail;change Code.wp _ _ _ _ (w.alloc (.cells (aJ m) 26));obtain⟨g6,qu⟩:=zE w.heap.size;rw[<-qu] at qz ⊢;rw[<-hw1];clear hw1;replace qu:=zH qu;have ME:g6<w1.heap.size:=qz.out.lt;go_wp2_with fail;refine HHV.out.mono ?_;rintro e w2 ⟨rfl,hb2⟩;clear HHV;have hs2:=hb2.size;have eo:=zH (jA.out.trans (hb2.mono jA.out.size));have hWORK:hz=true\/20<bs.length->∀W,zB w W->Calls prog 8 #[] W λe w'=>e=.returned (.bool true)/\zB w w':=λ_ W hW=>(HW.out W).mono λe w' h=>⟨h.1,hW.trans (h.2.mono hW.size)⟩
 cases hz with
 | true=>
  go_wp2_with fail;refine(HW.out w2).mono ?_;rintro e w3 ⟨rfl,hb3⟩;have hbz:=eo.out.trans (hb3.mono eo.out.size);go_wp2_with fail;go_ret;exact⟨rfl,hbz⟩
 | false=>
  by_cases h20:20<bs.length
  ·have q1:(20:Int)<(bs.length:Int):=by omega
   go_wp2_with fail;refine(HW.out w2).mono ?_;rintro e w3 ⟨rfl,hb3⟩;have hbz:=eo.out.trans (hb3.mono eo.out.size);go_wp2_with fail;go_ret;exact⟨rfl,hbz⟩
  ·have q1:¬20<bs.length:=h20;obtain⟨Y5,jb⟩:=Sc.out rfl;have K_:=zH (Fc Ao co bs A cap ls w w2 eo.out ((Reads.below Np.out hb2).mono (λb hb=>by omega)) (by omega) Bk.out Y5 jb HA.out);have hB62:=qz.out.below hb2 ME;have Z0:=zH hB62;clear hWORK Sc Np Bk HA qz hB62 jb hb2;go_wp2_with fail;refine K_.out.mono ?_;rintro e w3 ⟨gP,gd,gl,gp,gr,gt,mb,cb,i,lk,f,rs,l,s,G,rfl,tN,htb,hlk,hT,hfr,hrs,IQ,hle,hG,hb3⟩;have hok:s.Ok:=tN.ok hle (by omega);obtain⟨x,hx⟩:=zE (jS s f i);have Yd:=hT.i9;have HWNT:Hid (Calls prog 10 #[ptr gP,ptr gt] w3 (TabE w3 x)):=by
    obtain⟨K,vL,vD,hpk,hrf,_⟩:=id tN;rw[hx];exact Il (tN.dH.cell 3) tN.dH.lt hrf htb hlk List.pairwise_lt_range' (by omega) (by simp;omega) (λp hp=>by have:=dG.1 hp;omega)
   have HTBL:Hid (∀W,zB w3 W->Calls prog 12 #[ptr gp,ptr gt] W (nL W x)):=λW hW=>by
    obtain⟨K,vL,vD,hpk,hrf,_⟩:=(tN.below hW);rw[hx];exact tC hpk (by omega) (htb.keep (λb hb=>hW.block b (htb.lt b hb))) hlk List.pairwise_lt_range' (by omega) (by simp;omega) (λp hp=>by have:=dG.1 hp;omega)
   have hb3w:=eo.out.trans (hb3.mono eo.out.size);have hB63:=Z0.out.below hb3 Z0.out.lt;have hs3:=hb3.size;have K5:=zH tN;have Cm:=zH htb;have Gf:=zH hlk;have HT:=zH hT;have Gg:=zH hfr;have V8:=zH hrs;have K7:=zH IQ;have UR:=zH hle;have HG:=zH hG;have rY:=zH hb3w;have HB63:=zH hB63;have Nq:=zH hok;have HX:=zH hx;have hg63:g6<w3.heap.size:=by omega
   clear tN htb hlk hT hfr hrs IQ hle hG hb3 hb3w hB63 hok hx Z0 K_ eo;go_wp2_with fail;refine HWNT.out.mono ?_;rintro e w4 ⟨D1,T1,KM,KJ,rfl,htab,hb4⟩;have HTAB:=zH htab;have jh:=zH hb4;clear htab hb4 HWNT;go_upto_region 7 with fail;change Code.wp _ _ _ _ (w4.alloc (.cells #[.slice D1 x.d.length KM,.slice T1 x.t.length KJ,.int .u64 x.tx,.int .u64 x.num] 36));have eC:=aj.new w4 36 #[.slice D1 x.d.length KM,.slice T1 x.t.length KJ,.int .u64 x.tx,.int .u64 x.num];have cS:zB w3 (w4.alloc (.cells #[.slice D1 x.d.length KM,.slice T1 x.t.length KJ,.int .u64 x.tx,.int .u64 x.num] 36)):=jh.out.alloc jh.out.size _;have iV:bS (λb=>w3.heap.size<=b) (w4.alloc (.cells #[.slice D1 x.d.length KM,.slice T1 x.t.length KJ,.int .u64 x.tx,.int .u64 x.num] 36)) x D1 T1:=HTAB.out.below ((zR w4).alloc (za _) _);have Gx:=jh.out.size;obtain⟨g11,Yw⟩:=zE w4.heap.size;rw[<-Yw] at eC ⊢;have h113:w3.heap.size<=g11:=by omega
   replace Yw:=zH Yw;generalize Gu:World.alloc w4 _=w5 at eC cS iV ⊢;clear Gu HTAB jh;have uk:=K5.out.below cS;have k2:=uk.dH.cell 2;have p0:=eC.cell 0;have p1:=eC.cell 1;have p2:=eC.cell 2;have p3:=eC.cell 3;simp only[zGA,zGB,zGC] at k2 p0 p1 p2 p3;have hS:Hid (zC w5.drew gP 2 (ptr gp)/\zC w5.drew g11 0 (.slice D1 x.d.length KM)/\zC w5.drew g11 1 (.slice T1 x.t.length KJ)/\zC w5.drew g11 2 (.int .u64 x.tx)/\zC w5.drew g11 3 (.int .u64 x.num)):=⟨k2,p0,p1,p2,p3⟩;have hgPl:=uk.dH.lt;have BS:=eC.lt;have Gb:Hid (∀W,zB w5 W->(zC W gP 2 (ptr gp)/\zC W g11 0 (.slice D1 x.d.length KM)/\zC W g11 1 (.slice T1 x.t.length KJ)/\zC W g11 2 (.int .u64 x.tx)/\zC W g11 3 (.int .u64 x.num))):=λW hW=>
    ⟨(hW.cell (p:=⟨gP,2,none⟩) hgPl).trans k2,(hW.cell (p:=⟨g11,0,none⟩) BS).trans p0,(hW.cell (p:=⟨g11,1,none⟩) BS).trans p1,(hW.cell (p:=⟨g11,2,none⟩) BS).trans p2,(hW.cell (p:=⟨g11,3,none⟩) BS).trans p3⟩
   have H5:=zH uk;have mj:=zH eC;have Bi:=zH iV;have V4:=zH cS;clear uk eC iV cS k2 p0 p1 p2 p3;refine fQ (λW=>zC W gP 2 (ptr gp)/\zC W g11 0 (.slice D1 x.d.length KM)/\zC W g11 1 (.slice T1 x.t.length KJ)/\zC W g11 2 (.int .u64 x.tx)/\zC W g11 3 (.int .u64 x.num)) (λ_=>false) ?_
   repeat (refine bK hS.out ?_)
   refine aI 5 61 (w':=w5.drew) rfl rfl (by rfl) (by kernel_rfl) ?_ (HTBL.out w5.drew V4.out.drew) ?_
   ·exact dh _ rfl (enters_of func12 (by kernel_rfl) rfl) (by simp only[zar,zF,zaw];rfl)
   rintro e w6 ⟨D2,T2,vW,vS,rfl,iA,fI⟩;have Qv:zB w5 w6:=((zR w5).drew).trans fI;refine⟨_,rfl,λ_=>Gb.out w6 Qv,?_⟩;simp only[zSA,zSB,zSC];have GL:=zH (uN (cd:=vW) (ct:=vS) (DC:=KM) (M9:=KJ) iA (Bi.out.below Qv) (by have:=(o_ HT.out Nq.out Gg.out K7.out).dl;rw[<-HX.out] at this;omega) (by have:=(o_ HT.out Nq.out Gg.out K7.out).tl;rw[<-HX.out] at this;omega));refine aI 7 63 (w':=w6) rfl rfl (by rfl) (by kernel_rfl) ?_ GL.out ?_
   ·exact dh _ rfl (enters_of func11 (by kernel_rfl) rfl) (by simp only[zar,zF,zaw];rfl)
   rintro e w7 ⟨rfl,jZ⟩;have Fz:=Qv.trans (jZ.mono Qv.size);refine⟨_,rfl,λ_=>Gb.out w7 Fz,?_⟩;simp only[zSA,zSB,zSC];refine fe 8 64 (v:=.bool false) (w':=w7) rfl (xl (.tmp 63) (.bool true) rfl (λρ hρ=>by go_simp)) (λ_=>Gb.out w7 Fz) ?_;refine aC (by kernel_rfl) ?_ _;rename_i K9 aT;refine aT _ _ ?_;clear aT GL Gb hS iA fI jZ HTBL;obtain⟨OB,hOB⟩:∃O:af,O=λb=>UA w.heap.size w2.heap.size gt mb cb b\/(w3.heap.size<=b/\b<w7.heap.size):=⟨_,rfl⟩;have H7:Hid (eA w2.heap.size gP gd gl gp gr OB G l s s w7):=by
    refine(H5.out.below Fz).less (λb hb=>?_);rw[hOB] at hb;rcases hb with hb | hb
    ·exact .inl (.inl hb)
    ·by_cases h5:b<w5.heap.size
     ·exact .inl (.inr ⟨hb.1,h5⟩)
     ·exact .inr ⟨by omega,hb.2⟩
   have hO6:Hid (OB g6):=by
    rw[hOB];exact .inl (.inr ⟨by have:=qu.out;omega,by have:=qu.out;omega⟩)
   have hO3:Hid (∀b,w3.heap.size<=b->b<w7.heap.size->OB b):=λb h1 h2=>by rw[hOB];exact .inr ⟨h1,h2⟩
   have hOT:Hid (∀b,b=gt\/b=mb\/b=cb->OB b):=λb hb=>by rw[hOB];exact .inl (.inl hb)
   clear hOB;have hg117:g11<w7.heap.size:=zf BS Fz.size;have Zr:=zH (Bi.out.below Fz);have HW7:=zH (V4.out.trans (Fz.mono V4.out.size));have VW:=mj.out.below Fz BS;have Sr:=zH VW;clear Fz Qv VW H5 Bi mj V4 K5;have FK:=HB63.out.below HW7.out hg63;have hg67:g6<w7.heap.size:=FK.lt;have c0:=FK.cell 0;have c1:=FK.cell 1;simp only[aJ,zGA,zGB,zGC] at c0 c1;have f0:=FK.frozen 0;have f1:=FK.frozen 1;obtain⟨c,hc⟩:=zE (m.count%1000+1);obtain⟨lf,hlf⟩:=zE (m.life%1000+1);have e1:IntKind.u64.wrap ((m.count:Int)%1000+1)=(c:Nat):=by rw[IntKind.wrap_u64];omega
   have e2:IntKind.u64.wrap ((m.life:Int)%1000+1)=(lf:Nat):=by rw[IntKind.wrap_u64];omega
   have hB68:=(FK.a_ 0 (.int .u64 c)).a_ 1 (.int .u64 lf);have DT:Hid (aj ((w7.setCell ⟨g6,0,none⟩ (.int .u64 c)).setCell ⟨g6,1,none⟩ (.int .u64 lf)) g6 26 (aJ ⟨c,lf,m.check,m.first,m.clean⟩)):=hB68;have ig:aa (only g6) (only g6) w7 ((w7.setCell ⟨g6,0,none⟩ (.int .u64 c)).setCell ⟨g6,1,none⟩ (.int .u64 lf)):=((aa.refl (only g6) w7).setCell (p:=⟨g6,0,none⟩) (.inl rfl) (.int .u64 c)).setCell (p:=⟨g6,1,none⟩) (.inl rfl) (.int .u64 lf);have hge:=qu.out;have hpy8:=H7.out.own ig (λb hb=>by have e:b=g6:=hb;rw[e];exact hO6.out);have C1:=Cm.out.keep (w':=w7) (λb hb=>HW7.out.block b (Cm.out.lt b hb));have hne6:∀b,b=gt\/b=mb\/b=cb->b≠g6:=λb hb e=>by
    subst e;have hx6:w7.heap[b]? =_:=FK;rcases hb with rfl | rfl | rfl
    ·have Ke:w7.heap[b]? =_:=C1.blk;rw[hx6] at Ke;injection Ke with Ke;injection Ke with _ hx8;exact absurd hx8 (by decide)
    ·obtain⟨Dm,⟨es,ck,Ke,_⟩,_⟩:=C1.map;rw[hx6] at Ke;injection Ke with Ke
     cases Ke
    ·obtain⟨a1,a2,Ke⟩:=C1.chan;rw[hx6] at Ke;injection Ke with Ke
     cases Ke
   have htb8:=C1.keep (w':=(w7.setCell ⟨g6,0,none⟩ (.int .u64 c)).setCell ⟨g6,1,none⟩ (.int .u64 lf)) (λb hb=>ig.block b (C1.lt b hb) (λe=>hne6 b hb e));have Vj:bS (λb=>w3.heap.size<=b) ((w7.setCell ⟨g6,0,none⟩ (.int .u64 c)).setCell ⟨g6,1,none⟩ (.int .u64 lf)) x D1 T1:=⟨oC Zr.out.d ig (λb hb e=>by have e:b=g6:=e;have hb:w3.heap.size<=b:=hb;omega),oC Zr.out.t ig (λb hb e=>by have e:b=g6:=e;have hb:w3.heap.size<=b:=hb;omega)⟩;have VV:=Sr.out.keep (ig.block g11 Sr.out.lt (λe=>by have e:g11=g6:=e;omega));have qw:zB w ((w7.setCell ⟨g6,0,none⟩ (.int .u64 c)).setCell ⟨g6,1,none⟩ (.int .u64 lf)):=(rY.out.trans (HW7.out.mono rY.out.size)).trans (ig.below (by have:=rY.out.size;have:=HW7.out.size;omega) (λb hb=>by have e:b=g6:=hb;omega));have XO:((w7.setCell ⟨g6,0,none⟩ (.int .u64 c)).setCell ⟨g6,1,none⟩ (.int .u64 lf)).heap.size=w7.heap.size:=by simp[World.setCell]
   have H8:=zH hpy8;have R7:=zH htb8;have KW:=zH Vj;have Sq:=zH VV;have ZZ:=zH qw;have D4:w3.heap.size<=((w7.setCell ⟨g6,0,none⟩ (.int .u64 c)).setCell ⟨g6,1,none⟩ (.int .u64 lf)).heap.size:=zl HW7.out.size ig.size;clear hpy8 htb8 Vj VV qw C1 hne6 ig hB68 FK H7 Cm Zr Sr HW7 HB63 hge;have hc1:1<=c/\c<=1000:=by omega
   have tP:1<=lf/\lf<=1000:=by omega
   clear hc hlf;go_upto_region 11 with fail;generalize Kf:World.setCell (World.setCell w7 _ _) _ _=w8 at H8 R7 KW Sq ZZ DT D4 XO ⊢;have HS87:=zH XO;clear XO;clear Kf c0 c1 f0 f1 e1 e2;have TX:=H8.out.dH;have k0:=TX.cell 0;have k1:=TX.cell 1;have k2:=TX.cell 2;simp only[zGA,zGB,zGC] at k0 k1 k2;have pH:=zH (pQ H8.out);obtain⟨bg,hbg⟩:=zE l.next;have uG:Hid (∀W,zB w8 W->Calls prog 14 #[ptr gd,.int .i64 41,kH ⟨c,lf,m.check,m.first,m.clean⟩,ptr gl,ptr gp,ptr gt,.bool clean] W λe w'=>e=.returned (.tuple #[.agg #[.int .u64 ((⟨c,lf,m.check,m.first,m.clean⟩:Sp.Ms).took l (jS s f i) clean).count,.int .u64 ((⟨c,lf,m.check,m.first,m.clean⟩:Sp.Ms).took l (jS s f i) clean).life,.int .u64 ((⟨c,lf,m.check,m.first,m.clean⟩:Sp.Ms).took l (jS s f i) clean).check,.int .u64 ((⟨c,lf,m.check,m.first,m.clean⟩:Sp.Ms).took l (jS s f i) clean).first,.bool ((⟨c,lf,m.check,m.first,m.clean⟩:Sp.Ms).took l (jS s f i) clean).clean],.int .i64 0])/\eA w2.heap.size gP gd gl gp gr (λb=>OB b\/(w8.heap.size<=b/\b<W.heap.size)) G (l.took (jS s f i)) (s.took l (jS s f i) ((⟨c,lf,m.check,m.first,m.clean⟩:Sp.Ms).took l (jS s f i) clean) 41) s w'/\Kept (mC gP (λb=>OB b\/(w8.heap.size<=b/\b<W.heap.size)) G) W w'):=λW hW=>
    Td (H8.out.below hW) (R7.out.keep (λb hb=>hW.block b (R7.out.lt b hb))) Gf.out HT.out Gg.out K7.out Nq.out (m:=⟨c,lf,m.check,m.first,m.clean⟩) (clean:=clean) hc1 tP
   rw[<-hbg] at pH;rw[<-HX.out] at uG;replace hbg:=zH hbg;clear TX;go_wp2_with fail;refine pH.out.mono ?_;rintro e w9 ⟨rfl,uh⟩;subst w9;clear pH;go_upto_region 12 with fail;have HKL:Hid (∀b,mC gP OB G b->b<w8.heap.size):=λb hb=>H8.out.lt hb;have hk6:Hid (mC gP OB G g6):=.inl hO6.out;obtain⟨nm,hnm⟩:=zE ((⟨c,lf,m.check,m.first,m.clean⟩:Sp.Ms).took l x clean);rw[<-hnm] at uG;replace hnm:=zH hnm;have hgPl8:=H8.out.dH.lt;have hg68:=DT.out.lt;go_cut [13,14] (λv13 v14 wx=>∃g13:Nat,v13=ptr g13/\v14=.int .i64 0/\aj wx g13 26 (aJ nm)/\eA w2.heap.size gP gd gl gp gr OB G (l.took x) (s.took l x nm 41) s wx/\Kept (mC gP OB G) w8 wx/\w8.heap.size<=g13)
   case first=>
    as_aux_lemma=>
     have b0:=DT.out.cell 0;have b1:=DT.out.cell 1;have b2:=DT.out.cell 2;have b3:=DT.out.cell 3;have b4:=DT.out.cell 4;simp only[aJ,zGA,zGB,zGC] at b0 b1 b2 b3 b4;have UL:Hid (∀W,Kept (mC gP OB G) w8 W->(zC W gP 0 (ptr gd)/\zC W gP 1 (ptr gl)/\zC W gP 2 (ptr gp)/\zC W g6 0 (.int .u64 c)/\zC W g6 1 (.int .u64 lf)/\zC W g6 2 (.int .u64 m.check)/\zC W g6 3 (.int .u64 m.first)/\zC W g6 4 (.bool m.clean))):=λW hW=>by
      have hP:=hW.block gP (.inr (.inr rfl));have h6:=hW.block g6 hk6.out;exact⟨(World.cell?_of_block (a:=⟨gP,0,none⟩) hP).trans k0,(World.cell?_of_block (a:=⟨gP,1,none⟩) hP).trans k1,(World.cell?_of_block (a:=⟨gP,2,none⟩) hP).trans k2,(World.cell?_of_block (a:=⟨g6,0,none⟩) h6).trans b0,(World.cell?_of_block (a:=⟨g6,1,none⟩) h6).trans b1,(World.cell?_of_block (a:=⟨g6,2,none⟩) h6).trans b2,(World.cell?_of_block (a:=⟨g6,3,none⟩) h6).trans b3,(World.cell?_of_block (a:=⟨g6,4,none⟩) h6).trans b4⟩
     have hS:=zH (UL.out w8.drew ⟨rfl,rfl,rfl,za _,λ_ _=>rfl⟩);refine fQ (λW=>zC W gP 0 (ptr gd)/\zC W gP 1 (ptr gl)/\zC W gP 2 (ptr gp)/\zC W g6 0 (.int .u64 c)/\zC W g6 1 (.int .u64 lf)/\zC W g6 2 (.int .u64 m.check)/\zC W g6 3 (.int .u64 m.first)/\zC W g6 4 (.bool m.clean)) (λ_=>false) ?_
     repeat (refine bK hS.out ?_)
     refine gR (rs:=[15,19]) (by kernel_rfl) (by simp) (λi hi=>?_);simp only[zW,zak,or_false] at hi;have YF:zB w8 w8.drew:=(zR _).drew;rcases hi with rfl | rfl
     ·refine lI 96 (w':=w8.drew) rfl rfl (by rfl) ?_ (uG.out w8.drew YF) ?_
      ·exact dh _ rfl (enters_of func14 (by kernel_rfl) rfl) (by simp only[zar,zF,zaw];rfl)
      rintro e w9 ⟨rfl,Fm,qP⟩;have sX:Kept (mC gP OB G) w8 w9:=(Kept.az YF HKL.out).trans (qP.mono (λb hb=>hb.elim (λh=>.inl (.inl h)) .inr));have AZ:=zH (UL.out w9 sX);refine⟨_,rfl,λ_=>AZ.out,?_⟩;simp only[zSA,zSB,zSC]
      repeat (refine bK AZ.out ?_)
      have tQ:=aj.new w9 26 (aJ Sp.jE);have hba:=(zR w9).alloc (za _) (.cells #[.int .u64 0,.int .u64 0,.int .u64 0,.int .u64 0,.bool false] 26);have vg:=below_setRow (g:=w9.heap.size) hba (za _) (aJ nm);have hka:=Kept.az hba (λb hb=>zf (HKL.out b hb) sX.size);have hks:=Kept.az vg (λb hb=>zf (HKL.out b hb) sX.size);have YS:=zH (fB (m:=nm) tQ);have hBF:=tQ.setRow (aJ nm);refine fe 19 13 (v:=ptr w9.heap.size) (w':=w9.alloc (.cells #[.int .u64 0,.int .u64 0,.int .u64 0,.int .u64 0,.bool false] 26)) rfl (S6 (λρ=>by go_simp)) (λ_=>UL.out _ (sX.trans hka)) ?_;refine jx 20 (w':=(w9.alloc (.cells #[.int .u64 0,.int .u64 0,.int .u64 0,.int .u64 0,.bool false] 26)).setRow w9.heap.size (aJ nm)) rfl (aq _ _ _ ⟨w9.heap.size,0,none⟩ (kH nm) rfl rfl rfl YS.out) (λ_=>UL.out _ (sX.trans hks)) ?_;refine fe 21 14 (v:=.int .i64 0) (w':=(w9.alloc (.cells #[.int .u64 0,.int .u64 0,.int .u64 0,.int .u64 0,.bool false] 26)).setRow w9.heap.size (aJ nm)) rfl (xl (.tmp 98) (.int .i64 0) rfl (λρ hρ=>by go_simp)) (λ_=>UL.out _ (sX.trans hks)) ?_;refine aC (by kernel_rfl) ?_ _;rename_i K9 aT;refine aT _ _ ?_;clear aT;go_meet;exact⟨w9.heap.size,rfl,rfl,hBF,(Fm.below vg).less (λb hb=>.inl (.inl hb)),sX.trans hks,sX.size⟩
     ·have tQ:aj (w8.drew.alloc (.cells #[.int .u64 0,.int .u64 0,.int .u64 0,.int .u64 0,.bool false] 26)) w8.heap.size 26 (aJ Sp.jE):=aj.new w8.drew 26 (aJ Sp.jE);have hba:zB w8 (w8.drew.alloc (.cells #[.int .u64 0,.int .u64 0,.int .u64 0,.int .u64 0,.bool false] 26)):=YF.alloc (za _) _;have hka:=Kept.az hba HKL.out;refine cN 13 (v:=ptr w8.heap.size) (w':=w8.drew.alloc (.cells #[.int .u64 0,.int .u64 0,.int .u64 0,.int .u64 0,.bool false] 26)) rfl rfl (by rfl) (S6 (λρ=>by go_simp)) ⟨λ_=>UL.out _ hka,?_⟩;simp only[zSA,zSB,zSC];obtain⟨g13,Qe⟩:=zE w8.heap.size;rw[<-Qe] at tQ ⊢;generalize hW1:World.alloc w8.drew _=W1 at tQ hba hka ⊢;clear hW1;have hg13l:=tQ.lt;refine aI 15 96 (w':=W1) rfl rfl (by rfl) (by kernel_rfl) ?_ (uG.out W1 hba) ?_
      ·exact dh _ rfl (enters_of func14 (by kernel_rfl) rfl) (by simp only[zar,zF,zaw];rfl)
      rintro e w9 ⟨rfl,Fm,qP⟩;have sX:Kept (mC gP OB G) w8 w9:=hka.trans (qP.mono (λb hb=>hb.elim (λh=>.inl (.inl h)) .inr));have AZ:=zH (UL.out w9 sX);have Up:=tQ.keep (qP.block g13 (.inl (.inr ⟨by omega,hg13l⟩)));have YS:=zH (fB (m:=nm) Up);have hBF:=Up.setRow (aJ nm);have htr:=(aa.refl (only g13) w9).setRow (g:=g13) (.inl rfl) (aJ nm);have hkr:Kept (mC gP OB G) w9 (w9.setRow g13 (aJ nm)):=Kept.gF htr (λb hb=>by have h1:=HKL.out b hb;have h2:=sX.size;exact⟨by omega,λe=>by have e:b=g13:=e;omega⟩);have hpyF:=Fm.own htr (λb hb=>by have e:b=g13:=hb;exact .inr ⟨by omega,by omega⟩);replace Qe:=zH Qe;refine⟨_,rfl,λ_=>AZ.out,?_⟩;simp only[zSA,zSB,zSC]
      repeat (refine bK AZ.out ?_)
      refine jx 20 (w':=w9.setRow g13 (aJ nm)) rfl (aq _ _ _ ⟨g13,0,none⟩ (kH nm) rfl rfl rfl YS.out) (λ_=>UL.out _ (sX.trans hkr)) ?_;refine fe 21 14 (v:=.int .i64 0) (w':=w9.setRow g13 (aJ nm)) rfl (xl (.tmp 98) (.int .i64 0) rfl (λρ hρ=>by go_simp)) (λ_=>UL.out _ (sX.trans hkr)) ?_;refine aC (by kernel_rfl) ?_ _;rename_i K9 aT;refine aT _ _ ?_;clear aT;go_meet;exact⟨g13,rfl,rfl,hBF,hpyF.less (λb hb=>.inl hb),sX.trans hkr,by rw[Qe.out];exact za _⟩
   case rest=>
    obtain⟨g13,rfl,rfl,Y2,hpyT,Vz,Qe⟩:=hcut;have hnm':=hnm.out;have e0:nm=⟨c+1,lf,bg,Sp.bQ bg x,clean⟩:=by rw[hnm',hbg.out];rfl
    obtain⟨n0,hn0⟩:=zE (c+1);obtain⟨ol,Vv⟩:=zE (Sp.bQ bg x);rw[<-hn0,<-Vv] at e0;rw[e0] at Y2;replace e0:=zH e0;clear hnm';have hsT:=Vz.size;have Vi:bS (λb=>w3.heap.size<=b) wc x D1 T1:=⟨xA KW.out.d hsT (λb hb hl=>Vz.block b (.inl (hO3.out b hb (by have:=HS87.out;omega)))),xA KW.out.t hsT (λb hb hl=>Vz.block b (.inl (hO3.out b hb (by have:=HS87.out;omega))))⟩;have htbT:=R7.out.keep (w':=wc) (λb hb=>Vz.block b (.inl (hOT.out b hb)));have VU:=Sq.out.keep (Vz.block g11 (.inl (hO3.out g11 (by omega) hg117)));have hB6T:=DT.out.keep (Vz.block g6 hk6.out);have hbT:zB w wc:=ZZ.out.trans (Vz.below (λb hb=>.inr (.inl (HG.out b hb))));have GM:=zH hpyT;have Nj:=zH Vi;have HTBT:=zH htbT;have rU:=zH VU;have qz:=zH hB6T;have nO:=zH Y2;have HBT:=zH hbT;have hc64':n0<18446744073709551616:=by omega
    replace hn0:=zH hn0;replace Vv:=zH Vv;clear hpyT Vi htbT VU hB6T Y2 hbT Vz H8 R7 KW Sq DT ZZ uG HKL k0 k1 k2;rename_i K1 hK1;refine hK1 _ _ ?_;clear hK1;go_upto_region 15 with fail;obtain⟨wT,rfl⟩:=zE wc;go_cut [136] (λv136 wx=>v136=.bool false/\zB wT wx)
    case first=>
     as_aux_lemma=>
      have vN:=nO.out.lt;have T9:=qz.out.lt;have AR:=rU.out.lt;have hdP:=GM.out.dH.lt;have m0:=nO.out.cell 0;have m1:=nO.out.cell 1;have m2:=nO.out.cell 2;have m3:=nO.out.cell 3;have m4:=nO.out.cell 4;have b0:=qz.out.cell 0;have b1:=qz.out.cell 1;have t0:=rU.out.cell 0;have t1:=rU.out.cell 1;have t2:=rU.out.cell 2;have t3:=rU.out.cell 3;have y1:=GM.out.dH.cell 1;simp only[aJ,zGA,zGB,zGC] at m0 m1 m2 m3 m4 b0 b1 t0 t1 t2 t3 y1;have Gb:Hid (∀W,zB wT W->(zC W g13 0 (.int .u64 n0)/\zC W g13 1 (.int .u64 lf)/\zC W g13 2 (.int .u64 bg)/\zC W g13 3 (.int .u64 ol)/\zC W g13 4 (.bool clean)/\zC W g6 0 (.int .u64 c)/\zC W g6 1 (.int .u64 lf)/\zC W g11 0 (.slice D1 x.d.length KM)/\zC W g11 1 (.slice T1 x.t.length KJ)/\zC W g11 2 (.int .u64 x.tx)/\zC W g11 3 (.int .u64 x.num)/\zC W gP 1 (ptr gl))):=λW hW=>
       ⟨(hW.cell (p:=⟨g13,0,none⟩) vN).trans m0,(hW.cell (p:=⟨g13,1,none⟩) vN).trans m1,(hW.cell (p:=⟨g13,2,none⟩) vN).trans m2,(hW.cell (p:=⟨g13,3,none⟩) vN).trans m3,(hW.cell (p:=⟨g13,4,none⟩) vN).trans m4,(hW.cell (p:=⟨g6,0,none⟩) T9).trans b0,(hW.cell (p:=⟨g6,1,none⟩) T9).trans b1,(hW.cell (p:=⟨g11,0,none⟩) AR).trans t0,(hW.cell (p:=⟨g11,1,none⟩) AR).trans t1,(hW.cell (p:=⟨g11,2,none⟩) AR).trans t2,(hW.cell (p:=⟨g11,3,none⟩) AR).trans t3,(hW.cell (p:=⟨gP,1,none⟩) hdP).trans y1⟩
      have hbd:zB wT wT.drew:=(zR _).drew;have hS:=zH (Gb.out wT.drew hbd);have e3:IntKind.u64.wrap ((c:Int)+1)=(n0:Nat):=by have:=hn0.out;rw[IntKind.wrap_u64];omega
      have qQ:=o_ HT.out Nq.out Gg.out K7.out;rw[<-HX.out] at qQ;have HLS:=zH fun(W:World) (hW:zB wT W)=>Fb (b:=bg) (cd:=KM) (ct:=KJ) (Nj.out.below hW) (by have:=qQ.dl;omega) (by have:=qQ.tl;omega);rw[<-Vv.out] at HLS;clear m0 m1 m2 m3 m4 b0 b1 t0 t1 t2 t3 y1 qQ;refine fQ (λW=>zC W g13 0 (.int .u64 n0)/\zC W g13 1 (.int .u64 lf)/\zC W g13 2 (.int .u64 bg)/\zC W g13 3 (.int .u64 ol)/\zC W g13 4 (.bool clean)/\zC W g6 0 (.int .u64 c)/\zC W g6 1 (.int .u64 lf)/\zC W g11 0 (.slice D1 x.d.length KM)/\zC W g11 1 (.slice T1 x.t.length KJ)/\zC W g11 2 (.int .u64 x.tx)/\zC W g11 3 (.int .u64 x.num)/\zC W gP 1 (ptr gl)) (λ_=>false) ?_
      repeat (refine bK hS.out ?_)
      refine aI 9 110 (w':=wT.drew) rfl rfl (by rfl) (by kernel_rfl) ?_ (HLS.out wT.drew hbd) ?_
      ·exact dh _ rfl (enters_of func15 (by kernel_rfl) rfl) (by simp only[zar,zF,zaw];rfl)
      rintro e w9 ⟨rfl,BW⟩;have AW:zB wT w9:=hbd.trans BW;replace hS:=zH (Gb.out w9 AW);refine⟨_,rfl,λ_=>hS.out,?_⟩;simp only[zSA,zSB,zSC];have Fm:=GM.out.below AW;have HF1:=zH (OJ Fm);have HF2:=zH (L0 Fm);have HF3:=zH (pQ Fm);have eF:(l.took x).first=ol:=by rw[Vv.out,hbg.out];rfl
      have eN:(s.took l x nm 41).forced=(l.took x).next:=rfl
      obtain⟨z2,hz2⟩:=zE ((l.took x).next);rw[eF] at HF1;rw[eN,<-hz2] at HF2;rw[<-hz2] at HF3;replace hz2:=zH hz2;clear eF eN Fm;refine kT 11 112 (v:=.agg #[.int .u64 n0,.int .u64 lf,.int .u64 bg,.int .u64 ol,.bool clean]) rfl hS.out (λW hW=>si _ _ #[(0,.int .u64 n0),(1,.int .u64 lf),(2,.int .u64 bg),(3,.int .u64 ol),(4,.bool clean)] rfl rfl (by go_simp)) ?_
      repeat (refine bK hS.out ?_)
      refine aI 18 119 (w':=w9) rfl rfl (by rfl) (by kernel_rfl) ?_ HF1.out ?_
      ·exact dh _ rfl (enters_of func16 (by kernel_rfl) rfl) (by simp only[zar,zF,zaw];rfl)
      rintro e ot ⟨rfl,Fj⟩;subst ot;refine⟨_,rfl,λ_=>hS.out,?_⟩;simp only[zSA,zSB,zSC]
      repeat (refine bK hS.out ?_)
      refine aI 28 129 (w':=w9) rfl rfl (by rfl) (by kernel_rfl) ?_ HF2.out ?_
      ·exact dh _ rfl (enters_of func17 (by kernel_rfl) rfl) (by simp only[zar,zF,zaw];rfl)
      rintro e ot ⟨rfl,Fj⟩;subst ot;refine⟨_,rfl,λ_=>hS.out,?_⟩;simp only[zSA,zSB,zSC];refine aI 33 134 (w':=w9) rfl rfl (by rfl) (by kernel_rfl) ?_ HF3.out ?_
      ·exact dh _ rfl (enters_of func13 (by kernel_rfl) rfl) (by simp only[zar,zF,zaw];rfl)
      rintro e ot ⟨rfl,Fj⟩;subst ot;refine⟨_,rfl,λ_=>hS.out,?_⟩;simp only[zSA,zSB,zSC]
      repeat (refine bK hS.out ?_)
      refine aC (by kernel_rfl) ?_ _;rename_i K2 hK2;refine hK2 _ _ ?_;clear hK2;go_meet;exact⟨rfl,AW⟩
    case rest=>
     obtain⟨rfl,AW⟩:=hcut;obtain⟨w9,rfl⟩:=zE wc;rename_i K2 hK2;refine hK2 _ _ ?_;clear hK2;obtain⟨b1,hb1⟩:=zE (bg+1);obtain⟨z,hz⟩:=zE ((l.took x).next);have Aa:=pT HT.out;rw[<-hbg.out] at Aa;have eb1:IntKind.u64.wrap ((bg:Int)+1)=(b1:Nat):=by rw[IntKind.wrap_u64];omega
     have R6:=zH (Zc (gt:=gt) HX.out HT.out Nq.out Gg.out K7.out (m:=m) hbg.out hb1 Vv.out hn0.out hc1 tP e0.out hz (GM.out.below AW) V8.out);have vN:=nO.out.lt;have T9:=qz.out.lt;have AR:=rU.out.lt;have hdP:=GM.out.dH.lt;have m0:=nO.out.cell 0;have m1:=nO.out.cell 1;have m2:=nO.out.cell 2;have m3:=nO.out.cell 3;have m4:=nO.out.cell 4;have b0:=qz.out.cell 0;have b1':=qz.out.cell 1;have b2:=qz.out.cell 2;have b3:=qz.out.cell 3;have b4:=qz.out.cell 4;have t0:=rU.out.cell 0;have t1:=rU.out.cell 1;have t2:=rU.out.cell 2;have t3:=rU.out.cell 3;have y0:=GM.out.dH.cell 0;have y1:=GM.out.dH.cell 1;have y2:=GM.out.dH.cell 2;simp only[aJ,zGA,zGB,zGC] at m0 m1 m2 m3 m4 b0 b1' b2 b3 b4 t0 t1 t2 t3 y0 y1 y2;have Gb:Hid (∀W,zB w9 W->(zC W gP 0 (ptr gd)/\zC W gP 1 (ptr gl)/\zC W gP 2 (ptr gp))/\(zC W g13 0 (.int .u64 n0)/\zC W g13 1 (.int .u64 lf)/\zC W g13 2 (.int .u64 bg)/\zC W g13 3 (.int .u64 ol)/\zC W g13 4 (.bool clean))/\(zC W g6 0 (.int .u64 c)/\zC W g6 1 (.int .u64 lf)/\zC W g6 2 (.int .u64 m.check)/\zC W g6 3 (.int .u64 m.first)/\zC W g6 4 (.bool m.clean))/\(zC W g11 0 (.slice D1 x.d.length KM)/\zC W g11 1 (.slice T1 x.t.length KJ)/\zC W g11 2 (.int .u64 x.tx)/\zC W g11 3 (.int .u64 x.num))):=λW Uh=>by
      have hW:=AW.trans (Uh.mono AW.size);exact⟨⟨(hW.cell (p:=⟨gP,0,none⟩) hdP).trans y0,(hW.cell (p:=⟨gP,1,none⟩) hdP).trans y1,(hW.cell (p:=⟨gP,2,none⟩) hdP).trans y2⟩,⟨(hW.cell (p:=⟨g13,0,none⟩) vN).trans m0,(hW.cell (p:=⟨g13,1,none⟩) vN).trans m1,(hW.cell (p:=⟨g13,2,none⟩) vN).trans m2,(hW.cell (p:=⟨g13,3,none⟩) vN).trans m3,(hW.cell (p:=⟨g13,4,none⟩) vN).trans m4⟩,⟨(hW.cell (p:=⟨g6,0,none⟩) T9).trans b0,(hW.cell (p:=⟨g6,1,none⟩) T9).trans b1',(hW.cell (p:=⟨g6,2,none⟩) T9).trans b2,(hW.cell (p:=⟨g6,3,none⟩) T9).trans b3,(hW.cell (p:=⟨g6,4,none⟩) T9).trans b4⟩,(hW.cell (p:=⟨g11,0,none⟩) AR).trans t0,(hW.cell (p:=⟨g11,1,none⟩) AR).trans t1,(hW.cell (p:=⟨g11,2,none⟩) AR).trans t2,(hW.cell (p:=⟨g11,3,none⟩) AR).trans t3⟩
     have HT9:=zH (Nj.out.below AW);have MM:=HBT.out.trans (AW.mono HBT.out.size);have tL:=zH MM;clear m0 m1 m2 m3 m4 b0 b1' b2 b3 b4 t0 t1 t2 t3 y0 y1 y2 vN T9 AR hdP Aa hb1 hz MM AW;clear GM Nj HTBT rU qz nO HBT HX HT Nq Gg K7 V8 UR Gf HG;have y1:=(Gb.out w9 (zR _)).1.2.1;go_wp2_with fail;refine(R6.out.find w9 (zR _)).mono ?_;rintro e ot ⟨D2,T2,vW,vS,rfl,dx,QI⟩;have GK:=zH dx;have H10:=zH QI;clear dx QI y1;go_upto_region 18 with fail;change Code.wp _ _ _ _ (ot.alloc (.cells #[.slice D2 x.d.length vW,.slice T2 x.t.length vS,.int .u64 x.tx,.int .u64 x.num] 36));have Ky:=aj.new ot 36 #[.slice D2 x.d.length vW,.slice T2 x.t.length vS,.int .u64 x.tx,.int .u64 x.num];have Qs:zB w9 (ot.alloc (.cells #[.slice D2 x.d.length vW,.slice T2 x.t.length vS,.int .u64 x.tx,.int .u64 x.num] 36)):=H10.out.alloc H10.out.size _;have QJ:zB ot (ot.alloc (.cells #[.slice D2 x.d.length vW,.slice T2 x.t.length vS,.int .u64 x.tx,.int .u64 x.num] 36)):=(zR _).alloc (za _) _;obtain⟨g15,IP⟩:=zE ot.heap.size;rw[<-IP] at Ky ⊢;replace IP:=zH IP;generalize hww11:World.alloc ot _=JR at Ky Qs QJ ⊢;clear hww11;have R4:=zH Qs;have Gh:=zH Ky;clear Ky Qs;have p0:=Gh.out.cell 0;have p1:=Gh.out.cell 1;have p2:=Gh.out.cell 2;have p3:=Gh.out.cell 3;simp only[zGA,zGB,zGC] at p0 p1 p2 p3;obtain⟨-,-,-,t0,t1,t2,t3⟩:=Gb.out JR R4.out;have GL:=zH (R6.out.same (cd:=vW) (ct:=vS) (DC:=KM) (M9:=KJ) (GK.out.below QJ) (HT9.out.below R4.out));clear QJ H10;go_wp2_with fail;refine GL.out.mono ?_;rintro e w12 ⟨rfl,kK⟩;have H12:=zH (R4.out.trans (kK.mono R4.out.size));have y1:=(Gb.out w12 H12.out).1.2.1;have pH:=zH (R6.out.next w12 H12.out);clear kK p0 p1 p2 p3 t0 t1 t2 t3 GL GK Gh R4 IP;go_wp2_with fail;refine pH.out.mono ?_;rintro e w13 ⟨rfl,hw13⟩;subst w13;clear pH y1;go_upto_region 20 with fail;have hbd:zB w9 w12.drew:=H12.out.drew;have HS:Hid (∀W,zB w9 W->zC W gP 0 (ptr gd)/\zC W g13 3 (.int .u64 ol)):=λW hW=>⟨(Gb.out W hW).1.1,(Gb.out W hW).2.1.2.2.2.1⟩;have hS:=zH (HS.out w12.drew hbd);refine fQ (λW=>zC W gP 0 (ptr gd)/\zC W g13 3 (.int .u64 ol)) (λ_=>false) ?_
     repeat (refine bK hS.out ?_)
     refine R_c (R6.out.open_ w12.drew hbd) ?_;rintro e w14 ⟨g18,rfl,hop,hb14⟩;have Z2:=zH (hbd.trans (hb14.mono hbd.size));replace hS:=zH (HS.out w14 Z2.out);refine⟨_,rfl,λ_=>hS.out,R_v ?_⟩
     repeat (refine bK hS.out ?_)
     refine aC (by kernel_rfl) ?_ _;rename_i K3 hK3;refine hK3 _ _ ?_;have HOP:=zH hop;clear hK3 hop hb14 hS HS hbd H12;go_upto_region 23 with fail;go_wp2_with fail;refine(HOP.out.find w14 (zR _)).mono ?_;rintro e WE ⟨D3,T3,cd3,ct3,rfl,gA,YH⟩;have Zs:=zH gA;have H15:=zH (Z2.out.trans (YH.mono Z2.out.size));have ZE:=zH YH;clear gA YH Z2;go_upto_region 24 with fail;change Code.wp _ _ _ _ (WE.alloc (.cells #[.slice D3 x.d.length cd3,.slice T3 x.t.length ct3,.int .u64 x.tx,.int .u64 x.num] 36));have Kw:=aj.new WE 36 #[.slice D3 x.d.length cd3,.slice T3 x.t.length ct3,.int .u64 x.tx,.int .u64 x.num];have Qr:zB w9 (WE.alloc (.cells #[.slice D3 x.d.length cd3,.slice T3 x.t.length ct3,.int .u64 x.tx,.int .u64 x.num] 36)):=H15.out.alloc H15.out.size _;have Ko:zB WE (WE.alloc (.cells #[.slice D3 x.d.length cd3,.slice T3 x.t.length ct3,.int .u64 x.tx,.int .u64 x.num] 36)):=(zR _).alloc (za _) _;obtain⟨g20,Yv⟩:=zE WE.heap.size;rw[<-Yv] at Kw ⊢;replace Yv:=zH Yv;generalize hww16:World.alloc WE _=w16 at Kw Qr Ko ⊢;clear hww16;have RZ:=zH Qr;have Sm:=zH Kw;clear Kw Qr;have ZC:=zH (ZE.out.trans (Ko.mono ZE.out.size));have HT16:=zH (Zs.out.below Ko);have y0:=(Gb.out w16 RZ.out).1.1;clear Ko Zs ZE H15;go_wp2_with fail;refine(R6.out.load w16 RZ.out).mono ?_;rintro e WD ⟨rfl,QC⟩;have H17:=zH (RZ.out.trans (QC.mono RZ.out.size));have ZB:=zH (ZC.out.trans (QC.mono ZC.out.size));have HT17:=zH (HT16.out.below QC);have ij:=Sm.out.below QC Sm.out.lt;have kZ:=zH ij;clear QC ZC HT16 ij Sm y0 RZ;go_upto_region 25 with fail;change Code.wp _ _ _ _ (WD.alloc (.cells #[.int .u64 n0,.int .u64 lf,.int .u64 bg,.int .u64 ol,.bool clean] 26));have Kv:=aj.new WD 26 #[.int .u64 n0,.int .u64 lf,.int .u64 bg,.int .u64 ol,.bool clean];have Qq:zB w9 (WD.alloc (.cells #[.int .u64 n0,.int .u64 lf,.int .u64 bg,.int .u64 ol,.bool clean] 26)):=H17.out.alloc H17.out.size _;have FC:zB WD (WD.alloc (.cells #[.int .u64 n0,.int .u64 lf,.int .u64 bg,.int .u64 ol,.bool clean] 26)):=(zR _).alloc (za _) _;obtain⟨g23,Yu⟩:=zE WD.heap.size;rw[<-Yu] at Kv ⊢;replace Yu:=zH Yu;generalize hww18:World.alloc WD _=w18 at Kv Qq FC ⊢;clear hww18;have Zn:=zH Qq;have Sl:=zH Kv;clear Kv Qq;have HO18:=zH (ZB.out.trans (FC.mono ZB.out.size));have HT18:=zH (HT17.out.below FC);have ij:=kZ.out.below FC kZ.out.lt;replace kZ:=zH ij;clear FC HT17 ZB H17 ij;go_wp2_with fail;refine(HOP.out.none_ w18 HO18.out).mono ?_;rintro e WC ⟨rfl,QA⟩;have H19:=zH (Zn.out.trans (QA.mono Zn.out.size));have HT19:=zH (HT18.out.below QA);have ij:=kZ.out.below QA kZ.out.lt;replace kZ:=zH ij;have gN:=Sl.out.below QA Sl.out.lt;have tM:=zH gN;clear QA HO18 HT18 ij gN Sl Zn HOP;go_upto_region 26 with fail;change Code.wp _ _ _ _ (WC.alloc (.cells #[.slice none 0 0,.slice none 0 0,.int .u64 0,.int .u64 0] 36));have Ku:=aj.new WC 36 #[.slice none 0 0,.slice none 0 0,.int .u64 0,.int .u64 0];have Qp:zB w9 (WC.alloc (.cells #[.slice none 0 0,.slice none 0 0,.int .u64 0,.int .u64 0] 36)):=H19.out.alloc H19.out.size _;have FB:zB WC (WC.alloc (.cells #[.slice none 0 0,.slice none 0 0,.int .u64 0,.int .u64 0] 36)):=(zR _).alloc (za _) _;obtain⟨g25,Yt⟩:=zE WC.heap.size;rw[<-Yt] at Ku ⊢;replace Yt:=zH Yt;generalize hww20:World.alloc WC _=Ej at Ku Qp FB ⊢;clear hww20;have UH:=zH Qp;have HBg25:=zH Ku;clear Ku Qp;have HT20:=zH (HT19.out.below FB);have ij:=kZ.out.below FB kZ.out.lt;replace kZ:=zH ij;have gN:=tM.out.below FB tM.out.lt;replace tM:=zH gN;clear FB HT19 H19 ij gN HBg25;go_cut [29] (λv29 wx=>v29=.int .i64 1/\zB Ej wx)
     case first=>
      as_aux_lemma=>
       have HS:Hid (∀W,zB Ej W->(zC W gP 1 (ptr gl)/\zC W gP 2 (ptr gp))/\(zC W g6 0 (.int .u64 c)/\zC W g6 1 (.int .u64 lf)/\zC W g6 2 (.int .u64 m.check)/\zC W g6 3 (.int .u64 m.first)/\zC W g6 4 (.bool m.clean))):=λW hW=>by
        have h:=Gb.out W (UH.out.trans (hW.mono UH.out.size));exact⟨h.1.2,h.2.2.1⟩
       have hbd:zB Ej Ej.drew:=(zR _).drew;have hS:=zH (HS.out Ej.drew hbd);refine fQ (λW=>(zC W gP 1 (ptr gl)/\zC W gP 2 (ptr gp))/\(zC W g6 0 (.int .u64 c)/\zC W g6 1 (.int .u64 lf)/\zC W g6 2 (.int .u64 m.check)/\zC W g6 3 (.int .u64 m.first)/\zC W g6 4 (.bool m.clean))) (λ_=>false) ?_
       repeat (refine bK hS.out ?_)
       have HMN:Hid (∃mm:Sp.Ms,mm=⟨c,lf,m.check,m.first,m.clean⟩):=⟨_,rfl⟩;obtain⟨mm,z_⟩:=HMN.out;have emm:Value.agg #[.int .u64 c,.int .u64 lf,.int .u64 m.check,.int .u64 m.first,.bool m.clean]=kH mm:=by rw[z_];rfl
       have HTN:=zH R6.out.takeN;rw[emm] at HTN;have EMM:=zH emm;clear emm z_ HMN;refine gR (rs:=[11,15]) (by kernel_rfl) (by simp) (λi hi=>?_);simp only[zW,zak,or_false] at hi;rcases hi with rfl | rfl
       ·refine lI 215 (w':=Ej.drew) rfl rfl (by rfl) ?_ (HTN.out Ej.drew) ?_
        ·exact dh _ rfl (enters_of func14 (by kernel_rfl) rfl) (by rw[<-EMM.out];simp only[zar,zF,zaw];rfl)
        rintro e JQ ⟨rfl,AY⟩;have cH:=hbd.trans (AY.mono hbd.size);replace hS:=zH (HS.out JQ cH);refine⟨_,rfl,λ_=>hS.out,R_v ?_⟩
        repeat (refine bK hS.out ?_)
        have tQ:=aj.new JQ 26 (aJ Sp.jE);have hba:=(zR JQ).alloc (za _) (.cells #[.int .u64 0,.int .u64 0,.int .u64 0,.int .u64 0,.bool false] 26);have vg:=below_setRow (g:=JQ.heap.size) hba (za _) (aJ mm);have YS:=zH (fB (m:=mm) tQ);refine fe 15 28 (v:=ptr JQ.heap.size) (w':=JQ.alloc (.cells #[.int .u64 0,.int .u64 0,.int .u64 0,.int .u64 0,.bool false] 26)) rfl (S6 (λρ=>by go_simp)) (λ_=>HS.out _ (cH.trans (hba.mono cH.size))) ?_;refine jx 16 (w':=(JQ.alloc (.cells #[.int .u64 0,.int .u64 0,.int .u64 0,.int .u64 0,.bool false] 26)).setRow JQ.heap.size (aJ mm)) rfl (aq _ _ _ ⟨JQ.heap.size,0,none⟩ (kH mm) rfl rfl rfl YS.out) (λ_=>HS.out _ (cH.trans (vg.mono cH.size))) ?_;have hSs:=zH (HS.out _ (cH.trans (vg.mono cH.size)))
        repeat (refine bK hSs.out ?_)
        refine aC (by kernel_rfl) ?_ _;rename_i K9 aT;refine aT _ _ ?_;clear aT;go_meet;exact⟨rfl,cH.trans (vg.mono cH.size)⟩
       ·have tQ:aj (Ej.drew.alloc (.cells #[.int .u64 0,.int .u64 0,.int .u64 0,.int .u64 0,.bool false] 26)) Ej.heap.size 26 (aJ Sp.jE):=aj.new Ej.drew 26 (aJ Sp.jE);have hba:zB Ej (Ej.drew.alloc (.cells #[.int .u64 0,.int .u64 0,.int .u64 0,.int .u64 0,.bool false] 26)):=hbd.alloc (za _) _;refine cN 28 (v:=ptr Ej.heap.size) (w':=Ej.drew.alloc (.cells #[.int .u64 0,.int .u64 0,.int .u64 0,.int .u64 0,.bool false] 26)) rfl rfl (by rfl) (S6 (λρ=>by go_simp)) ⟨λ_=>HS.out _ hba,?_⟩;simp only[zSA,zSB,zSC];obtain⟨g28,Ys⟩:=zE Ej.heap.size;rw[<-Ys] at tQ ⊢;generalize hW1:World.alloc Ej.drew _=W1 at tQ hba ⊢;clear hW1;have hg28l:=tQ.lt;have hg28':Ej.heap.size<=g28:=by omega
        replace Ys:=zH Ys;refine aI 11 215 (w':=W1) rfl rfl (by rfl) (by kernel_rfl) ?_ (HTN.out W1) ?_
        ·exact dh _ rfl (enters_of func14 (by kernel_rfl) rfl) (by rw[<-EMM.out];simp only[zar,zF,zaw];rfl)
        rintro e JQ ⟨rfl,AY⟩;have cH:=hba.trans (AY.mono hba.size);replace hS:=zH (HS.out JQ cH);have Up:=tQ.below AY hg28l;have YS:=zH (fB (m:=mm) Up);have vg:=below_setRow (g:=g28) cH hg28' (aJ mm);refine⟨_,rfl,λ_=>hS.out,R_v ?_⟩
        repeat (refine bK hS.out ?_)
        refine jx 16 (w':=JQ.setRow g28 (aJ mm)) rfl (aq _ _ _ ⟨g28,0,none⟩ (kH mm) rfl rfl rfl YS.out) (λ_=>HS.out _ vg) ?_;have hSs:=zH (HS.out _ vg)
        repeat (refine bK hSs.out ?_)
        refine aC (by kernel_rfl) ?_ _;rename_i K9 aT;refine aT _ _ ?_;clear aT;go_meet;exact⟨rfl,vg⟩
     case rest=>
      obtain⟨rfl,AY⟩:=hcut;obtain⟨JQ,rfl⟩:=zE wc;rename_i K4 hK4;refine hK4 _ _ ?_;have H21:=zH (UH.out.trans (AY.mono UH.out.size));have HT21:=zH (HT20.out.below AY);have ij:=kZ.out.below AY kZ.out.lt;replace kZ:=zH ij;have gN:=tM.out.below AY tM.out.lt;replace tM:=zH gN;clear hK4 AY HT20 ij gN;go_upto_region 27 with fail;go_wp2_with fail;refine(R6.out.findN JQ).mono ?_;rintro e WB ⟨rfl,Qy⟩;have H22:=zH (H21.out.trans (Qy.mono H21.out.size));have HT22:=zH (HT21.out.below Qy);have ij:=kZ.out.below Qy kZ.out.lt;replace kZ:=zH ij;have gN:=tM.out.below Qy tM.out.lt;replace tM:=zH gN;clear Qy HT21 H21 ij gN;go_upto_region 28 with fail;change Code.wp _ _ _ _ (WB.alloc (.cells #[.slice none 0 0,.slice none 0 0,.int .u64 0,.int .u64 0] 36));have Kt:=aj.new WB 36 #[.slice none 0 0,.slice none 0 0,.int .u64 0,.int .u64 0];have Qo:zB w9 (WB.alloc (.cells #[.slice none 0 0,.slice none 0 0,.int .u64 0,.int .u64 0] 36)):=H22.out.alloc H22.out.size _;have FA:zB WB (WB.alloc (.cells #[.slice none 0 0,.slice none 0 0,.int .u64 0,.int .u64 0] 36)):=(zR _).alloc (za _) _;obtain⟨g30,Yr⟩:=zE WB.heap.size;rw[<-Yr] at Kt ⊢;replace Yr:=zH Yr;generalize hww23:World.alloc WB _=w23 at Kt Qo FA ⊢;clear hww23;have UG:=zH Qo;have HBg30:=zH Kt;clear Kt Qo;have GL:=zH (R6.out.same (cd:=cd3) (ct:=ct3) (DC:=KM) (M9:=KJ) (HT22.out.below FA) (HT9.out.below UG.out));have ij:=kZ.out.below FA kZ.out.lt;replace kZ:=zH ij;have gN:=tM.out.below FA tM.out.lt;replace tM:=zH gN;clear FA ij gN HT22 H22;obtain⟨-,-,-,t0,t1,t2,t3⟩:=Gb.out w23 UG.out;have p0:=kZ.out.cell 0;have p1:=kZ.out.cell 1;have p2:=kZ.out.cell 2;have p3:=kZ.out.cell 3;simp only[zGA,zGB,zGC] at p0 p1 p2 p3;go_wp2_with fail;refine GL.out.mono ?_;rintro e w24 ⟨rfl,MP⟩;have H24:=zH (UG.out.trans (MP.mono UG.out.size));have gN:=tM.out.below MP tM.out.lt;clear p0 p1 p2 p3 t0 t1 t2 t3;have q0:=gN.cell 0;have q1:=gN.cell 1;have q2:=gN.cell 2;have q3:=gN.cell 3;have q4:=gN.cell 4;simp only[zGA,zGB,zGC] at q0 q1 q2 q3 q4;obtain⟨-,⟨m0,m1,m2,m3,m4⟩,-⟩:=Gb.out w24 H24.out;have HWK:=zH (HW.out w24);clear GL MP gN;go_wp2_with fail;refine HWK.out.mono ?_;rintro e w25 ⟨rfl,Qx⟩;have MP:=H24.out;clear q0 q1 q2 q3 q4 m0 m1 m2 m3 m4;have D9:=tL.out.trans ((MP.trans (Qx.mono MP.size)).mono tL.out.size);go_wp2_with fail;go_ret;exact⟨rfl,D9⟩
end
end Go.Proofs.YtfpjlkdklgokiaaGreat
