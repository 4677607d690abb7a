/- A part of the proof of CheckTakes. -/
import Derived.LoopIn
import Derived.LoopNIn
import Derived.OwnWalkIn
import Derived.RangeFuncGives
import Derived.RangeFuncSeq
import Derived.RegionIn
import Derived.Shelf.SlIter.Collect
import Derived.Sort.MapsRangeIn
import Derived.TacticsInMore
import Derived.Test.YtfpjlkdklgokiaaGreatZC
namespace Go.Proofs.YtfpjlkdklgokiaaGreat
set_option maxRecDepth 100000
set_option maxHeartbeats 40000000
open Go.RowKit
open Go.Proofs.Tryz
variable {n g k gp gd c gl i id b s r cb mb fb cd h N m fuel j ct p B cap sz gr z gt x aL:Nat} {v c1 c2 c3 c0 c5 c4:Value} {w' W:World} {A D T:Option Addr} {a:Act} {ids q fl l rest:List Nat} {xs fs:List Value} {o oi:Oper} {listed:Array Bool} {P:Program} {e t:TypeId} {args cs' buf:Array Value} {tm:Bool}
section
open Go.Conc

def Jy (Y:Sp.Pl->af->World->Prop) (E:Nat->World->Prop) (H F R:af) (gp gd gl at_ base fb cb mb s r:Nat) (v:Value) (fl ids:List Nat) (it:Sp.It) (gx:Nat) (W:World) (e:Ending) (w':World):Prop:=
 (∃c:Nat,c≠0/\e=.returned (.int .i64 c)/\E c w')\/
 e=.returned (.int .i64 0)/\∃(H':af) (p2:Sp.Pl) (nU:Sp.It) (Ru:Array Value),aH F R w' gp gd gl at_ base fb cb mb v s r Ru fl ids p2/\p2.find it.page.id=some nU/\nU.idx=it.idx/\p2.free=fl/\
  aa (λb=>H b\/b=gx) (λb=>H' b\/b=gx) W w'/\(∀b,F b->H' b)/\Y p2 H' w'
def Nv (Y:Sp.Pl->af->World->Prop) (E:Nat->World->Prop) (H F R:af) (w:World) (gp gd gl at_ base fb cb mb s r:Nat) (ids:List Nat) (id:Nat) (e:Ending) (w':World):Prop:=
 (∃c:Nat,c≠0/\e=.returned (.int .i64 c)/\E c w')\/
 e=.returned (.int .i64 0)/\∃(H':af) (p2:Sp.Pl) (nU:Sp.It) (w2:World) (F':af) (v':Value) (cs':Array Value),p2.find id=some nU/\Y p2 H' w2/\aa H H' w w2/\(∀b,F b->H' b)/\
  aH F' R w' gp gd gl at_ base fb cb mb v' (s+1) r cs' (p2.free++[nU.idx]) (ids.filter (λx=> !(x==id))) (p2.drop id nU.idx)/\aa F F' w2 w'
theorem Hr {F R H:af} {w:World} {at_ base:Nat} {cs:Array Value} {p:Sp.Pl} (h:aH F R w gp gd gl at_ base fb cb mb v s r cs p.free ids p)
 (hid:id<4294967296) {it:Sp.It} (hfp:p.find id=some it) (hHl:∀b,H b->b<w.heap.size) (Y:Sp.Pl->af->World->Prop) (E:Nat->World->Prop)
 (hW:∀W gx,zB w W->w.heap.size<=gx->aj W gx 61 #[av id]->Calls prog 146 #[ptr gp,.slice (some ⟨gx,0,none⟩) 1 1] W (Jy Y E H F R gp gd gl at_ base fb cb mb s r v p.free ids it gx W)):
 Calls prog 149 #[ptr gp,av id] w (Nv Y E H F R w gp gd gl at_ base fb cb mb s r ids id):=by
 have kJ:=(Sp.Pl.bu hfp).2;refine iL func149 rfl ?_;simp only[ntmps149,zV,zP,zap,Nat.reduceAdd,Nat.reduceSub,zac,zab,zan,zae,zaa,zal];have hb0:=aj.new w 61 #[av id];have h0:=h.keep (w':=w.alloc (.cells #[av id] 61)) (by simp) (λb hb=>Below.heap_alloc w _ b (h.lt b hb));have cH:=(zR w).alloc (za _) (.cells #[av id] 61);have hFl0:=h.lt;refine bf ?_;intro K hK;go_wp2_with fail;have hl0:w.heap.size<=w.heap.size:=za _;obtain⟨w1,hw1⟩:=zE (w.alloc (.cells #[av id] 61));rw[<-hw1] at h0 hb0 cH ⊢;obtain⟨b3,hb3⟩:=zE w.heap.size;rw[<-hb3] at hb0 ⊢;have P6:w.heap.size<=b3:=by omega
 clear hw1 hb3 hl0;have Cr:=zH hb0;have c3:=hb0.cell 0;simp only[zGA,zGC] at c3;have hb1:=aj.new w1 61 #[av id];have AU:=cH.alloc cH.size (.cells #[av id] 61);have HWR:=zH (hW _ w1.heap.size AU cH.size hb1);have hz1:w.heap.size<=w1.heap.size:=cH.size;clear h0 hb0 hb1 cH;refine bf ?_;intro K hK;go_wp2_with fail;refine HWR.out.mono ?_;rintro e w2 (⟨c4,vO,rfl,hE⟩ | ⟨rfl,H',p2,nU,Ru,h2,hf,hix,hfr2,dx,hFH,hY⟩)
 ·have dc:((c4:Int) != 0)=true:=by simpa using vO
  go_wp2_with fail;go_ret;exact .inl ⟨c4,vO,rfl,hE⟩
 have hbl3:b3<w1.heap.size:=Cr.out.lt;have hn2:aa H H' w w2:=by
  have hz:=AU.size;refine⟨dx.os.trans AU.os,dx.tape.trans AU.tape,dx.output.trans AU.output,zl hz dx.size,λb hb hn=>?_,λb hb=>?_⟩
  ·rw[dx.block b (by omega) (λe=>by rcases e with e | e;exact hn e;omega)];exact AU.block b hb
  ·rcases dx.foot b (.inl hb) with(e | e) | e
   ·exact .inl e
   ·exact .inr (by omega)
   ·exact .inr (by omega)
 have hb2:=(Cr.out.alloc (.cells #[av id] 61)).turns dx (λe=>by rcases e with e | e;have:=hHl b3 e;omega;omega);rw[kJ] at hf;have SI:∀b,F b->b≠b3:=λb hb e=>by have:=hFl0 b hb;omega
 have QO:=h2.lt;have HH:=zH (⟨hY,hn2,hFH⟩:Y p2 H' w2/\aa H H' w w2/\∀b,F b->H' b);have ht20:=aa.refl F w2;obtain⟨hit,rfl⟩:=Sp.Pl.bu hf;have hn2:aa bM bM w2 w2:=aa.refl _ _;clear dx HWR Cr c3 AU hfp kJ hY hFH hW h;rw[<-hfr2] at h2;clear hfr2 hix;go_wp2_with fail;have Gy:=fun(W:World) (hs:w2.heap.size<=W.heap.size) (hk:∀b,F b->W.heap[b]? =w2.heap[b]?)=>(h2.keep hs hk).look hid hf;obtain⟨c0,c1,c2,c3,c4,c5,c6,c7⟩:=h2.cells;have Zd:=hb2.cell 0;simp only[zGA,zGC] at Zd;have hS:=zH (⟨c6,Zd,Gy w2.drew (za _) (λ_ _=>rfl)⟩:w2.drew.cell? ⟨gp,6,none⟩=some (.map (some mb))/\w2.drew.cell? ⟨b3,0,none⟩=some (av nU.page.id)/\
  (Instr.lookup 216 (.map (some mb)) (av nU.page.id) false).run prog w2.drew=.ok (.int .i64 nU.idx) w2.drew)
 clear Gy c0 c1 c2 c3 c4 c5 c6 c7 Zd;refine bf ?_;intro K hK;refine eV (λW=>zC W gp 6 (.map (some mb))/\zC W b3 0 (av nU.page.id)/\
  (Instr.lookup 216 (.map (some mb)) (av nU.page.id) false).run prog W=.ok (.int .i64 nU.idx) W) (λ_=>false) rfl ?_
 repeat (refine bK hS.out ?_)
 refine aC (by kernel_rfl) ?_ _;refine hK _ _ ?_;have h3:=h2.keep (w':=w2.drew) (za _) (λ_ _=>rfl);have rM:=hb2.drew;have qN:=hn2.drew;obtain⟨w3,hw3⟩:=zE w2.drew;rw[<-hw3] at h3 rM qN ⊢;clear hw3 hS h2 hb2 hn2 hK K;obtain⟨c0,c1,c2,c3,c4,c5,c6,c7⟩:=h3.cells;have hbz:∀W,(Instr.build 213 #[]).run prog W=.ok (.agg cu.toArray) W:=λW=>by kernel_rfl
 have vG:=h3.wf.fp hit;have lZ:=h3.wf.rV;have H3:=zH h3;have hcs:=h3.fr.size;clear c0 c1 c2 c3 c5 c6 c7 h3;have cg:=H3.out.fr.blk;have HST:=ax (P:=prog) w3 fb (nU.idx*9) 213 213 Ru cu.toArray cg pZ (by rw[hcs];show nU.idx*9+9<=p2.n*9;omega) (by simp[cu,Value.oneCell']);refine bf ?_;intro K hK;go_wp2_with (first | ((with_reducible refine wpList_skip (w':=w3.setRow fb (aD Ru (nU.idx*9) cu)) rfl rfl ?_ ?_);exact aq _ _ _ ⟨fb,nU.idx*9,none⟩ (.agg cu.toArray) rfl rfl rfl HST));clear HST;obtain⟨f1,f2,f3,f4,f5⟩:=H3.out.foot;obtain⟨n1,n2,n3,n4,n5,n6⟩:=H3.out.ne;obtain⟨o1,o2,o3,o4⟩:=H3.out.dI;have dn:=cg.setRow (aD Ru (nU.idx*9) cu);have hk4:∀b,b≠fb->(w3.setRow fb (aD Ru (nU.idx*9) cu)).heap[b]? =w3.heap[b]? :=λb hb=>setRow_other w3 fb b _ hb;have pV:=(aa.refl F w3).setRow (g:=fb) (.inl f2) (aD Ru (nU.idx*9) cu);have hb34:b3≠fb:=λe=>SI fb f2 e.symm;have s4:=rM.keep (hk4 b3 hb34);have VP:=H3.out.blk.keep (hk4 gp n1);have YT:=H3.out.map.keep (hk4 mb (Ne.symm n5));obtain⟨w4,hw4⟩:=zE (w3.setRow fb (aD Ru (nU.idx*9) cu));rw[<-hw4] at dn hk4 pV s4 VP YT ⊢;clear hw4;have c6:=VP.cell 6;simp only[bl,zGA,zGB,zGC] at c6;have Zd:=s4.cell 0;simp only[zGA,zGC] at Zd;have hS:=zH (⟨c6,Zd⟩:w4.drew.cell? ⟨gp,6,none⟩=some (.map (some mb))/\w4.drew.cell? ⟨b3,0,none⟩=some (av nU.page.id));clear c6 Zd;refine bf ?_;intro K hK;refine fQ (λW=>zC W gp 6 (.map (some mb))/\zC W b3 0 (av nU.page.id)) (λ_=>false) ?_
 repeat (refine bK hS.out ?_)
 obtain⟨w5,hdel,hM5,jm⟩:=dV.del (w:=w4.drew) YT.drew underlying61 underlying216 hid (i:=nU.idx) (by simp[Sp.Pl.lk,hf]) 0;have hP5:=VP.drew.grown jm (λe=>n3 (by injection e));have hbm:b3≠mb:=λe=>SI mb f4 e.symm;have cS:=s4.drew.grown jm (λe=>hbm (by injection e));have iV:=pV.drew.grown jm (λk hk=>.inl (by injection hk with hk;rw[<-hk];exact f4));have eC:=dn.drew.grown jm (λe=>n5 (by injection e));refine KT 5 (n:=.value (.tuple #[])) (w':=w5) rfl rfl (by rfl) (by kernel_rfl) (by go_simp) (.inr ⟨_,rfl⟩) (λ_=>⟨(hP5.cell 6).trans rfl,(cS.cell 0).trans rfl⟩) ?_;refine aC (by kernel_rfl) ?_ _;refine hK _ _ ?_;have PD:nU.idx*9+9<=Ru.size:=by omega
 have h5:=H3.out.drop (w':=w5) hit iV.size (λb hb h1 h2=>(jm.block b (by have:=H3.out.lt b hb;have:=pV.size;simp;omega) (λe=>h2 (by injection e))).trans (hk4 b h1)) eC (fJ.part rfl PD) (λj hj=>J2 rfl PD hj) hM5;have hc5:=h5.chan;have Ki:=h5.row;have hF5:=h5.lt;have c7:=hP5.cell 7;have f7:=hP5.frozen 7;simp only[bl,zGA,zGB,zGC] at c7;have hn3v:v.ownBlock≠some b3:=λe=>SI b3 (f5 b3 e) rfl;have HDR:=zH (rP (w:=w5) (Ju nU.page.id b3) Ki cS hn3v);have H5:=zH h5;have hlen:=H3.out.wf.len;have hit1:0<p2.items.length:=List.length_pos_of_mem hit;clear h5 Ki hdel jm hM5 YT VP s4 pV dn hk4 cg rM hS hK K eC hc5 c4 cS;refine bf ?_;intro K hK;go_wp2_with fail;refine HDR.out.mono ?_;rintro e w6 ⟨v',rfl,r1,r2,r3⟩;have iA:aa F F w3 w6:=iV.grown r2 (λk hk=>.inl (f5 k hk));have hP6:=hP5.grown r2 (λe=>o1 e.symm);have c7:=hP6.cell 7;have f7:=hP6.frozen 7;simp only[bl,zGA,zGB,zGC] at c7;have hrd:=zH (H5.out.U_ (w':=w6.setCell ⟨gp,7,none⟩ v') (v':=v') (ids':=ids.filter (λx=> !(x==nU.page.id))) (by have:=r2.size;simpa[World.setCell] using this)
  (λb hb h1 h2=>(Below.heap_setCell w6 _ _ b h1).trans (r2.block b (hF5 b hb) (λe=>h2 e.symm))) (hP6.a_ 7 v')
  (js r1 (λb hb=>Below.heap_setCell w6 _ _ b (λe=>o1 (by rw[r3 b hb,e])))) (λb hb=>.inl (r3 b hb)))
 have iU:=iA.setCell (p:=⟨gp,7,none⟩) (.inl f1) v';obtain⟨Av,nv,cv,rfl⟩:∃A n c,v'=.slice A n c:=by
  rcases r1.2 with⟨h0,_⟩ | ⟨g6,c6,_,h0,_⟩
  ·exact⟨_,_,_,h0⟩
  ·exact⟨_,_,_,h0⟩
 clear r1 r2 HDR hP6 hP5 H5 H3 iA;go_wp2_with fail;obtain⟨w7,TJ⟩:=zE (w6.setCell ⟨gp,7,none⟩ (.slice Av nv cv));rw[<-TJ] at hrd iU ⊢;clear TJ;have ur:=hrd.out.chan;obtain⟨c0,c1,c2,c3,c4,c5,c6,VY⟩:=hrd.out.cells;clear c0 c1 c2 c3 c4 c6 VY;refine f_ ?_;refine gV ?_;change wR _ _ _ [0,1,2,3,4,5] _ _;refine cB 0 41 (v:=ptr gp) (w':=w7) rfl rfl (by rfl) (by go_simp) ?_;simp only[zSA,zSB,zSC];refine cB 1 42 (v:=ptr gp) (w':=w7) rfl rfl (by rfl) (by go_simp) ?_;simp only[zSA,zSB,zSC];refine cB 2 43 (v:=.pointer (some ⟨gp,5,none⟩)) (w':=w7) rfl rfl (by rfl) (by go_simp) ?_;simp only[zSA,zSB,zSC];refine cB 3 44 (v:=.chan (some cb)) (w':=w7) rfl rfl (by rfl) (by go_simp) ?_;simp only[zSA,zSB,zSC];refine cB 4 45 (v:=.int .i64 nU.idx) (w':=w7) rfl rfl (by rfl) (by go_simp) ?_;simp only[zSA,zSB,zSC];refine JA 5 (c:=cb) (cap:=p2.n) (buf:=(p2.free.map fun(i:Nat)=>Value.int .i64 (i:Int)).toArray) (s:=s) (r:=r) (tm:=false) (v:=.int .i64 nU.idx) (z:=.tuple #[]) (w':=w7) rfl rfl (by rfl) (by simp[execOp,scase,Act.eval]) ur (by simp;omega) ?_;refine nM ?_;simp only[Exit.then];refine fF ?_;have hch:=hrd.out.chans (Y9:=p2.free++[nU.idx]) (s':=s+1) (r':=r);change aH _ _ (w7.setChan cb p2.n _ _ _ _ _) _ _ _ _ _ _ _ _ _ _ _ _ _ _ _ at hch;have hgr:=eM w7 cb p2.n ((p2.free++[nU.idx]).map fun(i:Nat)=>Value.int .i64 (i:Int)).toArray false (s+1) r false;have ig:=iU.grown hgr (λk hk=>.inl (by injection hk with hk;rw[<-hk];exact f3));have eb:((p2.free.map fun(i:Nat)=>Value.int .i64 (i:Int)).toArray).push (.int .i64 (nU.idx:Int))=((p2.free++[nU.idx]).map fun(i:Nat)=>Value.int .i64 (i:Int)).toArray:=by simp
 rw[eb];have SP:=zH hch;clear hch hgr hrd ur iU eb;generalize w7.setChan cb p2.n ((p2.free++[nU.idx]).map fun(i:Nat)=>Value.int .i64 (i:Int)).toArray false (s+1) r false=w8 at*;go_wp2_with fail;go_ret;obtain⟨hY,hn0,hFH⟩:=HH.out;refine .inr ⟨rfl,H',p2,nU,w2,_,_,_,hf,hY,hn0,hFH,SP.out,?_⟩;have hn3z:=qN.size;refine⟨ig.os.trans qN.os,ig.tape.trans qN.tape,ig.output.trans qN.output,zl hn3z ig.size,λb hb hn=>?_,λb hb=>?_⟩
 ·rw[ig.block b (by omega) hn];exact qN.block b hb (λe=>e)
 ·rcases hb with hb | hb
  ·exact .inl hb
  ·exact .inl (f5 b (r3 b hb))
def RP (F R:af) (w:World) (gp gd gl at_ base fb cb mb:Nat) (i:Nat) (fl ids:List Nat) (p:Sp.Pl) (e:Ending) (w':World):Prop:=
 e=.returned (.tuple #[.int .i64 i,.int .i64 0])/\∃F' v' s' r' cs',aH F' R w' gp gd gl at_ base fb cb mb v' s' r' cs' fl ids p/\aa F F' w w'
theorem F0 (i:Nat) (rest:List Nat):((i::rest).map fun(i:Nat)=>Value.int .i64 (i:Int)).toArray.getD 0 undef=.int .i64 i/\
 ((i::rest).map fun(i:Nat)=>Value.int .i64 (i:Int)).toArray.extract 1 ((i::rest).map fun(i:Nat)=>Value.int .i64 (i:Int)).toArray.size=(rest.map fun(i:Nat)=>Value.int .i64 (i:Int)).toArray:=by
 constructor
 ·simp
 ·simp only[zF,List.extract_toArray,zV,zP,zM]
  congr 1
  simp[zX]
theorem xE {F R:af} {w:World} {at_ base:Nat} {cs:Array Value} {p:Sp.Pl} (h:aH F R w gp gd gl at_ base fb cb mb v s r cs p.free ids p)
 (hfree:p.free=i::rest):
 Calls prog 201 #[ptr gp] w (RP F R w gp gd gl at_ base fb cb mb i rest ids p):=by
 refine iL func201 rfl ?_;simp only[ntmps201,zV,zP,zap,Nat.reduceAdd,Nat.reduceSub,zac,zab,zan,zae,zaa,zal];obtain⟨c0,c1,c2,c3,c4,c5,c6,c7⟩:=h.cells;have hc:=h.chan;rw[hfree] at hc;have hch:=h.chans (Y9:=rest) (s':=s) (r':=r+1);have hgr:=eM w cb p.n (rest.map fun(i:Nat)=>Value.int .i64 (i:Int)).toArray false s (r+1) false;have ht:=(aa.refl F w).grown hgr (λk hk=>.inl (by injection hk with hk;rw[<-hk];exact h.foot.2.2.1));have SP:=zH hch;clear c0 c1 c2 c3 c4 c6 c7 hch hgr h;refine bf ?_;intro K hK;go_wp2_with fail;refine f_ ?_;refine bf ?_;intro K hK;go_wp2_with fail;refine f_ ?_;refine gV ?_;change wR _ _ _ [0,1,2] _ _;refine qY 0 12 (c:=cb) (cap:=p.n) (buf:=((i::rest).map fun(i:Nat)=>Value.int .i64 (i:Int)).toArray) (s:=s) (r:=r) (closed:=false) (tm:=false) (z:=.int .i64 0) (w':=w) rfl rfl (by rfl) ?_ hc (by simp) ?_
 ·go_simp;rfl
 simp only[zSA,zSB,zSC];obtain⟨e1,e2⟩:=F0 i rest;rw[e1,e2];clear e1 e2 hc c5;generalize w.setChan cb p.n (rest.map fun(i:Nat)=>Value.int .i64 (i:Int)).toArray false s (r+1) false=w8 at*;refine cB 1 13 (v:=.int .i64 0) (w':=w8) rfl rfl (by rfl) (by go_simp) ?_;simp only[zSA,zSB,zSC];refine cB 2 14 (v:=.bool true) (w':=w8) rfl rfl (by rfl) (by go_simp) ?_;simp only[zSA,zSB,zSC];refine nM ?_;simp only[Exit.then];refine fF ?_;go_wp2_with fail
 go_ret2
 exact⟨rfl,_,_,_,_,_,SP.out,ht⟩
theorem Oz {w:World} (h:w.ownsRow 0 61 1 (.slice (some ⟨b,0,none⟩) ids.length cap) ids.length (ids.map fun(i:Nat)=>Value.int .u32 (i:Int))) (hk:k<ids.length):w.cell? ⟨b,k,none⟩=some (av ids[k]!):=by
 rcases h.2 with⟨h0,_⟩ | ⟨g,c,cur,h0,_,hh,h1,h2,h3,h4⟩
 ·cases h0
 ·injection h0 with a1 a2 a3;injection a1 with a1;injection a1 with a1;subst a1;rw[cell_of_row w b k cur _ (0,0) hh];have:=congrArg (λl=>l[k]?) h4;simp only[Nat.mul_one,zT,hk,if_true] at this;rw[zZ] at this;rw[this];simp[hk]
def DropX (X:Sp.It->af->World->World->Prop) (E:Nat->Sp.It->World->World->Prop) (R:af) (w:World) (gp gd gl at_ base fb cb mb:Nat) (fl ids:List Nat) (p:Sp.Pl) (it:Sp.It) (e:Ending) (w':World):Prop:=
 (∃c:Nat,c≠0/\e=.returned (.int .i64 c)/\E c it w w')\/
 e=.returned (.int .i64 0)/\∃F' v' s' r' cs',aH F' R w' gp gd gl at_ base fb cb mb v' s' r' cs' (fl++[it.idx]) (ids.filter (λx=> !(x==it.page.id))) (p.drop it.page.id it.idx)/\X it F' w w'
def RS (X:Sp.It->af->World->World->Prop) (E:Nat->Sp.It->World->World->Prop) (R:af) (w:World) (gp gd gl at_ base fb cb mb:Nat) (ids:List Nat) (p:Sp.Pl) (e:Ending) (w':World):Prop:=
 (e=.returned (.tuple #[.int .i64 0,.int .i64 4])/\(∀n∈ids,∃it,p.find n=some it/\0<it.pins)/\aa bM bM w w')\/
 (∃pre it post,ids=pre++it.page.id::post/\(∀n∈pre,∃y,p.find n=some y/\0<y.pins)/\p.find it.page.id=some it/\it.pins=0/\∃c:Nat,c≠0/\e=.returned (.tuple #[.int .i64 0,.int .i64 c])/\∃W,aa bM bM w W/\E c it W w')\/
 ∃pre it post,ids=pre++it.page.id::post/\(∀n∈pre,∃y,p.find n=some y/\0<y.pins)/\p.find it.page.id=some it/\it.pins=0/\e=.returned (.tuple #[.int .i64 it.idx,.int .i64 0])/\
  ∃W w1 F' v' s' r' cs',aa bM bM w W/\X it F' W w1/\aH F' R w' gp gd gl at_ base fb cb mb v' s' r' cs' [] (ids.filter (λx=> !(x==it.page.id))) (p.drop it.page.id it.idx)/\aa (only cb) (only cb) w1 w'
theorem xD {F R:af} {w:World} {at_ base:Nat} {cs:Array Value} {p:Sp.Pl} (h:aH F R w gp gd gl at_ base fb cb mb v s r cs p.free ids p)
 (hfree:p.free=[]) (hin:∀n∈ids,n<4294967296/\∃it,p.find n=some it) (hl:ids.length<=64) (X:Sp.It->af->World->World->Prop) (E:Nat->Sp.It->World->World->Prop)
 (hD:∀it∈p.items,it.pins=0->∀W,aH F R W gp gd gl at_ base fb cb mb v s r cs p.free ids p->aa bM bM w W->Calls prog 149 #[ptr gp,av it.page.id] W (DropX X E R W gp gd gl at_ base fb cb mb p.free ids p it)):
 Calls prog 201 #[ptr gp] w (RS X E R w gp gd gl at_ base fb cb mb ids p):=by
 refine iL func201 rfl ?_;simp only[ntmps201,zV,zP,zap,Nat.reduceAdd,Nat.reduceSub,zac,zab,zan,zae,zaa,zal];have hc:=h.chan;rw[hfree] at hc;obtain⟨c0,c1,c2,c3,c4,c5,c6,c7⟩:=h.cells;have H:=zH h;have HD:=zH hD;have tS:=zH hin;have ja:ids=[]\/∃b cap,v=.slice (some ⟨b,0,none⟩) ids.length cap/\ids.length<=cap:=by
  rcases h.row.2 with⟨_,h0⟩ | ⟨g,cap,cur,h0,_,hh,h1,h2,h3,h4⟩
  ·exact .inl (zy h0)
  ·exact .inr ⟨g,cap,h0,h1⟩
 have hv:∃A n c,v=.slice A n c/\n=ids.length:=by
  rcases h.row.2 with⟨h0,h1⟩ | ⟨g,cap,cur,h0,_⟩
  ·exact⟨_,_,_,h0,h1.symm⟩
  ·exact⟨_,_,_,h0,rfl⟩
 obtain⟨Av,nv,cv,rfl,rfl⟩:=hv;clear c0 c1 c2 c3 c4 c6 h hD hin;refine bf ?_;intro K hK;go_wp2_with fail;refine f_ ?_;refine bf ?_;intro K hK;go_wp2_with fail;refine f_ ?_;refine gV ?_;change wR _ _ _ [0,1,2] _ _;refine mQ 0 12 (c:=cb) (cap:=p.n) (s:=s) (r:=r) (tm:=false) (z:=.int .i64 0) (w':=w) rfl rfl (by rfl) ?_ hc ?_
 ·go_simp;rfl
 simp only[zSA,zSB,zSC];refine cB 1 13 (v:=.int .i64 (-1)) (w':=w) rfl rfl (by rfl) (by go_simp) ?_;simp only[zSA,zSB,zSC];refine cB 2 14 (v:=.bool false) (w':=w) rfl rfl (by rfl) (by go_simp) ?_;simp only[zSA,zSB,zSC];refine nM ?_;simp only[Exit.then];refine fF ?_;go_wp2_with fail;refine f_ ?_;refine bf ?_;intro K hK;go_wp2_with fail;refine h_ ?_;refine Ef (λa wr=>∃(k:Nat) (u6 u23 u24 u25 u26 u27 u28 u29 u30 u31 u32 u33 u34 u35 u36 u37 u38 u39 u51:Value),k<=ids.length/\a={tmps:=#[ptr gp,undef,.int .i64 0,.int .i64 0,undef,undef,u6,undef,ptr gp,.pointer (some ⟨gp,0,none⟩),.pointer (some ⟨gp,5,none⟩),.chan (some cb),.tuple #[goInt (-1),.bool false,.int .i64 0],.int .i64 (-1),.bool false,undef,undef,ptr gp,.pointer (some ⟨gp,0,none⟩),.pointer (some ⟨gp,7,none⟩),.slice Av ids.length cv,.int .i64 ids.length,.int .i64 (k:Nat),u23,u24,u25,u26,u27,u28,u29,u30,u31,u32,u33,u34,u35,u36,u37,u38,u39,undef,undef,undef,undef,undef,undef,undef,undef,undef,undef,undef,u51],defers:=[]}/\aa bM bM w wr/\∀n∈ids.take k,∃it,p.find n=some it/\0<it.pins) (λa _=>ids.length-(intOf (a.tmps.getD 22 undef)).toNat) ?_ ?_
 ·exact⟨0,undef,undef,undef,undef,undef,undef,undef,undef,undef,undef,undef,undef,undef,undef,undef,undef,undef,undef,undef,za0 _,rfl,aa.refl _ _,by simp⟩
 rintro a wr ⟨k,u6,u23,u24,u25,u26,u27,u28,u29,u30,u31,u32,u33,u34,u35,u36,u37,u38,u39,u51,hk,rfl,htr,hpre⟩;have hkp:=H.out.keep htr.size (λb hb=>htr.block b (H.out.lt b hb) (λe=>e));by_cases hlt:k<ids.length
 ·rcases ja with h0 | ⟨rb,rc,hv,hcap⟩
  ·rw[h0] at hlt;exact absurd hlt (by simp)
  obtain⟨rfl,rfl⟩:Av=some ⟨rb,0,none⟩/\cv=rc:=by injection hv with a1 a2 a3;exact⟨a1,a3⟩
  have hck:wr.cell? ⟨rb,k,none⟩=some (av ids[k]!):=by
   have:=Oz hkp.row hlt;exact this
  obtain⟨hid,it,hf⟩:=tS.out ids[k]! (by rw[zG _ k hlt];exact zw hlt);have htk:ids.take (k+1)=ids.take k++[ids[k]!]:=by rw[zg hlt,zG _ k hlt]
  have hsplit:ids=ids.take k++ids[k]! ::ids.drop (k+1):=by
   conv=>lhs;rw[<-zS k ids,zao hlt]
   rw[zG _ k hlt]
  have hmeas:k+1<=ids.length:=hlt;have uG:=zH htk;have HSP:=zH hsplit;clear htk hsplit;generalize ids[k]! =id at*;obtain⟨hit,rfl⟩:=Sp.Pl.bu hf;clear hv;refine bf ?_;intro K hK;go_wp2_with fail;refine bf ?_;intro K hK;go_wp2_with fail;refine f_ ?_;refine h_ ?_;refine bf ?_;intro K hK;go_wp2_with fail;obtain⟨c0,c1,c2,c3,c4,SK,c6,VY⟩:=hkp.cells;have cp:=hkp.pins hit;have hlk:=(hkp.keep (w':=wr.drew) (za _) (λ_ _=>rfl)).look hid hf;have vG:=hkp.wf.fp hit;have lZ:=hkp.wf.rV;have hS:=zH (⟨c4,c6,hlk,cp⟩:wr.drew.cell? ⟨gp,4,none⟩=some (.slice (some ⟨fb,0,none⟩) p.n p.n)/\wr.drew.cell? ⟨gp,6,none⟩=some (.map (some mb))/\
   (Instr.lookup 216 (.map (some mb)) (av it.page.id) false).run prog wr.drew=.ok (.int .i64 it.idx) wr.drew/\wr.drew.cell? ⟨fb,it.idx*9+6,none⟩=some (.int .i64 it.pins))
  have HKP:=zH hkp;clear c0 c1 c2 c3 c4 SK c6 VY cp hlk hkp hck;refine bf ?_;intro K hK;go_wp2_with fail;refine eV (λW=>zC W gp 4 (.slice (some ⟨fb,0,none⟩) p.n p.n)/\zC W gp 6 (.map (some mb))/\
   (Instr.lookup 216 (.map (some mb)) (av it.page.id) false).run prog W=.ok (.int .i64 it.idx) W/\W.cell? ⟨fb,it.idx*9+6,none⟩=some (.int .i64 it.pins)) (λ_=>false) rfl ?_
  repeat (refine bK hS.out ?_)
  refine aC (by kernel_rfl) ?_ _;rename_i K9 aT;refine aT _ _ ?_;have NF:=htr.drew;have Gy:=HKP.out.keep (w':=wr.drew) (za _) (λ_ _=>rfl);clear hS HKP htr;generalize wr.drew=wd at*;have HKD:=zH Gy;clear Gy;go_wp2_with fail
  ·rename_i hp;refine fF ?_;go_wp2_with fail;refine⟨⟨k+1,hmeas,⟨_,_,_,_,_,_,_,_,_,_,_,_,_,_,_,_,_,_,_,rfl⟩,NF,λn hn=>?_⟩,by simp[intOf];omega⟩;rw[uG.out] at hn;rcases zz.1 hn with hn | hn
   ·exact hpre n hn
   ·rw[zq.1 hn];exact⟨it,hf,hp⟩
  ·rename_i hp;have oK:it.pins=0:=by omega
   have HDD:=zH (HD.out it hit oK wd HKD.out NF);clear HD HKD;refine bf ?_;intro K hK;go_wp2_with fail;refine HDD.out.mono ?_;rintro e w1 (⟨c4,vO,rfl,hE⟩ | ⟨rfl,F',v',s',r',cs',h1,hX⟩)
   ·have dc:((c4:Int) != 0)=true:=by simpa using vO
    go_wp2_with fail
    go_ret2
    exact .inr (.inl ⟨ids.take k,it,ids.drop (k+1),HSP.out,hpre,hf,oK,c4,vO,rfl,wd,NF,hE⟩)
   rw[hfree,zaa] at h1;go_wp2_with fail;obtain⟨c0,c1,c2,c3,c4,SK,c6,VY⟩:=h1.cells;have hc1:=h1.chan;have hch:=h1.chans (Y9:=[]) (s':=s') (r':=r'+1);change aH _ _ (w1.setChan cb p.n _ _ _ _ _) _ _ _ _ _ _ _ _ _ _ _ _ _ _ _ at hch;have hgr:=eM w1 cb p.n (([]:List Nat).map fun(i:Nat)=>Value.int .i64 (i:Int)).toArray false s' (r'+1) false;have uj:=(aa.refl (only cb) w1).grown hgr (λk hk=>.inl (by injection hk with hk;exact hk.symm));have SP:=zH hch;clear c0 c1 c2 c3 c4 c6 VY hch hgr h1;refine f_ ?_;refine gV ?_;change wR _ _ _ [0,1,2,3,4,5,6] _ _;refine cB 0 46 (v:=ptr gp) (w':=w1) rfl rfl (by rfl) (by go_simp) ?_;simp only[zSA,zSB,zSC];refine cB 1 47 (v:=ptr gp) (w':=w1) rfl rfl (by rfl) (by go_simp) ?_;simp only[zSA,zSB,zSC];refine cB 2 48 (v:=.pointer (some ⟨gp,5,none⟩)) (w':=w1) rfl rfl (by rfl) (by go_simp) ?_;simp only[zSA,zSB,zSC];refine cB 3 49 (v:=.chan (some cb)) (w':=w1) rfl rfl (by rfl) (by go_simp) ?_;simp only[zSA,zSB,zSC];refine Zh 4 50 (c:=cb) (cap:=p.n) (buf:=([it.idx].map fun(i:Nat)=>Value.int .i64 (i:Int)).toArray) (s:=s') (r:=r') (closed:=false) (tm:=false) (z:=.int .i64 0) (w':=w1) rfl rfl (by rfl) ?_ hc1 (by simp) ?_
   ·go_simp;rfl
   simp only[zSA,zSB,zSC];obtain⟨e1,e2⟩:=F0 it.idx [];rw[e1,e2];clear e1 e2 hc1 SK;generalize w1.setChan cb p.n (([]:List Nat).map fun(i:Nat)=>Value.int .i64 (i:Int)).toArray false s' (r'+1) false=w9 at*;refine cB 5 2 (v:=.int .i64 it.idx) (w':=w9) rfl rfl (by rfl) (by go_simp) ?_;simp only[zSA,zSB,zSC];refine cB 6 3 (v:=.int .i64 0) (w':=w9) rfl rfl (by rfl) (by go_simp) ?_;simp only[zSA,zSB,zSC];refine nM ?_;simp only[Exit.then];refine fF ?_;go_wp2_with fail
   go_ret2
   exact .inr (.inr ⟨ids.take k,it,ids.drop (k+1),HSP.out,hpre,hf,oK,rfl,wd,w1,F',v',s',r'+1,cs',NF,hX,SP.out,uj⟩)
 ·obtain rfl:k=ids.length:=by omega
  rw[zL] at hpre;clear hkp;refine bf ?_;intro K hK;go_wp2_with fail;refine bf ?_;intro K hK;go_wp2_with fail;refine fF ?_;go_wp2_with fail
  go_ret2
  exact .inl ⟨rfl,hpre,htr⟩
abbrev aG (x:Sp.Pg) (A:Option Addr) (c:Nat):Array Value:=#[.int .u8 x.kind,.int .u8 x.level,.int .u32 x.id,.int .u64 x.aL,.int .u32 x.next,.slice A x.rows.length c]
def tH (Z:Nat->Sp.Pl->List Nat->af->af->World->Prop) (Z4:Nat->World->Prop) (H R:af) (w:World) (gp gd gl at_ base fb cb mb id:Nat) (e:Ending) (w':World):Prop:=
 (∃c4:Nat,c4≠0/\e=.returned (.tuple #[.int .i64 0,.int .i64 c4])/\Z4 c4 w'/\aa H H w w')\/
 ∃(i:Nat) (p':Sp.Pl) (F' H':af) (v':Value) (s' r':Nat) (cs':Array Value) (ids' rest:List Nat),e=.returned (.tuple #[.int .i64 i,.int .i64 0])/\aH F' R w' gp gd gl at_ base fb cb mb v' s' r' cs' rest ids' p'/\p'.free=i::rest/\p'.find id=none/\aa H H' w w'/\(∀b,F' b->H' b)/\Z i p' ids' F' H' w'
def Ny (Z:Nat->Sp.Pl->List Nat->af->af->World->Prop) (Z4:Nat->World->Prop) (H R G:af) (w:World) (gp gd gl at_ base fb cb mb:Nat) (x:Sp.Pg) (e:Ending) (w':World):Prop:=
 (∃c4:Nat,c4≠0/\e=.returned (.int .i64 c4)/\Z4 c4 w'/\aa H H w w')\/
 ∃(i:Nat) (p':Sp.Pl) (F' H':af) (v':Value) (s' r':Nat) (cs':Array Value) (ids' rest:List Nat) (w2:World),e=.returned (.int .i64 0)/\aH (λb=>F' b\/G b) (λb=>R b\/G b) w' gp gd gl at_ base fb cb mb v' s' r' cs' rest ids' (p'.bring x i rest)/\p'.free=i::rest/\p'.find x.id=none/\aa H H' w w2/\(∀b,F' b->H' b)/\Z i p' ids' F' H' w2/\aa F' F' w2 w'
theorem uU {H R G:af} {w:World} {at_ base:Nat} {x:Sp.Pg} (hx:x.wf/\x.may) (hA:cO A) (hR:aA G w A x.rows) (hG:∀b,G b->¬H b/\b<w.heap.size) (hH:∀b,H b->b<w.heap.size)
 (Z:Nat->Sp.Pl->List Nat->af->af->World->Prop) (Z4:Nat->World->Prop)
 (hT:Calls prog 201 #[ptr gp] (w.alloc (.cells (aG x A c) 64)) (tH Z Z4 H R (w.alloc (.cells (aG x A c) 64)) gp gd gl at_ base fb cb mb x.id)):
 Calls prog 138 #[ptr gp,iR x A c] w (Ny Z Z4 H R G w gp gd gl at_ base fb cb mb x):=by
 have HT:=zH hT;have hb0:=aj.new w 64 (aG x A c);have yB:=Reads.below hR ((zR w).alloc (za _) (.cells (aG x A c) 64));have Fl:=(aa.refl H w).alloc (.cells (aG x A c) 64);clear hT hR;go_enter func138,ntmps138;go_wp2_with fail;obtain⟨w1,hw1⟩:=zE (w.alloc (.cells (aG x A c) 64));rw[<-hw1] at HT hb0 yB Fl ⊢;obtain⟨g3,hg3⟩:=zE w.heap.size;have MF:w.heap.size<=g3:=by omega
 rw[<-hg3] at hb0 ⊢;clear hw1 hg3;refine HT.out.mono ?_;rintro e w2 (⟨c4,vO,rfl,hz,htz⟩ | ⟨i,p',F',H',v',s',r',cs',ids',rest,rfl,h2,hfree,hnone,dx,hF',hZ⟩)
 ·have dc:((c4:Int) != 0)=true:=by simpa using vO
  go_wp2_with fail;go_ret;exact .inl ⟨c4,vO,rfl,hz,Fl.trans htz⟩
 have hnH:¬H g3:=λh=>by have:=hH g3 h;omega
 have hb2:=hb0.turns dx hnH;have pW:=yB.keep dx.size (λb hb=>dx.block b (by have:=(hG b hb).2;have:=Fl.size;omega) (hG b hb).1);have hGF:∀b,G b->¬F' b/\b<w2.heap.size:=λb hb=>by
  have h1:=hG b hb;have h2:=Fl.size;have h3:=dx.size;refine⟨λhf=>?_,by omega⟩;rcases dx.foot b (hF' b hf) with h | h
  ·exact h1.1 h
  ·omega
 have Qd:¬F' g3:=λhf=>by
  have:=hb0.lt;rcases dx.foot g3 (hF' g3 hf) with h | h
  ·exact hnH h
  ·omega
 have vG:=h2.wf.Uw (i:=i) (by rw[hfree];simp);have lZ:=h2.wf.rV;have hlen:=h2.wf.len;obtain⟨c0,c1,c2,c3,c4,c5,c6,c7⟩:=h2.cells;have hcs:=h2.fr.size;have bB:=h2.fr.blk;have H2:=zH h2;have hS:=zH (⟨c4,hb2⟩:w2.drew.cell? ⟨gp,4,none⟩=some (.slice (some ⟨fb,0,none⟩) p'.n p'.n)/\aj w2.drew g3 64 (aG x A c));clear c0 c1 c2 c3 c4 c5 c6 c7 h2 HT hb0 yB;go_wp2_with fail;refine fQ (λW=>zC W gp 4 (.slice (some ⟨fb,0,none⟩) p'.n p'.n)/\aj W g3 64 (aG x A c)) (λj=>j==8) ?_
 repeat (refine bK hS.out ?_)
 refine kT 5 20 (v:=iR x A c) rfl hS.out ?_ ?_
 ·intro w hSw;exact ay _ _ _ rfl rfl (run_loadVar_row w g3 _ _ _ _ _ hSw.2 underlying64 rfl rfl)
 refine kT 6 21 (v:=.agg (aQ ⟨x,0,false,0,i⟩ A c).toArray) rfl hS.out ?_ ?_
 ·intro w hSw;go_simp;rfl
 repeat (refine bK hS.out ?_)
 refine jx 8 (w':=w2.drew.setRow fb (aD cs' (i*9) (aQ ⟨x,0,false,0,i⟩ A c))) rfl (aq _ _ _ _ _ rfl rfl rfl (ax w2.drew fb (i*9) _ _ cs' (aQ ⟨x,0,false,0,i⟩ A c).toArray bB pZ (by rw[hcs];show i*9+9<=p'.n*9;omega) (lQ _ A c))) (λh=>nomatch h) ?_;refine aC (by kernel_rfl) ?_ _;rename_i K9 aT;refine aT _ _ ?_;obtain⟨f1,f2,f3,f4,f5⟩:=H2.out.foot;obtain⟨n1,n2,n3,n4,n5,n6⟩:=H2.out.ne;have dn:=aj.setRow (w:=w2.drew) bB (aD cs' (i*9) (aQ ⟨x,0,false,0,i⟩ A c));have hk4:∀b,b≠fb->(w2.drew.setRow fb (aD cs' (i*9) (aQ ⟨x,0,false,0,i⟩ A c))).heap[b]? =w2.heap[b]? :=λb hb=>setRow_other w2.drew fb b _ hb;have pV:=(aa.refl F' w2).drew.setRow (g:=fb) (.inl f2) (aD cs' (i*9) (aQ ⟨x,0,false,0,i⟩ A c));have hg3b:g3≠fb:=λe=>Qd (e▸f2);have hb4:=hb2.keep (hk4 g3 hg3b);have VP:=H2.out.blk.keep (hk4 gp n1);have YT:=H2.out.map.keep (hk4 mb (Ne.symm n5));obtain⟨w4,hw4⟩:=zE (w2.drew.setRow fb (aD cs' (i*9) (aQ ⟨x,0,false,0,i⟩ A c)));rw[<-hw4] at dn hk4 pV hb4 VP YT ⊢;clear hw4 hS;have c6:=VP.cell 6;have ci:=hb4.cell 2;simp only[bl,aG,zGA,zGB,zGC] at c6 ci;have hS:=zH (⟨c6,ci⟩:w4.drew.cell? ⟨gp,6,none⟩=some (.map (some mb))/\w4.drew.cell? ⟨g3,2,none⟩=some (av x.id));have hid:x.id<4294967296:=hx.1.2.2.1;clear c6 ci;go_wp2_with fail;refine fQ (λW=>zC W gp 6 (.map (some mb))/\zC W g3 2 (av x.id)) (λj=>j==7) ?_
 repeat (refine bK hS.out ?_)
 obtain⟨w5,hput,hM5,jm⟩:=dV.put (w:=w4.drew) YT.drew underlying61 underlying3 underlying216 (by omega) hid (i:=i) (by omega) (by simp[Sp.Pl.lk,hnone]);refine jx 7 (w':=w5) rfl (by go_simp) (λh=>nomatch h) ?_;refine aC (by kernel_rfl) ?_ _;rename_i K8 iO;refine iO _ _ ?_;have iV:=pV.drew.grown jm (λk hk=>.inl (by injection hk with hk;rw[<-hk];exact f4));have eC:=dn.drew.grown jm (λe=>n5 (by injection e));have PD:i*9+9<=cs'.size:=by omega
 have B0:=pW.keep iV.size (λb hb=>(iV.block b (hGF b hb).2 (hGF b hb).1));have hbr:=H2.out.bring (w':=w5) (x:=x) (A:=A) (c:=c) (G:=G) hfree hnone hx iV.size (λb hb h1 h2=>(jm.block b (by have:=H2.out.lt b hb;have:=pV.size;simp;omega) (λe=>h2 (by injection e))).trans (hk4 b h1)) eC (fJ.part rfl PD) hA B0 (λb hb=>⟨(hGF b hb).1,zf (hGF b hb).2 iV.size⟩) (λj hj=>J2 rfl PD hj) hM5;have HB:=zH hbr;clear hbr jm hput hM5 YT VP dn eC hk4 H2 hS;go_wp2_with fail;go_ret;refine .inr ⟨i,p',F',H',v',s',r',_,ids',rest,w2,rfl,HB.out,hfree,hnone,?_,hF',hZ,iV⟩;exact Fl.trans dx
theorem aa.Oh {F F' X:af} {w w1 w2:World} (h:aa F F' w w1) (k:aa (only g) X w1 w2) (hg:w.heap.size<=g):aa F F' w w2:=
 ⟨k.os.trans h.os,k.tape.trans h.tape,k.output.trans h.output,zl h.size k.size,λb hb hn=>(k.block b (zf hb h.size) (λe=>by have e:b=g:=e;omega)).trans (h.block b hb hn),h.foot⟩
def Ni (F R:af) (w:World) (gp gd gl at_ base fb cb mb s r:Nat) (fl ids:List Nat) (p:Sp.Pl) (it:Sp.It) (e:Ending) (w':World):Prop:=
 ∃F' v' cs' A c,e=.returned (.tuple #[iR it.page A c,.int .i64 0])/\cO A/\aA (λb=>w.heap.size<=b/\¬F' b) w' A it.page.rows/\
  aH F' R w' gp gd gl at_ base fb cb mb v' s r cs' fl (ids.filter (λx=> !(x==it.page.id))++[it.page.id]) (p.fL it.page.id)/\aa F F' w w'
theorem EO {F R:af} {w:World} {at_ base:Nat} {cs:Array Value} {p:Sp.Pl} (h:aH F R w gp gd gl at_ base fb cb mb v s r cs fl ids p) (hid:id<4294967296) {it:Sp.It} (hf:p.find id=some it) (hp:it.pins<1000000000) (hl:ids.length<=64):
 Calls prog 68 #[ptr gp,av id] w (Ni F R w gp gd gl at_ base fb cb mb s r fl ids p it):=by
 obtain⟨hit,rfl⟩:=Sp.Pl.bu hf;have hb2:=aj.new w 64 #[.int .u8 0,.int .u8 0,.int .u32 0,.int .u64 0,.int .u32 0,.slice none 0 0];have h2:=h.keep (w':=w.alloc (.cells #[.int .u8 0,.int .u8 0,.int .u32 0,.int .u64 0,.int .u32 0,.slice none 0 0] 64)) (by simp) (λb hb=>Below.heap_alloc w _ b (h.lt b hb));have Fl:=(aa.refl F w).alloc (.cells #[.int .u8 0,.int .u8 0,.int .u32 0,.int .u64 0,.int .u32 0,.slice none 0 0] 64);have hg4:¬F w.heap.size:=λhF=>by have:=h.lt _ hF;omega
 obtain⟨c0,c1,c2,c3,c4,c5,c6,c7⟩:=h2.cells;have HM:=zH (cF c6);have hlk:=h2.gw hid hf;have Bj:=zH (kG h2 hid hf hp hl);have vG:=h2.wf.fp hit;have lZ:=h2.wf.rV;clear h2 c0 c1 c2 c3 c4 c5 c7 h;go_enter func68,ntmps68;go_wp2_with fail;have jJ:w.heap.size<=w.heap.size:=za _;obtain⟨w2,hw2⟩:=zE (w.alloc (.cells #[.int .u8 0,.int .u8 0,.int .u32 0,.int .u64 0,.int .u32 0,.slice none 0 0] 64));rw[<-hw2] at HM Bj hlk hb2 Fl c6 ⊢;obtain⟨g4,hg⟩:=zE w.heap.size;rw[<-hg] at hb2 hg4 ⊢;have jJ:w.heap.size<=g4:=by omega
 clear hw2 hg;refine HM.out.mono ?_;rintro e w1 ⟨rfl,hw⟩;subst w1;go_wp2_with fail;refine(Bj.out).mono ?_;rintro e w3 ⟨F3,v3,Jk,rfl,h3,gA⟩;have AO:({it with pins:=it.pins+1}:Sp.It)∈(p.fL it.page.id).items:=zn.2 ⟨it,hit,by simp⟩;obtain⟨A,c,hA,hR,hc⟩:=h3.fr.item _ AO;have k0:=(h3.fr.blk.cell _).trans (hc 0 (by omega));have k1:=(h3.fr.blk.cell _).trans (hc 1 (by omega));have k2:=(h3.fr.blk.cell _).trans (hc 2 (by omega));have k3:=(h3.fr.blk.cell _).trans (hc 3 (by omega));have k4:=(h3.fr.blk.cell _).trans (hc 4 (by omega));have k5:=(h3.fr.blk.cell _).trans (hc 5 (by omega));simp only[aQ,zGB,zGC,Nat.add_zero] at k0 k1 k2 k3 k4 k5;have hlr:it.page.rows.length<=1000000:=by
  have:=(h3.wf.pg _ AO).2.2.2.2.2;have:4*it.page.rows.length+Sp.total it.page.rows<=484:=this;omega
 have Sg:=zH (lC (c:=c) hA hR hlr);have hg42:=hb2.lt;have hb3:=hb2.turns gA hg4;have H3:=zH h3;have HF3:=zH h3.lt;clear hA hR hc h3 hb2 Bj;go_wp2_with fail;refine Sg.out.mono ?_;rintro e w4 ⟨A',c',rfl,hA',vQ,hb4⟩;have dn:=hb3.below hb4 hb3.lt;have z0:=dn.cell 0;have z1:=dn.cell 1;have z2:=dn.cell 2;have z3:=dn.cell 3;have z4:=dn.cell 4;have z5:=dn.cell 5;have f0:=dn.frozen 0;have f1:=dn.frozen 1;have f2:=dn.frozen 2;have f3:=dn.frozen 3;have f4:=dn.frozen 4;have f5:=dn.frozen 5;simp only[zGA,zGB,zGC] at z0 z1 z2 z3 z4 z5;have h4:=H3.out.keep hb4.size (λb hb=>hb4.block b (H3.out.lt b hb));have HR:=zH vQ;have HA:=zH hA';have H4:=zH h4;have pV:=gA.next hb4;have jh:=zH dn;have hg4k:=hb3.lt;clear vQ hA' h4 dn H3 Sg k0 k1 k2 k3 k4 k5 hb3;go_wp2_with fail;obtain⟨W8,BX,iB,ig,Fu⟩:=lB jh.out (.int .u8 it.page.kind) (.int .u8 it.page.level) (.int .u32 it.page.id) (.int .u64 it.page.aL) (.int .u32 it.page.next) (.slice A' it.page.rows.length c');rw[BX];have z0:=iB.cell 0;have z1:=iB.cell 1;have z2:=iB.cell 2;have z3:=iB.cell 3;have z4:=iB.cell 4;have z5:=iB.cell 5;simp only[zGA,zGB,zGC] at z0 z1 z2 z3 z4 z5;clear f0 f1 f2 f3 f4 f5 BX;refine bodyPost_ret (v:=.tuple #[iR it.page A' c',.int .i64 0]) (by rw[results_cell_tmp rfl];go_simp) rfl ⟨F3,v3,Jk,A',c',rfl,HA.out,?_,?_,?_⟩
 ·have hz2:w.heap.size<=w2.heap.size:=Fl.size;have hz3:=gA.size;exact(HR.out.keep ig.size (λb hb=>Fu b (λe=>by have hb:w3.heap.size<=b:=hb;omega))).mono (λb hb=>by have hb:w3.heap.size<=b:=hb;exact⟨by omega,λhF=>by have:=HF3.out b hF;omega⟩)
 ·refine H4.out.keep ig.size (λb hb=>Fu b (λe=>?_));rcases gA.foot b hb with h | h
  ·exact hg4 (e▸h)
  ·omega
 ·exact(Fl.trans pV).Oh ig jJ
def rowOf (w:World) (A:Option Addr):af:=λb=>(∃o,A=some ⟨b,o,none⟩)/\b<w.heap.size
theorem xm {G:af} {w:World} {rows:List Sp.Bs} (h:aA G w A rows):aA (λb=>G b/\rowOf w A b) w A rows:=
 ⟨h.1,λhp=>by
  obtain⟨b,o,e,hg,hl,hc⟩:=h.2 hp;exact⟨b,o,e,⟨hg,⟨o,e⟩,hl⟩,hl,hc⟩⟩
abbrev eG:Value:=.agg #[.int .u8 0,.int .u8 0,.int .u32 0,.int .u64 0,.int .u32 0,.slice none 0 0]
def JB (Z:Nat->Sp.Pl->List Nat->af->af->World->Prop) (Z4:Nat->World->Prop) (H:af) (w:World) (gp gd gl at_ base fb cb mb:Nat) (x:Sp.Pg) (e:Ending) (w':World):Prop:=
 (∃c4:Nat,c4≠0/\e=.returned (.tuple #[eG,.int .i64 c4])/\∃w2 g4,Z4 c4 w2/\w.heap.size<=g4/\aa (only g4) (only g4) w2 w')\/
 ∃(i:Nat) (p':Sp.Pl) (F' H':af) (ids' rest:List Nat) (w2:World) (F3 R3:af) (v3:Value) (s3 r3:Nat) (Jk:Array Value) (A:Option Addr) (c:Nat),e=.returned (.tuple #[iR x A c,.int .i64 0])/\cO A/\aA (λb=>w.heap.size<=b/\¬F3 b/\w2.heap.size<=b) w' A x.rows/\
  aH F3 R3 w' gp gd gl at_ base fb cb mb v3 s3 r3 Jk rest (ids'.filter (λy=> !(y==x.id))++[x.id]) ((p'.bring x i rest).fL x.id)/\p'.free=i::rest/\p'.find x.id=none/\Z i p' ids' F' H' w2/\(∀b,F' b->H' b)/\aa H H' w w2/\(∃G:af,(∀b,G b->¬H' b/\w.heap.size<=b)/\aa (λb=>F' b\/G b) F3 w2 w')
theorem CJ {F R H D:af} {w:World} {at_ base:Nat} {cs:Array Value} {p:Sp.Pl} (h:aH F R w gp gd gl at_ base fb cb mb v s r cs fl ids p) {x:Sp.Pg} (hx:x.wf/\x.may) (hf:p.find x.id=none)
 {dk:Sp.Dk} (SD:cR D w gd dk) (MI:dk.bk≠0) (hlo:dk.loose=[]) (hi:base+x.id*4+4<=dk.sure.length) (rW:Sp.cM dk.sure (base+x.id*4)=bW x) (hH:∀b,H b->b<w.heap.size)
 (Z:Nat->Sp.Pl->List Nat->af->af->World->Prop) (Z4:Nat->World->Prop)
 (hT:∀W,zB w W->aH F R W gp gd gl at_ base fb cb mb v s r cs fl ids p->Calls prog 201 #[ptr gp] W (tH Z Z4 H R W gp gd gl at_ base fb cb mb x.id))
 (ja:∀i p' ids' F' H' w2,Z i p' ids' F' H' w2->ids'.length<=64):
 Calls prog 68 #[ptr gp,av x.id] w (JB Z Z4 H w gp gd gl at_ base fb cb mb x):=by
 have hid:x.id<4294967296:=hx.1.2.2.1;have hb2:=aj.new w 64 #[.int .u8 0,.int .u8 0,.int .u32 0,.int .u64 0,.int .u32 0,.slice none 0 0];have cH:=(zR w).alloc (za _) (.cells #[.int .u8 0,.int .u8 0,.int .u32 0,.int .u64 0,.int .u32 0,.slice none 0 0] 64);have h2:=h.keep (w':=w.alloc (.cells #[.int .u8 0,.int .u8 0,.int .u32 0,.int .u64 0,.int .u32 0,.slice none 0 0] 64)) (by simp) (λb hb=>Below.heap_alloc w _ b (h.lt b hb));have hd2:=SD.below cH;obtain⟨c0,c1,c2,c3,c4,c5,c6,c7⟩:=h2.cells;have HM:=zH (cF c6);have hlk:=h2.gH hid hf;have jJ:w.heap.size<=w.heap.size:=za _;have HT:=zH hT;have QO:=h.lt;have hz0:∀W,(Instr.build 64 #[]).run prog W=.ok eG W:=λW=>by kernel_rfl
 clear c1 c2 c4 c5 c7 h hT hf SD;go_enter func68,ntmps68;go_wp2_with fail;obtain⟨w2,hw2⟩:=zE (w.alloc (.cells #[.int .u8 0,.int .u8 0,.int .u32 0,.int .u64 0,.int .u32 0,.slice none 0 0] 64));rw[<-hw2] at HM hlk hb2 cH c0 c3 c6 h2 hd2 ⊢;obtain⟨g4,hg⟩:=zE w.heap.size;rw[<-hg] at hb2 ⊢;have jJ:w.heap.size<=g4:=by omega
 clear hw2 hg;refine HM.out.mono ?_;rintro e w1 ⟨rfl,hw⟩;subst w1;go_wp2_with fail;have hS:=zH (⟨c0,c3⟩:w2.drew.cell? ⟨gp,0,none⟩=some (ptr gd)/\w2.drew.cell? ⟨gp,3,none⟩=some (.int .i64 base));have JD:=zH (tX (w:=w2.drew) (hd2.below (Below.refl _ w2).drew) MI hlo base x.id hid hi);rw[rW] at JD;have H2:=zH h2;have yt:=h2.blk;clear c0 c3 c6 h2 HM hlk;refine fQ (λW=>zC W gp 0 (ptr gd)/\zC W gp 3 (.int .i64 base)) (λ_=>false) ?_
 repeat (refine bK hS.out ?_)
 refine aI 9 37 (w':=w2.drew) rfl rfl (by rfl) (by kernel_rfl) ?_ JD.out ?_
 ·go_simp
 rintro e w3 ⟨rfl,hb3⟩;have yq:=yt.drew.below hb3 yt.lt;have gz:w3.cell? ⟨gp,0,none⟩=some (ptr gd)/\w3.cell? ⟨gp,3,none⟩=some (.int .i64 base):=⟨(yq.cell 0).trans rfl,(yq.cell 3).trans rfl⟩;refine⟨_,rfl,λ_=>gz,?_⟩;simp only[zSA,zSB,zSC];clear hS JD;have hS:=zH gz;clear gz
 repeat (refine bK hS.out ?_)
 refine aC (by kernel_rfl) ?_ _;rename_i K9 aT;refine aT _ _ ?_;have hbd:zB w2 w3:=(zR w2).drew.trans hb3;have h3:=H2.out.keep hbd.size (λb hb=>hbd.block b (H2.out.lt b hb));have rM:=hb2.below hbd hb2.lt;have dN:zB w w3:=cH.trans (hbd.mono cH.size);have Sd:=zH (ET (w:=w3) hx.1 hx.2);clear hS yq yt H2 hb2 cH hb3 hbd rW;go_wp2_with fail;refine Sd.out.mono ?_;rintro e w4 ⟨A,c,rfl,hA,hR,hb4⟩;have hg43:=rM.lt;have TT:=hb4.size;have s4:=rM.below hb4 rM.lt;have h4:=h3.keep hb4.size (λb hb=>hb4.block b (h3.lt b hb));have fC:zB w w4:=dN.trans (hb4.mono dN.size);have FH:=xm hR;have jh:=zH s4;have H4:=zH h4;have HA:=zH hA;have Cp:=zH FH;have hs30:=dN.size;clear hA hR FH s4 h4 h3 rM hb4 Sd;go_wp2_with fail;have cS:=(zR w4).alloc (za _) (.cells (aG x A c) 64);have h5:=H4.out.keep cS.size (λb hb=>cS.block b (H4.out.lt b hb));have B0:=Reads.below Cp.out cS;have IM:=jh.out.below cS jh.out.lt;have gK:zB w _:=fC.trans (cS.mono fC.size);have XP:=cS.size;have PJ:∀b,(w3.heap.size<=b/\rowOf w4 A b)->b<w4.heap.size:=λb hb=>hb.2.2;obtain⟨w5,Gu⟩:=zE (w4.alloc (.cells (aG x A c) 64));change Calls prog _ #[ptr gp,iR x A c] (w4.alloc (.cells (aG x A c) 64)) _;rw[<-Gu] at h5 B0 IM gK XP ⊢;clear cS jh H4 Cp;have fI:=(zR w5).alloc (za _) (.cells (aG x A c) 64);have jB:=zH (uU (w:=w5) (H:=H) (G:=λb=>w3.heap.size<=b/\rowOf w4 A b) hx HA.out B0 (λb hb=>⟨λhh=>by have:=hH b hh;have:=hb.1;omega,by have:=PJ b hb;omega⟩) (λb hb=>by have:=hH b hb;have:=gK.size;omega) Z Z4
  (HT.out _ (gK.trans (fI.mono gK.size)) (h5.keep fI.size (λb hb=>fI.block b (h5.lt b hb)))))
 have TN:=aa.az gK H;have Yo:¬H g4:=λhh=>by have:=hH g4 hh;omega
 have hg4r:¬(w3.heap.size<=g4/\rowOf w4 A g4):=λhh=>by omega
 clear fI HT h5 gK;refine jB.out.mono ?_;rintro e w7 (⟨c4,vO,rfl,hz,htz⟩ | ⟨i,p',F',H',v',s',r',cs',ids',rest,w6,rfl,h7,hfree,hnone,iA,hF',hZ,iU⟩)
 ·have dc:((c4:Int) != 0)=true:=by simpa using vO
  have jr:=zH (IM.turns htz Yo);have hg47:=jr.out.lt;have z0:=jr.out.cell 0;have f0:=jr.out.frozen 0;have z1:=jr.out.cell 1;have f1:=jr.out.frozen 1;have z2:=jr.out.cell 2;have f2:=jr.out.frozen 2;have z3:=jr.out.cell 3;have f3:=jr.out.frozen 3;have z4:=jr.out.cell 4;have f4:=jr.out.frozen 4;have z5:=jr.out.cell 5;have f5:=jr.out.frozen 5;simp only[zGA,zGB,zGC] at z0 z1 z2 z3 z4 z5;clear IM jB;go_wp2_with fail;obtain⟨W8,BX,iB,ig,Fu⟩:=lB jr.out (.int .u8 0) (.int .u8 0) (.int .u32 0) (.int .u64 0) (.int .u32 0) (.slice none 0 0);rw[BX];have z0:=iB.cell 0;have z1:=iB.cell 1;have z2:=iB.cell 2;have z3:=iB.cell 3;have z4:=iB.cell 4;have z5:=iB.cell 5;simp only[zGA,zGB,zGC] at z0 z1 z2 z3 z4 z5;clear f0 f1 f2 f3 f4 f5 BX;exact bodyPost_ret (v:=.tuple #[eG,.int .i64 c4]) (by rw[results_cell_tmp rfl];go_simp) rfl (.inl ⟨c4,vO,rfl,w7,g4,hz,jJ,ig⟩)
 obtain⟨it,uq⟩:∃it:Sp.It,it=⟨x,0,false,0,i⟩:=⟨_,rfl⟩;obtain⟨p2,sU⟩:=zE (p'.bring x i rest);have hit:it∈p2.items:=by rw[sU,uq];simp[Sp.Pl.bring]
 have hxe:x=it.page:=by rw[uq]
 have PO:it.pins<1000000000:=by rw[uq];simp
 rw[<-sU] at h7;have hf2:p2.find it.page.id=some it:=Sp.Pl.gy h7.wf hit;have hl':=ja i p' ids' F' H' w6 hZ;have Sa:=zH sU;have VD:¬H' g4:=λhh=>by
  have hz:=IM.lt;rcases iA.foot g4 hh with h | h
  ·exact Yo h
  ·omega
 have Yp:¬(F' g4\/(w3.heap.size<=g4/\rowOf w4 A g4)):=λhh=>by
  rcases hh with hh | hh
  ·exact VD (hF' g4 hh)
  ·exact hg4r hh
 have hb2:=(IM.turns iA Yo).turns iU (λhh=>Yp (.inl hh));have Bj:=zH (kG h7 (id:=it.page.id) (by rw[<-hxe];exact hid) hf2 PO hl');have vG:=h7.wf.fp hit;have lZ:=h7.wf.rV;have hg4:=Yp;have TS:=iU.size;have hs56:=iA.size;clear h7 sU uq IM jB;subst hxe;go_wp2_with fail;refine(Bj.out).mono ?_;rintro e w8 ⟨F3,v3,Jk,rfl,h3,gA⟩;have AO:({it with pins:=it.pins+1}:Sp.It)∈(p2.fL it.page.id).items:=zn.2 ⟨it,hit,by simp⟩;obtain⟨A2,c2,hA,hR,hc⟩:=h3.fr.item _ AO;have k0:=(h3.fr.blk.cell _).trans (hc 0 (by omega));have k1:=(h3.fr.blk.cell _).trans (hc 1 (by omega));have k2:=(h3.fr.blk.cell _).trans (hc 2 (by omega));have k3:=(h3.fr.blk.cell _).trans (hc 3 (by omega));have k4:=(h3.fr.blk.cell _).trans (hc 4 (by omega));have k5:=(h3.fr.blk.cell _).trans (hc 5 (by omega));simp only[aQ,zGB,zGC,Nat.add_zero] at k0 k1 k2 k3 k4 k5;have hlr:it.page.rows.length<=1000000:=by
  have:=(h3.wf.pg _ AO).2.2.2.2.2;have:4*it.page.rows.length+Sp.total it.page.rows<=484:=this;omega
 have Sg:=zH (lC (c:=c2) hA hR hlr);have hg42:=hb2.lt;have hb3:=hb2.turns gA hg4;have H3:=zH h3;have HF3l:=zH h3.lt;clear hA hR hc h3 hb2 Bj;go_wp2_with fail;refine Sg.out.mono ?_;rintro e w9 ⟨A',c',rfl,hA',vQ,hb4⟩;have dn:=hb3.below hb4 hb3.lt;have z0:=dn.cell 0;have z1:=dn.cell 1;have z2:=dn.cell 2;have z3:=dn.cell 3;have z4:=dn.cell 4;have z5:=dn.cell 5;have f0:=dn.frozen 0;have f1:=dn.frozen 1;have f2:=dn.frozen 2;have f3:=dn.frozen 3;have f4:=dn.frozen 4;have f5:=dn.frozen 5;simp only[zGA,zGB,zGC] at z0 z1 z2 z3 z4 z5;have h4:=H3.out.keep hb4.size (λb hb=>hb4.block b (H3.out.lt b hb));have HR:=zH vQ;have HA:=zH hA';have H4:=zH h4;have pV:=gA.next hb4;have jh:=zH dn;have hg4k:=hb3.lt;clear vQ hA' h4 dn H3 Sg k0 k1 k2 k3 k4 k5 hb3;go_wp2_with fail;obtain⟨W8,BX,iB,ig,Fu⟩:=lB jh.out (.int .u8 it.page.kind) (.int .u8 it.page.level) (.int .u32 it.page.id) (.int .u64 it.page.aL) (.int .u32 it.page.next) (.slice A' it.page.rows.length c');rw[BX];have z0:=iB.cell 0;have z1:=iB.cell 1;have z2:=iB.cell 2;have z3:=iB.cell 3;have z4:=iB.cell 4;have z5:=iB.cell 5;simp only[zGA,zGB,zGC] at z0 z1 z2 z3 z4 z5;clear f0 f1 f2 f3 f4 f5 BX;have SI:∀b,F3 b->(F' b\/(w3.heap.size<=b/\rowOf w4 A b))\/w7.heap.size<=b:=λb hb=>gA.foot b hb;have XZ:¬F3 g4:=λhh=>by
  rcases SI g4 hh with h | h
  ·exact Yp h
  ·omega
 have hz8:=gA.size;have hzw:=TN.size;have hpl:=H4.out.keep ig.size (λb hb=>Fu b (λe=>XZ (e▸hb)));rw[Sa.out] at hpl;refine bodyPost_ret (v:=.tuple #[iR it.page A' c',.int .i64 0]) (by rw[results_cell_tmp rfl];go_simp) rfl (.inr ⟨i,p',F',H',ids',rest,w6,F3,(λb=>R b\/(w3.heap.size<=b/\rowOf w4 A b)),v3,s',r',Jk,A',c',rfl,HA.out,?_,hpl,hfree,hnone,hZ,hF',TN.trans iA,⟨λb=>(w3.heap.size<=b/\rowOf w4 A b)\/b=g4,?_,?_⟩⟩)
 ·exact(HR.out.keep ig.size (λb hb=>Fu b (λe=>by have hb:w8.heap.size<=b:=hb;omega))).mono (λb hb=>by have hb:w8.heap.size<=b:=hb;exact⟨by omega,λhF=>by have:=HF3l.out b hF;omega,by omega⟩)
 ·rintro b (hb | rfl)
  ·have hb4:=PJ b hb;refine⟨λhh=>?_,by have:=hb.1;omega⟩;rcases iA.foot b hh with h | h
   ·have:=hH b h;have:=hb.1;omega
   ·omega
  ·exact⟨VD,jJ⟩
 ·refine⟨ig.os.trans (pV.os.trans iU.os),ig.tape.trans (pV.tape.trans iU.tape),ig.output.trans (pV.output.trans iU.output),zl TS (zl pV.size ig.size),λb hb hn=>?_,λb hb=>?_⟩
  ·rw[Fu b (λe=>hn (.inr (.inr e))),pV.block b (by omega) (λh=>hn (h.imp id (λh=>.inl h)))];exact iU.block b hb (λh=>hn (.inl h))
  ·rcases SI b hb with h | h
   ·exact .inl (h.imp id (λh=>.inl h))
   ·exact .inr (by omega)
end
open Go.RowKit Go.Conc
namespace Sp
def Pl.last (p:Pl) (id:Nat):Pl:={p with items:=p.items.filter (λx=>x.page.id != id)++p.items.filter (λx=>x.page.id==id)}
theorem Pl.BM (p:Pl) (id:Nat):(p.last id).items.Perm p.items:=by
 unfold Pl.last;have h:=List.filter_append_perm (λx:It=>x.page.id != id) p.items;have e:(λx:It=> !(x.page.id != id))=λx=>x.page.id==id:=by funext x;simp[bne]
 rw[e] at h;exact h
theorem filter_one:∀{l:List Nat} {a:Nat},l.Nodup->a∈l->l.filter (λx=>x==a)=[a]
 | x::l,a,hn,hm=>by
  rw[List.nodup_cons] at hn;by_cases e:x=a
  ·subst e;rw[zU (by simp),List.filter_eq_nil_iff.2];intro y hy;have:y≠x:=λe=>hn.1 (e▸hy);simpa using this
  ·rw[zQ (by simpa using e)];rcases zW.1 hm with h | h
   ·exact absurd h.symm e
   ·exact filter_one hn.2 h
theorem Pl.Po {p:Pl} (h:(p.items.map (·.page.id)).Nodup) (hm:id∈p.items.map (·.page.id)):(p.last id).items.map (·.page.id)=(p.items.map (·.page.id)).filter (λx=> !(x==id))++[id]:=by
 unfold Pl.last;rw[zI]
 congr 1
 ·rw[List.filter_map];rfl
 ·have:=filter_one h hm;rw[List.filter_map] at this;exact this
end Sp
theorem CK {F:af} {w:World} {at_ base:Nat} {p:Sp.Pl} (h:gY F w gp gd gl at_ base p) (hid:id<4294967296) {it:Sp.It} (hf:p.find id=some it) (hp:it.pins<1000000000):
 Calls prog 68 #[ptr gp,av id] w λe w'=>∃F' A c,e=.returned (.tuple #[iR it.page A c,.int .i64 0])/\cO A/\aA (λb=>w.heap.size<=b/\¬F' b) w' A it.page.rows/\
  gY F' w' gp gd gl at_ base ((p.fL id).last id)/\aa F F' w w':=by
 obtain⟨hit,rfl⟩:=Sp.Pl.bu hf;obtain⟨R,fb,cb,mb,v,s,r,cs,h⟩:=h;have hlen:(p.items.map (·.page.id)).length<=64:=by
  have:=h.wf.len;have:=h.wf.rV;rw[zM];omega
 refine(EO h hid hf hp hlen).mono ?_;rintro e w' ⟨F',v',cs',A,c,rfl,hA,hR,h',ht⟩;refine⟨F',A,c,rfl,hA,hR,⟨R,fb,cb,mb,v',s,r,cs',?_⟩,ht⟩;have eu:((p.fL it.page.id).items.map (·.page.id))=p.items.map (·.page.id):=Sp.Pl.pK ⟨λ_=>rfl,λ_=>rfl⟩;have e1:=Sp.Pl.Po (p:=p.fL it.page.id) h'.wf.ids (id:=it.page.id) (by rw[eu];exact zn.2 ⟨it,hit,rfl⟩);rw[eu] at e1;have:=h'.perm (Sp.Pl.BM (p.fL it.page.id) it.page.id);rw[<-e1] at this;exact this
section
open Go.Conc
theorem xd (n:Nat):Sp.sorted [n]=[n]:=List.perm_singleton.1 (Sp.aX [n]).1
theorem jT.keep {at_ base:Nat} {p p':Sp.Pl} {d d':Sp.Dk} {l l':Sp.Lg} (h:jT at_ base p d l q c p' d' l'):
 p'.free=p.free/\p'.n=p.n/\p'.items.map (·.page.id)=p.items.map (·.page.id)/\(c≠0->p'=p/\d'=d/\l'=l)/\∀n it,p.find n=some it->∃it',p'.find n=some it'/\it'.idx=it.idx/\it'.pins=it.pins/\it'.page=it.page:=by
 rcases h with⟨_,rfl,rfl,rfl,rfl⟩ | ⟨_,_,rfl,rfl,rfl,rfl⟩ | ⟨_,_,rfl,rfl,rfl,rfl⟩
 ·exact⟨rfl,rfl,rfl,λh=>absurd rfl h,λn it hf=>⟨it,hf,rfl,rfl,rfl⟩⟩
 ·exact⟨rfl,rfl,rfl,λ_=>⟨rfl,rfl,rfl⟩,λn it hf=>⟨it,hf,rfl,rfl,rfl⟩⟩
 ·refine⟨rfl,rfl,Sp.Pl.Ei p _,λh=>absurd rfl h,λn it hf=>?_⟩;rw[Sp.Pl.Bq,hf];refine⟨_,rfl,?_⟩;dsimp only
  split<;>exact⟨rfl,rfl,rfl⟩
theorem jT.drop {at_ base:Nat} {p p':Sp.Pl} {d d':Sp.Dk} {l l':Sp.Lg} (h:jT at_ base p d l [n] c p' d' l') (i:Nat):p'.drop n i=p.drop n i:=by
 rcases h with⟨_,rfl,rfl,rfl,rfl⟩ | ⟨_,_,rfl,rfl,rfl,rfl⟩ | ⟨_,_,rfl,rfl,rfl,rfl⟩
 ·rfl
 ·rfl
 ·have hD:∀x∈(p.aU [n]).map (·.1),x=n:=λx hx=>by
   rw[Sp.Pl.jv] at hx;simpa using(zam.1 hx).1
  generalize(p.aU [n]).map (·.1)=D at hD;unfold Sp.Pl.drop Sp.Pl.mW;simp only[Sp.Pl.mk.injEq,true_and,and_true]
  induction p.items with
  | nil=>rfl
  | cons x xs ih=>
   rw[zF];by_cases hx:x.page.id=n
   ·rw[zQ (by split<;>simp[hx]),zQ (by simp[hx])];exact ih
   ·rw[zD (λh=>hx (hD _ h)),zU (by simpa using hx),zU (by simpa using hx),ih]
def Z5 (F D G R:af) (w:World) (gp gd gl at_ base fb cb mb:Nat) (v:Value) (s r:Nat) (ids:List Nat) (p:Sp.Pl) (d:Sp.Dk) (l:Sp.Lg) (it:Sp.It) (e:Ending) (w':World):Prop:=
 ∃(c:Nat) (p2:Sp.Pl) (d':Sp.Dk) (l':Sp.Lg),e=.returned (.int .i64 c)/\jT at_ base p d l [it.page.id] c p2 d' l'/\
  ((c≠0/\∃(cs':Array Value),Mem F D G R w' gp gd gl at_ base fb cb mb v s r cs' p.free ids p d l/\aa (cj F D G) (cj F D G) w w')\/
   (c=0/\∃(F' D':af) (v':Value) (cs':Array Value),Mem F' D' G R w' gp gd gl at_ base fb cb mb v' (s+1) r cs' (p.free++[it.idx]) (ids.filter (λx=> !(x==it.page.id))) (p.drop it.page.id it.idx) d' l'/\aa (cj F D G) (cj F' D' G) w w'))
theorem Mem.below {F D G R:af} {w:World} {at_ base:Nat} {cs:Array Value} {p:Sp.Pl} {d:Sp.Dk} {l:Sp.Lg} (h:Mem F D G R w gp gd gl at_ base fb cb mb v s r cs fl ids p d l) (hb:zB w w'):
 Mem F D G R w' gp gd gl at_ base fb cb mb v s r cs fl ids p d l:=
 ⟨h.pl.keep hb.size (λb hF=>hb.block b (h.pl.lt b hF)),h.dk.below hb,h.lg.below hb,h.FD,h.FG,h.DG⟩
theorem Mem.lt {F D G R:af} {w:World} {at_ base:Nat} {cs:Array Value} {p:Sp.Pl} {d:Sp.Dk} {l:Sp.Lg} (h:Mem F D G R w gp gd gl at_ base fb cb mb v s r cs fl ids p d l):∀b,cj F D G b->b<w.heap.size:=λb hb=>by
 rcases hb with h1 | h1 | h1
 ·exact h.pl.lt b h1
 ·exact h.dk.dA b h1
 ·exact h.lg.dA b h1
theorem B6 {F D G R:af} {w:World} {at_ base:Nat} {cs:Array Value} {p:Sp.Pl} {d:Sp.Dk} {l:Sp.Lg} (h:Mem F D G R w gp gd gl at_ base fb cb mb v s r cs p.free ids p d l) (ok:Nw at_ base d l)
 {it:Sp.It} (hit:it∈p.items) (ym:Sp.inside d.sure.length at_ base it.page.id):
 Calls prog 149 #[ptr gp,av it.page.id] w (Z5 F D G R w gp gd gl at_ base fb cb mb v s r ids p d l it):=by
 have hid:it.page.id<4294967296:=(h.pl.wf.pg it hit).1.2.2.1;have hf:=Sp.Pl.gy h.pl.wf hit;refine(Hr (H:=cj F D G) h.pl hid hf h.lt
  (λp2 H' w2=>∃(D':af) (d':Sp.Dk) (l':Sp.Lg),H'=cj F D' G/\jT at_ base p d l [it.page.id] 0 p2 d' l'/\cR D' w2 gd d'/\dP G w2 gl gd l'/\(∀b,F b->¬D' b)/\(∀b,D' b->¬G b))
  (λc w'=>∃(cs':Array Value) (p2:Sp.Pl) (d':Sp.Dk) (l':Sp.Lg),jT at_ base p d l [it.page.id] c p2 d' l'/\Mem F D G R w' gp gd gl at_ base fb cb mb v s r cs' p.free ids p d l/\aa (cj F D G) (cj F D G) w w')
  (λW gx hb hgx hX=>?_)).mono ?_
 ·have hM:=h.below hb;have tO:¬cj F D G gx:=λe=>by have:=h.lt gx e;omega
  have h1:=uT (ql:=[it.page.id]) (cap:=1) hM ok hX tO (by simp) (λj hj=>by
   have:j=0:=by simpa using hj
   subst this;rfl) (λn hn=>by
   rw[zq.1 hn];exact⟨hid,ym,it,hf⟩) (by simp) (by rw[xd];have:=Sp.Pl.yL p [it.page.id];simp at this ⊢;omega)
  rw[xd] at h1;refine h1.mono ?_;rintro e w' ⟨c,D',cs',p',d',l',rfl,GC,hDD,jK,ht⟩;obtain⟨k1,k2,k3,k4,k5⟩:=GC.keep;by_cases hc:c=0
  ·subst hc;obtain⟨nU,hf2,hi2,_,_⟩:=k5 _ _ hf;exact .inr ⟨rfl,cj F D' G,p',nU,cs',jK.pl,hf2,hi2,k1,ht,λb hb=>.inl hb,D',d',l',rfl,GC,jK.dk,jK.lg,jK.FD,jK.DG⟩
  ·obtain⟨e1,e2,e3⟩:=k4 hc;have hDe:=hDD hc;subst hDe;rw[e1,e2,e3] at jK;refine .inl ⟨c,hc,rfl,cs',p',d',l',GC,jK,⟨ht.os.trans hb.os,ht.tape.trans hb.tape,ht.output.trans hb.output,zl hb.size ht.size,λb hb1 hn=>?_,λb hb1=>?_⟩⟩
   ·have:=hb.size;rw[ht.block b (by omega) (λe=>e.elim hn (λe=>by omega))];exact hb.block b hb1
   ·rcases ht.foot b (.inl hb1) with(e | e) | e
    ·exact .inl e
    ·exact .inr (by omega)
    ·exact .inr (zl hb.size e)
 ·rintro e w' (⟨c,hc,rfl,cs',p2,d',l',GC,jK,ht⟩ | ⟨rfl,H',p2,nU,w2,F',v',cs',hf2,⟨D',d',l',rfl,GC,Ad,B1,s6,I4⟩,ht,_,hpl,dx⟩)
  ·exact⟨c,p2,d',l',rfl,GC,.inl ⟨hc,cs',jK,ht⟩⟩
  ·obtain⟨k1,k2,k3,k4,k5⟩:=GC.keep;obtain⟨it3,hf3,hi3,_,_⟩:=k5 _ _ hf;rw[hf2] at hf3;injection hf3 with hf3;subst hf3;rw[hi3,k1,GC.drop] at hpl;have MW:∀b,F' b->F b\/w2.heap.size<=b:=dx.foot;refine⟨0,p2,d',l',rfl,GC,.inr ⟨rfl,F',D',v',cs',⟨hpl,Ad.keep (λb hb=>dx.block b (Ad.dA b hb) (λe=>s6 b e hb)),B1.keep (λb hb=>dx.block b (B1.dA b hb) (λe=>h.FG b e hb)),λb h1 h2=>?_,λb h1 h2=>?_,I4⟩,?_⟩⟩
   ·rcases MW b h1 with e | e
    ·exact s6 b e h2
    ·have:=Ad.dA b h2;omega
   ·rcases MW b h1 with e | e
    ·exact h.FG b e h2
    ·have:=B1.dA b h2;omega
   ·refine⟨dx.os.trans ht.os,dx.tape.trans ht.tape,dx.output.trans ht.output,zl ht.size dx.size,λb hb hn=>?_,λb hb=>?_⟩
    ·have:=ht.size;rw[dx.block b (by omega) (λe=>hn (.inl e))];exact ht.block b hb hn
    ·rcases hb with hb | hb | hb
     ·rcases MW b hb with e | e
      ·exact .inl (.inl e)
      ·exact .inr (zl ht.size e)
     ·exact ht.foot b (.inr (.inl hb))
     ·exact .inl (.inr (.inr hb))
def KS (at_ base:Nat) (p:Sp.Pl) (d:Sp.Dk) (l:Sp.Lg) (ids:List Nat) (p':Sp.Pl) (ids':List Nat) (d':Sp.Dk) (l':Sp.Lg):Prop:=
 (p.free≠[]/\p'=p/\ids'=ids/\d'=d/\l'=l)\/
 (p.free=[]/\∃pre it post p2,ids=pre++it.page.id::post/\(∀n∈pre,∃y,p.find n=some y/\0<y.pins)/\p.find it.page.id=some it/\it.pins=0/\jT at_ base p d l [it.page.id] 0 p2 d' l'/\p'=p.drop it.page.id it.idx/\ids'=ids.filter (λx=> !(x==it.page.id)))
def V1 (at_ base:Nat) (p:Sp.Pl) (d:Sp.Dk) (l:Sp.Lg) (ids:List Nat) (c:Nat):Prop:=
 p.free=[]/\((c=4/\∀n∈ids,∃it,p.find n=some it/\0<it.pins)\/
  ∃pre it post p2 d' l',ids=pre++it.page.id::post/\(∀n∈pre,∃y,p.find n=some y/\0<y.pins)/\p.find it.page.id=some it/\it.pins=0/\c≠0/\jT at_ base p d l [it.page.id] c p2 d' l')
def ZM (G:af) (gd gl at_ base:Nat) (p:Sp.Pl) (d:Sp.Dk) (l:Sp.Lg) (ids:List Nat):Nat->Sp.Pl->List Nat->af->af->World->Prop:=λ_ p' ids' F' H' w'=>
 ∃(D':af) (d':Sp.Dk) (l':Sp.Lg),H'=cj F' D' G/\cR D' w' gd d'/\dP G w' gl gd l'/\(∀b,F' b->¬D' b)/\(∀b,F' b->¬G b)/\(∀b,D' b->¬G b)/\KS at_ base p d l ids p' ids' d' l'
def Z4M (F D G R:af) (w:World) (gp gd gl at_ base fb cb mb:Nat) (v:Value) (s r:Nat) (ids:List Nat) (p:Sp.Pl) (d:Sp.Dk) (l:Sp.Lg):Nat->World->Prop:=λc w'=>
 V1 at_ base p d l ids c/\∃(cs':Array Value),Mem F D G R w' gp gd gl at_ base fb cb mb v s r cs' p.free ids p d l/\aa (cj F D G) (cj F D G) w w'
theorem Ep {F D G R:af} {w:World} {at_ base:Nat} {cs:Array Value} {p:Sp.Pl} {d:Sp.Dk} {l:Sp.Lg} (h:Mem F D G R w gp gd gl at_ base fb cb mb v s r cs p.free ids p d l) (ok:Nw at_ base d l)
 (ja:ids=p.items.map (·.page.id)) (ym:∀it∈p.items,Sp.inside d.sure.length at_ base it.page.id) (hf:p.find id=none) (W:World) (hb:zB w W):
 Calls prog 201 #[ptr gp] W (tH (ZM G gd gl at_ base p d l ids) (Z4M F D G R w gp gd gl at_ base fb cb mb v s r ids p d l) (cj F D G) R W gp gd gl at_ base fb cb mb id):=by
 have hW:=h.below hb;have hlen:ids.length<=64:=by
  have:=h.pl.wf.len;have:=h.pl.wf.rV;rw[ja,zM];omega
 have Yc:∀it∈p.items,it.page.id<4294967296:=λit hit=>(h.pl.wf.pg it hit).1.2.2.1
 cases hfr:p.free with
 | cons i rest=>
  refine(xE hW.pl hfr).mono ?_;rintro e w' ⟨rfl,F',v',s',r',cs',h',ht⟩;have hn:∀b,F' b->F b\/W.heap.size<=b:=ht.foot;refine .inr ⟨i,p,F',cj F' D G,v',s',r',cs',ids,rest,rfl,h',hfr,hf,?_,λ_ h=>.inl h,D,d,l,rfl,hW.dk.keep (λb hb=>ht.block b (hW.dk.dA b hb) (λe=>h.FD b e hb)),hW.lg.keep (λb hb=>ht.block b (hW.lg.dA b hb) (λe=>h.FG b e hb)),λb h1 h2=>?_,λb h1 h2=>?_,h.DG,.inl ⟨by simp[hfr],rfl,rfl,rfl,rfl⟩⟩
  ·refine ht.fw (λb hb=>.inl hb) (λb hb=>?_);rcases hb with hb | hb
   ·exact .inr hb
   ·exact .inl (.inr hb)
  ·rcases hn b h1 with e | e
   ·exact h.FD b e h2
   ·have:=hW.dk.dA b h2;omega
  ·rcases hn b h1 with e | e
   ·exact h.FG b e h2
   ·have:=hW.lg.dA b h2;omega
 | nil=>
  have hin:∀n∈ids,n<4294967296/\∃it,p.find n=some it:=λn hn=>by
   rw[ja] at hn;obtain⟨it,hit,rfl⟩:=zn.1 hn;exact⟨Yc it hit,it,Sp.Pl.gy h.pl.wf hit⟩
  have BU:∀W1,aa bM bM W W1->zB W W1:=λW1 ht=>ht.ei;refine(xD hW.pl hfr hin hlen
   (λit F' W1 w1=>∃(D':af) (p2:Sp.Pl) (d':Sp.Dk) (l':Sp.Lg),jT at_ base p d l [it.page.id] 0 p2 d' l'/\cR D' w1 gd d'/\dP G w1 gl gd l'/\(∀b,F' b->¬D' b)/\(∀b,F' b->¬G b)/\(∀b,D' b->¬G b)/\aa (cj F D G) (cj F' D' G) W1 w1)
   (λc it W1 w1=>∃(cs':Array Value) (p2:Sp.Pl) (d':Sp.Dk) (l':Sp.Lg),jT at_ base p d l [it.page.id] c p2 d' l'/\Mem F D G R w1 gp gd gl at_ base fb cb mb v s r cs' p.free ids p d l/\aa (cj F D G) (cj F D G) W1 w1)
   (λit hit hp W1 h1 gX=>?_)).mono ?_
  ·have hM1:=hW.below (BU W1 gX);refine(B6 hM1 ok hit (ym it hit)).mono ?_;rintro e w' ⟨c,p2,d',l',rfl,GC,⟨hc,cs',jK,ht⟩ | ⟨rfl,F',D',v',cs',jK,ht⟩⟩
   ·exact .inl ⟨c,hc,rfl,cs',p2,d',l',GC,jK,ht⟩
   ·exact .inr ⟨rfl,F',v',_,_,cs',jK.pl,D',p2,d',l',GC,jK.dk,jK.lg,jK.FD,jK.FG,jK.DG,ht⟩
  ·have hbz:=hb.size;rintro e w' (⟨rfl,hall,ht⟩ | ⟨pre,it,post,hsp,hpre,kJ,oK,c,hc,rfl,W1,gX,cs',p2,d',l',GC,jK,ht⟩ | ⟨pre,it,post,hsp,hpre,kJ,oK,rfl,W1,w1,F',v',s',r',cs',gX,⟨D',p2,d',l',GC,Ad,B1,s6,FI,I4,ht⟩,h',dx⟩)
   ·refine .inl ⟨4,by decide,rfl,⟨⟨hfr,.inl ⟨rfl,hall⟩⟩,cs,hW.below (BU _ ht),(aa.az hb _).trans (aa.az (BU _ ht) _)⟩,ht.fw (λ_ h=>h.elim) (λb hb=>.inl hb)⟩
   ·refine .inl ⟨c,hc,rfl,⟨⟨hfr,.inr ⟨pre,it,post,p2,d',l',hsp,hpre,kJ,oK,hc,GC⟩⟩,cs',jK,(aa.az hb _).trans ((aa.az (BU _ gX) _).trans ht)⟩,?_⟩;have hx:=(aa.az (BU _ gX) (cj F D G)).trans ht;exact⟨hx.os,hx.tape,hx.output,hx.size,hx.block,λb hb=>.inl hb⟩
   ·have hcb:=h'.foot.2.2.1;have gW:=(aa.az (BU _ gX) (cj F D G)).trans ht;have hcbn:∀b,D' b\/G b->b≠cb:=λb hb e=>by
     subst e;rcases hb with hb | hb
     ·exact s6 b hcb hb
     ·exact FI b hcb hb
    refine .inr ⟨it.idx,p.drop it.page.id it.idx,F',cj F' D' G,v',s',r',cs',_,[],rfl,h',?_,?_,?_,λ_ h=>.inl h,D',d',l',rfl,Ad.keep (λb hb=>dx.block b (Ad.dA b hb) (hcbn b (.inl hb))),B1.keep (λb hb=>dx.block b (B1.dA b hb) (hcbn b (.inr hb))),s6,FI,I4,.inr ⟨hfr,pre,it,post,p2,hsp,hpre,kJ,oK,GC,rfl,rfl⟩⟩
    ·simp[Sp.Pl.drop,hfr]
    ·rw[Sp.Pl.ir] at hf ⊢;exact λy hy=>hf y (zam.1 hy).1
    ·refine⟨dx.os.trans gW.os,dx.tape.trans gW.tape,dx.output.trans gW.output,zl gW.size dx.size,λb hb hn=>?_,gW.foot⟩;have hz:=gW.size;rw[dx.block b (by omega) (λe=>by
      have e:b=cb:=e;rcases gW.foot cb (.inl hcb) with h | h
      ·exact hn (e▸h)
      ·omega)]
     exact gW.block b hb hn
end
open Go.RowKit
namespace Sp
end Sp
structure Kept (K:af) (w w':World):Prop where
 os:w'.os=w.os
 tape:w'.tape=w.tape
 output:w'.output=w.output
 size:w.heap.size<=w'.heap.size
 block:∀b,K b->w'.heap[b]? =w.heap[b]?
theorem Kept.trans {K:af} {w w'':World} (h:Kept K w w') (h':Kept K w' w''):Kept K w w'':=
 ⟨h'.os.trans h.os,h'.tape.trans h.tape,h'.output.trans h.output,zl h.size h'.size,λb hb=>(h'.block b hb).trans (h.block b hb)⟩
theorem Kept.mono {K K':af} {w:World} (h:Kept K w w') (hk:∀b,K' b->K b):Kept K' w w':=⟨h.os,h.tape,h.output,h.size,λb hb=>h.block b (hk b hb)⟩
theorem Kept.below {K:af} {w:World} (h:Kept K w w') (hk:∀b,b<B->K b):Below B w w':=⟨h.os,h.tape,h.output,h.size,λb hb=>h.block b (hk b hb)⟩
theorem Kept.az {K:af} {w:World} (h:Below B w w') (hk:∀b,K b->b<B):Kept K w w':=⟨h.os,h.tape,h.output,h.size,λb hb=>h.block b (hk b hb)⟩
theorem Kept.gF {K F F':af} {w:World} (h:aa F F' w w') (hk:∀b,K b->b<w.heap.size/\¬F b):Kept K w w':=⟨h.os,h.tape,h.output,h.size,λb hb=>h.block b (hk b hb).1 (hk b hb).2⟩
theorem aj.kept {K:af} {w:World} {cs:Array Value} (h:aj w g t cs) (hk:Kept K w w') (hg:K g):aj w' g t cs:=(hk.block g hg).trans h
structure Ly where
 at_:Nat
 base:Nat
 top:Nat
 len:Nat
 fits:base+top*4+4<=len
 small:top<1000
def PgOkT (ly:Ly) (pg:Nat->Sp.Pg):Prop:=∀q,1<=q->q<=ly.top->(pg q).wf/\(pg q).may/\(pg q).id=q
structure DkT (ly:Ly) (pg:Nat->Sp.Pg) (dk:Sp.Dk):Prop where
 len:dk.sure.length=ly.len
 loose:dk.loose=[]
 bk:dk.bk= -1
 page:∀q,1<=q->q<=ly.top->Sp.cM dk.sure (ly.base+q*4)=bW (pg q)
def nh (A:Option Addr) (n:Nat):af:=λb=>0<n/\∃o,A=some ⟨b,o,none⟩
theorem wB {G:af} {w:World} {rows:List Sp.Bs} (h:aA G w A rows) (hb:nh A rows.length b):G b/\b<w.heap.size:=by
 obtain⟨hn,o,e⟩:=hb;obtain⟨b',o',e',hg,hl,_⟩:=h.2 hn;rw[e'] at e;injection e with e;injection e with e1;subst e1;exact⟨hg,hl⟩
theorem CE {G:af} {w:World} {rows:List Sp.Bs} (h:aA G w A rows):aA (λb=>G b/\nh A rows.length b) w A rows:=
 ⟨h.1,λhn=>by
  obtain⟨b,o,e,hg,hl,hc⟩:=h.2 hn;exact⟨b,o,e,⟨hg,hn,o,e⟩,hl,hc⟩⟩
namespace Sp
structure RI where
 page:Pg
 pins:Nat
 aK:Bool
 from_:Nat
def It.ri (it:It):RI:=⟨it.page,it.pins,it.aK,it.from_⟩
structure aF where
 frames:Nat
 L:List RI
 cm:Nat->Pg
 forced:Nat
 next:Nat
 top:Nat
 rest:Nat->Bs
def xq:Nat->Bs:=λ_=>zeros 128
def dJ (L:List RI) (id:Nat):Bool:=L.any (λx=>x.page.id==id)
def cJ (L:List RI) (id:Nat):Option RI:=L.find? (λx=>x.page.id==id)
def aW (L:List RI) (id:Nat):Bool:=match cJ L id with
 | some x=>x.aK
 | none=>false
def gG (L:List RI) (ids:List Nat):Nat:=ids.foldl (λm id=>match cJ L id with
 | some x=>if x.aK then max m x.page.aL else m
 | none=>m) 0
def bw (ids:List Nat) (x:RI):RI:=if x.aK=true/\x.page.id∈ids then{x with aK:=false,from_:=0} else x
def aF.write (s:aF) (ids:List Nat):Nat×aF:=
 if ids.all (λid=> !aW s.L id)=true then(0,s)
 else if s.next<gG s.L ids then(2,s)
 else(0,{s with forced:=if s.forced<=gG s.L ids then s.next else s.forced,L:=s.L.map (bw ids),cm:=λq=>if q∈ids/\aW s.L q=true then((cJ s.L q).map (·.page)).getD (s.cm q) else s.cm q})
def jt (L:List RI) (id:Nat):List RI:=L.filter (λx=>x.page.id != id)
def aF.drop (s:aF) (id:Nat):Nat×aF:=
 let r:=s.write [id]
 if r.1≠0 then r else(0,{r.2 with L:=jt r.2.L id})
def aF.room (s:aF):Nat×aF:=
 if s.L.length<s.frames then(0,s) else
 match s.L.find? (λx=>x.pins==0) with
 | some x=>s.drop x.page.id
 | none=>(4,s)
def Gq (L:List RI) (id:Nat) (f:RI->RI):List RI:=L.map λx=>if x.page.id=id then f x else x
def nk (L:List RI) (id:Nat):List RI:=jt L id++(L.filter (λx=>x.page.id==id)).map (λx=>{x with pins:=x.pins+1})
def aF.iQ (s:aF) (id:Nat):Nat×Option Pg×aF:=
 if dJ s.L id=true then(0,(cJ s.L id).map (·.page),{s with L:=nk s.L id})
 else if s.top<id then(2,none,s)
 else if id=0 then(60,none,s)
 else
  let r:=s.room
  if r.1≠0 then(r.1,none,r.2) else(0,some (s.cm id),{r.2 with L:=nk (r.2.L++[⟨s.cm id,0,false,0⟩]) id})
def aF.put (s:aF) (x:Pg) (may:Bool):Nat×aF:=
 if may=false then(2,s)
 else match cJ s.L x.id with
  | none=>(3,s)
  | some y=>if y.pins=0 then(3,s) else(0,{s with L:=Gq s.L x.id (λy=>if y.aK then{y with page:=x} else{y with page:=x,aK:=true,from_:=x.aL})})
def aF.dW (s:aF) (id:Nat):Nat×aF:=
 match cJ s.L id with
 | none=>(3,s)
 | some y=>if y.pins=0 then(3,s) else(0,{s with L:=Gq s.L id (λy=>{y with pins:=y.pins-1})})
def aF.dB (s:aF) (id:Nat):Nat×aF:=
 match cJ s.L id with
 | none=>(3,s)
 | some y=>if 0<y.pins then(9,s) else s.drop id
end Sp
section
namespace Sp
def Lg.cut (l:Lg) (e:Nat):Lg:={l with bytes:=l.bytes.take (e-bg l.first)}
theorem Mm (f:Nat->Nat×Bs) (s:List Bs) (hl:(f j).1<s.length):∀(m:Nat),j<m->(∀i,j<i->i<m->(f i).1≠(f j).1)->(lay ((List.range m).map f) s)[(f j).1]? =some (f j).2:=λm=>by
 induction m with
 | zero=>intro h;omega
 | succ m ih=>
  intro h hi;rw[zbb,zI,ny];show((lay ((List.range m).map f) s).set (f m).1 (f m).2)[(f j).1]? =_;by_cases e:j=m
  ·subst e;rw[List.getElem?_set_self (by simpa using hl)]
  ·rw[List.getElem?_set_ne (hi m (by omega) (by omega))];exact ih (by omega) (λi h1 h2=>hi i h1 (by omega))
theorem Lg.Bu {l:Lg} (h:l.wf) (hk:k%110=0) (hj:j%110=0) (h1:bg l.first<=k) (h2:k<j) (h3:j<l.next):l.dQ j≠l.dQ k:=by
 have e1:=h.len;have e2:=h.room;unfold Lg.dQ;have hd:j/110-k/110<l.n:=by omega
 have hlt:k/110<j/110:=by omega
 generalize j/110=a at hd hlt ⊢;generalize k/110=b at hd hlt ⊢;generalize l.n=n at hd ⊢;intro e;have e:a%n=b%n:=by omega
 have h4:=Nat.div_add_mod a n;have h5:=Nat.div_add_mod b n;rw[e] at h4;have h6:n*(a/n)=n*(b/n)+(a-b):=by omega
 have h7:a/n<=b/n\/b/n+1<=a/n:=by omega
 rcases h7 with h7 | h7
 ·have:=Nat.mul_le_mul_left n h7;omega
 ·have:=Nat.mul_le_mul_left n h7;rw[Nat.mul_add] at this;omega
theorem Lg.O9 (l:Lg) {e:Nat} (hk:bg l.first<=k) (h:k+110<=e):(l.cut e).part k=l.part k:=by
 unfold Lg.part Lg.cut;show((l.bytes.take (e-bg l.first)).drop (k-bg l.first)).take 110=_;rw[List.drop_take,List.take_take,Nat.min_eq_left (by omega)]
theorem Lg.Bv {l l':Lg} (h:l.part k=l'.part k) (hl:l.life=l'.life):l.sec k=l'.sec k:=by
 unfold Lg.sec;rw[h,hl]
theorem Lg.KI {l:Lg} (h:l.wf):l.cut l.next=l:=by
 unfold Lg.cut;rw[zX (by have:=h.len;omega)]
theorem Jc (d:Dk) (hlo:d.loose=[]) {l:Lg} (h:l.wf) (hfit:l.at_+l.n<=d.sure.length):
 (∀i,(∀k,i≠l.dQ k)->(d.acts l.eE).sure[i]? =d.sure[i]?)/\
 (∀k,k%110=0->bg l.forced<=k->k<l.next->(d.acts l.eE).sure[l.dQ k]? =some (l.sec k))/\
 (∀k,k%110=0->bg l.first<=k->k<bg l.forced->(d.acts l.eE).sure[l.dQ k]? =d.sure[l.dQ k]?):=by
 have sQ:d.view=d.sure:=by simp[Dk.view,hlo,lay]
 have hs:=(jw d (l.dO l.strs)).2;have hmo:=nI h.ff;have hmd:=Jt l.forced;rw[sQ,Bo] at hs;have e:(d.acts l.eE).sure=lay ((List.range l.strs).map λj=>(l.dQ (bg l.forced+j*110),l.sec (bg l.forced+j*110))) d.sure:=hs;rw[e];refine⟨λi hi=>ia _ _ _ (λx hx=>?_),λk hk h1 h2=>?_,λk hk h1 h2=>ia _ _ _ (λx hx=>?_)⟩
 ·obtain⟨j,_,rfl⟩:=zn.1 hx;exact λe=>hi _ e.symm
 ·have hkj:k=bg l.forced+(k-bg l.forced)/110*110:=by omega
  have hlt:=(Lg.wu (l:=l) (j:=(k-bg l.forced)/110) h.fn).2 (by omega);have:=Mm (λj=>(l.dQ (bg l.forced+j*110),l.sec (bg l.forced+j*110))) d.sure (j:=(k-bg l.forced)/110) (by have:=Lg.kg h (bg l.forced+(k-bg l.forced)/110*110);show l.dQ _<_;omega) l.strs hlt
   (λi hi1 hi2=>by
    have hi3:=(Lg.wu (l:=l) (j:=i) h.fn).1 hi2;exact Lg.Bu h (by omega) (by omega) (by omega) (by omega) hi3)
  simp only[<-hkj] at this;exact this
 ·obtain⟨j,hj,rfl⟩:=zn.1 hx;have hj3:=(Lg.wu (l:=l) (j:=j) h.fn).1 (zbi.1 hj);exact Lg.Bu h (k:=k) (j:=bg l.forced+j*110) hk (by omega) h1 (by omega) hj3
theorem tW (d:Dk) (hlo:d.loose=[]) (at_ base:Nat) (l:List (Nat×Bs)) (h8:l.length<=8) (h1:i<at_\/at_+33<=i) (h2:∀x∈l,i<base+x.1*4\/base+x.1*4+4<=i):
 (d.acts (bq at_ base l)).sure[i]? =d.sure[i]? :=by
 have sQ:d.view=d.sure:=by simp[Dk.view,hlo,lay]
 have e:bq at_ base l=((aR (at_+1) (eO l)++[.sync])++[.wr at_ (jF l),.sync]++aR base l++[.sync,.wr at_ (zeros 128)])++[.sync]:=by simp[bq]
 have hs:=(jw d ((aR (at_+1) (eO l)++[.sync])++[.wr at_ (jF l),.sync]++aR base l++[.sync,.wr at_ (zeros 128)])).2;rw[<-e,sQ] at hs;rw[hs];refine ia _ _ _ (λx hx=>?_);rw[ep,ep,ep,ep] at hx;simp only[ld,za7,zz,zq] at hx;rcases hx with((hx | rfl) | hx) | rfl
 ·obtain⟨y,hy,j,hj,e⟩:=fG hx;have:y.1<8:=by
   obtain⟨i,hi,e⟩:=List.getElem_of_mem hy;have hi':i<l.length:=by simpa[eO] using hi
   have h2:=kP l i hi';rw[zk hi,e] at h2;injection h2 with h2;rw[h2];show i<8;omega
  omega
 ·show at_≠i;omega
 ·obtain⟨z,hz,j,hj,e⟩:=fG hx;have:=h2 z hz;omega
 ·show at_≠i;omega
end Sp
structure Tidy (ly:Ly) (rest:Nat->Sp.Bs) (dk:Sp.Dk) (l:Sp.Lg):Prop where
 secs:∀k,k%110=0->Sp.bg l.first<=k->k<l.forced->dk.sure[l.dQ k]? =some ((l.cut l.forced).sec k)
 rest:∀i,ly.at_+33<=i->i<ly.base->dk.sure[i]? =some (rest i)
variable {ly:Ly} {rest:Nat->Sp.Bs} {dk:Sp.Dk} {l:Sp.Lg}
theorem Tidy.force (h:Tidy ly rest dk l) (hw:l.wf) (hlo:dk.loose=[]) (hfit:l.at_+l.n<=dk.sure.length) (hl:l.at_+l.n<=ly.at_) (aL:Nat):Tidy ly rest (dk.bA l aL) (l.bA aL):=by
 unfold Sp.Dk.bA Sp.Lg.bA
 split
 ·exact h
 ·obtain⟨f1,f2,f3⟩:=Sp.Jc dk hlo hw hfit;have D9:=Sp.kO l.forced;have hbm:=Sp.Jt l.forced;refine⟨λk hk h1 h2=>?_,λi h1 h2=>?_⟩
  ·show _=some ((l.cut l.next).sec k);rw[Sp.Lg.KI hw];by_cases hb:Sp.bg l.forced<=k
   ·exact f2 k hk hb h2
   ·have e:=f3 k hk h1 (by omega);have h1':Sp.bg l.first<=k:=h1;refine e.trans ((h.secs k hk h1' (by omega)).trans (congrArg some (Sp.Lg.Bv ?_ rfl)));exact Sp.Lg.O9 l h1' (by omega)
  ·rw[f1 i (λk e=>by have:=Sp.Lg.kg hw k;omega)];exact h.rest i h1 h2
theorem Tidy.twin (h:Tidy ly rest dk l) (hw:l.wf) (hlo:dk.loose=[]) (hl:l.at_+l.n<=ly.at_) (ha:ly.at_+33<=ly.base) (q:List (Nat×Sp.Bs)) (h8:q.length<=8):Tidy ly rest (dk.acts (Sp.bq ly.at_ ly.base q)) l:=by
 refine⟨λk hk h1 h2=>?_,λi h1 h2=>?_⟩
 ·have:=Sp.Lg.kg hw k;rw[Sp.tW dk hlo _ _ q h8 (.inl (by omega)) (λx _=>.inl (by omega))];exact h.secs k hk h1 h2
 ·rw[Sp.tW dk hlo _ _ q h8 (.inr h1) (λx _=>.inl (by omega))];exact h.rest i h1 h2
theorem Tidy.append (h:Tidy ly rest dk l) (hw:l.wf) (s:Sp.Bs):Tidy ly rest dk (l.append s):=by
 refine⟨λk hk h1 h2=>?_,h.rest⟩;have e:(l.append s).cut (l.append s).forced={(l.append s) with bytes:=l.bytes.take (l.forced-Sp.bg l.first)}:=by
  have h1:=hw.len;have h2:=hw.fn;have h3:(l.bytes++Sp.frame l.next s).take (l.forced-Sp.bg l.first)=l.bytes.take (l.forced-Sp.bg l.first):=List.take_append_of_le_length (by omega);rw[<-h3];rfl
 rw[e];exact h.secs k hk h1 h2
theorem Tidy.keep (h:Tidy ly rest dk l) (_:l.wf) (h1:l.first<=k):Tidy ly rest dk (l.keep k):=by
 refine⟨λj hj h3 h4=>?_,h.rest⟩;have e1:=Sp.nI h1;have h3:Sp.bg k<=j:=h3;refine(h.secs j hj (by omega) h4).trans (congrArg some (Sp.Lg.Bv ?_ rfl));unfold Sp.Lg.part Sp.Lg.cut Sp.Lg.keep;show((l.bytes.take (l.forced-Sp.bg l.first)).drop (j-Sp.bg l.first)).take 110=(((l.bytes.drop (Sp.bg k-Sp.bg l.first)).take (l.forced-Sp.bg k)).drop (j-Sp.bg k)).take 110;rw[List.drop_take,List.drop_take,za1]
 congr 1
 rw[show Sp.bg k-Sp.bg l.first+(j-Sp.bg k)=j-Sp.bg l.first by omega,show l.forced-Sp.bg l.first-(j-Sp.bg l.first)=l.forced-Sp.bg k-(j-Sp.bg k) by omega]
theorem Tidy.new {at_ life:Nat} (h:∀i,ly.at_+33<=i->i<ly.base->dk.sure[i]? =some (rest i)):Tidy ly rest dk ⟨at_,n,life,[],[],110,110,110,0⟩:=
 ⟨λk _ h1 h2=>absurd (show Sp.bg 110<=k from h1) (by have h2:k<110:=h2;unfold Sp.bg;omega),h⟩
end
open Go.RowKit Go.Conc
structure mi (ly:Ly) (p:Sp.Pl) (dk:Sp.Dk) (l:Sp.Lg) (s:Sp.aF):Prop where
 wf:p.wf
 y_:l.wf
 frames:s.frames=p.n
 L:s.L=p.items.map Sp.It.ri
 top:s.top=ly.top
 forced:s.forced=l.forced
 next:s.next=l.next
 ok:PgOkT ly s.cm
 B_:DkT ly s.cm dk
 dl:Nw ly.at_ ly.base dk l
 lo:l.at_+l.n<=ly.at_
 bO:ly.at_+33<=ly.base
 tight:ly.len<ly.base+(ly.top+1)*4+4
 zero:Sp.cM dk.sure ly.base=Sp.zeros 512
 dA:∀it∈p.items,1<=it.page.id/\it.page.id<=ly.top
 tidy:Tidy ly s.rest dk l
theorem mi.inside {ly:Ly} {p:Sp.Pl} {dk:Sp.Dk} {l:Sp.Lg} {s:Sp.aF} (h:mi ly p dk l s) (h1:1<=n) (h2:n<=ly.top):Sp.inside dk.sure.length ly.at_ ly.base n:=by
 have:=h.B_.len;have:=ly.fits;have:=h.bO;unfold Sp.inside;omega
namespace Sp
theorem lO (p:Pl) (n:Nat):cJ (p.items.map It.ri) n=(p.find n).map It.ri:=by
 unfold cJ Pl.find;rw[List.find?_map];rfl
theorem kI (p:Pl) (n:Nat):aW (p.items.map It.ri) n=p.jR n:=by
 unfold aW Pl.jR;rw[lO]
 cases p.find n<;>rfl
theorem Dd (p:Pl) (n:Nat):dJ (p.items.map It.ri) n=(p.find n).isSome:=by
 unfold dJ Pl.find;rw[List.any_map,Bool.eq_iff_iff,List.any_eq_true,List.find?_isSome];rfl
theorem sJ (p:Pl) (q:List Nat):gG (p.items.map It.ri) q=p.fA q:=by
 unfold gG Pl.fA;have key:∀(q:List Nat) (m:Nat),q.foldl (λm id=>match cJ (p.items.map It.ri) id with
  | some x=>if x.aK then max m x.page.aL else m
  | none=>m) m=(q.filter p.jR).foldl (λm n=>max m (p.fU n)) m:=by
  intro q
  induction q with
  | nil=>exact λ_=>rfl
  | cons n q ih=>
   intro m;rw[zbh,ih];rw[lO]
   cases hf:p.find n with
   | none=>
    have e:p.jR n=false:=by unfold Pl.jR;rw[hf]
    rw[zQ (by rw[e];decide)];rfl
   | some it=>
    have e:p.jR n=it.aK:=by unfold Pl.jR;rw[hf]
    cases hd:it.aK with
    | false=>
     rw[zQ (by rw[e,hd];decide)];simp[It.ri,hd]
    | true=>
     rw[zU (by rw[e,hd]),zbh];have e2:p.fU n=it.page.aL:=by unfold Pl.fU;rw[hf]
     rw[e2];simp[It.ri,hd]
 exact key q 0
theorem tq (p:Pl) (q:List Nat):p.aU q=[]↔q.all (λid=> !aW (p.items.map It.ri) id)=true:=by
 rw[List.all_eq_true];have:p.aU q=[]↔q.filter p.jR=[]:=by rw[<-Pl.jv,List.map_eq_nil_iff]
 rw[this,List.filter_eq_nil_iff];constructor
 ·intro h x hx;have:=h x hx;rw[kI];simpa using this
 ·intro h x hx;have:=h x hx;rw[kI] at this;simpa using this
end Sp
theorem mi.wrote {ly:Ly} {p p':Sp.Pl} {dk Ca:Sp.Dk} {l l':Sp.Lg} {s:Sp.aF} (h:mi ly p dk l s) (hw:jT ly.at_ ly.base p dk l q c p' Ca l') (hq:∀n∈q,∃it,p.find n=some it) (hnd:q.Nodup) (h8:(p.aU q).length<=8):
 (s.write q).1=c/\mi ly p' Ca l' (s.write q).2:=by
 have hD:=Sp.tq p q;have hT:=Sp.sJ p q;rw[<-h.L] at hD hT;rcases hw with⟨h1,rfl,rfl,rfl,rfl⟩ | ⟨h1,h2,rfl,rfl,rfl,rfl⟩ | ⟨h1,h2,rfl,rfl,rfl,rfl⟩
 ·have e:s.write q=(0,s):=by unfold Sp.aF.write;rw[zK (hD.1 h1)]
  rw[e];exact⟨rfl,h⟩
 ·have e:s.write q=(2,s):=by unfold Sp.aF.write;rw[zD (λe=>h1 (hD.2 e)),zK (by rw[hT,h.next];exact h2)]
  rw[e];exact⟨rfl,h⟩
 ·have XU:∀x∈p.aU q,x.2.length=512/\Sp.inside (dk.bA l (p.fA q)).sure.length ly.at_ ly.base x.1:=λx hx=>by
   obtain⟨hx1,it,hf,_,hx2⟩:=Sp.Pl.ju hx;obtain⟨hit,oc⟩:=Sp.Pl.bu hf;rw[(Sp.Dk.j5 h.dl.loose h.dl.bk h.y_ _).2.2.1,hx2];exact⟨iF (h.wf.pg it hit).2,by rw[<-oc];exact h.inside (h.dA it hit).1 (h.dA it hit).2⟩
  obtain⟨f1,f2,f3,f4⟩:=Sp.Dk.j5 h.dl.loose h.dl.bk h.y_ (p.fA q);obtain⟨t1,t2,t3,t4,t5⟩:=Sp.Lp (dk.bA l (p.fA q)) f1 f2 ly.at_ ly.base (p.aU q) (by rw[Sp.Pl.jv];exact hnd.filter _) h8 XU;have e:s.write q=(0,{s with forced:=if s.forced<=Sp.gG s.L q then s.next else s.forced,L:=s.L.map (Sp.bw q),cm:=λn=>if n∈q/\Sp.aW s.L n=true then((Sp.cJ s.L n).map (·.page)).getD (s.cm n) else s.cm n}):=by
   unfold Sp.aF.write;rw[zD (λe=>h1 (hD.2 e)),zD (by rw[hT,h.next];omega)]
  rw[e];have hfind:∀it∈p.items,p.find it.page.id=some it:=λit hit=>Sp.Pl.gy h.wf hit;have SD:∀n,(if n∈q/\Sp.aW s.L n=true then((Sp.cJ s.L n).map (·.page)).getD (s.cm n) else s.cm n)=(if n∈(p.aU q).map (·.1) then(match p.find n with | some it=>it.page | none=>s.cm n) else s.cm n):=λn=>by
   rw[h.L,Sp.kI,Sp.lO,Sp.Pl.jv];simp only[zam]
   split
   ·cases p.find n<;>rfl
   ·rfl
  have hnew:∀n,n∈(p.aU q).map (·.1)->∃it∈p.items,it.page.id=n/\p.find n=some it/\(n,bW it.page)∈p.aU q:=λn hn=>by
   obtain⟨x,hx,rfl⟩:=zn.1 hn;obtain⟨hx1,it,hf,_,hx2⟩:=Sp.Pl.ju hx;obtain⟨hit,oc⟩:=Sp.Pl.bu hf;exact⟨it,hit,oc,hf,by rw[<-hx2];exact hx⟩
  refine⟨rfl,⟨?_,Sp.Lg.rN h.y_ _,h.frames,?_,h.top,?_,?_,?_,?_,?_,?_,h.bO,h.tight,?_,?_,?_⟩⟩
  ·have hf:∀(D:List Nat),(p.mW D).wf:=λD=>by
    refine⟨h.wf.n1,h.wf.rV,?_,?_,λy hy=>?_,λy hy=>?_⟩
    ·have e:(p.mW D).items.map (·.idx)=p.items.map (·.idx):=by
      unfold Sp.Pl.mW;rw[zat];apply zY;intro x _;simp only[Function.comp]
      split<;>rfl
     rw[e];exact h.wf.idx
    ·rw[Sp.Pl.Ei];exact h.wf.ids
    ·obtain⟨x,hx,rfl⟩:=zn.1 hy;have:=h.wf.pg x hx
     split<;>exact this
    ·obtain⟨x,hx,rfl⟩:=zn.1 hy;have:=h.wf.small x hx
     split
     ·exact⟨this.1,by simp⟩
     ·exact this
   exact hf _
  ·show s.L.map (Sp.bw q)=_;rw[h.L];unfold Sp.Pl.mW;rw[zat,zat];apply zY;intro x hx;simp only[Function.comp];have hdx:p.jR x.page.id=x.aK:=by unfold Sp.Pl.jR;rw[hfind x hx]
   rw[Sp.Pl.jv];unfold Sp.bw;simp only[zam,hdx];by_cases hc:x.aK=true/\x.page.id∈q
   ·rw[zK (show(x.ri.aK=true/\x.ri.page.id∈q) from hc),zK ⟨hc.2,hc.1⟩];rfl
   ·rw[zD (show ¬(x.ri.aK=true/\x.ri.page.id∈q) from hc),zD (λh=>hc ⟨h.2,h.1⟩)]
  ·show(if s.forced<=Sp.gG s.L q then s.next else s.forced)=_;rw[hT,h.forced,h.next,Sp.Lg.yF h.y_]
  ·exact h.next.trans (Sp.Lg.th l _).symm
  ·intro n hn1 hn2;show Sp.Pg.wf (ite _ _ _)/\Sp.Pg.may (ite _ _ _)/\Sp.Pg.id (ite _ _ _)=n;rw[SD n]
   split
   ·rename_i hm;obtain⟨it,hit,oc,hf,_⟩:=hnew n hm;rw[hf];exact⟨(h.wf.pg it hit).1,(h.wf.pg it hit).2,oc⟩
   ·exact h.ok n hn1 hn2
  ·refine⟨by rw[t3,f3];exact h.B_.len,t1,t2,λn hn1 hn2=>?_⟩;show _=bW (ite _ _ _);rw[SD n]
   split
   ·rename_i hm;obtain⟨it,hit,oc,hf,hmem⟩:=hnew n hm;rw[hf];exact t4 _ hmem
   ·rename_i hm;have hin:=h.inside hn1 hn2;unfold Sp.inside at hin;rw[t5 n (λx hx e=>hm (zn.2 ⟨x,hx,e⟩)) hin.2 (by rw[f3];exact hin.1),f4 _ (.inr (by have:=h.lo;omega))];exact h.B_.page n hn1 hn2
  ·exact⟨t1,t2,by rw[t3,f3,(Sp.Lg.jd l _).1,(Sp.Lg.jd l _).2];exact h.dl.fit,by rw[t3,f3];exact h.dl.bO,by rw[t3,f3];exact h.dl.homes,by rw[Sp.Lg.th];exact h.dl.next⟩
  ·rw[(Sp.Lg.jd l _).1,(Sp.Lg.jd l _).2];exact h.lo
  ·have hl:=h.B_.len;have hf:=ly.fits;have h0:=t5 0 (λx hx e=>by
    obtain⟨hx1,it,hf,_,hx2⟩:=Sp.Pl.ju hx;obtain⟨hit,oc⟩:=Sp.Pl.bu hf;have:=(h.dA it hit).1;omega) (by have:=h.bO;omega) (by rw[f3];omega)
   rw[Nat.zero_mul,Nat.add_zero] at h0;rw[h0,f4 _ (.inr (by have:=h.lo;have:=h.bO;omega))];exact h.zero
  ·intro y hy;obtain⟨x,hx,rfl⟩:=zn.1 hy;have:=h.dA x hx
   split<;>exact this
  ·refine Tidy.twin (h.tidy.force h.y_ h.dl.loose h.dl.fit h.lo _) (Sp.Lg.rN h.y_ _) f1 ?_ h.bO _ h8;rw[(Sp.Lg.jd l _).1,(Sp.Lg.jd l _).2];exact h.lo
open Go.RowKit Go.Conc
theorem mi.of {ly:Ly} {p p':Sp.Pl} {dk:Sp.Dk} {l:Sp.Lg} {s:Sp.aF} (h:mi ly p dk l s) (wf':p'.wf) (hn:p'.n=p.n) {L':List Sp.RI} (hL:p'.items.map Sp.It.ri=L') (hin:∀it∈p'.items,1<=it.page.id/\it.page.id<=ly.top):mi ly p' dk l {s with L:=L'}:=
 ⟨wf',h.y_,h.frames.trans hn.symm,hL.symm,h.top,h.forced,h.next,h.ok,h.B_,h.dl,h.lo,h.bO,h.tight,h.zero,hin,h.tidy⟩
namespace Sp
theorem Rq (p:Pl) (id i:Nat):(p.drop id i).items.map It.ri=jt (p.items.map It.ri) id:=by
 unfold Pl.drop jt;rw[List.filter_map];rfl
theorem Mb (p:Pl) (id:Nat):(((p.fL id).last id).items).map It.ri=nk (p.items.map It.ri) id:=by
 have key:∀(l:List It),((l.map λx=>if x.page.id=id then{x with pins:=x.pins+1} else x).filter (λx=>x.page.id != id)).map It.ri=jt (l.map It.ri) id:=λl=>by
  induction l with
  | nil=>rfl
  | cons x xs ih=>
   rw[zF,zF];by_cases hx:x.page.id=id
   ·rw[zK hx,zQ (by simp[hx])];unfold jt at ih ⊢;rw[zQ (by simp[It.ri,hx])];exact ih
   ·rw[zD hx,zU (by simp[hx])];unfold jt at ih ⊢;rw[zU (by simp[It.ri,hx]),zF,ih]
 have key2:∀(l:List It),((l.map λx=>if x.page.id=id then{x with pins:=x.pins+1} else x).filter (λx=>x.page.id==id)).map It.ri=((l.map It.ri).filter (λx=>x.page.id==id)).map (λx=>{x with pins:=x.pins+1}):=λl=>by
  induction l with
  | nil=>rfl
  | cons x xs ih=>
   rw[zF,zF];by_cases hx:x.page.id=id
   ·rw[zK hx,zU (by simp[hx]),zU (by simp[It.ri,hx]),zF,zF,ih];rfl
   ·rw[zD hx,zQ (by simp[hx]),zQ (by simp[It.ri,hx]),ih]
 show List.map It.ri (_++_)=_;rw[zI];exact congr (congrArg _ (key p.items)) (key2 p.items)
theorem Ji {L:List RI} (h:∀x∈L,x.page.id≠id):jt L id=L:=by
 unfold jt;rw[List.filter_eq_self];intro x hx;simpa using h x hx
theorem O6 {L:List RI} {x:Pg} (h:∀y∈L,y.page.id≠x.id):nk (L++[⟨x,0,false,0⟩]) x.id=L++[⟨x,1,false,0⟩]:=by
 unfold nk;have e1:jt (L++[⟨x,0,false,0⟩]) x.id=L:=by
  unfold jt;rw[zba];have:=Ji h;unfold jt at this;rw[this];simp
 have e2:L.filter (λy=>y.page.id==x.id)=[]:=by
  rw[List.filter_eq_nil_iff];intro y hy;simpa using h y hy
 rw[e1,zba,e2];simp
theorem WS (p:Pl) (h:p.find id=none):∀y∈p.items.map It.ri,y.page.id≠id:=λy hy=>by
 obtain⟨x,hx,rfl⟩:=zn.1 hy;exact Pl.ir.1 h x hx
theorem lG {p:Pl} {x:Pg} (h:p.find x.id=none):((p.bring x i rest).fL x.id).items=p.items++[⟨x,1,false,0,i⟩]:=by
 show List.map _ (p.items++[_])=_;rw[zI];have h1:=Pl.ir.1 h
 congr 1
 ·rw[zY (g:=id)]
  ·simp
  ·intro y hy;simp[h1 y hy]
 ·simp
theorem WI (p:Pl) (id:Nat) (f:It->It) (g:RI->RI) (h:∀x,(f x).ri=g x.ri):(p.upd id f).items.map It.ri=Gq (p.items.map It.ri) id g:=by
 unfold Pl.upd Gq;rw[zat,zat];apply zY;intro x _;simp only[Function.comp];by_cases hx:x.page.id=id
 ·rw[zK hx,zK (show x.ri.page.id=id from hx)];exact h x
 ·rw[zD hx,zD (show ¬x.ri.page.id=id from hx)]
end Sp
theorem mi.len {ly:Ly} {p:Sp.Pl} {dk:Sp.Dk} {l:Sp.Lg} {s:Sp.aF} (h:mi ly p dk l s):s.L.length+p.free.length=s.frames:=by
 have:=h.wf.len;rw[h.L,h.frames,zM];omega
theorem mi.full {ly:Ly} {p:Sp.Pl} {dk:Sp.Dk} {l:Sp.Lg} {s:Sp.aF} (h:mi ly p dk l s):s.L.length<s.frames↔p.free≠[]:=by
 have:=h.len
 cases hf:p.free with
 | nil=>rw[hf] at this;simp at this;simp;omega
 | cons a b=>rw[hf] at this;simp at this;simp;omega
theorem yI {p:Sp.Pl} (hwf:p.wf) {pre post:List Nat} {it:Sp.It} (h:p.items.map (·.page.id)=pre++it.page.id::post) (hpre:∀n∈pre,∃y,p.find n=some y/\0<y.pins) (hf:p.find it.page.id=some it) (hp:it.pins=0):
 (p.items.map Sp.It.ri).find? (λx=>x.pins==0)=some it.ri:=by
 obtain⟨l1,l2,e1,e2,e3⟩:=List.map_eq_append_iff.1 h;obtain⟨y,l3,e4,e5,e6⟩:=List.map_eq_cons_iff.1 e3;have hy:y∈p.items:=by rw[e1,e4];simp
 have hye:y=it:=by
  have:=Sp.Pl.gy hwf hy;rw[e5,hf] at this;injection this with this;exact this.symm
 subst hye;rw[e1,e4,zI,zF,List.find?_append];have h1:(l1.map Sp.It.ri).find? (λx=>x.pins==0)=none:=by
  rw[List.find?_eq_none];intro x hx;obtain⟨z,hz,rfl⟩:=zn.1 hx;obtain⟨q,hq,hqp⟩:=hpre z.page.id (by rw[<-e2];exact zn.2 ⟨z,hz,rfl⟩);rw[Sp.Pl.gy hwf (by rw[e1];exact List.mem_append_left _ hz)] at hq;injection hq with hq;subst hq;simp[Sp.It.ri];omega
 rw[h1];simp[Sp.It.ri,hp]
theorem mi.drops {ly:Ly} {p p2:Sp.Pl} {dk Ca:Sp.Dk} {l l':Sp.Lg} {s:Sp.aF} {it:Sp.It} (h:mi ly p dk l s) (hit:it∈p.items) (hw:jT ly.at_ ly.base p dk l [it.page.id] c p2 Ca l'):
 (c≠0->s.drop it.page.id=(c,s))/\(c=0->(s.drop it.page.id).1=0/\mi ly (p.drop it.page.id it.idx) Ca l' (s.drop it.page.id).2):=by
 have hf:=Sp.Pl.gy h.wf hit;obtain⟨k1,k2,k3,k4,k5⟩:=hw.keep;obtain⟨w1,w2⟩:=h.wrote hw (λn hn=>by rw[zq.1 hn];exact⟨it,hf⟩) (by simp) (by have:=Sp.Pl.yL p [it.page.id];simp at this;omega);refine⟨λhc=>?_,λhc=>?_⟩
 ·have e:s.write [it.page.id]=(c,s):=by
   rcases hw with⟨_,rfl,_⟩ | ⟨h1,h2,rfl,_⟩ | ⟨_,_,rfl,_⟩
   ·exact absurd rfl hc
   ·have hD:=Sp.tq p [it.page.id];have hT:=Sp.sJ p [it.page.id];rw[<-h.L] at hD hT;unfold Sp.aF.write;rw[zD (λe=>h1 (hD.2 e)),zK (by rw[hT,h.next];exact h2)]
   ·exact absurd rfl hc
  unfold Sp.aF.drop;simp only[e];rw[zK hc]
 ·subst hc;have hdr:=hw.drop it.idx;unfold Sp.aF.drop;simp only[w1];rw[zD (by simp)];refine⟨rfl,?_⟩;rw[<-hdr];have hwf:=h.wf.drop hit;rw[<-hdr] at hwf;refine w2.of hwf rfl ?_ (λy hy=>w2.dA y (zam.1 hy).1);rw[Sp.Rq,w2.L]
theorem mi.wC {ly:Ly} {p p':Sp.Pl} {dk Ca:Sp.Dk} {l l':Sp.Lg} {s:Sp.aF} {ids':List Nat} (h:mi ly p dk l s) (ht:KS ly.at_ ly.base p dk l (p.items.map (·.page.id)) p' ids' Ca l'):
 s.room.1=0/\mi ly p' Ca l' s.room.2/\ids'=p'.items.map (·.page.id):=by
 rcases ht with⟨h1,rfl,rfl,rfl,rfl⟩ | ⟨h1,pre,it,post,p2,hsp,hpre,kJ,oK,hw,rfl,rfl⟩
 ·have e:s.room=(0,s):=by unfold Sp.aF.room;rw[zK (h.full.2 h1)]
  rw[e];exact⟨rfl,h,rfl⟩
 ·have hit:=(Sp.Pl.bu kJ).1;have e:s.room=s.drop it.page.id:=by
   unfold Sp.aF.room;rw[zD (λe=>(h.full.1 e) h1),h.L,yI h.wf hsp hpre kJ oK];rfl
  rw[e];refine⟨((h.drops hit hw).2 rfl).1,((h.drops hit hw).2 rfl).2,?_⟩;simp only[Sp.Pl.drop];rw[List.filter_map];rfl
theorem mi.EB {ly:Ly} {p:Sp.Pl} {dk:Sp.Dk} {l:Sp.Lg} {s:Sp.aF} (h:mi ly p dk l s) (ht:V1 ly.at_ ly.base p dk l (p.items.map (·.page.id)) c):s.room=(c,s)/\c≠0:=by
 obtain⟨h1,⟨rfl,hall⟩ | ⟨pre,it,post,p2,d',l',hsp,hpre,kJ,oK,hc,hw⟩⟩:=ht
 ·have e:(p.items.map Sp.It.ri).find? (λx=>x.pins==0)=none:=by
   rw[List.find?_eq_none];intro x hx;obtain⟨z,hz,rfl⟩:=zn.1 hx;obtain⟨q,hq,hqp⟩:=hall z.page.id (zn.2 ⟨z,hz,rfl⟩);rw[Sp.Pl.gy h.wf hz] at hq;injection hq with hq;subst hq;simp[Sp.It.ri];omega
  refine⟨?_,by decide⟩;unfold Sp.aF.room;rw[zD (λe=>(h.full.1 e) h1),h.L,e]
 ·refine⟨?_,hc⟩;unfold Sp.aF.room;rw[zD (λe=>(h.full.1 e) h1),h.L,yI h.wf hsp hpre kJ oK];exact(h.drops (Sp.Pl.bu kJ).1 hw).1 hc
theorem qA {F:af} {w:World} {d:Sp.Dk} (h:cR F w g d) (base page:Nat) (hp:page<4294967296) (hb:base<=d.sure.length) (ho:d.sure.length<base+page*4+4):
 Calls prog 136 #[.pointer (some ⟨g,0,none⟩),.int .i64 base,.int .u32 page] w λe w'=>e=.returned (.tuple #[str [],.int .i64 2])/\w'=w:=by
 have jb:=h.wf.few;have HL:=zH (oV h);have d1:decide ((base:Int)<0)=false:=by simp
 have d2:decide ((d.sure.length:Int)<base)=false:=by rw[ze];omega
 have d3:decide ((d.sure.length:Int)-4<base+page*4)=true:=by rw[zx];omega
 clear h;go_enter func136,ntmps136;go_wp2_with fail;refine HL.out.mono ?_;rintro e w1 ⟨rfl,hw⟩;subst w1;go_wp2_with fail;refine HL.out.mono ?_;rintro e w1 ⟨rfl,hw⟩;subst w1;go_wp2_with fail
 go_ret2
 exact⟨rfl,rfl⟩
theorem CL {F:af} {w:World} {at_ base:Nat} {p:Sp.Pl} (h:gY F w gp gd gl at_ base p) (hid:id<4294967296) (hf:p.find id=none)
 (JD:∀W,zB w W->Calls prog 136 #[ptr gd,.int .i64 base,av id] W λe w'=>e=.returned (.tuple #[str [],.int .i64 2])/\zB W w'):
 Calls prog 68 #[ptr gp,av id] w λe w'=>e=.returned (.tuple #[eG,.int .i64 2])/\zB w w':=by
 obtain⟨R,fb,cb,mb,v,s0,r,cs,h⟩:=h;have hb2:=aj.new w 64 #[.int .u8 0,.int .u8 0,.int .u32 0,.int .u64 0,.int .u32 0,.slice none 0 0];have cH:=(zR w).alloc (za _) (.cells #[.int .u8 0,.int .u8 0,.int .u32 0,.int .u64 0,.int .u32 0,.slice none 0 0] 64);have h2:=h.keep (w':=w.alloc (.cells #[.int .u8 0,.int .u8 0,.int .u32 0,.int .u64 0,.int .u32 0,.slice none 0 0] 64)) (by simp) (λb hb=>Below.heap_alloc w _ b (h.lt b hb));obtain⟨c0,c1,c2,c3,c4,c5,c6,c7⟩:=h2.cells;have HM:=zH (cF c6);have hlk:=h2.gH hid hf;have HT:=zH JD;have hz0:∀W,(Instr.build 64 #[]).run prog W=.ok eG W:=λW=>by kernel_rfl
 clear c1 c2 c4 c5 c7 h JD hf;go_enter func68,ntmps68;go_wp2_with fail;obtain⟨w2,hw2⟩:=zE (w.alloc (.cells #[.int .u8 0,.int .u8 0,.int .u32 0,.int .u64 0,.int .u32 0,.slice none 0 0] 64));rw[<-hw2] at HM hlk hb2 cH c0 c3 c6 h2 ⊢;obtain⟨g4,hg⟩:=zE w.heap.size;rw[<-hg] at hb2 ⊢;have jJ:w.heap.size<=g4:=by omega
 clear hw2 hg;refine HM.out.mono ?_;rintro e w1 ⟨rfl,hw⟩;subst w1;go_wp2_with fail;have hS:=zH (⟨c0,c3⟩:w2.drew.cell? ⟨gp,0,none⟩=some (ptr gd)/\w2.drew.cell? ⟨gp,3,none⟩=some (.int .i64 base));have yt:=h2.blk;clear c0 c3 c6 h2 HM hlk;refine fQ (λW=>zC W gp 0 (ptr gd)/\zC W gp 3 (.int .i64 base)) (λ_=>false) ?_
 repeat (refine bK hS.out ?_)
 refine aI 9 37 (w':=w2.drew) rfl rfl (by rfl) (by kernel_rfl) ?_ (HT.out w2.drew ⟨cH.os,cH.tape,cH.output,cH.size,cH.block⟩) ?_
 ·go_simp
 rintro e w3 ⟨rfl,hb3⟩;have yq:=yt.drew.below hb3 yt.lt;have gz:=zH (show w3.cell? ⟨gp,0,none⟩=some (ptr gd)/\w3.cell? ⟨gp,3,none⟩=some (.int .i64 base) from⟨(yq.cell 0).trans rfl,(yq.cell 3).trans rfl⟩);refine⟨_,rfl,λ_=>gz.out,?_⟩;simp only[zSA,zSB,zSC]
 repeat (refine bK gz.out ?_)
 refine aC (by kernel_rfl) ?_ _;rename_i K9 aT;refine aT _ _ ?_;clear aT;have hbd:zB w2 w3:=(zR w2).drew.trans hb3;have rM:=hb2.below hbd hb2.lt;have dN:zB w w3:=cH.trans (hbd.mono cH.size);clear hS gz yq yt hb2 cH hb3 hbd HT;have jr:=zH rM;have oN:=dN;clear rM dN;have z0:=jr.out.cell 0;have f0:=jr.out.frozen 0;have z1:=jr.out.cell 1;have f1:=jr.out.frozen 1;have z2:=jr.out.cell 2;have f2:=jr.out.frozen 2;have z3:=jr.out.cell 3;have f3:=jr.out.frozen 3;have z4:=jr.out.cell 4;have f4:=jr.out.frozen 4;have z5:=jr.out.cell 5;have f5:=jr.out.frozen 5;simp only[zGA,zGB,zGC] at z0 z1 z2 z3 z4 z5;go_wp2_with fail;obtain⟨W8,BX,iB,ig,Fu⟩:=lB jr.out (.int .u8 0) (.int .u8 0) (.int .u32 0) (.int .u64 0) (.int .u32 0) (.slice none 0 0);rw[BX];have z0:=iB.cell 0;have z1:=iB.cell 1;have z2:=iB.cell 2;have z3:=iB.cell 3;have z4:=iB.cell 4;have z5:=iB.cell 5;simp only[zGA,zGB,zGC] at z0 z1 z2 z3 z4 z5;clear f0 f1 f2 f3 f4 f5 BX;exact bodyPost_ret (v:=.tuple #[eG,.int .i64 2]) (by rw[results_cell_tmp rfl];go_simp) rfl ⟨rfl,oN.trans (ig.below oN.size (λb hb=>by rw[hb];exact jJ))⟩
theorem CM {F:af} {w:World} {at_ base:Nat} {p:Sp.Pl} (h:gY F w gp gd gl at_ base p) (hid:id<4294967296) (hf:p.find id=none)
 (t:Sp.Bs) (h4:4<=t.length) (hl:t.length<=1000000000) (hne:Sp.cI (t.take (t.length-4))≠t) (JD:∀W,zB w W->Calls prog 136 #[ptr gd,.int .i64 base,av id] W λe w'=>e=.returned (.tuple #[str t,.int .i64 0])/\zB W w'):
 Calls prog 68 #[ptr gp,av id] w λe w'=>e=.returned (.tuple #[eG,.int .i64 60])/\zB w w':=by
 obtain⟨R,fb,cb,mb,v,s0,r,cs,h⟩:=h;have hb2:=aj.new w 64 #[.int .u8 0,.int .u8 0,.int .u32 0,.int .u64 0,.int .u32 0,.slice none 0 0];have cH:=(zR w).alloc (za _) (.cells #[.int .u8 0,.int .u8 0,.int .u32 0,.int .u64 0,.int .u32 0,.slice none 0 0] 64);have h2:=h.keep (w':=w.alloc (.cells #[.int .u8 0,.int .u8 0,.int .u32 0,.int .u64 0,.int .u32 0,.slice none 0 0] 64)) (by simp) (λb hb=>Below.heap_alloc w _ b (h.lt b hb));obtain⟨c0,c1,c2,c3,c4,c5,c6,c7⟩:=h2.cells;have HM:=zH (cF c6);have hlk:=h2.gH hid hf;have HT:=zH JD;have hz0:∀W,(Instr.build 64 #[]).run prog W=.ok eG W:=λW=>by kernel_rfl
 clear c1 c2 c4 c5 c7 h JD hf;go_enter func68,ntmps68;go_wp2_with fail;obtain⟨w2,hw2⟩:=zE (w.alloc (.cells #[.int .u8 0,.int .u8 0,.int .u32 0,.int .u64 0,.int .u32 0,.slice none 0 0] 64));rw[<-hw2] at HM hlk hb2 cH c0 c3 c6 h2 ⊢;obtain⟨g4,hg⟩:=zE w.heap.size;rw[<-hg] at hb2 ⊢;have jJ:w.heap.size<=g4:=by omega
 clear hw2 hg;refine HM.out.mono ?_;rintro e w1 ⟨rfl,hw⟩;subst w1;go_wp2_with fail;have hS:=zH (⟨c0,c3⟩:w2.drew.cell? ⟨gp,0,none⟩=some (ptr gd)/\w2.drew.cell? ⟨gp,3,none⟩=some (.int .i64 base));have yt:=h2.blk;clear c0 c3 c6 h2 HM hlk;refine fQ (λW=>zC W gp 0 (ptr gd)/\zC W gp 3 (.int .i64 base)) (λ_=>false) ?_
 repeat (refine bK hS.out ?_)
 refine aI 9 37 (w':=w2.drew) rfl rfl (by rfl) (by kernel_rfl) ?_ (HT.out w2.drew ⟨cH.os,cH.tape,cH.output,cH.size,cH.block⟩) ?_
 ·go_simp
 rintro e w3 ⟨rfl,hb3⟩;have yq:=yt.drew.below hb3 yt.lt;have gz:=zH (show w3.cell? ⟨gp,0,none⟩=some (ptr gd)/\w3.cell? ⟨gp,3,none⟩=some (.int .i64 base) from⟨(yq.cell 0).trans rfl,(yq.cell 3).trans rfl⟩);refine⟨_,rfl,λ_=>gz.out,?_⟩;simp only[zSA,zSB,zSC]
 repeat (refine bK gz.out ?_)
 refine aC (by kernel_rfl) ?_ _;rename_i K9 aT;refine aT _ _ ?_;clear aT;have hbd:zB w2 w3:=(zR w2).drew.trans hb3;have rM:=hb2.below hbd hb2.lt;have dN:zB w w3:=cH.trans (hbd.mono cH.size);clear hS gz yq yt hb2 cH hb3 hbd HT;have Sd:=zH (vB t w3 h4 hl hne);clear hne h4 hl;go_wp2_with fail;refine Sd.out.mono ?_;rintro e w4 ⟨rfl,hb4⟩;have s4:=rM.below hb4 rM.lt;have fC:zB w w4:=dN.trans (hb4.mono dN.size);have cS:=(zR w4).alloc (za _) (.cells #[.int .u8 0,.int .u8 0,.int .u32 0,.int .u64 0,.int .u32 0,.slice none 0 0] 64);have jr:=zH (s4.below cS s4.lt);have oN:=fC.trans (cS.mono fC.size);clear hb4 s4 fC rM dN Sd cS;have z0:=jr.out.cell 0;have f0:=jr.out.frozen 0;have z1:=jr.out.cell 1;have f1:=jr.out.frozen 1;have z2:=jr.out.cell 2;have f2:=jr.out.frozen 2;have z3:=jr.out.cell 3;have f3:=jr.out.frozen 3;have z4:=jr.out.cell 4;have f4:=jr.out.frozen 4;have z5:=jr.out.cell 5;have f5:=jr.out.frozen 5;simp only[zGA,zGB,zGC] at z0 z1 z2 z3 z4 z5;go_wp2_with fail;obtain⟨W8,BX,iB,ig,Fu⟩:=lB jr.out (.int .u8 0) (.int .u8 0) (.int .u32 0) (.int .u64 0) (.int .u32 0) (.slice none 0 0);rw[BX];have z0:=iB.cell 0;have z1:=iB.cell 1;have z2:=iB.cell 2;have z3:=iB.cell 3;have z4:=iB.cell 4;have z5:=iB.cell 5;simp only[zGA,zGB,zGC] at z0 z1 z2 z3 z4 z5;clear f0 f1 f2 f3 f4 f5 BX;exact bodyPost_ret (v:=.tuple #[eG,.int .i64 60]) (by rw[results_cell_tmp rfl];go_simp) rfl ⟨rfl,oN.trans (ig.below oN.size (λb hb=>by rw[hb];exact jJ))⟩
section
open Go.Conc
def cn (ly:Ly) (K:af) (w:World) (gd gl gp:Nat) (l:Sp.Lg) (s:Sp.aF):Prop:=
 ∃(p:Sp.Pl) (D F G:af) (dk:Sp.Dk),gY F w gp gd gl ly.at_ ly.base p/\cR D w gd dk/\dP G w gl gd l/\(∀b,F b->¬D b)/\(∀b,F b->¬G b)/\(∀b,D b->¬G b)/\mi ly p dk l s/\(∀b,cj F D G b->¬K b)/\(∀b,K b->b<w.heap.size)
theorem gT {ly:Ly} {K K':af} {w:World} {l':Sp.Lg} {s':Sp.aF} {p':Sp.Pl} {F D G F' D' G':af} {Ca:Sp.Dk} (hpl:gY F' w' gp gd gl ly.at_ ly.base p') (hd:cR D' w' gd Ca) (hg:dP G' w' gl gd l') (h1:∀b,F' b->¬D' b) (h2:∀b,F' b->¬G' b) (h3:∀b,D' b->¬G' b) (hr:mi ly p' Ca l' s')
 (hK:∀b,cj F D G b->¬K b) (j4:∀b,K b->b<w.heap.size) (ht:aa (cj F D G) (cj F' D' G') w w') (hK':∀b,K' b->K b\/(w.heap.size<=b/\b<w'.heap.size/\¬cj F' D' G' b)):cn ly K' w' gd gl gp l' s':=by
 refine⟨p',D',F',G',Ca,hpl,hd,hg,h1,h2,h3,hr,λb hb hk=>?_,λb hk=>?_⟩
 ·rcases hK' b hk with hk | ⟨_,_,hk⟩
  ·rcases ht.foot b hb with h | h
   ·exact hK b h hk
   ·have:=j4 b hk;omega
  ·exact hk hb
 ·rcases hK' b hk with hk | ⟨_,hk,_⟩
  ·exact zf (j4 b hk) ht.size
  ·exact hk
theorem cn.rep {ly:Ly} {K:af} {w:World} {l:Sp.Lg} {s:Sp.aF} (h:cn ly K w gd gl gp l s):∃p dk,mi ly p dk l s:=by
 obtain⟨p,D,F,G,dk,hpl,hd,hg,h1,h2,h3,hr,h4,h5⟩:=h;exact⟨p,dk,hr⟩
theorem cn.more {ly:Ly} {K K':af} {w:World} {l:Sp.Lg} {s:Sp.aF} (h:cn ly K w gd gl gp l s) (hb:zB w w') (hK:∀b,K' b->K b\/(w.heap.size<=b/\b<w'.heap.size)):cn ly K' w' gd gl gp l s:=by
 obtain⟨p,D,F,G,dk,hpl,hd,hg,h1,h2,h3,hr,h4,h5⟩:=h;refine⟨p,D,F,G,dk,hpl.below hb,hd.below hb,hg.below hb,h1,h2,h3,hr,λb hb1 hk=>?_,λb hk=>?_⟩
 ·rcases hK b hk with h' | h'
  ·exact h4 b hb1 h'
  ·rcases hb1 with e | e | e
   ·have:=hpl.lt b e;omega
   ·have:=hd.dA b e;omega
   ·have:=hg.dA b e;omega
 ·rcases hK b hk with h' | h'
  ·exact zf (h5 b h') hb.size
  ·exact h'.2
theorem cn.below {ly:Ly} {K:af} {w:World} {l:Sp.Lg} {s:Sp.aF} (h:cn ly K w gd gl gp l s) (hb:zB w w'):cn ly K w' gd gl gp l s:=h.more hb (λ_ h=>.inl h)
theorem cn.lt {ly:Ly} {K:af} {w:World} {l:Sp.Lg} {s:Sp.aF} (h:cn ly K w gd gl gp l s):∀b,K b->b<w.heap.size:=by
 obtain⟨p,D,F,G,dk,hpl,hd,hg,h1,h2,h3,hr,h4,h5⟩:=h;exact h5
theorem cn.mono {ly:Ly} {K K':af} {w:World} {l:Sp.Lg} {s:Sp.aF} (h:cn ly K w gd gl gp l s) (hK:∀b,K' b->K b):cn ly K' w gd gl gp l s:=h.more (zR _) (λb hb=>.inl (hK b hb))
theorem cn.turns {ly:Ly} {K X X':af} {w:World} {l:Sp.Lg} {s:Sp.aF} (h:cn ly K w gd gl gp l s) (ht:aa X X' w w') (hX:∀b,X b->K b\/w.heap.size<=b):cn ly K w' gd gl gp l s:=by
 obtain⟨p,D,F,G,dk,hpl,hd,hg,h1,h2,h3,hr,h4,h5⟩:=h;have hk:∀b,b<w.heap.size->cj F D G b->w'.heap[b]? =w.heap[b]? :=λb hb hA=>ht.block b hb (λe=>by
  rcases hX b e with e | e
  ·exact h4 b hA e
  ·omega)
 exact⟨p,D,F,G,dk,hpl.keep ht.size (λb hb=>hk b (hpl.lt b hb) (.inl hb)),hd.keep (λb hb=>hk b (hd.dA b hb) (.inr (.inl hb))),hg.keep (λb hb=>hk b (hg.dA b hb) (.inr (.inr hb))),h1,h2,h3,hr,h4,λb hb=>zf (h5 b hb) ht.size⟩
theorem jT.lg {at_ base:Nat} {p p':Sp.Pl} {d d':Sp.Dk} {l l':Sp.Lg} (h:jT at_ base p d l q c p' d' l'):l'={l with forced:=l'.forced}:=by
 rcases h with⟨_,_,_,_,rfl⟩ | ⟨_,_,_,_,_,rfl⟩ | ⟨_,_,_,_,_,rfl⟩
 ·rfl
 ·rfl
 ·unfold Sp.Lg.bA;split<;>rfl
theorem KS.lg {at_ base:Nat} {p p':Sp.Pl} {d d':Sp.Dk} {l l':Sp.Lg} {ids':List Nat} (h:KS at_ base p d l ids p' ids' d' l'):l'={l with forced:=l'.forced}:=by
 rcases h with⟨_,_,_,_,rfl⟩ | ⟨_,_,_,_,p2,_,_,_,_,hw,_,_⟩
 ·rfl
 ·exact hw.lg
theorem mi.lg {ly:Ly} {p:Sp.Pl} {dk:Sp.Dk} {l l':Sp.Lg} {s:Sp.aF} (h:mi ly p dk l' s) (e:l'={l with forced:=l'.forced}):l'={l with forced:=s.forced}:=by rw[h.forced];exact e
theorem mi.Vd {ly:Ly} {p:Sp.Pl} {dk:Sp.Dk} {l:Sp.Lg} {s:Sp.aF} (h:mi ly p dk l s):l={l with forced:=s.forced}:=by rw[h.forced]
def Ck (ly:Ly) (K:af) (w:World) (gd gl gp:Nat) (l:Sp.Lg) (s:Sp.aF) (k:Nat) (e:Ending) (w':World):Prop:=
 Kept K w w'/\
 (((s.iQ k).2.1=none/\(s.iQ k).1≠0/\e=.returned (.tuple #[eG,.int .i64 (s.iQ k).1])/\cn ly K w' gd gl gp {l with forced:=(s.iQ k).2.2.forced} (s.iQ k).2.2)\/
  ∃x A cc,(s.iQ k).2.1=some x/\(s.iQ k).1=0/\x.wf/\x.may/\e=.returned (.tuple #[iR x A cc,.int .i64 0])/\cO A/\aA (λb=>w.heap.size<=b/\nh A x.rows.length b) w' A x.rows/\
   cn ly (λb=>K b\/nh A x.rows.length b) w' gd gl gp {l with forced:=(s.iQ k).2.2.forced} (s.iQ k).2.2)
theorem W_ {ly:Ly} {K:af} {w:World} {l:Sp.Lg} {s:Sp.aF} (h:cn ly K w gd gl gp l s) (Pt:k<4294967296) (hs:∀x∈s.L,x.pins<1000000):
 Calls prog 68 #[ptr gp,av k] w (Ck ly K w gd gl gp l s k):=by
 obtain⟨p,D,F,G,dk,hpl,hd,hg,mV,og,nX,hr,hK,j4⟩:=h;have hwf:=hpl.wf;have nB:Sp.dJ s.L k=(p.find k).isSome:=by rw[hr.L];exact Sp.Dd p k
 have u9:∀{w':World} {X:af},aa (cj F D G) X w w'->Kept K w w':=λht=>Kept.gF ht (λb hk=>⟨j4 b hk,λhF=>hK b hF hk⟩)
 cases hf:p.find k with
 | some it=>
  obtain⟨hit,hk⟩:=Sp.Pl.bu hf;have hsm:=hs it.ri (by rw[hr.L];exact zn.2 ⟨it,hit,rfl⟩);have hsm:it.pins<1000000:=hsm;have e:s.iQ k=(0,some it.page,{s with L:=Sp.nk s.L k}):=by
   unfold Sp.aF.iQ;rw[zK (by rw[nB,hf];rfl),hr.L,Sp.lO,hf];rfl
  refine(CK hpl Pt hf (by omega)).mono ?_;rintro e' w' ⟨F',A,c,rfl,hA,hR,h',ht⟩;unfold Ck;rw[e];have ht':aa (cj F D G) (cj F' D G) w w':=ht.fw (λb hb=>.inl hb) (λb hb=>hb.elim .inr (λh=>.inl (.inr h)));have MW:=ht.foot;have hin':∀y∈((p.fL k).last k).items,1<=y.page.id/\y.page.id<=ly.top:=λy hy=>by
   have hy':=(Sp.Pl.BM (p.fL k) k).mem_iff.1 hy;obtain⟨x,hx,rfl⟩:=Sp.Pl.lp hy'
   split<;>exact hr.dA x hx
  refine⟨u9 ht',.inr ⟨it.page,A,c,rfl,rfl,(hwf.pg it hit).1,(hwf.pg it hit).2,rfl,hA,(CE hR).mono (λb hb=>⟨hb.1.1,hb.2⟩),?_⟩⟩;have hr':mi ly ((p.fL k).last k) dk l {s with L:=Sp.nk s.L k}:=hr.of h'.wf rfl (by rw[hr.L];exact Sp.Mb p k) hin';have:=hr'.Vd;rw[<-this];refine gT h' (hd.keep (λb hb=>ht.block b (hd.dA b hb) (λe=>mV b e hb))) (hg.keep (λb hb=>ht.block b (hg.dA b hb) (λe=>og b e hb))) (λb h1 h2=>?_) (λb h1 h2=>?_) nX hr' hK j4 ht' (λb hb=>hb.imp id (λhb=>?_))
  ·rcases MW b h1 with e | e
   ·exact mV b e h2
   ·have:=hd.dA b h2;omega
  ·rcases MW b h1 with e | e
   ·exact og b e h2
   ·have:=hg.dA b h2;omega
  ·obtain⟨h1,h2⟩:=wB hR hb;refine⟨h1.1,h2,λe=>?_⟩;rcases e with e | e | e
   ·exact h1.2 e
   ·have:=hd.dA b e;have:=h1.1;omega
   ·have:=hg.dA b e;have:=h1.1;omega
 | none=>
  have hno:Sp.dJ s.L k=false:=by rw[nB,hf];rfl
  by_cases hk0:k=0
  ·subst hk0;have e:s.iQ 0=(60,none,s):=by
    unfold Sp.aF.iQ;rw[zD (by rw[hno];decide),zD (by omega),zK rfl]
   refine(CM hpl Pt hf (Sp.zeros 512) (by rw[show(Sp.zeros 512).length=512 from zbc ..];omega) (by rw[show(Sp.zeros 512).length=512 from zbc ..];omega) ?_ (λW hb=>?_)).mono ?_
   ·have e:(Sp.zeros 512).take ((Sp.zeros 512).length-4)=Sp.zeros 508:=by kernel_rfl
    rw[e];exact Sp.wN
   ·have:=tX (hd.below hb) (by rw[hr.dl.bk];decide) hr.dl.loose ly.base 0 (by omega) (by rw[hr.B_.len];have:=ly.fits;omega);rw[Nat.zero_mul,Nat.add_zero,hr.zero] at this;exact this
   ·rintro e' w' ⟨rfl,hb⟩;unfold Ck;rw[e];refine⟨u9 (aa.az hb (cj F D G)),.inl ⟨rfl,(λh=>by cases h),rfl,?_⟩⟩;rw[<-hr.Vd];exact cn.below ⟨p,D,F,G,dk,hpl,hd,hg,mV,og,nX,hr,hK,j4⟩ hb
  ·by_cases hkt:ly.top<k
   ·have e:s.iQ k=(2,none,s):=by
     unfold Sp.aF.iQ;rw[zD (by rw[hno];decide),zK (by rw[hr.top];exact hkt)]
    refine(CL hpl Pt hf (λW hb=>?_)).mono ?_
    ·refine(qA (hd.below hb) ly.base k Pt (by rw[hr.B_.len];have:=ly.fits;omega) (by rw[hr.B_.len];have:=hr.tight;omega)).mono ?_;rintro e' w' ⟨rfl,rfl⟩;exact⟨rfl,Below.refl _ _⟩
    ·rintro e' w' ⟨rfl,hb⟩;unfold Ck;rw[e];refine⟨u9 (aa.az hb (cj F D G)),.inl ⟨rfl,(λh=>by cases h),rfl,?_⟩⟩;rw[<-hr.Vd];exact cn.below ⟨p,D,F,G,dk,hpl,hd,hg,mV,og,nX,hr,hK,j4⟩ hb
   ·have hin:=hr.inside (n:=k) (by omega) (by omega);obtain⟨ok1,Z9,ND⟩:=hr.ok k (by omega) (by omega);obtain⟨R,fb,cb,mb,v,s0,r,cs,hat⟩:=hpl;have hM:Mem F D G R w gp gd gl ly.at_ ly.base fb cb mb v s0 r cs p.free (p.items.map (·.page.id)) p dk l:=⟨hat,hd,hg,mV,og,nX⟩;have hall:∀it∈p.items,Sp.inside dk.sure.length ly.at_ ly.base it.page.id:=λit hit=>hr.inside (hr.dA it hit).1 (hr.dA it hit).2;unfold Sp.inside at hin;have HC:=CJ (x:=s.cm k) (H:=cj F D G) hat ⟨ok1,Z9⟩ (by rw[ND];exact hf) hd (by rw[hr.dl.bk];decide) hr.dl.loose (by rw[ND];exact hin.1) (by rw[ND];exact hr.B_.page k (by omega) (by omega)) hM.lt
     (ZM G gd gl ly.at_ ly.base p dk l (p.items.map (·.page.id))) (Z4M F D G R w gp gd gl ly.at_ ly.base fb cb mb v s0 r (p.items.map (·.page.id)) p dk l)
     (λW hb hW=>by
      have:=Ep (id:=(s.cm k).id) hM hr.dl rfl hall (by rw[ND];exact hf) W hb;exact this)
     (λi p' ids' F' H' w2 hZ=>by
      obtain⟨D',d',l',_,_,_,_,_,_,hS⟩:=hZ;obtain⟨_,hr',hi⟩:=hr.wC hS;have:=hr'.wf.len;have:=hr'.wf.rV;rw[hi,zM];omega)
    rw[ND] at HC;refine HC.mono ?_;have IB:s.iQ k=(if s.room.1≠0 then(s.room.1,none,s.room.2) else(0,some (s.cm k),{s.room.2 with L:=Sp.nk (s.room.2.L++[⟨s.cm k,0,false,0⟩]) k})):=by
     unfold Sp.aF.iQ;rw[zD (by rw[hno];decide),zD (by rw[hr.top];omega),zD hk0]
    rintro e' w' (⟨c4,vO,rfl,w2,g4,⟨hE,cs',jK,dx⟩,hg4,ht⟩ | ⟨i,p',F',H',ids',rest,w2,F3,R3,v3,s3,r3,Jk,A,c,rfl,hA,hR,h',hfree,hnone,⟨D',d',l',rfl,Ad,B1,s6,FI,I4,hS⟩,hF',ht,G0,QN,gA⟩)
    ·obtain⟨er,_⟩:=hr.EB hE;rw[er,zK vO] at IB;unfold Ck;rw[IB];have hz:=dx.size;have gW:aa (cj F D G) (cj F D G) w w':=by
      refine⟨ht.os.trans dx.os,ht.tape.trans dx.tape,ht.output.trans dx.output,zl hz ht.size,λb hb hn=>?_,dx.foot⟩;rw[ht.block b (by omega) (λe=>by have e:b=g4:=e;omega)];exact dx.block b hb hn
     refine⟨u9 gW,.inl ⟨rfl,vO,rfl,?_⟩⟩;rw[<-hr.Vd];have hk4:∀b,cj F D G b->w'.heap[b]? =w2.heap[b]? :=λb hb=>ht.block b (jK.lt b hb) (λe=>by
      have e:b=g4:=e;have:=hM.lt b hb;omega)
     exact gT ⟨R,fb,cb,mb,v,s0,r,cs',jK.pl.keep ht.size (λb hb=>hk4 b (.inl hb))⟩ (jK.dk.keep (λb hb=>hk4 b (.inr (.inl hb)))) (jK.lg.keep (λb hb=>hk4 b (.inr (.inr hb)))) mV og nX hr hK j4 gW (λb hb=>.inl hb)
    ·rw[ND] at h' hnone;obtain⟨e1,hr',ja⟩:=hr.wC hS;rw[zD (by rw[e1];simp)] at IB;unfold Ck;rw[IB];have hz:=ht.size;have QT:∀b,F3 b->(F' b\/G0 b)\/w2.heap.size<=b:=gA.foot;have hn:∀b,D' b\/G b->¬F3 b:=λb hb hf3=>by
      rcases QT b hf3 with(e | e) | e
      ·rcases hb with hb | hb
       ·exact s6 b e hb
       ·exact FI b e hb
      ·exact(QN b e).1 (.inr hb)
      ·rcases hb with hb | hb
       ·have:=Ad.dA b hb;omega
       ·have:=B1.dA b hb;omega
     have hk3:∀b,D' b\/G b->b<w2.heap.size->w'.heap[b]? =w2.heap[b]? :=λb hb hlt=>gA.block b hlt (λe=>by
      rcases e with e | e
      ·rcases hb with hb | hb
       ·exact s6 b e hb
       ·exact FI b e hb
      ·exact(QN b e).1 (.inr hb))
     have gW:aa (cj F D G) (cj F3 D' G) w w':=by
      refine⟨gA.os.trans ht.os,gA.tape.trans ht.tape,gA.output.trans ht.output,zl hz gA.size,λb hb hn=>?_,λb hb=>?_⟩
      ·rw[gA.block b (by omega) (λe=>by
        rcases e with e | e
        ·rcases ht.foot b (.inl e) with h | h
         ·exact hn h
         ·omega
        ·have:=(QN b e).2;omega)]
       exact ht.block b hb hn
      ·rcases hb with hb | hb
       ·rcases QT b hb with(e | e) | e
        ·exact ht.foot b (.inl e)
        ·exact .inr (QN b e).2
        ·exact .inr (zl hz e)
       ·exact ht.foot b (.inr hb)
     have e2:(((p'.bring (s.cm k) i rest).fL k).items.map (·.page.id))=ids'.filter (λy=> !(y==k))++[k]:=by
      have hnot:ids'.filter (λy=> !(y==k))=ids':=by
       rw[List.filter_eq_self];intro a ha;rw[ja] at ha;obtain⟨y,hy,rfl⟩:=zn.1 ha;have:=Sp.Pl.ir.1 hnone y hy;simpa using this
      rw[hnot,ja];refine(Sp.Pl.pK (p:=p'.bring (s.cm k) i rest) (id:=k) (f:=λy=>{y with pins:=y.pins+1}) ⟨λ_=>rfl,λ_=>rfl⟩).trans ?_;simp[Sp.Pl.bring,ND]
     have yh:gY F3 w' gp gd gl ly.at_ ly.base ((p'.bring (s.cm k) i rest).fL k):=⟨R3,fb,cb,mb,v3,s3,r3,Jk,by rw[e2];exact h'⟩;have hr3:mi ly ((p'.bring (s.cm k) i rest).fL k) d' l' {s.room.2 with L:=Sp.nk (s.room.2.L++[⟨s.cm k,0,false,0⟩]) k}:=by
      refine hr'.of h'.wf rfl ?_ (λy hy=>?_)
      ·have hb:=Sp.lG (p:=p') (x:=s.cm k) (i:=i) (rest:=rest) (by rw[ND];exact hnone);rw[ND] at hb;have hnew:=Sp.O6 (L:=s.room.2.L) (x:=s.cm k) (by rw[ND,hr'.L];exact Sp.WS p' hnone);rw[ND] at hnew;rw[hb,zI,hnew,hr'.L];rfl
      ·obtain⟨x,hx,rfl⟩:=Sp.Pl.lp hy;have hx':1<=x.page.id/\x.page.id<=ly.top:=by
        rcases zz.1 hx with hx | hx
        ·exact hr'.dA x hx
        ·rw[zq.1 hx];show 1<=(s.cm k).id/\_;rw[ND];omega
       split<;>exact hx'
     have Y_:l'={l with forced:=({s.room.2 with L:=Sp.nk (s.room.2.L++[⟨s.cm k,0,false,0⟩]) k}:Sp.aF).forced}:=hr3.lg (by have:=hS.lg;exact this);refine⟨u9 gW,.inr ⟨s.cm k,A,c,rfl,rfl,ok1,Z9,rfl,hA,(CE hR).mono (λb hb=>⟨hb.1.1,hb.2⟩),?_⟩⟩;show cn ly _ w' gd gl gp {l with forced:=_} _;rw[<-Y_];refine gT yh (Ad.keep (λb hb=>hk3 b (.inl hb) (Ad.dA b hb))) (B1.keep (λb hb=>hk3 b (.inr hb) (B1.dA b hb))) (λb h1 h2=>hn b (.inl h2) h1) (λb h1 h2=>hn b (.inr h2) h1) I4 hr3 hK j4 gW (λb hb=>hb.imp id (λhb=>?_));obtain⟨h1,h2⟩:=wB hR hb;refine⟨h1.1,h2,λe=>?_⟩;rcases e with e | e | e
     ·exact h1.2.1 e
     ·have:=Ad.dA b e;have:=h1.2.2;omega
     ·have:=B1.dA b e;have:=h1.2.2;omega
def kV (ly:Ly) (K:af) (w:World) (gd gl gp:Nat) (l:Sp.Lg) (r:Nat×Sp.aF) (e:Ending) (w':World):Prop:=
 Kept K w w'/\e=.returned (.int .i64 r.1)/\cn ly K w' gd gl gp {l with forced:=r.2.forced} r.2
theorem jl {ly:Ly} {K:af} {w:World} {l:Sp.Lg} {s:Sp.aF} (h:cn ly K w gd gl gp l s) (hb:zB w w') (c:Nat):kV ly K w gd gl gp l (c,s) (.returned (.int .i64 c)) w':=by
 refine⟨Kept.az hb h.lt,rfl,?_⟩;obtain⟨p,dk,hr⟩:=h.rep;show cn ly K w' gd gl gp {l with forced:=s.forced} s;rw[<-hr.Vd];exact h.below hb
theorem JY {ly:Ly} {K:af} {w:World} {l:Sp.Lg} {s':Sp.aF} {p':Sp.Pl} {D F G F':af} {dk:Sp.Dk} (hd:cR D w gd dk) (hg:dP G w gl gd l) (mV:∀b,F b->¬D b) (og:∀b,F b->¬G b) (nX:∀b,D b->¬G b) (hK:∀b,cj F D G b->¬K b) (j4:∀b,K b->b<w.heap.size)
 (h':gY F' w' gp gd gl ly.at_ ly.base p') (ht:aa F F' w w') (hr':mi ly p' dk l s') (c:Nat):kV ly K w gd gl gp l (c,s') (.returned (.int .i64 c)) w':=by
 have ht':aa (cj F D G) (cj F' D G) w w':=ht.fw (λb hb=>.inl hb) (λb hb=>hb.elim .inr (λh=>.inl (.inr h)));refine⟨Kept.gF ht' (λb hk=>⟨j4 b hk,λhF=>hK b hF hk⟩),rfl,?_⟩;show cn ly K w' gd gl gp {l with forced:=s'.forced} s';rw[<-hr'.Vd];refine gT h' (hd.keep (λb hb=>ht.block b (hd.dA b hb) (λe=>mV b e hb))) (hg.keep (λb hb=>ht.block b (hg.dA b hb) (λe=>og b e hb))) (λb h1 h2=>?_) (λb h1 h2=>?_) nX hr' hK j4 ht' (λb hb=>.inl hb)
 ·rcases ht.foot b h1 with e | e
  ·exact mV b e h2
  ·have:=hd.dA b h2;omega
 ·rcases ht.foot b h1 with e | e
  ·exact og b e h2
  ·have:=hg.dA b h2;omega
theorem Am {F:af} {w:World} {at_ base:Nat} {p:Sp.Pl} (h:gY F w gp gd gl at_ base p) (hid:id<4294967296) (hf:∀it,p.find id=some it->it.pins=0):
 Calls prog 75 #[ptr gp,av id] w λe w'=>e=.returned (.int .i64 3)/\zB w w':=by
 obtain⟨R,fb,cb,mb,v,s,r,cs,h⟩:=h;obtain⟨c0,c1,c2,c3,c4,c5,c6,c7⟩:=h.cells;have HM:=zH (cF c6)
 cases kJ:p.find id with
 | none=>
  have hl:=h.gH hid kJ;clear h c0 c1 c2 c3 c5 c7 kJ hf;go_enter func75,ntmps75;go_wp2_with fail;refine HM.out.mono ?_;rintro e w1 ⟨rfl,hw⟩;subst w1;go_wp2_with fail;go_ret;exact⟨rfl,Below.refl _ _⟩
 | some it=>
  have hl:=h.gw hid kJ;have oK:=hf it kJ;have hit:=(Sp.Pl.bu kJ).1;have hlt:=h.wf.fp hit;have cp:=h.pins hit;rw[oK] at cp;have hn:=h.wf.rV;clear h c0 c1 c2 c3 c5 c7 kJ hf oK hit;go_enter func75,ntmps75;go_wp2_with fail;refine HM.out.mono ?_;rintro e w1 ⟨rfl,hw⟩;subst w1;go_wp2_with fail;go_ret;exact⟨rfl,Below.refl _ _⟩
theorem OT {ly:Ly} {K:af} {w:World} {l:Sp.Lg} {s:Sp.aF} (h:cn ly K w gd gl gp l s) (Pt:k<4294967296):
 Calls prog 75 #[ptr gp,av k] w (kV ly K w gd gl gp l (s.dW k)):=by
 have H:=h;obtain⟨p,D,F,G,dk,hpl,hd,hg,mV,og,nX,hr,hK,j4⟩:=h;have cQ:Sp.cJ s.L k=(p.find k).map Sp.It.ri:=by rw[hr.L];exact Sp.lO p k
 by_cases hno:∀it,p.find k=some it->it.pins=0
 ·have e:s.dW k=(3,s):=by
   unfold Sp.aF.dW;rw[cQ]
   cases hf:p.find k with
   | none=>rfl
   | some it=>simp[Sp.It.ri,hno it hf]
  rw[e];refine(Am hpl Pt hno).mono ?_;rintro e' w' ⟨rfl,hb⟩;exact jl H hb 3
 ·cases hf:p.find k with
  | none=>exact absurd (λit h=>by rw[hf] at h;cases h) hno
  | some it=>
   have hp:1<=it.pins:=by
    rcases Nat.eq_zero_or_pos it.pins with e | e
    ·exact absurd (λit' h=>by rw[hf] at h;injection h with h;rw[<-h];exact e) hno
    ·exact e
   have e:s.dW k=(0,{s with L:=Sp.Gq s.L k (λy=>{y with pins:=y.pins-1})}):=by
    unfold Sp.aF.dW;rw[cQ,hf];simp only[zas];rw[zD (by show ¬it.pins=0;omega)]
   rw[e];refine(Hp hpl Pt hf hp).mono ?_;rintro e' w' ⟨rfl,h',ht⟩;refine JY hd hg mV og nX hK j4 h' ht (hr.of h'.wf rfl ?_ (λy hy=>?_)) 0
   ·rw[hr.L];exact Sp.WI p k _ _ (λ_=>rfl)
   ·obtain⟨x,hx,rfl⟩:=Sp.Pl.lp hy;have:=hr.dA x hx
    split<;>exact this
theorem qG {F R:af} {w:World} {at_ base:Nat} {cs:Array Value} {p:Sp.Pl} (h:aH F R w gp gd gl at_ base fb cb mb v s r cs fl ids p) (hid:id<4294967296) (c:Nat)
 (hf:(p.find id=none/\c=3)\/∃it,p.find id=some it/\0<it.pins/\c=9):
 Calls prog 79 #[ptr gp,av id] w λe w'=>e=.returned (.int .i64 c)/\zB w w':=by
 obtain⟨c0,c1,c2,c3,c4,c5,c6,c7⟩:=h.cells;have HM:=zH (cF c6);rcases hf with⟨kJ,rfl⟩ | ⟨it,kJ,hp,rfl⟩
 ·have hl:=h.gH hid kJ;clear h c0 c1 c2 c3 c5 c7 kJ;go_enter func79,ntmps79;go_wp2_with fail;refine HM.out.mono ?_;rintro e w1 ⟨rfl,hw⟩;subst w1;go_wp2_with fail;go_ret;exact⟨rfl,Below.refl _ _⟩
 ·have hl:=h.gw hid kJ;have hit:=(Sp.Pl.bu kJ).1;have hlt:=h.wf.fp hit;have cp:=h.pins hit;have hn:=h.wf.rV;have dp:decide (0<it.pins)=true:=by rw[zA];exact hp
  clear h c0 c1 c2 c3 c5 c7 kJ hit;go_enter func79,ntmps79;go_wp2_with fail;refine HM.out.mono ?_;rintro e w1 ⟨rfl,hw⟩;subst w1;go_wp2_with fail;go_ret;exact⟨rfl,Below.refl _ _⟩
theorem Aq {F R:af} {w:World} {at_ base:Nat} {cs:Array Value} {p:Sp.Pl} (h:aH F R w gp gd gl at_ base fb cb mb v s r cs fl ids p) (hid:id<4294967296) {it:Sp.It} (kJ:p.find id=some it) (hp:it.pins=0)
 {Q:Nat->World->Prop} (hD:Calls prog 149 #[ptr gp,av id] w λe w'=>∃c:Nat,e=.returned (.int .i64 c)/\Q c w'):
 Calls prog 79 #[ptr gp,av id] w λe w'=>∃c:Nat,e=.returned (.int .i64 c)/\Q c w':=by
 obtain⟨c0,c1,c2,c3,c4,c5,c6,c7⟩:=h.cells;have HM:=zH (cF c6);have HD:=zH hD;have hl:=h.gw hid kJ;have hit:=(Sp.Pl.bu kJ).1;have hlt:=h.wf.fp hit;have cp:=h.pins hit;have hn:=h.wf.rV;rw[hp] at cp;clear h c0 c1 c2 c3 c5 c7 kJ hit hp hD;go_enter func79,ntmps79;go_wp2_with fail;refine HM.out.mono ?_;rintro e w1 ⟨rfl,hw⟩;subst w1;go_wp2_with fail;refine HD.out.mono ?_;rintro e w1 ⟨c,rfl,hq⟩;have HQ:=zH hq;clear hq;go_wp2_with fail;go_ret;exact⟨c,rfl,HQ.out⟩
theorem OY {ly:Ly} {K:af} {w:World} {l:Sp.Lg} {s:Sp.aF} (h:cn ly K w gd gl gp l s) (Pt:k<4294967296):
 Calls prog 79 #[ptr gp,av k] w (kV ly K w gd gl gp l (s.dB k)):=by
 have H:=h;obtain⟨p,D,F,G,dk,hpl,hd,hg,mV,og,nX,hr,hK,j4⟩:=h;have cQ:Sp.cJ s.L k=(p.find k).map Sp.It.ri:=by rw[hr.L];exact Sp.lO p k
 obtain⟨R,fb,cb,mb,v,s0,r,cs,hat⟩:=hpl
 cases hf:p.find k with
 | none=>
  have e:s.dB k=(3,s):=by unfold Sp.aF.dB;rw[cQ,hf];rfl
  rw[e];refine(qG hat Pt 3 (.inl ⟨hf,rfl⟩)).mono ?_;rintro e' w' ⟨rfl,hb⟩;exact jl H hb 3
 | some it=>
  rcases Nat.eq_zero_or_pos it.pins with hp | hp
  ·obtain⟨hit,rfl⟩:=Sp.Pl.bu hf;have e:s.dB it.page.id=s.drop it.page.id:=by
    unfold Sp.aF.dB;rw[cQ,hf];simp only[zas];rw[zD (by show ¬0<it.pins;omega)]
   rw[e];have hM:Mem F D G R w gp gd gl ly.at_ ly.base fb cb mb v s0 r cs p.free (p.items.map (·.page.id)) p dk l:=⟨hat,hd,hg,mV,og,nX⟩;have HD:=B6 hM hr.dl hit (hr.inside (hr.dA it hit).1 (hr.dA it hit).2);refine(Aq (Q:=λc w'=>kV ly K w gd gl gp l (s.drop it.page.id) (.returned (.int .i64 c)) w') hat Pt hf hp (HD.mono ?_)).mono ?_
   ·rintro e' w' ⟨c,p2,d',l',rfl,hW,⟨hc,cs',jK,ht⟩ | ⟨rfl,F',D',v',cs',jK,ht⟩⟩
    ·rw[(hr.drops hit hW).1 hc];refine⟨c,rfl,Kept.gF ht (λb hk=>⟨j4 b hk,λhF=>hK b hF hk⟩),rfl,?_⟩;show cn ly K w' gd gl gp {l with forced:=s.forced} s;rw[<-hr.Vd];exact gT ⟨R,fb,cb,mb,v,s0,r,cs',jK.pl⟩ jK.dk jK.lg mV og nX hr hK j4 ht (λb hb=>.inl hb)
    ·obtain⟨e1,hr'⟩:=(hr.drops hit hW).2 rfl;refine⟨0,rfl,Kept.gF ht (λb hk=>⟨j4 b hk,λhF=>hK b hF hk⟩),by rw[e1],?_⟩;have Y_:l'={l with forced:=(s.drop it.page.id).2.forced}:=hr'.lg hW.lg;rw[<-Y_];have e2:(p.drop it.page.id it.idx).items.map (·.page.id)=(p.items.map (·.page.id)).filter (λx=> !(x==it.page.id)):=by
      simp only[Sp.Pl.drop];rw[List.filter_map];rfl
     have yh:=jK.pl;rw[<-e2] at yh;exact gT ⟨R,fb,cb,mb,v',s0+1,r,cs',yh⟩ jK.dk jK.lg jK.FD jK.FG jK.DG hr' hK j4 ht (λb hb=>.inl hb)
   ·rintro e' w' ⟨c,rfl,hq⟩;exact hq
  ·have e:s.dB k=(9,s):=by
    unfold Sp.aF.dB;rw[cQ,hf];simp only[zas];rw[zK (by show 0<it.pins;omega)]
   rw[e];refine(qG hat Pt 9 (.inr ⟨it,hf,hp,rfl⟩)).mono ?_;rintro e' w' ⟨rfl,hb⟩;exact jl H hb 9
end
def Hw:Value:=.agg #[.int .u8 0,.int .u8 0,.int .u32 0,.int .u64 0,.int .u32 0,.slice none 0 0]
theorem Mg:(prog.info? 64).map (λi=>(i.zero,i.size,i.bytes))=some (some Hw,6,48):=by kernel_rfl
theorem e8 {w:World} {cs:List Value} (h:aj w g t cs.toArray):∀j u,cs[j]? =some u->w.cell? ((⟨g,0,none⟩:Addr).add j)=some u:=λj u hu=>by
 have e:(⟨g,0,none⟩:Addr).add j=⟨g,j,none⟩:=by cases j<;>simp[Addr.add]
 rw[e,h.cell,zGA];exact hu
theorem aN {w:World} {base:Nat} (h:w.ownsRow base e sz v n xs) (hk:∀b,v.ownBlock=some b->w'.heap[b]? =w.heap[b]?):w'.ownsRow base e sz v n xs:=by
 refine⟨h.1,?_⟩;rcases h.2 with h' | ⟨b,cap,cur,rfl,hb,hh,rest⟩
 ·exact .inl h'
 ·exact .inr ⟨b,cap,cur,rfl,hb,(hk b rfl).trans hh,rest⟩
theorem Oy {w:World} {base base':Nat} (h:w.ownsRow base e sz v n xs) (hb:base'<=base):w.ownsRow base' e sz v n xs:=by
 refine⟨h.1,?_⟩;rcases h.2 with h' | ⟨b,cap,cur,rfl,AV,rest⟩
 ·exact .inl h'
 ·exact .inr ⟨b,cap,cur,rfl,zl hb AV,rest⟩
theorem Ez {w:World} {base:Nat} (h:w.ownsRow base e sz v n xs) (hb:v.ownBlock=some b):base<=b:=by
 rcases h.2 with⟨rfl,_⟩ | ⟨g,cap,cur,rfl,AV,rest⟩
 ·simp[Value.ownBlock] at hb
 ·simp only[Value.ownBlock,Option.some.injEq] at hb;omega
section
open Go.Maps Go.Sort
theorem BN {k:TypeId} (hk:P.underlying k=some (.int .u32)) {key:Value} {kl:Lit} (h:keyOf P k key=some kl):∃x:Nat,key=av x/\kl=fH x/\x<4294967296:=by
 cases key<;>simp[keyOf,hk,mapKey] at h
 rename_i q a;obtain⟨⟨rfl,hw⟩,rfl⟩:=h;have e1:IntKind.u32.min=0:=rfl;have e2:IntKind.u32.max=4294967295:=rfl;simp[Lit.wf,e1,e2] at hw;obtain⟨x,rfl⟩:=Int.eq_ofNat_of_zero_le hw.1;exact⟨x,rfl,rfl,by omega⟩
theorem Ob {y:Nat} (h:av x=av y):x=y:=by
 simp only[av,Value.int.injEq,true_and] at h;omega
def gZ (D0:DataW Unit) (left:Lit->Bool) (ss:List Nat):Prop:=ss.Nodup/\∀x,x∈ss↔(has D0 (fH x)=true/\left (fH x)=false)
section
variable {D0:DataW Unit} {left:Lit->Bool} {ss:List Nat}
theorem gZ.start (D0:DataW Unit):gZ D0 (has D0) []:=⟨List.nodup_nil,λx=>by cases has D0 (fH x)<;>simp⟩
theorem gZ.step (h:gZ D0 left ss) {y:DataW Unit} (hlk:left (fH x)=true) (hat:∀zd,D0.atKey (fH x) zd=y):gZ D0 (λz=>left z&& !z.sameKey (fH x)) (ss++[x]):=by
 have nB:has D0 (fH x)=true:=has_true_of_atKey hat;have hnew:x∉ss:=λhx=>by have:=((h.2 x).1 hx).2;rw[hlk] at this;cases this
 refine⟨za3.2 ⟨h.1,by simp,λa ha b hb=>by simp at hb;subst hb;exact λe=>hnew (e▸ha)⟩,λy=>?_⟩;by_cases hy:y=x
 ·subst hy;simp[nB,WideAt.sameKey_self (iC y)]
 ·have hs:(fH y).sameKey (fH x)=false:=by
   cases he:(fH y).sameKey (fH x) with
   | false=>rfl
   | true=>exact absurd (ou ((WideAt.sameKey_iff (iC x)).1 he)) hy
  simp[h.2 y,hy,hs]
end
theorem Mq (F:Fence) (n:Nat) (h10:F.fn 241) (hro:F.round=none) (hn:1<=n) (l Bm b nn:Nat) (D0:DataW Unit) (J:List Nat->World->Prop)
 (hY:∀pre x W,J pre W->pre.length<Maps.size D0->YieldAt F (n-1) prog l #[av x] W λe W'=>e=.returned (.bool true)/\J (pre++[x]) W'/\KeepsWalks W W')
 (W:World) (hJ:AbidesFrom W.heap.size J) (hm:W.cell? ⟨Bm,0,none⟩=some (.map (some b))) (hown:W.ownsMap prog 61 (plainElem prog 3) b nn D0) (h0:J [] W):
 CallsIn F n prog 241 #[.func (.yield l) #[] #[],.pointer (some ⟨Bm,0,none⟩)] W λe W'=>(∃v,e=.returned v)/\∃ss:List Nat,(ss.Nodup/\∀x,x∈ss↔has D0 (fH x)=true)/\J ss W':=by
 refine callsIn_of_wp func241 rfl h10 ?_ hro;simp only[ntmps241,zV,zP,zap,Nat.reduceAdd,Nat.reduceSub,zac,zab,zan,zae,zaa,zal]
 gi_wp2_with (first
  | (gi_at_range;refine wpListIn_range_own _ rfl _ 216 rfl 61 3 (int_keyed underlying61) underlying216 _ b nn _ rfl hown ?_;intro w0 hrg0 hg0 hs0)
  | gi_in)
 go_frame
 gi_loopw [3] (λ_ wr=>∃(left:Lit->Bool) (cnt:Nat) (ss:List Nat),wr.ranges prog 61 (plainElem prog 3) b W.heap.size nn D0 left cnt/\ss.length+cnt<=Maps.size D0/\gZ D0 left ss/\J ss wr)
  (λ_ wr=>wr.rangeLeft b W.heap.size)
 case atStart=>
  exact⟨_,_,[],hrg0,by simp,gZ.start D0,hJ [] W w0 none h0 hg0 (λr e=>by cases e)⟩
 case round=>
  obtain⟨left,cnt,ss,hrg,hcs,hC,hJs⟩:=hrel
  gi_wp2_with (first
   | (gi_at_next;refine wpListIn_next_ranges _ rfl _ rfl 61 (int_keyed underlying61) (plainElem prog 3) av (Value.int .i64) (λkey kl hk=>by obtain⟨x,hx,_⟩:=BN underlying61 hk;exact⟨x,hx⟩) (λv y hv=>by obtain⟨c,rfl,_⟩:=plainElem_int_inv underlying3 hv;exact⟨c,rfl⟩) b W.heap.size nn _ _ _ rfl hrg ?_ ?_)
   | gi_in)
  ·intro hc0 hl0
   gi_wp2
   go_end0
   exact⟨⟨_,rfl⟩,ss,⟨hC.1,λx=>by rw[hC.2 x,hl0];simp⟩,hJs⟩
  ·intro x c kl yd yp w2 cnt2 hkey hlk hv hat hrg2 hlt hg2 hs2 hen;obtain⟨x',ex,rfl,_⟩:=BN underlying61 hkey;obtain rfl:x=x':=Ob ex;have hJ2:J ss w2:=hJ ss wr w2 (some W.heap.size) hJs hg2 (λr e=>by cases e;exact⟨za _,hrg.iter_walk⟩);obtain⟨fn,tmps,assign,body,hy,hR⟩:=hY ss x w2 hJ2 (by omega);clear hs2
   gi_wp2
   refine hR.mono ?_;rintro e W3 ⟨rfl,hJ3,hk3⟩
   gi_wp2
   have hrg3:=hrg2.of_walks hk3;go_roundw
   case rel=>exact⟨_,cnt2,ss++[x],hrg3,by simp;omega,hC.step hlk hat,hJ3⟩
   case measure=>rw[hrg3.left_eq,hrg.left_eq];exact hlt
end
section
open Go.Maps Go.Shelf Go.Sort
def apAssign:Code:=(Code.region 2 #[{dst:=some 5,op:=Op.assign (Operand.tmp 7),type:=61,pos:= "iter.go:51",after:=#[],guard:=none}] false)
def apBody:Code:=(Code.block 1 (Code.region 3 #[{dst:=some 8,op:=Op.load 65 (Operand.tmp 2),type:=65,pos:= "iter.go:52",after:=#[],guard:=none},{dst:=some 9,op:=Op.move (Operand.tmp 5),type:=61,pos:= "iter.go:52",after:=#[],guard:=none},{dst:=some 10,op:=Op.buildSlice 65 1 #[(0,Operand.tmp 9)],type:=65,pos:= "iter.go:52",after:=#[{on:=1,ground:=Ground.data}],guard:=none},{dst:=some 11,op:=Op.call {callee:=Callee.builtin Builtin.append,args:=#[Operand.tmp 8,Operand.tmp 10],argTypes:=#[65,65]},type:=65,pos:= "iter.go:52",after:=#[{on:=0,ground:=Ground.data},{on:=2,ground:=Ground.data}],guard:=none},{dst:=none,op:=Op.store 65 (Operand.tmp 2) (Operand.tmp 11),type:=0,pos:= "iter.go:52",after:=#[{on:=3,ground:=Ground.data},{on:=3,ground:=Ground.chain},{on:=0,ground:=Ground.phase},{on:=1,ground:=Ground.phase},{on:=2,ground:=Ground.phase},{on:=3,ground:=Ground.phase}],guard:=none}] false))
def apRec (fn:FuncId) (sv:Value) (Bs D:Nat) (st:LoopState) (pend:Option Code):Loop:=
 {state:=st,pending:=pend,fn,tmps:=#[.slice none 0 0,sv,.pointer (some ⟨Bs,0,none⟩),undef,.slice none 0 0,undef,sv,undef,undef,undef,undef,undef,undef],params:=#[7],assign:=apAssign,body:=apBody,defers:=D}
structure ApAt (w0:World) (fn:FuncId) (sv:Value) (Bs l D:Nat) (ss:List Nat) (W:World):Prop where
 box:∃v,W.heap[Bs]? =some (.cells #[v] 65 (0,0))/\W.ownsRow w0.heap.size 61 1 v ss.length (ss.map av)/\(v=.slice none 0 0↔ss=[])
 L:W.heap[l]? =some (.loop (apRec fn sv Bs D .ready none))
 K:W.heap[D]? =some (.deferred (some []))
 below:zB w0 W
theorem ap_abides (w0:World) (fn:FuncId) (sv:Value) (Bs l D B:Nat) (hB:w0.heap.size<=B):AbidesFrom B (ApAt w0 fn sv Bs l D):=λs W W' row h hg hrow=>by
 have hrow':∀r,row=some r->∃o:Obj,W.heap[r]? =some o/\o.isWalk=true:=λr e=>(hrow r e).2;obtain⟨v,hv,hr,hn⟩:=h.box;exact⟨⟨v,(grownBy_keeps hg hrow' hv rfl).trans hv,ownsRow_abides_a hr hg hrow',hn⟩,(grownBy_keeps hg hrow' h.L rfl).trans h.L,(grownBy_keeps hg hrow' h.K rfl).trans h.K,
  h.below.grown hg h.below.size (λk e=>zl hB (hrow k e).1)⟩
theorem apYield (F:Fence) (m:Nat) (w0:World) (fn:FuncId) (hfn:F.fn fn) (sv:Value) (Bs l D:Nat) (hBl:Bs≠l) (hDl:D≠l) (hDB:D≠Bs) (h0B:w0.heap.size<=Bs) (h0l:w0.heap.size<=l)
 (N:Nat) (hN:N<=maxLen) (hNb:N*4<=140737488355328) (ss:List Nat) (x:Nat) (W:World) (h:ApAt w0 fn sv Bs l D ss W) (hlen:ss.length<N):
 YieldAt F m prog l #[av x] W λe W'=>e=.returned (.bool true)/\ApAt w0 fn sv Bs l D (ss++[x]) W'/\KeepsWalks W W':=by
 obtain⟨i0,hi,hz0,hz1,hz2⟩:=info_parts oz;obtain⟨v,hv,hrow,_⟩:=h.box;refine⟨fn,#[.slice none 0 0,sv,.pointer (some ⟨Bs,0,none⟩),undef,.slice none 0 0,undef,sv,av x,undef,undef,undef,undef,undef],apAssign,apBody,by simpa[apRec] using run_yield (P:=prog) (args:=#[av x]) h.L rfl,roundIn_of_wpIn hfn ?_⟩;have hl:l<W.heap.size:=(zm.1 h.L).1;have hbr:=run_beginRound (P:=prog) h.L rfl;obtain⟨W2,hW2⟩:∃W2,W.putObj l (.loop {apRec fn sv Bs D .ready none with state:=.busy})=W2:=⟨_,rfl⟩;rw[hW2] at hbr;have hg2:W.grownBy W2 (some l):=by rw[<-hW2];exact grownBy_putObj_a _ _ _
 have hk2:KeepsWalks W W2:=by rw[<-hW2];exact KeepsWalks.putObj _ h.L rfl
 have hv2:W2.heap[Bs]? =some (.cells #[v] 65 (0,0)):=by rw[<-hW2];exact(World.putObj_heap_other hBl).trans hv
 have hK2:W2.heap[D]? =some (.deferred (some [])):=by rw[<-hW2];exact(World.putObj_heap_other hDl).trans h.K
 have hL2:W2.heap[l]? =some (.loop {apRec fn sv Bs D .ready none with state:=.busy}):=by rw[<-hW2];exact World.putObj_heap_same hl
 have hrow2:W2.ownsRow w0.heap.size 61 1 v ss.length (ss.map av):=hrow.kept hg2 (ownsRow_ne_a hrow h.L (λcur e=>by cases e));have hb2:zB w0 W2:=h.below.grown hg2 h.below.size (λk e=>by cases e;exact h0l);obtain⟨hc2,hf2⟩:=cell_of_box_a hv2;have hBlt:Bs<W2.heap.size:=(zm.1 hv2).1;have hl2:l<W2.heap.size:=(zm.1 hL2).1;have hDlt:D<W2.heap.size:=(zm.1 hK2).1;have ne_of:∀{j:Nat} {o:Obj},W2.heap[j]? =some o->(∀cur,o≠.cells cur 61 (0,0))->some j≠v.ownBlock:=λhj hno=>by
  rcases ownsRow_ne_a hrow2 hj hno with e | e
  ·rw[e];simp
  ·exact λe'=>e e'.symm
 clear hW2;unfold apAssign
 gi_wp2_with (rw[Oper.semAt_eq _ _ _ (λc h=>by cases h)];go_simp;try go_bits)
 unfold apBody
 gi_wp2_with (first
  | (gi_at_builtin;refine wpListIn_append_own _ rfl _ _ 65 rfl w0.heap.size 61 i0 (.int .u32 0) 1 4 underlying65 hi hz0 hz1 hz2 rfl (by decide) _ _ _ rfl (hrow2.alloc _) ⟨W2.heap.size,0,none⟩ 1 1 [av x] rfl rfl (cell_one_new _ _ _) (by simp[Value.oneCell',av]) (by omega) (by omega) (by have:=hb2.size;simp;omega) ?_;intro v' w3 hown' hg3 hnil3
     have hv3:w3.heap[Bs]? =some (.cells #[v] 65 (0,0)):=(hg3.block Bs (by simp;omega) (ne_of hv2 (λcur e=>by cases e))).trans ((Below.heap_alloc _ _ Bs hBlt).trans hv2);obtain⟨hc3,hf3⟩:=cell_of_box_a hv3;obtain⟨g',cap',cur',rfl,hbase',hgb',hr1,hr2,hr3,hr4⟩:∃g' cap' cur',v'=.slice (some ⟨g',0,none⟩) (ss.length+1) cap'/\w0.heap.size<=g'/\w3.heap[g']? =some (.cells cur' 61 (0,0))/\ss.length+1<=cap'/\cap'<=maxLen/\cur'.size=cap'*1/\cur'.toList.take ((ss.length+1)*1)=ss.map av++[av x]:=by
      rcases hown'.2 with⟨_,h0⟩ | h'
      ·exact absurd h0 (by omega)
      ·exact h'
     go_frame)
  | (rw[Oper.semAt_eq _ _ _ (λc h=>by cases h)];go_simp;try go_bits))
 have hg3':(W2.alloc (.cells #[av x] 61)).grownBy w3 v.ownBlock:=hg3;have hL3:w3.heap[l]? =some (.loop {apRec fn sv Bs D .ready none with state:=.busy}):=(hg3'.block l (by simp;omega) (ne_of hL2 (λcur e=>by cases e))).trans ((Below.heap_alloc _ _ l hl2).trans hL2);have hK3:w3.heap[D]? =some (.deferred (some [])):=(hg3'.block D (by simp;omega) (ne_of hK2 (λcur e=>by cases e))).trans ((Below.heap_alloc _ _ D hDlt).trans hK2);obtain⟨w4,hw4⟩:∃w4,w3.setCell ⟨Bs,0,none⟩ (.slice (some ⟨g',0,none⟩) (ss.length+1) cap')=w4:=⟨_,rfl⟩;rw[hw4];have hg4:w3.grownBy w4 (some Bs):=by rw[<-hw4];exact grownBy_setCell0_a _ _ _
 have hv4:w4.heap[Bs]? =some (.cells #[.slice (some ⟨g',0,none⟩) (ss.length+1) cap'] 65 (0,0)):=by rw[<-hw4];exact heap_setCell_box_a _ hv3
 have hL4:w4.heap[l]? =some (.loop {apRec fn sv Bs D .ready none with state:=.busy}):=(hg4.block l (zm.1 hL3).1 (λe=>hBl (by cases e;rfl))).trans hL3;have hK4:w4.heap[D]? =some (.deferred (some [])):=(hg4.block D (zm.1 hK3).1 (λe=>hDB (by cases e;rfl))).trans hK3;have hrow4:=hown'.kept hg4 (ownsRow_ne_a hown' hv3 (λcur e=>by cases e));have hl4:l<w4.heap.size:=(zm.1 hL4).1;have hb3:zB w0 w3:=(hb2.alloc hb2.size _).grown hg3' (by have:=hb2.size;simp;omega) (λk e=>(hrow2.lt k e).1);have hb4:zB w0 w4:=hb3.grown hg4 hb3.size (λk e=>by cases e;exact h0B);have hk4:KeepsWalks W w4:=((hk2.trans (KeepsWalks.alloc _ _)).trans (KeepsWalks.of_grownBy hg3' (ownsRow_not_walk_a (hrow2.alloc _)))).trans (by rw[<-hw4];exact KeepsWalks.setCell _ _ _);clear hw4;refine⟨_,_,run_endRound none hL4,rfl,⟨⟨_,(World.putObj_heap_other hBl).trans hv4,?_,by simp⟩,World.putObj_heap_same hl4,(World.putObj_heap_other hDl).trans hK4,hb4.grown (grownBy_putObj_a _ _ _) hb4.size (λk e=>by cases e;exact h0l)⟩,hk4.trans (KeepsWalks.putObj _ hL4 rfl)⟩;have:=hrow4.kept (grownBy_putObj_a w4 l (.loop {{apRec fn sv Bs D .ready none with state:=.busy} with state:=if(none:Option Code).isNone then .ready else .done,pending:=none})) (ownsRow_ne_a hrow4 hL4 (λcur e=>by cases e));simpa using this
theorem appendSeq_in (F:Fence) (n:Nat) (h11:F.fn 289) (hro:F.round=none) (hn:2<=n) (g:Nat) (lb:Array Value) (hFg:F.fn g) (eg:∀args w,(callFunc g args).run prog w=.ok (.enter g args) w)
 (S:List Nat->Prop) (N:Nat) (hN:N<=maxLen) (hNb:N*4<=140737488355328) (w:World) (hseq:SeqGives F (n-1) prog g lb av S N w):
 CallsIn F n prog 289 #[.slice none 0 0,.func (.func g) #[] lb] w λe w'=>∃(v:Value) (ss:List Nat),e=.returned v/\S ss/\w'.ownsRow w.heap.size 61 1 v ss.length (ss.map av)/\(v=.slice none 0 0↔ss=[])/\zB w w':=by
 have h1:1<=n:=by omega
 refine callsIn_of_wp_marks func289 rfl h11 ?_ hro;simp only[ntmps289,zV,zP,zap,Nat.reduceAdd,Nat.reduceSub,zac,zab,zan,zae,zaa,zal]
 gi_wp2
 refine wpIn_rangeFunc ?_;intro fn hfn;rw[hro];obtain⟨W0,hW0⟩:∃W0,w.alloc (.cells #[.slice none 0 0] 65)=W0:=⟨_,rfl⟩;have hs0:W0.heap.size=w.heap.size+1:=by rw[<-hW0];simp
 have hv0:W0.heap[w.heap.size]? =some (.cells #[.slice none 0 0] 65 (0,0)):=by rw[<-hW0];exact World.alloc_heap_new w _
 have hb0:zB w W0:=by rw[<-hW0];exact(Below.refl _ w).alloc (za _) _
 rw[hW0];obtain⟨W1,hW1⟩:∃W1,(W0.alloc (.deferred (some []))).alloc (.loop (apRec fn (.func (.func g) #[] lb) w.heap.size W0.heap.size .ready none))=W1:=⟨_,rfl⟩;have hold:∀k,k<W0.heap.size->W1.heap[k]? =W0.heap[k]? :=λk hk=>by
  rw[<-hW1];exact(Below.heap_alloc _ _ k (by simp;omega)).trans (Below.heap_alloc _ _ k hk)
 have hb1:zB w W1:=by rw[<-hW1];exact(hb0.alloc hb0.size _).alloc (by have:=hb0.size;simp;omega) _
 have hs1:W1.heap.size=W0.heap.size+2:=by rw[<-hW1];simp
 have hM:ApAt w fn (.func (.func g) #[] lb) w.heap.size (W0.heap.size+1) W0.heap.size [] W1:=
  ⟨⟨_,(hold w.heap.size (by omega)).trans hv0,⟨rfl,.inl ⟨rfl,rfl⟩⟩,by simp⟩,
   by rw[<-hW1];have:=World.alloc_heap_new (W0.alloc (.deferred (some []))) (.loop (apRec fn (.func (.func g) #[] lb) w.heap.size W0.heap.size .ready none));rwa [World.size_alloc] at this,
   by rw[<-hW1];exact(Below.heap_alloc _ _ _ (by simp)).trans (World.alloc_heap_new W0 _),hb1⟩
 refine⟨W0.heap.size+1,[{target:=.collected W0.heap.size,args:=#[]}],W1,{target:=.fn (.func g) lb,args:=#[.func (.yield (W0.heap.size+1)) #[] #[]]},W1,g,
  #[.func (.yield (W0.heap.size+1)) #[] #[]]++lb,W1,?_,?_,?_,?_,λ_=>h1,?_⟩
 ·rw[<-hW1];exact run_enterLoop_outer _ _ _ _ _
 ·simp[resolve,go_sem]
 ·intro f' hf';simp[Target.leads] at hf';subst hf';exact hFg
 ·simp[invoke,go_sem,eg]
 ·refine(hseq (W0.heap.size+1) (ApAt w fn (.func (.func g) #[] lb) w.heap.size (W0.heap.size+1) W0.heap.size) W1 hb1 (ap_abides _ _ _ _ _ _ _ hb1.size)
   (λpre x W hJ hl=>apYield F (n-1-1) w fn hfn _ w.heap.size (W0.heap.size+1) W0.heap.size (by omega) (by omega) (by omega) (za _) (by omega) N hN hNb pre x W hJ hl) hM).mono ?_
  rintro e W2 ⟨⟨v0,rfl⟩,ss,hS,h2⟩;obtain⟨v,hv,hrow,hnil⟩:=h2.box;have hend:=run_endLoop (P:=prog) h2.L (by simp[apRec]);obtain⟨W3,hW3⟩:∃W3,W2.putObj (W0.heap.size+1) (.loop {apRec fn (.func (.func g) #[] lb) w.heap.size W0.heap.size .ready none with state:=.exhausted})=W3:=⟨_,rfl⟩;rw[hW3] at hend;have hg3:W2.grownBy W3 (some (W0.heap.size+1)):=by rw[<-hW3];exact grownBy_putObj_a _ _ _
  have hv3:W3.heap[w.heap.size]? =some (.cells #[v] 65 (0,0)):=by rw[<-hW3];exact(World.putObj_heap_other (by omega)).trans hv
  have hK3:W3.heap[W0.heap.size]? =some (.deferred (some [])):=by rw[<-hW3];exact(World.putObj_heap_other (by omega)).trans h2.K
  have hrow3:=hrow.kept hg3 (ownsRow_ne_a hrow h2.L (λcur e=>by cases e));have hb3:zB w W3:=h2.below.grown hg3 h2.below.size (λk e=>by cases e;omega);obtain⟨hc3,hf3⟩:=cell_of_box_a hv3;clear hW3;refine⟨none,W3,hend,?_⟩
  gi_wp2
  rw[<-hs0];refine⟨by simp,.inl ⟨_,_,rfl,run_takeDeferred hK3,?_⟩⟩;exact⟨_,results_tmp rfl _ _ _,v,ss,rfl,hS,hrow3.kept (grownBy_putObj_a _ _ _) (ownsRow_ne_a hrow3 hK3 (λcur e=>by cases e)),hnil,hb3.grown (grownBy_putObj_a _ _ _) hb3.size (λk e=>by cases e;omega)⟩
theorem collect_in (F:Fence) (n:Nat) (h8:F.fn 240) (h11:F.fn 289) (hro:F.round=none) (hn:3<=n) (g:Nat) (lb:Array Value) (hFg:F.fn g) (eg:∀args w,(callFunc g args).run prog w=.ok (.enter g args) w)
 (S:List Nat->Prop) (N:Nat) (hN:N<=maxLen) (hNb:N*4<=140737488355328) (w:World) (hseq:SeqGives F (n-1-1) prog g lb av S N w):
 CallsIn F n prog 240 #[.func (.func g) #[] lb] w λe w'=>∃(v:Value) (ss:List Nat),e=.returned v/\S ss/\w'.ownsRow w.heap.size 61 1 v ss.length (ss.map av)/\(v=.slice none 0 0↔ss=[])/\zB w w':=by
 have h1:1<=n:=by omega
 refine callsIn_of_wp func240 rfl h8 ?_ hro;simp only[ntmps240,zV,zP,zap,Nat.reduceAdd,Nat.reduceSub,zac,zab,zan,zae,zaa,zal]
 gi_wp2_with (gi_at_call 289;refine(appendSeq_in F (n-1) h11 hro (by omega) g lb hFg eg S N hN hNb _ hseq).mono ?_;rintro e w' ⟨v,ss,rfl,hS,hrow,hnil,hb⟩)
 go_ret;exact⟨v,ss,rfl,hS,hrow,hnil,hb⟩
end
section
open Go.Maps Go.Sort
theorem Ps (F:Fence) (n:Nat) (h7:F.fn 191) (hro:F.round=none) (mb:Option Nat) (w:World):
 CallsIn F n prog 191 #[.map mb] w λe w'=>e=.returned (.func (.func 241) #[] #[.pointer (some ⟨w.heap.size,0,none⟩)])/\w'=w.alloc (.cells #[.map mb] 216):=by
 refine callsIn_of_wp func191 rfl h7 ?_ hro;simp only[ntmps191,zV,zP,zap,Nat.reduceAdd,Nat.reduceSub,zac,zab,zan,zae,zaa,zal]
 gi_wp2
 go_ret;exact⟨rfl,rfl⟩
theorem keys_gives (F:Fence) (n:Nat) (h10:F.fn 241) (hro:F.round=none) (hn:1<=n) (Bm b nn:Nat) (D0:DataW Unit) (w:World) (hBm:Bm<w.heap.size)
 (hm:w.cell? ⟨Bm,0,none⟩=some (.map (some b))) (hown:w.ownsMap prog 61 (plainElem prog 3) b nn D0):
 SeqGives F n prog 241 #[.pointer (some ⟨Bm,0,none⟩)] av (λss=>ss.Nodup/\∀x,x∈ss↔has D0 (fH x)=true) (Maps.size D0) w:=λl J W hW hJ hY h0=>by
 have hown':W.ownsMap prog 61 (plainElem prog 3) b nn D0:=by
  have hbl:=hown.lt;obtain⟨es,clock,hb,Ft,hs,hD⟩:=hown;exact⟨es,clock,(hW.block b hbl).trans hb,Ft,hs,hD⟩
 exact Mq F n h10 hro hn l Bm b nn D0 J hY W hJ ((hW.cell (p:=⟨Bm,0,none⟩) hBm).trans hm) hown' h0
theorem AG (p:Option Addr) (cap:Nat) (w:World):
 Calls prog 250 #[.slice p 0 cap,.int .i64 0,.int .i64 0] w λe w'=>e=.returned (.tuple #[])/\w'=w:=by
 go_enter func250,ntmps250;go_wp2_with fail;refine wp_loop_rounds 1 ?_;rw[rounds_succ];go_wp2_with fail
 go_end0
 exact⟨rfl,rfl⟩
theorem Tp (p:Option Addr) (cap:Nat) (w:World) (lim:Int):
 Calls prog 213 #[.slice p 0 cap,.int .i64 0,.int .i64 0,.int .i64 lim] w λe w'=>e=.returned (.tuple #[])/\w'=w:=by
 have HI:=zH (AG p cap w);go_enter func213,ntmps213;go_wp2_with fail;refine wp_loop_rounds 1 ?_;rw[rounds_succ];go_wp2_with fail;refine HI.out.mono ?_;rintro e w1 ⟨rfl,hw⟩;subst w1;go_wp2_with fail;refine bodyPost_ret (results_none rfl _ _ _) rfl ?_;exact⟨rfl,rfl⟩
theorem Oo (p:Option Addr) (cap:Nat) (w:World):
 Calls prog 162 #[.slice p 0 cap] w λe w'=>e=.returned (.tuple #[])/\w'=w:=by
 have HP:=zH (Tp p cap w);have HL:=zH fun(x:Int) (W:World) (h0:0<=x) (h1:x<=18446744073709551615)=>Tryz.bits_Len x W h0 h1;go_enter func162,ntmps162;go_wp2_with fail;refine(HL.out _ _ (by omega) (by omega)).mono ?_;rintro e w1 ⟨rfl,hw⟩;subst w1;go_wp2_with fail;refine(HP.out _).mono ?_;rintro e w1 ⟨rfl,hw⟩;subst w1;go_wp2_with fail
 go_end0
 exact⟨rfl,rfl⟩
theorem G7 {w:World} {Bm:Nat} {lk:Nat->Option Nat} (hm:w.cell? ⟨Bm,0,none⟩=some (.map (some b))) (hBm:Bm<w.heap.size) (hM:dV prog 61 3 w b m lk) (h12:m<=12):
 Calls prog 190 #[.func (.func 241) #[] #[.pointer (some ⟨Bm,0,none⟩)]] w λe w'=>
  ∃v ss,e=.returned v/\ss.Nodup/\(∀x,x∈ss↔(lk x).isSome)/\w'.ownsRow w.heap.size 61 1 v ss.length ((Sp.sorted ss).map av)/\zB w w':=by
 obtain⟨D,hown,hsz,hlk⟩:=hM;have hseq:=keys_gives Fence.wide (5-1-1) trivial rfl (by omega) Bm b m D w hBm hm hown;have HC:=zH (callsIn_wide.1 (collect_in Fence.wide 5 trivial trivial rfl (by omega) 241 _ trivial (enters_of func241 (by kernel_rfl) rfl) _ (Maps.size D) (by unfold maxLen;omega) (by omega) w hseq.bounded));go_enter func190,ntmps190;go_wp2_with fail;refine HC.out.mono ?_;rintro e w1 ⟨v,ss,rfl,⟨⟨hnd,hS⟩,hlen⟩,hrow,hnil,hb⟩;have hS':∀x,x∈ss↔(lk x).isSome:=λx=>by
  rw[hS x]
  cases hl:lk x with
  | none=>simp[(hlk x).2 hl]
  | some i=>simp[((hlk x).1 i hl).1]
 rcases hrow.2 with⟨rfl,h0⟩ | ⟨g,cap,cur,rfl,hbg,hh,r1,r2,r3,r4⟩
 ·have he:ss=[]:=zy h0;subst he;have HN:=zH (Oo none 0 w1);go_wp2_with fail;refine HN.out.mono ?_;rintro e w2 ⟨rfl,hw⟩;subst w2;go_wp2_with fail;go_ret;have e0:Sp.sorted []=[]:=zy (by rw[(Sp.aX []).1.length_eq];rfl);exact⟨.slice none 0 0,[],rfl,hnd,hS',by rw[e0];exact World.ownsRow_nil _ _ _ _,hb⟩
 ·have VF:∀j,j<ss.length->cur[j]? =some (av ss[j]!):=λj hj=>by
   have:=congrArg (λl=>l[j]?) r4;simp only[Nat.mul_one,zT,hj,if_true] at this;rw[zZ] at this;rw[this];simp[hj]
  have HS:=zH (xe (cap:=cap) (show aj w1 g 61 cur from hh) (by omega) VF);have Fq:(Sp.sorted ss).length=ss.length:=(Sp.aX ss).1.length_eq;go_wp2_with fail;refine HS.out.mono ?_;rintro e w2 ⟨rfl,cs',Y3,hsz',hc',hg'⟩;go_wp2_with fail;go_ret;refine⟨.slice (some ⟨g,0,none⟩) ss.length cap,ss,rfl,hnd,hS',⟨by simp[Fq],.inr ⟨g,cap,cs',rfl,hbg,Y3,r1,r2,by rw[hsz'];exact r3,?_⟩⟩,hb.grown hg' hb.size (λk e=>by injection e with e;omega)⟩;apply za9;intro j;rw[Nat.mul_one,zT]
  split
  ·rename_i hj;rw[zZ,hc' j hj,zN,zk (by omega),zG _ j (by omega)];rfl
  ·rename_i hj;rw[List.getElem?_eq_none (by simp;omega)]
theorem LN {w:World} {base base':Nat} (h:w.ownsRow base e sz v n xs) (hb:base'<=base):w.ownsRow base' e sz v n xs:=by
 refine⟨h.1,?_⟩;rcases h.2 with h' | ⟨b,cap,cur,rfl,AV,rest⟩
 ·exact .inl h'
 ·exact .inr ⟨b,cap,cur,rfl,zl hb AV,rest⟩
theorem Sp.sorted_perm {l':List Nat} (h:l.Perm l'):Sp.sorted l=Sp.sorted l':=
 List.Perm.eq_of_pairwise (le:=λa b=>a<=b) (λ_ _ _ _ h1 h2=>Nat.le_antisymm h1 h2) (Sp.aX l).2 (Sp.aX l').2 (((Sp.aX l).1.trans h).trans (Sp.aX l').1.symm)
theorem xF {F:af} {w:World} {at_ base:Nat} {p:Sp.Pl} (h:gY F w gp gd gl at_ base p) (h12:p.n<=12):
 Calls prog 122 #[ptr gp] w λe w'=>∃v,e=.returned v/\w'.ownsRow w.heap.size 61 1 v p.items.length ((Sp.sorted (p.items.map (·.page.id))).map av)/\zB w w':=by
 obtain⟨R,fb,cb,mb,v,s,r,cs,h⟩:=h;obtain⟨c0,c1,c2,c3,c4,c5,c6,c7⟩:=h.cells;have HM:=zH (cF c6);have hlen:=h.wf.len;have HK:=zH (callsIn_wide.1 (Ps Fence.wide 5 trivial rfl (some mb) w));have hb0:=(zR w).alloc (za _) (.cells #[.map (some mb)] 216);have HS:=zH (G7 (w:=w.alloc (.cells #[.map (some mb)] 216)) (Bm:=w.heap.size) (((aj.new w 216 #[.map (some mb)]).cell 0).trans rfl) (by simp) (h.map.alloc (.cells #[.map (some mb)] 216)) (by omega));have hwf:=h.wf;clear h c0 c1 c2 c3 c4 c5 c7;go_enter func122,ntmps122;go_wp2_with fail;refine HM.out.mono ?_;rintro e w1 ⟨rfl,hw⟩;subst w1;go_wp2_with fail;refine HK.out.mono ?_;rintro e w1 ⟨rfl,hw⟩;subst w1;go_wp2_with fail;refine HS.out.mono ?_;rintro e w2 ⟨v2,ss,rfl,hnd,hS,hrow,hb⟩;have eY:ss.Perm (p.items.map (·.page.id)):=(List.perm_ext_iff_of_nodup hnd hwf.ids).2 λx=>by
  rw[hS x];unfold Sp.Pl.lk;rw[Option.isSome_map,zn];constructor
  ·intro hx;obtain⟨it,hit⟩:=Option.isSome_iff_exists.1 hx;obtain⟨h1,h2⟩:=Sp.Pl.bu hit;exact⟨it,h1,h2⟩
  ·rintro⟨it,hit,rfl⟩;rw[Sp.Pl.gy hwf hit];rfl
 have hl2:ss.length=p.items.length:=by rw[eY.length_eq,zM]
 rw[Sp.sorted_perm eY,hl2] at hrow;go_wp2_with fail;go_ret;exact⟨v2,rfl,LN hrow (by simp),hb0.trans (hb.mono (by simp))⟩
end
open Go.RowKit Go.Conc
def tj (l:List (Nat×Nat)):List Value:=(l.map λx=>[.int .u32 (x.1:Nat),.int .u64 (x.2:Nat)]).flatten
theorem KF (a b:List (Nat×Nat)):tj (a++b)=tj a++tj b:=by simp[tj]
theorem rO:(prog.info? 111).map (λi=>(i.zero,i.size,i.bytes))=some (some (.agg #[.int .u32 0,.int .u64 0]),2,16):=by kernel_rfl
namespace Sp
def Pl.uy (p:Pl) (n:Nat):Nat:=match p.find n with
 | some it=>it.from_
 | none=>0
def Pl.FO (p:Pl) (q:List Nat):List (Nat×Nat):=(q.filter p.jR).map λn=>(n,p.uy n)
theorem Pl.Rn (p:Pl) (q:List Nat) (n:Nat):p.FO (q++[n])=if p.jR n=true then p.FO q++[(n,p.uy n)] else p.FO q:=by
 unfold Pl.FO;rw[zba];by_cases h:p.jR n=true
 ·rw[zK h,zU h];simp
 ·rw[zD h,zQ h];simp
theorem Pl.Rm {p:Pl} (h:k<q.length):p.FO (q.take (k+1))=if p.jR q[k]! =true then p.FO (q.take k)++[(q[k]!,p.uy q[k]!)] else p.FO (q.take k):=by
 rw[zg h,zG _ k h,Pl.Rn]
theorem Pl.Uz (p:Pl) (q:List Nat):(p.FO q).length<=q.length:=by
 unfold Pl.FO;rw[zM];exact zau _ _
end Sp
def Lb (w:World) (p:Sp.Pl) (e:Ending) (w':World):Prop:=
 ∃v,e=.returned v/\w'.ownsRow w.heap.size 111 2 v (p.FO (Sp.sorted (p.items.map (·.page.id)))).length (tj (p.FO (Sp.sorted (p.items.map (·.page.id)))))/\zB w w'
theorem Hs {F:af} {w:World} {at_ base:Nat} {p:Sp.Pl} (h:gY F w gp gd gl at_ base p) (h12:p.n<=12):
 Calls prog 47 #[ptr gp] w (Lb w p):=by
 have Zz:=zH (xF h h12);have hlen:=h.wf.len;have lZ:=h.wf.rV;have eY:=(Sp.aX (p.items.map (·.page.id))).1;obtain⟨R,fb,cb,mb,v,s,r,cs,hat⟩:=h;have tS:Hid (∀n∈Sp.sorted (p.items.map (·.page.id)),n<4294967296/\∃it,p.find n=some it):=λn hn=>by
  obtain⟨it,hit,rfl⟩:=zn.1 (eY.mem_iff.1 hn);exact⟨(hat.wf.pg it hit).1.2.2.1,it,Sp.Pl.gy hat.wf hit⟩
 have TV:(Sp.sorted (p.items.map (·.page.id))).length=p.items.length:=by rw[eY.length_eq,zM]
 have H0:=zH hat;obtain⟨i9,Yd,hz9,hz91,hz92⟩:=info_parts wG;obtain⟨iH,P9,Fi,Fh,Fg⟩:=info_parts rO;have hiH:=zH P9;have Xu:=zH Fi;have Xt:=zH Fh;have Xs:=zH Fg;unfold Lb;rw[<-TV] at Zz;generalize Sp.sorted (p.items.map (·.page.id))=q at*;clear P9 Fi Fh Fg hat eY;have hq12:q.length<=12:=by omega
 clear TV;go_enter func47,ntmps47;go_wp2_with fail;refine Zz.out.mono ?_;rintro e w1 ⟨v1,rfl,yf,hb1⟩;have HV:=zH yf;have H1:=zH (H0.out.keep hb1.size (λb hb=>hb1.block b (H0.out.lt b hb)));have YI:=hb1;obtain⟨A1,c1,rfl,mU⟩:∃A c,v1=.slice A q.length c/\Reads (λb=>w.heap.size<=b) w1 1 A q.length (q.map av):=by
  rcases yf.2 with⟨h0,h1⟩ | ⟨g,cap,cur,h0,_⟩
  ·have:q=[]:=zy h1;subst this;exact⟨none,0,h0,Reads.none_⟩
  ·refine⟨some ⟨g,0,none⟩,cap,h0,?_⟩;subst h0;exact eX yf
 have Cq:=zH mU;clear yf mU Zz hb1;go_wp2_with fail;go_loopw [2,9] (λv5 i wr=>∃(k:Nat) (A5:Option Addr) (n5 c5:Nat),k<=q.length/\v5=.slice A5 n5 c5/\n5=(p.FO (q.take k)).length/\wr.ownsRow w1.heap.size 111 2 (.slice A5 n5 c5) (p.FO (q.take k)).length (tj (p.FO (q.take k)))/\i=.int .i64 k/\aa bM bM w1 wr) (λ_ i _=>q.length-(intOf i).toNat)
 case atStart=>exact⟨0,none,0,0,by omega,rfl,rfl,World.ownsRow_nil _ _ _ _,rfl,aa.refl _ _⟩
 case round=>
  obtain⟨k,A5,n5,c5,hk,rfl,uZ,hown,rfl,htr⟩:=hrel;have H2:=zH (H1.out.keep htr.size (λb hb=>htr.block b (H1.out.lt b hb) (λe=>e)));have HO:=zH hown;have Wd:=zH uZ;clear hown uZ;by_cases hlt:k<q.length
  ·obtain⟨b,o,u,rfl,_,_,hu,hcell⟩:=(Reads.below Cq.out htr.ei).at_ hlt;have My:q[k]? =some q[k]! :=by rw[zG q k hlt];exact zk hlt
   rw[zN,My] at hu;injection hu with hu;subst hu;obtain⟨hid,it,hf⟩:=tS.out q[k]! (by rw[zG q k hlt];exact zw hlt);have Dg:=zH (Sp.Pl.Rm (p:=p) hlt);have hmeas:k+1<=q.length:=hlt;have hdlen:=Sp.Pl.Uz p (q.take k);have htkl:(q.take k).length<=k:=by simp;omega
   clear My;generalize q[k]! =id at*;obtain⟨hit,rfl⟩:=Sp.Pl.bu hf;have vH:Hid (p.jR it.page.id=it.aK/\p.uy it.page.id=it.from_):=zH (by unfold Sp.Pl.jR Sp.Pl.uy;rw[hf];exact⟨rfl,rfl⟩);obtain⟨A,c,hA,hR,hc⟩:=H2.out.fr.item it hit;have vG:=H2.out.wf.fp hit;have u7:=fun(W:World) (hb:aj W fb 213 cs)=>rF hb rfl hc;have wK:∀W,aH F R W gp gd gl at_ base fb cb mb v s r cs p.free (p.items.map (·.page.id)) p->W.cell? ⟨gp,4,none⟩=some (.slice (some ⟨fb,0,none⟩) p.n p.n)/\W.cell? ⟨gp,6,none⟩=some (.map (some mb))/\
    (Instr.lookup 216 (.map (some mb)) (av it.page.id) false).run prog W=.ok (.int .i64 it.idx) W/\aj W fb 213 cs:=λW h=>by
    obtain⟨c0,c1,c2,c3,c4,c5,c6,c7⟩:=h.cells;exact⟨c4,c6,h.look hid hf,h.fr.blk⟩
   have yX:=zH wK;have HL:=zH u7;clear wK u7 hc hA hR hf;go_wp2_with fail;refine eV (λW=>zC W gp 4 (.slice (some ⟨fb,0,none⟩) p.n p.n)/\zC W gp 6 (.map (some mb))/\
    (Instr.lookup 216 (.map (some mb)) (av it.page.id) false).run prog W=.ok (.int .i64 it.idx) W/\aj W fb 213 cs) (λj=>j==13) rfl ?_
   have hS:=zH (yX.out wr.drew (H2.out.keep (za _) (λ_ _=>rfl)))
   repeat (refine bK hS.out ?_)
   refine kT 11 24 (v:=.agg (aQ it A c).toArray) rfl hS.out ?_ ?_
   ·intro w hSw;exact ay _ _ _ rfl rfl (HL.out w hSw.2.2.2)
   have hk3:=H2.out.keep (w':=wr.drew.alloc (.cells cu.toArray 213)) (by simp) (λb hb=>Below.heap_alloc wr.drew _ b (H2.out.lt b hb));refine fe 12 5 (v:=.pointer (some ⟨wr.drew.heap.size,0,none⟩)) (w':=wr.drew.alloc (.cells cu.toArray 213)) rfl (jX _ i9 _ _ rfl Yd hz9 rfl) (λ_=>yX.out _ hk3) ?_;have fq:=aj.new wr.drew 213 cu.toArray;have uj:=htr.drew.alloc (.cells cu.toArray 213);have SC:w1.heap.size<=wr.drew.heap.size:=htr.size;have nA:=(aa.refl bM wr).drew.alloc (.cells cu.toArray 213);have PX:wr.heap.size<=wr.drew.heap.size:=za _;obtain⟨g9,nC⟩:=zE wr.drew.heap.size;obtain⟨w3,hw3⟩:=zE (wr.drew.alloc (.cells cu.toArray 213));rw[<-hw3,<-nC] at fq ⊢;rw[<-hw3] at uj nA;rw[<-nC] at SC PX;clear hw3 nC hk3 hS HL yX;refine jx 13 (w':=w3.setRow g9 (aQ it A c).toArray) rfl (aq _ _ _ _ _ rfl rfl rfl (ax w3 g9 0 _ _ _ (aQ it A c).toArray fq pZ (by show 0+9<=9;omega) (lQ it A c))) (λh=>nomatch h) ?_;refine aC (by kernel_rfl) ?_ _;rename_i K9 aT;refine aT _ _ ?_;have fq:=fq.setRow (aQ it A c).toArray;have uj:=uj.setRow (g:=g9) (.inr SC) (aQ it A c).toArray;have nA:=nA.setRow (g:=g9) (.inr PX) (aQ it A c).toArray;obtain⟨w4,hw4⟩:=zE (w3.setRow g9 (aQ it A c).toArray);rw[<-hw4] at fq uj nA ⊢;clear hw4;have Df:=bH HO.out (w':=w4) (λb hb=>nA.block b (HO.out.lt b hb).2 (λe=>e));have f7:=fq.cell 7;have f8:=fq.cell 8;simp only[aQ,zGA,zGB,zGC] at f7 f8;obtain⟨vH,Yy⟩:=vH.out;rw[vH,Yy] at Dg;have hsw4:=nA.size;have hsr1:=htr.size
   cases hd:it.aK with
   | false=>
    rw[hd] at f7 Dg;rw[zD (by decide)] at Dg;have UO:=zH Df;clear fq hcell Df nA vH hd Yy;go_wp2_with fail;go_roundw
    case rel=>exact⟨k+1,A5,n5,c5,hmeas,rfl,by rw[Dg.out];exact Wd.out,by rw[Dg.out];exact UO.out,by go_num,uj⟩
    case measure=>simp[intOf];omega
   | true=>
    rw[hd] at f7 Dg;rw[zK rfl] at Dg;have hba:=(zR w4).alloc (za _) (.cells #[av it.page.id,.int .u64 it.from_] 111);have VR:=zH (cq Df hba);have hn13:(p.FO (q.take k)).length<=12:=by omega
    have Fv:Hid (∀(j:Nat) (u:Value),([av it.page.id,.int .u64 it.from_]:List Value)[j]? =some u->(w4.alloc (.cells #[av it.page.id,.int .u64 it.from_] 111)).cell? ((⟨w4.heap.size,0,none⟩:Addr).add j)=some u):=by
     intro j u hu
     match j,hu with
     | 0,hu=>exact((aj.new w4 _ _).cell 0).trans hu
     | 1,hu=>exact((aj.new w4 _ _).cell 1).trans hu
     | j+2,hu=>simp at hu
    have vF:Hid (∀u∈([av it.page.id,.int .u64 it.from_]:List Value),u.oneCell'=true):=by
     intro u hu;simp only[zW,zak,or_false] at hu;rcases hu with rfl | rfl<;>rfl
    rw[Wd.out] at*;clear fq hcell Df nA vH hd Yy;go_wp2_with (at_builtin;refine aO _ rfl _ _ 33 rfl w1.heap.size 111 iH _ 2 16 underlying33 hiH.out Xu.out Xt.out Xs.out rfl (by decide) _ _ _ rfl VR.out ⟨w4.heap.size,0,none⟩ 1 1 [av it.page.id,.int .u64 it.from_] rfl rfl Fv.out vF.out (by unfold maxLen;omega) (by omega) (by simp;omega) ?next)
    case next=>
     intro v6 w6 oL jI _;have iA:aa bM bM w1 w6:=(uj.next hba).grown jI (λb hb=>.inr (VR.out.lt b hb).1);obtain⟨g6,c6,rfl⟩:=bP oL (by omega);have NP:=zH oL;clear oL jI VR hba;go_wp2_with fail;go_roundw
     case rel=>
      refine⟨k+1,_,_,c6,hmeas,rfl,by rw[Dg.out];simp,?_,by go_num,iA⟩;rw[Dg.out,zo,KF];exact NP.out
     case measure=>simp[intOf];omega
  ·obtain rfl:k=q.length:=by omega
   rw[zL] at HO Wd;have hsw:=htr.size;have HB:=zH (YI.trans ((htr.ei).mono YI.size));have hs01:=YI.size;clear htr H2;go_wp2_with fail;go_ret;refine⟨_,rfl,?_,HB.out⟩;refine⟨HO.out.1,?_⟩;rcases HO.out.2 with h | ⟨g',cap,cur,e,hb,rest⟩
   ·exact .inl h
   ·exact .inr ⟨g',cap,cur,e,zl hs01 hb,rest⟩
theorem yD {w w'':World} {row:Option Nat} (h:w.grownBy w' row) (h':w'.grownBy w'' row):w.grownBy w'' row:=
 ⟨h'.os.trans h.os,h'.tape.trans h.tape,h'.output.trans h.output,zl h.size h'.size,λb hb hne=>(h'.block b (zf hb h.size) hne).trans (h.block b hb hne)⟩
theorem uK {w:World} {ops:Array Oper} {rest:List Oper} {Q:Exit->Act->World->Prop} (hgd:o.guard=none) (s x:Operand) (t:TypeId)
 (ho:o.op=.call {callee:=.builtin .append,args:=#[s,x],argTypes:=#[t,t]})
 (base:Nat) (e:TypeId) (i:TypeInfo) (z:Value) (bytes:Nat) (ht:P.underlying t=some (.slice e)) (hi:P.info? e=some i) (hz:i.zero=some z)
 (hsize:i.size=1) (hby:i.bytes=bytes) (hzs:z.cells.size=1)
 (v:Value) (n:Nat) (xs:List Value) (hs:a.eval s=v) (hown:w.ownsRow base e 1 v n xs)
 (y:Value) (hx:a.eval x=.slice (some ⟨w.heap.size,0,none⟩) 1 1) (hy:y.oneCell'=true)
 (h63:n+1<=maxLen) (hbytes:(n+1)*bytes<=140737488355328) (hbase:base<=w.heap.size)
 (h:∀v' w',w'.ownsRow base e 1 v' (n+1) (xs++[y])->w.grownBy w' v.ownBlock->(∀k,v'.ownBlock=some k->v.ownBlock=some k\/w.heap.size<=k)->wpList P ops Q rest (a.put o.dst v') w'):wpList P ops Q (o::rest) a (w.alloc (.cells #[y] e)):=by
 refine aO _ hgd s x t ho base e i z 1 bytes ht hi hz hsize hby hzs (by omega) v n xs hs (hown.alloc _) ⟨w.heap.size,0,none⟩ 1 1 [y] hx rfl ?_ (λu hu=>by rw[zq.1 hu];exact hy) h63 hbytes (by simp;omega) λv' w' h1 h2 h3=>h v' w' h1 (yD (World.grownBy_alloc w _ _) h2) λk hk=>?_
 ·exact e8 (cs:=[y]) (aj.new w e #[y])
 ·rcases h3 k hk with h3 | h3
  ·exact .inl h3
  ·simp at h3;exact .inr (by omega)
open Go.RowKit
namespace Sp
structure Ac where
 tx:Nat
 first:Nat
 last:Nat
 next:Nat
 deriving DecidableEq
structure bI where
 d:List (Nat×Nat)
 t:List Ac
 tx:Nat
 num:Nat
end Sp
def tG (l:List Sp.Ac):List Value:=(l.map λx=>[.int .u64 (x.tx:Nat),.int .u64 (x.first:Nat),.int .u64 (x.last:Nat),.int .u64 (x.next:Nat)]).flatten
theorem KP (a b:List Sp.Ac):tG (a++b)=tG a++tG b:=by simp[tG]
theorem gU {l:List (Nat×Nat)} (h:i<l.length):(tj l)[i*2]? =some (.int .u32 l[i].1)/\(tj l)[i*2+1]? =some (.int .u64 l[i].2):=by
 induction l generalizing i with
 | nil=>simp at h
 | cons x l ih=>
  cases i with
  | zero=>exact⟨rfl,rfl⟩
  | succ i=>
   have h':i<l.length:=by simpa using h
   obtain⟨q1,q2⟩:=ih h';rw[show(i+1)*2=i*2+1+1 by omega];exact⟨q1,q2⟩
theorem yU {l:List Sp.Ac} (h:i<l.length):(tG l)[i*4]? =some (.int .u64 l[i].tx)/\(tG l)[i*4+1]? =some (.int .u64 l[i].first)/\(tG l)[i*4+2]? =some (.int .u64 l[i].last)/\(tG l)[i*4+3]? =some (.int .u64 l[i].next):=by
 induction l generalizing i with
 | nil=>simp at h
 | cons x l ih=>
  cases i with
  | zero=>exact⟨rfl,rfl,rfl,rfl⟩
  | succ i=>
   have h':i<l.length:=by simpa using h
   obtain⟨q1,q2,q3,q4⟩:=ih h';rw[show(i+1)*4=i*4+1+1+1+1 by omega];exact⟨q1,q2,q3,q4⟩
def bJ (x:Sp.bI) (D T:Option Addr) (cd ct:Nat):Array Value:=#[.slice D x.d.length cd,.slice T x.t.length ct,.int .u64 x.tx,.int .u64 x.num]
abbrev iz (x:Sp.bI) (D T:Option Addr) (cd ct:Nat):Value:=.agg (bJ x D T cd ct)
structure bS (G:af) (w:World) (x:Sp.bI) (D T:Option Addr):Prop where
 d:Reads G w 2 D x.d.length (tj x.d)
 t:Reads G w 4 T x.t.length (tG x.t)
theorem bS.below {G:af} {w:World} {x:Sp.bI} (h:bS G w x D T) (hb:zB w w'):bS G w' x D T:=⟨Reads.below h.d hb,Reads.below h.t hb⟩
theorem uN {G1 G2:af} {w:World} {x:Sp.bI} {D' T':Option Addr} {DC M9:Nat} (h1:bS G1 w x D T) (h2:bS G2 w x D' T') (hd:x.d.length<=1000000) (ht:x.t.length<=1000000):
 Calls prog 11 #[iz x D T cd ct,iz x D' T' DC M9] w λe w'=>e=.returned (.bool true)/\zB w w':=by
 have hb2:=((zR w).alloc (za _) (.cells (bJ x D T cd ct) 36)).alloc (by simp) (.cells (bJ x D' T' DC M9) 36);have aM:=(aj.new w 36 (bJ x D T cd ct)).alloc (.cells (bJ x D' T' DC M9) 36);have bB:=aj.new (w.alloc (.cells (bJ x D T cd ct) 36)) 36 (bJ x D' T' DC M9);have z1:(w.alloc (.cells (bJ x D T cd ct) 36)).heap.size=w.heap.size+1:=by simp
 rw[z1] at bB;have h12:=h1.below hb2;have VX:=h2.below hb2;go_enter func11,ntmps11;go_upto_region 1 with fail;change Code.wp _ _ _ _ ((w.alloc (.cells (bJ x D T cd ct) 36)).alloc (.cells (bJ x D' T' DC M9) 36));generalize(w.alloc (.cells (bJ x D T cd ct) 36)).alloc (.cells (bJ x D' T' DC M9) 36)=w1 at hb2 aM bB h12 VX ⊢;obtain⟨dl,tl,tx,num⟩:=x;have a0:w1.cell? ⟨w.heap.size,0,none⟩=some (.slice D dl.length cd):=aM.cell 0;have a1:w1.cell? ⟨w.heap.size,1,none⟩=some (.slice T tl.length ct):=aM.cell 1;have a2:w1.cell? ⟨w.heap.size,2,none⟩=some (.int .u64 tx):=aM.cell 2;have a3:w1.cell? ⟨w.heap.size,3,none⟩=some (.int .u64 num):=aM.cell 3;have b0:w1.cell? ⟨w.heap.size+1,0,none⟩=some (.slice D' dl.length DC):=bB.cell 0;have b1:w1.cell? ⟨w.heap.size+1,1,none⟩=some (.slice T' tl.length M9):=bB.cell 1;have b2:w1.cell? ⟨w.heap.size+1,2,none⟩=some (.int .u64 tx):=bB.cell 2;have b3:w1.cell? ⟨w.heap.size+1,3,none⟩=some (.int .u64 num):=bB.cell 3;obtain⟨g1,hg1⟩:=zE w.heap.size;obtain⟨g2,hg2⟩:=zE (w.heap.size+1);have qq:g1<w1.heap.size:=by rw[hg1];exact aM.lt
 have Yj:g2<w1.heap.size:=by rw[hg2];exact bB.lt
 rw[<-hg1] at a0 a1 a2 a3;rw[<-hg2] at b0 b1 b2 b3;have JL:=zH (show Reads G1 w1 2 D dl.length (tj dl) from h12.d);have uH:=zH (show Reads G1 w1 4 T tl.length (tG tl) from h12.t);have UX:=zH (show Reads G2 w1 2 D' dl.length (tj dl) from VX.d);have GK:=zH (show Reads G2 w1 4 T' tl.length (tG tl) from VX.t);have HB:=zH hb2;rw[<-hg2,<-hg1];have hd':dl.length<=1000000:=hd;have ht':tl.length<=1000000:=ht;have HA:Hid (∀wr,zB w1 wr->zC wr g1 0 (.slice D dl.length cd)/\zC wr g1 1 (.slice T tl.length ct)/\zC wr g2 0 (.slice D' dl.length DC)/\zC wr g2 1 (.slice T' tl.length M9)):=zH λwr hb=>⟨(hb.cell (p:=⟨g1,0,none⟩) qq).trans a0,(hb.cell (p:=⟨g1,1,none⟩) qq).trans a1,(hb.cell (p:=⟨g2,0,none⟩) Yj).trans b0,(hb.cell (p:=⟨g2,1,none⟩) Yj).trans b1⟩;clear h12 VX aM bB hb2 z1 h1 h2 hd ht hg1 hg2;go_wp2_with fail;clear a0 a1 a2 a3 b0 b1 b2 b3;go_loopw [5] (λv5 wr=>∃i:Nat,i<=dl.length/\v5=.int .i64 i/\zB w1 wr) (λv5 _=>dl.length-(intOf v5).toNat)
 case atStart=>exact⟨0,by omega,rfl,Below.refl _ _⟩
 case round=>
  obtain⟨i,hi,rfl,hbr⟩:=hrel;obtain⟨a0,-,b0,-⟩:=HA.out wr hbr;by_cases hlt:i<dl.length
  ·obtain⟨b,o,rfl,_,cH,hc1⟩:=(Reads.below JL.out hbr).2 (by omega);obtain⟨b',o',rfl,_,YD,hc2⟩:=(Reads.below UX.out hbr).2 (by omega);have e1:=hc1 _ _ (gU hlt).1;have e2:=hc1 _ _ (gU hlt).2;have e3:=hc2 _ _ (gU hlt).1;have e4:=hc2 _ _ (gU hlt).2;rw[<-Nat.add_assoc] at e2 e4;have hmeas:i+1<=dl.length:=hlt;have jB:=zH hbr;generalize dl[i].1=x1 at*;generalize dl[i].2=x2 at*;clear hc1 hc2 hbr hi;go_wp2_with fail;go_quiet (fail);go_wp2_with fail;go_roundw
   case rel=>exact⟨i+1,hmeas,by go_num,below_drewN' jB.out _⟩
   case measure=>simp[intOf];omega
  ·obtain rfl:i=dl.length:=by omega
   have jB:=zH hbr;clear hbr hi hlt;go_wp2_with fail;clear a0 b0;go_loopw [6] (λv6 wr=>∃i:Nat,i<=tl.length/\v6=.int .i64 i/\zB w1 wr) (λv6 _=>tl.length-(intOf v6).toNat)
   case atStart=>exact⟨0,by omega,rfl,jB.out⟩
   case round=>
    clear jB;obtain⟨i,hi,rfl,hbr⟩:=hrel;obtain⟨-,a1,-,b1⟩:=HA.out wr hbr;by_cases hlt:i<tl.length
    ·obtain⟨b,o,rfl,_,cH,hc1⟩:=(Reads.below uH.out hbr).2 (by omega);obtain⟨b',o',rfl,_,YD,hc2⟩:=(Reads.below GK.out hbr).2 (by omega);obtain⟨q1,q2,q3,q4⟩:=yU hlt;have e1:=hc1 _ _ q1;have e2:=hc1 _ _ q2;have e3:=hc1 _ _ q3;have e4:=hc1 _ _ q4;have f1:=hc2 _ _ q1;have f2:=hc2 _ _ q2;have f3:=hc2 _ _ q3;have f4:=hc2 _ _ q4;rw[<-Nat.add_assoc] at e2 e3 e4 f2 f3 f4;have hmeas:i+1<=tl.length:=hlt;have jB:=zH hbr;generalize tl[i].tx=x1 at*;generalize tl[i].first=x2 at*
     generalize tl[i].last=x3 at*;generalize tl[i].next=x4 at*
     clear hc1 hc2 hbr hi q1 q2 q3 q4;go_wp2_with fail;go_quiet (fail);go_wp2_with fail;go_roundw
     case rel=>exact⟨i+1,hmeas,by go_num,below_drewN' jB.out _⟩
     case measure=>simp[intOf];omega
    ·obtain rfl:i=tl.length:=by omega
     have HF:=zH (HB.out.trans (hbr.mono HB.out.size));clear hbr hi hlt;go_wp2_with fail;go_ret;exact⟨rfl,HF.out⟩
section
open Go.Conc
section
variable {F:af} {w:World} {gl gd:Nat} {l:Sp.Lg}
theorem xV (h:dP F w gl gd l) (s:Sp.Bs) (hs:s.length=0\/4096<s.length) (NI:s.length<1000000000):
 Calls prog 42 #[ptr gl,str s] w λe w'=>e=.returned (.tuple #[.int .u64 0,.int .i64 2])/\zB w w':=by
 obtain⟨h1,bv,sv,h3,h4,h5,h6⟩:=h;obtain⟨c0,c1,c2,c3,c4,c5,c6,c7,c8,c9⟩:=h3.lg;have HM:=zH (gI (w:=w) c0);have HE:=zH fun(W:World)=>uz l.next s W hs NI;clear c0 c1 c2 c3 c4 c5 c6 c8 c9 h3 h4 h5 h6;go_enter func42,ntmps42;go_wp2_with fail;refine HM.out.mono ?_;rintro e w1 ⟨rfl,hw⟩;subst w1;go_wp2_with fail;refine(HE.out _).mono ?_;rintro e w1 ⟨rfl,hw⟩;subst w1;go_wp2_with fail
 go_ret2
 exact⟨rfl,Below.refl _ _⟩
theorem vE (h:dP F w gl gd l) (hn:l.next<4611686018427387904) (hr:l.reserved<1000000000) (s:Sp.Bs) (hs1:1<=s.length) (hs2:s.length<=4096) (hfit:l.left<14+s.length):
 Calls prog 42 #[ptr gl,str s] w λe w'=>e=.returned (.tuple #[.int .u64 0,.int .i64 4])/\zB w w':=by
 have HR:=zH fun(W:World) (h:dP F W gl gd l)=>E7 h hn hr;have HI:=zH h;obtain⟨h1,bv,sv,h3,h4,h5,h6⟩:=h;obtain⟨c0,c1,c2,c3,c4,c5,c6,c7,c8,c9⟩:=h3.lg;have HM:=zH (gI (w:=w) c0);have hlo:=h1.lo;have hff:=h1.ff;have hfn:=h1.fn;have HE:=zH fun(W:World)=>td l.next s W hs1 hs2 (by omega) (by omega);have hfl:=Sp.bR l.next s;generalize Sp.frame l.next s=f at*;have df:decide (l.left<f.length)=true:=by rw[zA];omega
 have UW:=zH hfl;clear hfl;clear c1 c2 c3 c4 c5 c6 c8 c9 c0 h3 h4 h5 h6;go_enter func42,ntmps42;go_wp2_with fail;refine HM.out.mono ?_;rintro e w1 ⟨rfl,hw⟩;subst w1;go_wp2_with fail;refine(HE.out _).mono ?_;rintro e w1 ⟨rfl,hb1⟩;go_wp2_with fail;refine(HR.out _ (HI.out.below hb1)).mono ?_;rintro e w2 ⟨rfl,Qz⟩;have HB:=zH (hb1.trans (Qz.mono hb1.size));clear hb1 Qz;go_wp2_with fail
 go_ret2
 exact⟨rfl,HB.out⟩
end
theorem OV {ly:Ly} {K:af} {w:World} {gd gl:Nat} {l':Sp.Lg} {s':Sp.aF} {p:Sp.Pl} {D F G G':af} {dk:Sp.Dk} (hpl:gY F w gp gd gl ly.at_ ly.base p) (hd:cR D w gd dk) (mV:∀b,F b->¬D b) (og:∀b,F b->¬G b) (nX:∀b,D b->¬G b) (hK:∀b,cj F D G b->¬K b) (j4:∀b,K b->b<w.heap.size)
 (hg':dP G' w' gl gd l') (ht:aa G G' w w') (hr':mi ly p dk l' s'):Kept K w w'/\cn ly K w' gd gl gp l' s':=by
 have ht':aa (cj F D G) (cj F D G') w w':=ht.fw (λb hb=>.inr (.inr hb)) (λb hb=>hb.elim (λh=>.inl (.inl h)) (λh=>h.elim (λh=>.inl (.inr (.inl h))) .inr));refine⟨Kept.gF ht' (λb hk=>⟨j4 b hk,λhF=>hK b hF hk⟩),?_⟩;refine gT (hpl.keep ht.size (λb hb=>ht.block b (hpl.lt b hb) (og b hb))) (hd.keep (λb hb=>ht.block b (hd.dA b hb) (nX b hb))) hg' mV (λb h1 h2=>?_) (λb h1 h2=>?_) hr' hK j4 ht' (λb hb=>.inl hb)
 ·rcases ht.foot b h2 with e | e
  ·exact og b h1 e
  ·have:=hpl.lt b h1;omega
 ·rcases ht.foot b h2 with e | e
  ·exact nX b h1 e
  ·have:=hd.dA b h1;omega
def AppPk (ly:Ly) (K:af) (w:World) (gd gl gp:Nat) (l:Sp.Lg) (s:Sp.aF) (t:Sp.Bs) (e:Ending) (w':World):Prop:=
 Kept K w w'/\
 ((1<=t.length/\t.length<=4096/\14+t.length<=l.left/\e=.returned (.tuple #[.int .u64 l.next,.int .i64 0])/\cn ly K w' gd gl gp (l.append t) {s with next:=l.next+(14+t.length)})\/
  (1<=t.length/\t.length<=4096/\l.left<14+t.length/\e=.returned (.tuple #[.int .u64 0,.int .i64 4])/\cn ly K w' gd gl gp l s)\/
  ((t.length=0\/4096<t.length)/\e=.returned (.tuple #[.int .u64 0,.int .i64 2])/\cn ly K w' gd gl gp l s))
theorem ue {ly:Ly} {K:af} {w:World} {gd gl:Nat} {l:Sp.Lg} {s:Sp.aF} (h:cn ly K w gd gl gp l s) (hn:l.next<1000000000000) (hr:l.reserved<1000000000) (t:Sp.Bs) (ht:t.length<1000000000):
 Calls prog 42 #[ptr gl,str t] w (AppPk ly K w gd gl gp l s t):=by
 have H:=h;obtain⟨p,D,F,G,dk,hpl,hd,hg,mV,og,nX,bz,hK,j4⟩:=h;by_cases h1:1<=t.length/\t.length<=4096
 ·by_cases h2:14+t.length<=l.left
  ·refine(Ik hg (by omega) hr t h1.1 h1.2 h2).mono ?_;rintro e w' ⟨G',rfl,hg',ht'⟩;have hwf:=Sp.Lg.mM bz.y_ h2;have hr':mi ly p dk (l.append t) {s with next:=l.next+(14+t.length)}:=
    ⟨bz.wf,hwf,bz.frames,bz.L,bz.top,bz.forced,rfl,bz.ok,bz.B_,⟨bz.dl.loose,bz.dl.bk,bz.dl.fit,bz.dl.bO,bz.dl.homes,by show l.next+(14+t.length)<_;omega⟩,bz.lo,bz.bO,bz.tight,bz.zero,bz.dA,bz.tidy.append bz.y_ t⟩
   obtain⟨k1,k2⟩:=OV hpl hd mV og nX hK j4 hg' ht' hr';exact⟨k1,.inl ⟨h1.1,h1.2,h2,rfl,k2⟩⟩
  ·refine(vE hg (by omega) hr t h1.1 h1.2 (by omega)).mono ?_;rintro e w' ⟨rfl,hb⟩;exact⟨Kept.az hb j4,.inr (.inl ⟨h1.1,h1.2,by omega,rfl,H.below hb⟩)⟩
 ·refine(xV hg t (by omega) ht).mono ?_;rintro e w' ⟨rfl,hb⟩;exact⟨Kept.az hb j4,.inr (.inr ⟨by omega,rfl,H.below hb⟩)⟩
theorem Tj {ly:Ly} {K:af} {w:World} {gd gl:Nat} {l:Sp.Lg} {s:Sp.aF} (h:cn ly K w gd gl gp l s):
 Calls prog 13 #[ptr gl] w λe w'=>e=.returned (.int .u64 l.next)/\w'=w:=by
 obtain⟨p,D,F,G,dk,hpl,hd,hg,mV,og,nX,bz,hK,j4⟩:=h;exact Pj hg
theorem L_ {ly:Ly} {K:af} {w:World} {gd gl:Nat} {l:Sp.Lg} {s:Sp.aF} (h:cn ly K w gd gl gp l s):
 Calls prog 17 #[ptr gl] w λe w'=>e=.returned (.int .u64 s.forced)/\w'=w:=by
 obtain⟨p,D,F,G,dk,hpl,hd,hg,mV,og,nX,bz,hK,j4⟩:=h;rw[bz.forced];exact Ij hg
end
end Go.Proofs.YtfpjlkdklgokiaaGreat
