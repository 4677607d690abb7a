/- A part of the proof of CheckTakes. -/
import Derived.Test.YtfpjlkdklgokiaaGreatZD
namespace Go.Proofs.YtfpjlkdklgokiaaGreat
set_option maxRecDepth 100000
set_option maxHeartbeats 40000000
open Go.RowKit
open Go.Proofs.Tryz
variable {n g k gp gd c gl i id b s r cb mb fb cd h N m fuel j ct p B cap sz gr z gt x aL:Nat} {v c1 c2 c3 c0 c5 c4:Value} {w' W:World} {A D T:Option Addr} {a:Act} {ids q fl l rest:List Nat} {xs fs:List Value} {o oi:Oper} {listed:Array Bool} {P:Program} {e t:TypeId} {args cs' buf:Array Value} {tm:Bool}
theorem mE {w:World} {G:af} {p:Sp.Pg} (hR:aA G w A p.rows) (hn:p.rows.length<=1000000000) (ht:Sp.total p.rows<=1000000000000000000):
 Calls prog 144 #[iR p A c] w λe w'=>e=.returned (.bool (bE p))/\zB w w':=by
 have key:(decide ((p.kind:Int)<=5)=false/\bE p=false)\/(decide ((p.kind:Int)<=5)=true/\decide (1<=(p.id:Int))=false/\bE p=false)\/
  (decide ((p.kind:Int)<=5)=true/\decide (1<=(p.id:Int))=true/\decide ((p.id:Int)<=1024)=false/\bE p=false)\/
  (decide ((p.kind:Int)<=5)=true/\decide (1<=(p.id:Int))=true/\decide ((p.id:Int)<=1024)=true/\decide ((p.next:Int)<=1024)=false/\bE p=false)\/
  (decide ((p.kind:Int)<=5)=true/\decide (1<=(p.id:Int))=true/\decide ((p.id:Int)<=1024)=true/\decide ((p.next:Int)<=1024)=true/\decide ((Sp.total p.rows:Int)<=(484:Int)-4*p.rows.length)=false/\bE p=false)\/
  (decide ((p.kind:Int)<=5)=true/\decide (1<=(p.id:Int))=true/\decide ((p.id:Int)<=1024)=true/\decide ((p.next:Int)<=1024)=true/\decide ((Sp.total p.rows:Int)<=(484:Int)-4*p.rows.length)=true/\bE p=true):=by
  by_cases a1:p.kind<=5
  ·by_cases a2:1<=p.id
   ·by_cases a3:p.id<=1024
    ·by_cases a4:p.next<=1024
     ·by_cases a5:4*p.rows.length+Sp.total p.rows<=484
      ·refine .inr (.inr (.inr (.inr (.inr ⟨?_,?_,?_,?_,?_,by simp[bE,a1,a2,a3,a4,a5]⟩))))<;>rw[zx]<;>omega
      ·refine .inr (.inr (.inr (.inr (.inl ⟨?_,?_,?_,?_,?_,by simp[bE,a5]⟩))))<;>first | (rw[zx];omega) | (rw[ze];omega)
     ·refine .inr (.inr (.inr (.inl ⟨?_,?_,?_,?_,by simp[bE,a4]⟩)))<;>first | (rw[zx];omega) | (rw[ze];omega)
    ·refine .inr (.inr (.inl ⟨?_,?_,?_,by simp[bE,a3]⟩))<;>first | (rw[zx];omega) | (rw[ze];omega)
   ·refine .inr (.inl ⟨?_,?_,by simp[bE,a2]⟩)<;>first | (rw[zx];omega) | (rw[ze];omega)
  ·refine .inl ⟨?_,by simp[bE,a1]⟩;rw[ze];omega
 obtain⟨kind,level,id,aL,next,rows⟩:=p;dsimp only at*;have HR:=zH hR;have HM:Hid (∃mb,bE ⟨kind,level,id,aL,next,rows⟩=mb):=⟨_,rfl⟩;generalize bE ⟨kind,level,id,aL,next,rows⟩=mb at*;clear hR HM;rcases key with⟨d1,hmb⟩ | ⟨d1,d2,hmb⟩ | ⟨d1,d2,d3,hmb⟩ | ⟨d1,d2,d3,d4,hmb⟩ | ⟨d1,d2,d3,d4,d5,hmb⟩ | ⟨d1,d2,d3,d4,d5,hmb⟩
 all_goals
  subst hmb;go_enter func144,ntmps144;go_wp2_with fail
  go_loop [3,5,9] (λv _ i=>∃k:Nat,k<=rows.length/\i=.int .i64 k/\v=.int .i64 ((484:Int)-4*k-Sp.total (rows.take k))) (λ_ _ i=>rows.length-(intOf i).toNat)
  case atStart=>exact⟨0,by omega,rfl,by simp⟩
  case round=>
   obtain⟨k,hk,rfl,rfl⟩:=hrel;by_cases hlt:k<rows.length
   ·obtain⟨b,o,rfl,_,hb,hc⟩:=HR.out.row hlt;have htk:=zH (Sp.bL rows k hlt);have hle:=Sp.b_ rows k;have IG:=Sp.b_ rows (k+1);rw[htk.out] at IG;have hc2:=(World.cell?_alloc_lt w (.cells #[.int .u8 kind,.int .u8 level,.int .u32 id,.int .u64 aL,.int .u32 next,.slice (some ⟨b,o,none⟩) rows.length c] 64) ⟨b,o+k,none⟩ hb).trans hc;generalize Sp.total (rows.take k)=T at*;generalize rows[k]=r at*;clear hc;go_wp2_with fail
    go_round
    case rel=>exact⟨k+1,by omega,by go_num,by rw[htk.out];go_num⟩
    case measure=>simp[intOf];omega
   ·obtain rfl:k=rows.length:=by omega
    rw[zL];go_wp2_with fail;go_ret;exact⟨rfl,(Below.refl _ w).alloc (za _) _⟩
open Go.RowKit Go.Conc
theorem Tl:(prog.info? 64).map (·.size)=some 6:=by kernel_rfl
theorem J1 {cs:Array Value} {o:Nat} {l:List Value} (hi:o+l.length<=cs.size) (hj:j<l.length):(aD cs o l)[o+j]? =l[j]? :=by
 unfold aD;rw[zGA,zh,zO (by simp;omega),zai (by simp;omega)]
 congr 1
 simp;omega
theorem oF {cs:Array Value} {o:Nat} {l:List Value} (hi:o+l.length<=cs.size) (hk:k<o\/o+l.length<=k):(aD cs o l)[k]? =cs[k]? :=by
 unfold aD;rw[zGA,zh];rcases hk with hk | hk
 ·rw[zai (by simp;omega),zT,zK hk,zZ]
 ·rw[zO (by simp;omega),zO (by simp;omega),zaf,zZ]
  congr 1
  simp;omega
theorem BC {cs:Array Value} {o:Nat} {l:List Value} (hi:o+l.length<=cs.size):(aD cs o l).size=cs.size:=by simp[aD];omega
theorem aH.more {F R G0:af} {w:World} {at_ base:Nat} {cs:Array Value} {p:Sp.Pl} (h:aH F R w gp gd gl at_ base fb cb mb v s r cs fl ids p) (hG:∀b,G0 b->¬F b/\b<w.heap.size):
 aH (λb=>F b\/G0 b) (λb=>R b\/G0 b) w gp gd gl at_ base fb cb mb v s r cs fl ids p:=by
 obtain⟨f1,f2,f3,f4,f5⟩:=h.foot;refine⟨h.wf,h.blk,⟨h.fr.blk,h.fr.size,λit hit=>?_,h.fr.free⟩,h.chan,h.map,h.row,⟨.inl f1,.inl f2,.inl f3,.inl f4,λb hb=>.inl (f5 b hb)⟩,λb hb=>?_,λb hb=>?_⟩
 ·obtain⟨A,c,hA,hR,hc⟩:=h.fr.item it hit;exact⟨A,c,hA,hR.mono (λb hb=>.inl hb),hc⟩
 ·rcases hb with hb | hb
  ·obtain⟨a1,rest⟩:=h.rows b hb;exact⟨.inl a1,rest⟩
  ·have hn:=(hG b hb).1;exact⟨.inr hb,λe=>hn (e▸f1),λe=>hn (e▸f2),λe=>hn (e▸f3),λe=>hn (e▸f4),λe=>hn (f5 b e)⟩
 ·exact hb.elim (h.lt b) (λhb=>(hG b hb).2)
namespace Sp
def It.put (x:Pg) (y:It):It:=if y.page.id=x.id then(if y.aK then{y with page:=x} else{y with page:=x,aK:=true,from_:=x.aL}) else y
theorem It.xB (x:Pg):Jz (It.put x):=by
 constructor
 ·intro y;unfold It.put
  split
  ·rename_i h
   split<;>exact h.symm
  ·rfl
 ·intro y;unfold It.put
  split
  ·split<;>rfl
  ·rfl
end Sp
def KU (F:af) (w:World) (gp gd gl at_ base fb cb mb:Nat) (v:Value) (s r:Nat) (fl ids:List Nat) (p:Sp.Pl) (x:Sp.Pg) (e:Ending) (w':World):Prop:=
 e=.returned (.int .i64 0)/\∃(F' R':af) (cs':Array Value),aH F' R' w' gp gd gl at_ base fb cb mb v s r cs' fl ids (p.upd x.id (Sp.It.put x))/\aa F F' w w'
theorem OQ {F R G:af} {w:World} {at_ base:Nat} {cs:Array Value} {p:Sp.Pl} (h:aH F R w gp gd gl at_ base fb cb mb v s r cs fl ids p)
 {x:Sp.Pg} (hx:x.wf/\x.may) (hA:cO A) (hR:aA G w A x.rows) {it:Sp.It} (hf:p.find x.id=some it) (hp:1<=it.pins):
 Calls prog 72 #[ptr gp,iR x A c] w (KU F w gp gd gl at_ base fb cb mb v s r fl ids p x):=by
 have hfit:=hx.2.2.2.2.2;have hid:x.id<4294967296:=hx.1.2.2.1;obtain⟨hit,oc⟩:=Sp.Pl.bu hf;have hba:=(zR w).alloc (za _) (.cells (aG x A c) 64);have h1:=h.keep hba.size (λb hb=>hba.block b (h.lt b hb));have aM:=aj.new w 64 (aG x A c);have mU:=Reads.below hR hba;have HM:=zH (cF (w:=w.alloc (.cells (aG x A c) 64)) h1.cells.2.2.2.2.2.2.1);have lU:=zH (xK (w:=w.alloc (.cells (aG x A c) 64)) (c:=c) mU (by omega) (by omega));rw[(mF x).2 hx.2] at lU;have HF:=zH h.lt;have QO:=h.lt;have hH:=zH h;clear h hR;go_enter func72,ntmps72;go_wp2_with fail;obtain⟨w1,hw1⟩:=zE (w.alloc (.cells (aG x A c) 64));rw[<-hw1] at h1 aM mU HM lU hba ⊢;obtain⟨g3,hg3⟩:=zE w.heap.size;rw[<-hg3] at aM ⊢;have MF:w.heap.size<=g3:=by omega
 clear hw1 hg3;have z0:=aM.cell 0;have z1:=aM.cell 1;have z2:=aM.cell 2;have z3:=aM.cell 3;have z4:=aM.cell 4;have z5:=aM.cell 5;simp only[zGA,zGB,zGC] at z0 z1 z2 z3 z4 z5;refine HM.out.mono ?_;rintro e w2 ⟨rfl,hw⟩;subst w2;go_wp2_with fail;refine lU.out.mono ?_;rintro e w2 ⟨rfl,hb2⟩;have dm:=hba.trans (hb2.mono hba.size);have h2:=h1.keep hb2.size (λb hb=>hb2.block b (h1.lt b hb));have bB:=aM.below hb2 aM.lt;have pW:=Reads.below mU hb2;have hl2:=h2.gw hid hf;have c6:=h2.cells.2.2.2.2.2.2.1;have z2:=bB.cell 2;simp only[zGA,zGB,zGC] at z2;have wL:=zH h2;clear z0 z1 z3 z4 z5 h1 aM mU HM lU h2;have hS:=zH (show w2.drew.cell? ⟨gp,6,none⟩=some (.map (some mb))/\w2.drew.cell? ⟨g3,2,none⟩=some (av x.id)/\(Instr.lookup 216 (.map (some mb)) (av x.id) true).run prog w2.drew=.ok (.tuple #[.int .i64 it.idx,.bool true]) w2.drew from
  ⟨c6,z2,(wL.out.keep (w':=w2.drew) (za _) (λ_ _=>rfl)).gw hid hf⟩)
 clear hl2 c6 z2;go_wp2_with fail;refine fQ (λW=>zC W gp 6 (.map (some mb))/\zC W g3 2 (av x.id)/\(Instr.lookup 216 (.map (some mb)) (av x.id) true).run prog W=.ok (.tuple #[.int .i64 it.idx,.bool true]) W) (λ_=>false) ?_
 repeat (refine bK hS.out ?_)
 refine aC (by kernel_rfl) ?_ _;rename_i K9 aT;refine aT _ _ ?_;clear aT hS;have h3:=wL.out.keep (w':=w2.drew) (za _) (λ_ _=>rfl);have cg:=bB.drew;have dY:zB w w2.drew:=⟨dm.os,dm.tape,dm.output,dm.size,dm.block⟩;have vP:aA G w2.drew A x.rows:=Reads.below pW (Below.refl _ w2).drew;obtain⟨w3,hw3⟩:=zE w2.drew;rw[<-hw3] at h3 cg dY vP ⊢;clear hw3 dm bB pW wL hb2 hba;obtain⟨c0,c1,c2,c3,c4,c5,c6,c7⟩:=h3.cells;have cp:=h3.pins hit;have vG:=h3.wf.fp hit;have lZ:=h3.wf.rV;have hcs:=h3.fr.size;have oK:((it.pins:Int)==0)=false:=by simp;omega
 have hp1:(it.pins==0)=false:=by simp;omega
 have sU:¬it.pins=0:=by omega
 have z0:=cg.cell 0;have z1:=cg.cell 1;have z2:=cg.cell 2;have z3:=cg.cell 3;have z4:=cg.cell 4;have z5:=cg.cell 5;simp only[zGA,zGB,zGC] at z0 z1 z2 z3 z4 z5;have Sg:=zH (lC (c:=c) hA vP (by omega));have H3:=zH h3;clear c0 c1 c2 c3 c5 c6 c7 h3 vP;go_wp2_with fail;refine Sg.out.mono ?_;rintro e w4 ⟨A',c',rfl,hA',vQ,hb4⟩;have hA'A:=zH hA';have hA'R:=zH vQ;clear hA' vQ;have h4:=H3.out.keep hb4.size (λb hb=>hb4.block b (H3.out.lt b hb));have dn:=cg.below hb4 cg.lt;have qx:=dY.trans (hb4.mono dY.size);have hFB:=h4.fr.blk;have hST:=ax (P:=prog) w4 fb (it.idx*9) 213 64 cs (aG x A' c') hFB Tl (by rw[hcs];show it.idx*9+6<=p.n*9;omega) (by simp[aG,Value.oneCell']);obtain⟨A0,c0,_,_,hc0⟩:=h4.fr.item it hit;have yz:it.idx*9+([.int .u8 x.kind,.int .u8 x.level,.int .u32 x.id,.int .u64 x.aL,.int .u32 x.next,.slice A' x.rows.length c']:List Value).length<=cs.size:=by rw[hcs];show it.idx*9+6<=p.n*9;omega
 have eC:=hFB.setRow (aD cs (it.idx*9) [.int .u8 x.kind,.int .u8 x.level,.int .u32 x.id,.int .u64 x.aL,.int .u32 x.next,.slice A' x.rows.length c']);have k7:=(eC.cell (it.idx*9+7)).trans ((oF yz (.inr (by show it.idx*9+6<=_;omega))).trans (hc0 7 (by omega)));have k8:=(eC.cell (it.idx*9+8)).trans ((oF yz (.inr (by show it.idx*9+6<=_;omega))).trans (hc0 8 (by omega)));have k6:=(eC.cell (it.idx*9+6)).trans ((oF yz (.inr (by show it.idx*9+6<=_;omega))).trans (hc0 6 (by omega)));simp only[aQ,zGB,zGC] at k6 k7 k8;have vR:=h4.foot.2.1;have BR:g3≠fb:=λe=>by have:=QO fb vR;omega
 have y7:=eC.frozen (it.idx*9+7);have y8:=eC.frozen (it.idx*9+8);have z3:=(dn.keep (ak w4 fb g3 (aD cs (it.idx*9) [.int .u8 x.kind,.int .u8 x.level,.int .u32 x.id,.int .u64 x.aL,.int .u32 x.next,.slice A' x.rows.length c']) BR)).cell 3;simp only[zGA,zGB,zGC] at z3;have C6:∀b,b≠fb->(w4.setRow fb (aD cs (it.idx*9) [.int .u8 x.kind,.int .u8 x.level,.int .u32 x.id,.int .u64 x.aL,.int .u32 x.next,.slice A' x.rows.length c'])).heap[b]? =w4.heap[b]? :=λb hb=>ak w4 fb b _ hb;have iV:=(aa.az qx F).setRow (g:=fb) (.inl vR) (aD cs (it.idx*9) [.int .u8 x.kind,.int .u8 x.level,.int .u32 x.id,.int .u64 x.aL,.int .u32 x.next,.slice A' x.rows.length c']);have hs5:w4.heap.size<=(w4.setRow fb (aD cs (it.idx*9) [.int .u8 x.kind,.int .u8 x.level,.int .u32 x.id,.int .u64 x.aL,.int .u32 x.next,.slice A' x.rows.length c'])).heap.size:=by simp[World.setRow]
 clear z0 z1 z2 z4 z5 Sg cp c4;change(storeVar 64 ⟨fb,it.idx*9,none⟩ (.agg (aG x A' c'))).run prog w4=.ok () (w4.setRow fb (aD cs (it.idx*9) [.int .u8 x.kind,.int .u8 x.level,.int .u32 x.id,.int .u64 x.aL,.int .u32 x.next,.slice A' x.rows.length c'])) at hST;generalize hW5:w4.setRow fb (aD cs (it.idx*9) [.int .u8 x.kind,.int .u8 x.level,.int .u32 x.id,.int .u64 x.aL,.int .u32 x.next,.slice A' x.rows.length c'])=w5 at*;have hpost:Hid (∀(cs':Array Value) (w':World) (it':Sp.It),it'=Sp.It.put x it->cs'.size=cs.size->(∀j,j<9->cs'[it.idx*9+j]? =(aQ it' A' c')[j]?)->(∀k,(k<it.idx*9\/it.idx*9+9<=k)->cs'[k]? =cs[k]?)->aj w' fb 213 cs'->(∀b,b≠fb->w'.heap[b]? =w4.heap[b]?)->w4.heap.size<=w'.heap.size->aa F F w w'->
  KU F w gp gd gl at_ base fb cb mb v s r fl ids p x (.returned (.int .i64 0)) w'):=by
  intro cs' w' it' hit' hsz hcs' PK hblk hkk hss gW;have QN:∀b,(w3.heap.size<=b/\nh A' x.rows.length b)->¬F b/\b<w4.heap.size:=λb hb=>by
   obtain⟨h1,h2⟩:=wB hA'R.out hb.2;exact⟨λe=>by have:=QO b e;have:=dY.size;omega,h2⟩
  have hm:=h4.more (G0:=λb=>w3.heap.size<=b/\nh A' x.rows.length b) QN;have XV:(Sp.It.put x it).page=x:=by
   unfold Sp.It.put;rw[zK oc]
   split<;>rfl
  have hFw3:∀b,F b->b<w3.heap.size:=λb hb=>zf (QO b hb) dY.size;refine⟨rfl,λb=>F b\/(w3.heap.size<=b/\nh A' x.rows.length b),λb=>R b\/(w3.heap.size<=b/\nh A' x.rows.length b),cs',?_,?_⟩
  ·have:=hm.upd (f:=Sp.It.put x) (w':=w') (cs':=cs') (Sp.It.xB x) hit ?_ hss (λb _ hb=>hkk b hb) hblk ⟨hsz,PK⟩ ⟨A',c',hA'A.out,?_,?_⟩
   ·rw[oc] at this;exact this
   ·have hsm:=h4.wf.small it hit;refine⟨by rw[XV];exact hx.1,by rw[XV];exact hx.2,?_,?_⟩
    ·unfold Sp.It.put;rw[zK oc]
     split<;>exact hsm.1
    ·unfold Sp.It.put;rw[zK oc]
     split
     ·exact hsm.2
     ·exact hx.1.2.2.2.1
   ·rw[XV];exact((CE hA'R.out).keep hss (λb hb=>hkk b (λe=>by
     have:=hFw3 fb vR;have h2:w3.heap.size<=b:=hb.1;omega))).mono (λb hb=>.inr hb)
   ·rw[<-hit'];exact hcs'
  ·exact⟨gW.os,gW.tape,gW.output,gW.size,gW.block,λb hb=>hb.elim .inl (λhb=>.inr (zl dY.size hb.1))⟩
 have hin6:∀j,j<6->(aD cs (it.idx*9) [.int .u8 x.kind,.int .u8 x.level,.int .u32 x.id,.int .u64 x.aL,.int .u32 x.next,.slice A' x.rows.length c'])[it.idx*9+j]? =([.int .u8 x.kind,.int .u8 x.level,.int .u32 x.id,.int .u64 x.aL,.int .u32 x.next,.slice A' x.rows.length c']:List Value)[j]? :=λj hj=>J1 yz hj;have Vq:∀k,(k<it.idx*9\/it.idx*9+6<=k)->(aD cs (it.idx*9) [.int .u8 x.kind,.int .u8 x.level,.int .u32 x.id,.int .u64 x.aL,.int .u32 x.next,.slice A' x.rows.length c'])[k]? =cs[k]? :=λk hk=>oF yz hk;have hsz6:=BC yz;have rK:=hc0 6 (by omega);have ur:=hc0 7 (by omega);have sY:=hc0 8 (by omega);simp only[aQ,zGB,zGC] at rK ur sY;generalize hP6:aD cs (it.idx*9) [.int .u8 x.kind,.int .u8 x.level,.int .u32 x.id,.int .u64 x.aL,.int .u32 x.next,.slice A' x.rows.length c']=cs6 at*;have tS:=zH hin6;have Nn:=zH Vq;have mj:=zH eC;have UT:=zH C6;have Bi:=zH iV;have HS5:=zH hs5;clear hin6 Vq eC C6 iV hs5 hFB hP6 yz hc0 h4 hW5
 cases hd:it.aK with
 | true=>
  rw[hd] at k7;go_wp2_with (first | ((with_reducible refine wpList_skip (w':=w5) rfl rfl ?_ ?_);exact aq _ _ _ ⟨fb,it.idx*9,none⟩ (.agg (aG x A' c')) rfl rfl rfl hST));go_ret;refine hpost.out cs6 w5 {it with page:=x} (by unfold Sp.It.put;rw[zK oc,zK hd]) hsz6 (λj hj=>?_) (λk hk=>Nn.out k (by omega)) mj.out UT.out HS5.out Bi.out
  match j,hj with
  | 0,_=>exact tS.out 0 (by omega)
  | 1,_=>exact tS.out 1 (by omega)
  | 2,_=>exact tS.out 2 (by omega)
  | 3,_=>exact tS.out 3 (by omega)
  | 4,_=>exact tS.out 4 (by omega)
  | 5,_=>exact tS.out 5 (by omega)
  | 6,_=>exact(Nn.out _ (by omega)).trans rK
  | 7,_=>exact(Nn.out _ (by omega)).trans ur
  | 8,_=>exact(Nn.out _ (by omega)).trans sY
 | false=>
  rw[hd] at k7;go_wp2_with (first | ((with_reducible refine wpList_skip (w':=w5) rfl rfl ?_ ?_);exact aq _ _ _ ⟨fb,it.idx*9,none⟩ (.agg (aG x A' c')) rfl rfl rfl hST));have hS:=zH (show w5.drew.cell? ⟨g3,3,none⟩=some (.int .u64 x.aL) from z3);have MK:w5.drew.cell? ⟨fb,it.idx*9+7,none⟩=some (.bool false):=k7;have IV:w5.drew.cell? ⟨fb,it.idx*9+8,none⟩=some (.int .u64 it.from_):=k8;have hy7:w5.drew.frozen? ⟨fb,it.idx*9+7,none⟩=false:=y7;have hy8:w5.drew.frozen? ⟨fb,it.idx*9+8,none⟩=false:=y8;have Ur:=mj.out.drew;have NF:=Bi.out.drew;have Gy:∀b,b≠fb->w5.drew.heap[b]? =w4.heap[b]? :=UT.out;have XN:w4.heap.size<=w5.drew.heap.size:=HS5.out;obtain⟨w6,Gt⟩:=zE w5.drew;refine fQ (λW=>zC W g3 3 (.int .u64 x.aL)) (λ_=>false) ?_;rw[<-Gt] at hS MK IV hy7 hy8 Ur NF Gy XN ⊢;clear Gt k6 k7 k8 y7 y8 z3 hST mj UT Bi HS5
  repeat (refine bK hS.out ?_)
  have FE:=zH ((show(w6.setCell ⟨fb,it.idx*9+7,none⟩ (.bool true)).cell? ⟨g3,3,none⟩=some (.int .u64 x.aL) from(World.cell?_of_block (a:=⟨g3,3,none⟩) (Below.heap_setCell w6 ⟨fb,it.idx*9+7,none⟩ (.bool true) g3 BR)).trans hS.out));refine jx 6 (w':=w6.setCell ⟨fb,it.idx*9+7,none⟩ (.bool true)) rfl (by go_simp) (λ_=>FE.out) ?_;have fu:=Ur.a_ (it.idx*9+7) (.bool true);have iU:=NF.setCell (p:=⟨fb,it.idx*9+7,none⟩) (.inl vR) (.bool true);have rJ:∀b,b≠fb->(w6.setCell ⟨fb,it.idx*9+7,none⟩ (.bool true)).heap[b]? =w4.heap[b]? :=λb hb=>(Below.heap_setCell w6 _ _ b hb).trans (Gy b hb);have hs7:w4.heap.size<=(w6.setCell ⟨fb,it.idx*9+7,none⟩ (.bool true)).heap.size:=by simpa[World.setCell] using XN
  have vK:=fu.frozen (it.idx*9+8);have hlt8:it.idx*9+8<cs6.size:=by omega
  have qw:(w6.setCell ⟨fb,it.idx*9+7,none⟩ (.bool true)).cell? ⟨fb,it.idx*9+8,none⟩=some (.int .u64 it.from_):=by
   rw[fu.cell,zJ (by omega),<-Ur.cell];exact IV
  obtain⟨w7,TJ⟩:=zE (w6.setCell ⟨fb,it.idx*9+7,none⟩ (.bool true));rw[<-TJ] at FE fu iU rJ hs7 vK qw ⊢;clear TJ MK IV hy7 hy8 Ur NF Gy XN hS
  repeat (refine bK FE.out ?_)
  have hS8:=zH ((show(w7.setCell ⟨fb,it.idx*9+8,none⟩ (.int .u64 x.aL)).cell? ⟨g3,3,none⟩=some (.int .u64 x.aL) from(World.cell?_of_block (a:=⟨g3,3,none⟩) (Below.heap_setCell w7 ⟨fb,it.idx*9+8,none⟩ (.int .u64 x.aL) g3 BR)).trans FE.out));refine jx 9 (w':=w7.setCell ⟨fb,it.idx*9+8,none⟩ (.int .u64 x.aL)) rfl (by go_simp) (λ_=>hS8.out) ?_;have iW:=zH (fu.a_ (it.idx*9+8) (.int .u64 x.aL));have ig:=zH (iU.setCell (p:=⟨fb,it.idx*9+8,none⟩) (.inl vR) (.int .u64 x.aL));have Fu:Hid (∀b,b≠fb->(w7.setCell ⟨fb,it.idx*9+8,none⟩ (.int .u64 x.aL)).heap[b]? =w4.heap[b]?):=λb hb=>(Below.heap_setCell w7 _ _ b hb).trans (rJ b hb);have D4:Hid (w4.heap.size<=(w7.setCell ⟨fb,it.idx*9+8,none⟩ (.int .u64 x.aL)).heap.size):=by show _<=_;simpa[World.setCell] using hs7
  refine aC (by kernel_rfl) ?_ _;rename_i K9 aT;refine aT _ _ ?_;clear aT fu iU rJ hs7 FE hS8 vK qw;generalize w7.setCell ⟨fb,it.idx*9+8,none⟩ (.int .u64 x.aL)=w8 at*;go_wp2_with fail;go_ret;refine hpost.out ((cs6.setIfInBounds (it.idx*9+7) (.bool true)).setIfInBounds (it.idx*9+8) (.int .u64 x.aL)) w8 {it with page:=x,aK:=true,from_:=x.aL} (by unfold Sp.It.put;rw[zK oc,zD (by rw[hd];decide)]) (by simp;exact hsz6) (λj hj=>?_) (λk hk=>?_) iW.out Fu.out D4.out ig.out
  ·by_cases j8:j=8
   ·subst j8;rw[zaq (by simp;omega)];rfl
   ·rw[zJ (by omega)];by_cases j7:j=7
    ·subst j7;rw[zaq (by omega)];rfl
    ·rw[zJ (by omega)];have hj7:j<7:=by omega
     clear hj j8 j7
     match j,hj7 with
     | 0,_=>exact tS.out 0 (by omega)
     | 1,_=>exact tS.out 1 (by omega)
     | 2,_=>exact tS.out 2 (by omega)
     | 3,_=>exact tS.out 3 (by omega)
     | 4,_=>exact tS.out 4 (by omega)
     | 5,_=>exact tS.out 5 (by omega)
     | 6,_=>exact(Nn.out _ (by omega)).trans rK
  ·rw[zJ (by omega),zJ (by omega)];exact Nn.out k (by omega)
section
open Go.Conc
section
variable {F R G:af} {w:World} {gp gd gl at_ base fb cb mb s r:Nat} {v:Value} {cs:Array Value} {fl ids:List Nat} {p:Sp.Pl} {x:Sp.Pg} {A:Option Addr} {c:Nat}
theorem CI (h:aH F R w gp gd gl at_ base fb cb mb v s r cs fl ids p) (hR:aA G w A x.rows) (hn:x.rows.length<=1000000000) (ht:Sp.total x.rows<=1000000000000000000) (hm:bE x=false):
 Calls prog 72 #[ptr gp,iR x A c] w λe w'=>e=.returned (.int .i64 2)/\zB w w':=by
 have hba:=(zR w).alloc (za _) (.cells (aG x A c) 64);have h1:=h.keep hba.size (λb hb=>hba.block b (h.lt b hb));have aM:=aj.new w 64 (aG x A c);have mU:=Reads.below hR hba;have HM:=zH (cF (w:=w.alloc (.cells (aG x A c) 64)) h1.cells.2.2.2.2.2.2.1);have lU:=zH (mE (w:=w.alloc (.cells (aG x A c) 64)) (c:=c) mU hn ht);rw[hm] at lU;clear h hR;go_enter func72,ntmps72;go_wp2_with fail;obtain⟨w1,hw1⟩:=zE (w.alloc (.cells (aG x A c) 64));rw[<-hw1] at h1 aM mU HM lU hba ⊢;obtain⟨g3,hg3⟩:=zE w.heap.size;rw[<-hg3] at aM ⊢;clear hw1 hg3;have z0:=aM.cell 0;have z1:=aM.cell 1;have z2:=aM.cell 2;have z3:=aM.cell 3;have z4:=aM.cell 4;have z5:=aM.cell 5;simp only[zGA,zGB,zGC] at z0 z1 z2 z3 z4 z5;refine HM.out.mono ?_;rintro e w2 ⟨rfl,hw⟩;subst w2;go_wp2_with fail;refine lU.out.mono ?_;rintro e w2 ⟨rfl,hb2⟩;have dm:=hba.trans (hb2.mono hba.size);clear z0 z1 z2 z3 z4 z5 h1 aM mU HM lU;go_wp2_with fail;go_ret;exact⟨rfl,dm⟩
theorem Ap (h:aH F R w gp gd gl at_ base fb cb mb v s r cs fl ids p) (hid:x.id<4294967296) (hR:aA G w A x.rows) (hn:x.rows.length<=1000000000) (ht:Sp.total x.rows<=1000000000000000000) (hm:bE x=true) (hf:∀it,p.find x.id=some it->it.pins=0):
 Calls prog 72 #[ptr gp,iR x A c] w λe w'=>e=.returned (.int .i64 3)/\zB w w':=by
 have hba:=(zR w).alloc (za _) (.cells (aG x A c) 64);have h1:=h.keep hba.size (λb hb=>hba.block b (h.lt b hb));have aM:=aj.new w 64 (aG x A c);have mU:=Reads.below hR hba;have HM:=zH (cF (w:=w.alloc (.cells (aG x A c) 64)) h1.cells.2.2.2.2.2.2.1);have lU:=zH (mE (w:=w.alloc (.cells (aG x A c) 64)) (c:=c) mU hn ht);rw[hm] at lU;clear h hR;go_enter func72,ntmps72;go_wp2_with fail;obtain⟨w1,hw1⟩:=zE (w.alloc (.cells (aG x A c) 64));rw[<-hw1] at h1 aM mU HM lU hba ⊢;obtain⟨g3,hg3⟩:=zE w.heap.size;rw[<-hg3] at aM ⊢;clear hw1 hg3;have z0:=aM.cell 0;have z1:=aM.cell 1;have z2:=aM.cell 2;have z3:=aM.cell 3;have z4:=aM.cell 4;have z5:=aM.cell 5;simp only[zGA,zGB,zGC] at z0 z1 z2 z3 z4 z5;refine HM.out.mono ?_;rintro e w2 ⟨rfl,hw⟩;subst w2;go_wp2_with fail;refine lU.out.mono ?_;rintro e w2 ⟨rfl,hb2⟩;have dm:=hba.trans (hb2.mono hba.size);have h2:=h1.keep hb2.size (λb hb=>hb2.block b (h1.lt b hb));have bB:=aM.below hb2 aM.lt;have c6:=h2.cells.2.2.2.2.2.2.1;have z2:=bB.cell 2;simp only[zGA,zGB,zGC] at z2;have wL:=zH h2;clear z0 z1 z3 z4 z5 h1 aM mU HM lU h2
 cases kJ:p.find x.id with
 | none=>
  have hS:=zH (show w2.drew.cell? ⟨gp,6,none⟩=some (.map (some mb))/\w2.drew.cell? ⟨g3,2,none⟩=some (av x.id)/\(Instr.lookup 216 (.map (some mb)) (av x.id) true).run prog w2.drew=.ok (.tuple #[.int .i64 0,.bool false]) w2.drew from
   ⟨c6,z2,(wL.out.keep (w':=w2.drew) (za _) (λ_ _=>rfl)).gH hid kJ⟩)
  clear c6 z2;go_wp2_with fail;refine fQ (λW=>zC W gp 6 (.map (some mb))/\zC W g3 2 (av x.id)/\(Instr.lookup 216 (.map (some mb)) (av x.id) true).run prog W=.ok (.tuple #[.int .i64 0,.bool false]) W) (λ_=>false) ?_
  repeat (refine bK hS.out ?_)
  refine aC (by kernel_rfl) ?_ _;rename_i K9 aT;refine aT _ _ ?_;clear aT hS;go_wp2_with fail;go_ret;exact⟨rfl,⟨dm.os,dm.tape,dm.output,dm.size,dm.block⟩⟩
 | some it=>
  have oK:=hf it kJ;have hit:=(Sp.Pl.bu kJ).1;have hS:=zH (show w2.drew.cell? ⟨gp,6,none⟩=some (.map (some mb))/\w2.drew.cell? ⟨g3,2,none⟩=some (av x.id)/\(Instr.lookup 216 (.map (some mb)) (av x.id) true).run prog w2.drew=.ok (.tuple #[.int .i64 it.idx,.bool true]) w2.drew from
   ⟨c6,z2,(wL.out.keep (w':=w2.drew) (za _) (λ_ _=>rfl)).gw hid kJ⟩)
  clear c6 z2;go_wp2_with fail;refine fQ (λW=>zC W gp 6 (.map (some mb))/\zC W g3 2 (av x.id)/\(Instr.lookup 216 (.map (some mb)) (av x.id) true).run prog W=.ok (.tuple #[.int .i64 it.idx,.bool true]) W) (λ_=>false) ?_
  repeat (refine bK hS.out ?_)
  refine aC (by kernel_rfl) ?_ _;rename_i K9 aT;refine aT _ _ ?_;clear aT hS;have h3:=wL.out.keep (w':=w2.drew) (za _) (λ_ _=>rfl);obtain⟨c0,c1,c2,c3,c4,c5,c6,c7⟩:=h3.cells;have cp:=h3.pins hit;rw[oK] at cp;have vG:=h3.wf.fp hit;have lZ:=h3.wf.rV;have dY:zB w w2.drew:=⟨dm.os,dm.tape,dm.output,dm.size,dm.block⟩;obtain⟨w3,hw3⟩:=zE w2.drew;rw[<-hw3] at c4 cp dY ⊢;clear hw3 c0 c1 c2 c3 c5 c6 c7 h3 wL dm hb2 hba bB;go_wp2_with fail;go_ret;exact⟨rfl,dY⟩
end
theorem Sp.WX (p:Sp.Pl) (x:Sp.Pg):(p.upd x.id (Sp.It.put x)).items.map Sp.It.ri=Sp.Gq (p.items.map Sp.It.ri) x.id (λy=>if y.aK then{y with page:=x} else{y with page:=x,aK:=true,from_:=x.aL}):=by
 unfold Sp.Pl.upd Sp.Gq;rw[zat,zat];apply zY;intro y _;simp only[Function.comp];by_cases hy:y.page.id=x.id
 ·rw[zK hy,zK (show y.ri.page.id=x.id from hy)];unfold Sp.It.put;rw[zK hy]
  cases hd:y.aK with
  | true=>simp[Sp.It.ri,hd]
  | false=>simp[Sp.It.ri,hd]
 ·rw[zD hy,zD (show ¬y.ri.page.id=x.id from hy)]
theorem W6 {ly:Ly} {K G:af} {w:World} {gd gl gp:Nat} {l:Sp.Lg} {s:Sp.aF} (h:cn ly K w gd gl gp l s) {x:Sp.Pg} (hwf:x.wf) {A:Option Addr} {c:Nat} (hA:cO A) (hR:aA G w A x.rows) (hn:x.rows.length<=1000000000) (ht:Sp.total x.rows<=1000000000000000000):
 Calls prog 72 #[ptr gp,iR x A c] w (kV ly K w gd gl gp l (s.put x (bE x))):=by
 have H:=h;obtain⟨p,D,F,G1,dk,hpl,hd,hg,mV,og,nX,hr,hK,j4⟩:=h;have cQ:Sp.cJ s.L x.id=(p.find x.id).map Sp.It.ri:=by rw[hr.L];exact Sp.lO p x.id
 obtain⟨R,fb,cb,mb,v,s0,r,cs,hat⟩:=hpl
 cases hm:bE x with
 | false=>
  have e:s.put x false=(2,s):=by unfold Sp.aF.put;rw[zK rfl]
  rw[e];refine(CI hat hR hn ht hm).mono ?_;rintro e' w' ⟨rfl,hb⟩;exact jl H hb 2
 | true=>
  by_cases hno:∀it,p.find x.id=some it->it.pins=0
  ·have e:s.put x true=(3,s):=by
    unfold Sp.aF.put;rw[zD (by decide),cQ]
    cases hf:p.find x.id with
    | none=>rfl
    | some it=>simp[Sp.It.ri,hno it hf]
   rw[e];refine(Ap hat hwf.2.2.1 hR hn ht hm hno).mono ?_;rintro e' w' ⟨rfl,hb⟩;exact jl H hb 3
  ·cases hf:p.find x.id with
   | none=>exact absurd (λit h=>by rw[hf] at h;cases h) hno
   | some it=>
    have hp:1<=it.pins:=by
     rcases Nat.eq_zero_or_pos it.pins with e | e
     ·exact absurd (λit' h=>by rw[hf] at h;injection h with h;rw[<-h];exact e) hno
     ·exact e
    have e:s.put x true=(0,{s with L:=Sp.Gq s.L x.id (λy=>if y.aK then{y with page:=x} else{y with page:=x,aK:=true,from_:=x.aL})}):=by
     unfold Sp.aF.put;rw[zD (by decide),cQ,hf];simp only[zas];rw[zD (by show ¬it.pins=0;omega)]
    rw[e];refine(OQ hat ⟨hwf,(mF x).1 hm⟩ hA hR hf hp).mono ?_;rintro e' w' ⟨rfl,F',R',cs',h',ht'⟩;have e2:(p.upd x.id (Sp.It.put x)).items.map (·.page.id)=p.items.map (·.page.id):=Sp.Pl.pK (Sp.It.xB x);have yh:gY F' w' gp gd gl ly.at_ ly.base (p.upd x.id (Sp.It.put x)):=⟨R',fb,cb,mb,v,s0,r,cs',by rw[e2];exact h'⟩;refine JY hd hg mV og nX hK j4 yh ht' (hr.of h'.wf rfl ?_ (λy hy=>?_)) 0
    ·rw[hr.L];exact Sp.WX p x
    ·obtain⟨z,hz,rfl⟩:=Sp.Pl.lp hy;have:=hr.dA z hz
     split
     ·rw[(Sp.It.xB x).id];exact this
     ·exact this
end
open Go.RowKit Go.Conc
namespace Sp
def It.I7 (x:Pg) (y:It):It:=if y.page.id=x.id then{y with aK:=true,from_:=x.aL} else y
theorem It.yE (x:Pg):Jz (It.I7 x):=by
 constructor
 ·intro y;unfold It.I7
  split<;>rfl
 ·intro y;unfold It.I7
  split<;>rfl
end Sp
def Nu (Z:Nat->Sp.Pl->List Nat->af->af->World->Prop) (Z4:Nat->World->Prop) (H:af) (w:World) (gp gd gl at_ base fb cb mb:Nat) (x:Sp.Pg) (e:Ending) (w':World):Prop:=
 (∃c4:Nat,c4≠0/\e=.returned (.int .i64 c4)/\Z4 c4 w')\/
 ∃(i:Nat) (p':Sp.Pl) (F' H':af) (ids' rest:List Nat) (w2:World) (F3 R3:af) (v3:Value) (s3 r3:Nat) (Jk:Array Value),e=.returned (.int .i64 0)/\
  aH F3 R3 w' gp gd gl at_ base fb cb mb v3 s3 r3 Jk rest (ids'.filter (λy=> !(y==x.id))++[x.id]) (((p'.bring x i rest).fL x.id).upd x.id (Sp.It.I7 x))/\p'.free=i::rest/\p'.find x.id=none/\Z i p' ids' F' H' w2/\(∀b,F' b->H' b)/\aa H H' w w2/\(∃G:af,(∀b,G b->¬H' b/\w.heap.size<=b)/\aa (λb=>F' b\/G b) F3 w2 w')
theorem xG {F R H D G:af} {w:World} {at_ base:Nat} {cs:Array Value} {p:Sp.Pl} (h:aH F R w gp gd gl at_ base fb cb mb v s r cs fl ids p) {x:Sp.Pg} (hx:x.wf/\x.may) (hA:cO A) (hR:aA G w A x.rows) (hf:p.find x.id=none)
 {dk:Sp.Dk} (SD:cR D w gd dk) (MI:dk.bk≠0) (hlo:dk.loose=[]) (hi:base+x.id*4+4<=dk.sure.length) (hH:∀b,H b->b<w.heap.size)
 (Z:Nat->Sp.Pl->List Nat->af->af->World->Prop) (Z4:Nat->World->Prop)
 (hT:∀W,zB w W->aH F R W gp gd gl at_ base fb cb mb v s r cs fl ids p->Calls prog 201 #[ptr gp] W (tH Z Z4 H R W gp gd gl at_ base fb cb mb x.id))
 (ja:∀i p' ids' F' H' w2,Z i p' ids' F' H' w2->ids'.length<=64):
 Calls prog 81 #[ptr gp,iR x A c] w (Nu Z Z4 H w gp gd gl at_ base fb cb mb x):=by
 have hfit:=hx.2.2.2.2.2;have hid:x.id<4294967296:=hx.1.2.2.1;have hba:=(zR w).alloc (za _) (.cells (aG x A c) 64);have h1:=h.keep hba.size (λb hb=>hba.block b (h.lt b hb));have aM:=aj.new w 64 (aG x A c);have mU:=Reads.below hR hba;have GA:=SD.below hba;have HM:=zH (cF (w:=w.alloc (.cells (aG x A c) 64)) h1.cells.2.2.2.2.2.2.1);have lU:=zH (xK (w:=w.alloc (.cells (aG x A c) 64)) (c:=c) mU (by omega) (by omega));rw[(mF x).2 hx.2] at lU;have QO:=h.lt;have HT:=zH hT;clear h hR SD hT;go_enter func81,ntmps81;go_wp2_with fail;obtain⟨w1,hw1⟩:=zE (w.alloc (.cells (aG x A c) 64));rw[<-hw1] at h1 aM mU GA HM lU hba ⊢;obtain⟨g3,hg3⟩:=zE w.heap.size;rw[<-hg3] at aM ⊢;have MF:w.heap.size<=g3:=by omega
 clear hw1 hg3;have z0:=aM.cell 0;have z1:=aM.cell 1;have z2:=aM.cell 2;have z3:=aM.cell 3;have z4:=aM.cell 4;have z5:=aM.cell 5;simp only[zGA,zGB,zGC] at z0 z1 z2 z3 z4 z5;refine HM.out.mono ?_;rintro e w2 ⟨rfl,hw⟩;subst w2;go_wp2_with fail;refine lU.out.mono ?_;rintro e w2 ⟨rfl,hb2⟩;have dm:=hba.trans (hb2.mono hba.size);have h2:=h1.keep hb2.size (λb hb=>hb2.block b (h1.lt b hb));have bB:=aM.below hb2 aM.lt;have pW:=Reads.below mU hb2;have hd2:=GA.below hb2;have c6:=h2.cells.2.2.2.2.2.2.1;have z2:=bB.cell 2;simp only[zGA,zGB,zGC] at z2;have wL:=zH h2;have hS:=zH (show w2.drew.cell? ⟨gp,6,none⟩=some (.map (some mb))/\w2.drew.cell? ⟨g3,2,none⟩=some (av x.id)/\(Instr.lookup 216 (.map (some mb)) (av x.id) true).run prog w2.drew=.ok (.tuple #[.int .i64 0,.bool false]) w2.drew from
  ⟨c6,z2,(wL.out.keep (w':=w2.drew) (za _) (λ_ _=>rfl)).gH hid hf⟩)
 clear z0 z1 z3 z4 z5 h1 aM mU GA HM lU h2 c6 z2;go_wp2_with fail;refine fQ (λW=>zC W gp 6 (.map (some mb))/\zC W g3 2 (av x.id)/\(Instr.lookup 216 (.map (some mb)) (av x.id) true).run prog W=.ok (.tuple #[.int .i64 0,.bool false]) W) (λ_=>false) ?_
 repeat (refine bK hS.out ?_)
 refine aC (by kernel_rfl) ?_ _;rename_i K9 aT;refine aT _ _ ?_;clear aT hS;have h3:=wL.out.keep (w':=w2.drew) (za _) (λ_ _=>rfl);have cg:=bB.drew;have Qi:=hd2.below (Below.refl _ w2).drew;have dY:zB w w2.drew:=⟨dm.os,dm.tape,dm.output,dm.size,dm.block⟩;have vP:aA G w2.drew A x.rows:=Reads.below pW (Below.refl _ w2).drew;obtain⟨w3,hw3⟩:=zE w2.drew;rw[<-hw3] at h3 cg dY vP Qi ⊢;clear hw3 dm bB pW wL hb2 hba hd2;go_wp2_with fail;obtain⟨c0,c1,c2,c3,c4,c5,c6,c7⟩:=h3.cells;have z2:=cg.cell 2;simp only[zGA,zGB,zGC] at z2;have hS:=zH (show w3.drew.cell? ⟨gp,0,none⟩=some (ptr gd)/\w3.drew.cell? ⟨gp,3,none⟩=some (.int .i64 base)/\w3.drew.cell? ⟨g3,2,none⟩=some (av x.id) from⟨c0,c3,z2⟩);have JD:=zH (tX (w:=w3.drew) (Qi.below (Below.refl _ w3).drew) MI hlo base x.id hid hi);generalize Sp.cM dk.sure (base+x.id*4)=pg at*;clear c0 c1 c2 c3 c4 c5 c6 c7 z2;refine fQ (λW=>zC W gp 0 (ptr gd)/\zC W gp 3 (.int .i64 base)/\zC W g3 2 (av x.id)) (λ_=>false) ?_
 repeat (refine bK hS.out ?_)
 refine aI 10 39 (w':=w3.drew) rfl rfl (by rfl) (by kernel_rfl) ?_ JD.out ?_
 ·go_simp
 rintro e w4 ⟨rfl,hb4⟩;have hbd:zB w3 w4:=(zR w3).drew.trans hb4;have h4:=h3.keep hbd.size (λb hb=>hbd.block b (h3.lt b hb));have dn:=cg.below hbd cg.lt;have FH:=Reads.below vP hbd;have qx:zB w w4:=dY.trans (hbd.mono dY.size);have gz:w4.cell? ⟨gp,0,none⟩=some (ptr gd)/\w4.cell? ⟨gp,3,none⟩=some (.int .i64 base)/\w4.cell? ⟨g3,2,none⟩=some (av x.id):=⟨h4.cells.1,h4.cells.2.2.2.1,dn.cell 2⟩;clear hS JD;have hS:=zH gz;refine⟨_,rfl,λ_=>gz,?_⟩;clear gz;simp only[zSA,zSB,zSC]
 repeat (refine bK hS.out ?_)
 refine aC (by kernel_rfl) ?_ _;rename_i K9 aT;refine aT _ _ ?_;clear aT hS h3 cg vP Qi dY hb4 hbd;have z0:=dn.cell 0;have z1:=dn.cell 1;have z2:=dn.cell 2;have z3:=dn.cell 3;have z4:=dn.cell 4;have z5:=dn.cell 5;simp only[zGA,zGB,zGC] at z0 z1 z2 z3 z4 z5;have Sg:=zH (lC (c:=c) hA FH (by omega));have H4:=zH h4;clear h4 FH;go_wp2_with fail;refine Sg.out.mono ?_;rintro e w5 ⟨A',c',rfl,hA',vQ,cS⟩;have h5:=H4.out.keep cS.size (λb hb=>cS.block b (H4.out.lt b hb));have B0:=xm vQ;have eC:=dn.below cS dn.lt;have ux:zB w w5:=qx.trans (cS.mono qx.size);have hg34:=dn.lt;have Gx:=qx.size;have PJ:∀b,(w4.heap.size<=b/\rowOf w5 A' b)->b<w5.heap.size:=λb hb=>hb.2.2;have fI:=(zR w5).alloc (za _) (.cells (aG x A' c') 64);have jB:=zH (uU (w:=w5) (H:=H) (G:=λb=>w4.heap.size<=b/\rowOf w5 A' b) hx hA' B0 (λb hb=>⟨λhh=>by have:=hH b hh;have:=hb.1;omega,by have:=PJ b hb;omega⟩) (λb hb=>by have:=hH b hb;have:=ux.size;omega) Z Z4
  (HT.out _ (ux.trans (fI.mono ux.size)) (h5.keep fI.size (λb hb=>fI.block b (h5.lt b hb)))))
 have TN:=aa.az ux H;have hg3H:¬H g3:=λhh=>by have:=hH g3 hh;omega
 have hg3r:¬(w4.heap.size<=g3/\rowOf w5 A' g3):=λhh=>by omega
 have mj:=zH eC;clear fI HT h5 ux hA' vQ B0 eC H4 dn Sg z0 z1 z2 z3 z4 z5;go_wp2_with fail;refine jB.out.mono ?_;rintro e w7 (⟨c4,vO,rfl,hz,htz⟩ | ⟨i,p',F',H',v',s',r',cs',ids',rest,w6,rfl,h7,hfree,hnone,iA,hF',hZ,iU⟩)
 ·have dc:((c4:Int) != 0)=true:=by simpa using vO
  clear jB;go_wp2_with fail;go_ret;exact .inl ⟨c4,vO,rfl,hz⟩
 obtain⟨it,uq⟩:∃it:Sp.It,it=⟨x,0,false,0,i⟩:=⟨_,rfl⟩;obtain⟨p2,sU⟩:=zE (p'.bring x i rest);have hit:it∈p2.items:=by rw[sU,uq];simp[Sp.Pl.bring]
 have hxe:x=it.page:=by rw[uq]
 have PO:it.pins<1000000000:=by rw[uq];simp
 have hpin0':it.pins=0:=by rw[uq]
 rw[<-sU] at h7;have hf2:p2.find it.page.id=some it:=Sp.Pl.gy h7.wf hit;have hl':=ja i p' ids' F' H' w6 hZ;have Sa:=zH sU;have hg3H':¬H' g3:=λhh=>by
  have hz:=mj.out.lt;rcases iA.foot g3 hh with h | h
  ·exact hg3H h
  ·omega
 have Qd:¬(F' g3\/(w4.heap.size<=g3/\rowOf w5 A' g3)):=λhh=>by
  rcases hh with hh | hh
  ·exact hg3H' (hF' g3 hh)
  ·exact hg3r hh
 have fu:=(mj.out.turns iA hg3H).turns iU (λhh=>Qd (.inl hh));have Bj:=zH (kG h7 (id:=it.page.id) (by rw[<-hxe];exact hid) hf2 PO hl');have vG:=h7.wf.fp hit;have lZ:=h7.wf.rV;have TS:=iU.size;have hs56:=iA.size;have z2:=fu.cell 2;simp only[zGA,zGB,zGC] at z2;clear h7 sU uq mj jB;subst hxe;go_wp2_with fail;refine(Bj.out).mono ?_;rintro e w8 ⟨F3,v3,Jk,rfl,h8,ig⟩;clear Bj z2;have AO:({it with pins:=it.pins+1}:Sp.It)∈(p2.fL it.page.id).items:=zn.2 ⟨it,hit,by simp⟩;have SI:∀b,F3 b->(F' b\/(w4.heap.size<=b/\rowOf w5 A' b))\/w7.heap.size<=b:=λb hb=>ig.foot b hb;have iW:=fu.turns ig Qd;have Yq:=fu.lt;have XZ:¬F3 g3:=λhh=>by
  rcases SI g3 hh with h | h
  ·exact Qd h
  ·omega
 obtain⟨A2,c2,oq,pW,hc0⟩:=h8.fr.item _ AO;have vR:=h8.foot.2.1;have BR:g3≠fb:=λe=>XZ (e▸vR);have hcs:=h8.fr.size;have k7:=(h8.fr.blk.cell _).trans (hc0 7 (by omega));have k8:=(h8.fr.blk.cell _).trans (hc0 8 (by omega));simp only[aQ,zGB,zGC] at k7 k8;have y7:=h8.fr.blk.frozen (it.idx*9+7);have y8:=h8.fr.blk.frozen (it.idx*9+8);have z3:=iW.cell 3;simp only[zGA,zGB,zGC] at z3;have H8:=zH h8;clear h8 fu;go_wp2_with fail;have hS:=zH (show w8.drew.cell? ⟨g3,3,none⟩=some (.int .u64 it.page.aL) from z3);have MK:w8.drew.cell? ⟨fb,it.idx*9+7,none⟩=some (.bool it.aK):=k7;have IV:w8.drew.cell? ⟨fb,it.idx*9+8,none⟩=some (.int .u64 it.from_):=k8;have hy7:w8.drew.frozen? ⟨fb,it.idx*9+7,none⟩=false:=y7;have hy8:w8.drew.frozen? ⟨fb,it.idx*9+8,none⟩=false:=y8;have Ur:=H8.out.fr.blk.drew;have NF:aa F3 F3 w8 w8.drew:=(aa.refl F3 w8).drew;obtain⟨w9,uh⟩:=zE w8.drew;refine fQ (λW=>zC W g3 3 (.int .u64 it.page.aL)) (λ_=>false) ?_;rw[<-uh] at hS MK IV hy7 hy8 Ur NF ⊢;have Gy:∀b,b≠fb->w9.heap[b]? =w8.heap[b]? :=λb _=>by rw[uh];rfl
 have XN:w8.heap.size<=w9.heap.size:=by rw[uh];exact za _
 clear uh k7 k8 y7 y8 z3
 repeat (refine bK hS.out ?_)
 have FE:=zH ((show(w9.setCell ⟨fb,it.idx*9+7,none⟩ (.bool true)).cell? ⟨g3,3,none⟩=some (.int .u64 it.page.aL) from(World.cell?_of_block (a:=⟨g3,3,none⟩) (Below.heap_setCell w9 ⟨fb,it.idx*9+7,none⟩ (.bool true) g3 BR)).trans hS.out));refine jx 6 (w':=w9.setCell ⟨fb,it.idx*9+7,none⟩ (.bool true)) rfl (by go_simp) (λ_=>FE.out) ?_;have fq:=Ur.a_ (it.idx*9+7) (.bool true);have uj:=NF.setCell (p:=⟨fb,it.idx*9+7,none⟩) (.inl vR) (.bool true);have qP:∀b,b≠fb->(w9.setCell ⟨fb,it.idx*9+7,none⟩ (.bool true)).heap[b]? =w8.heap[b]? :=λb hb=>(Below.heap_setCell w9 _ _ b hb).trans (Gy b hb);have NI:w8.heap.size<=(w9.setCell ⟨fb,it.idx*9+7,none⟩ (.bool true)).heap.size:=by simpa[World.setCell] using XN
 have vK:=fq.frozen (it.idx*9+8);have hlt8:it.idx*9+8<Jk.size:=by rw[hcs];show _<p2.n*9;omega
 have qw:(w9.setCell ⟨fb,it.idx*9+7,none⟩ (.bool true)).cell? ⟨fb,it.idx*9+8,none⟩=some (.int .u64 it.from_):=by
  rw[fq.cell,zJ (by omega),<-Ur.cell];exact IV
 obtain⟨ot,Fj⟩:=zE (w9.setCell ⟨fb,it.idx*9+7,none⟩ (.bool true));rw[<-Fj] at FE fq uj qP NI vK qw ⊢;clear Fj MK IV hy7 hy8 Ur NF Gy XN hS
 repeat (refine bK FE.out ?_)
 have hS8:=zH ((show(ot.setCell ⟨fb,it.idx*9+8,none⟩ (.int .u64 it.page.aL)).cell? ⟨g3,3,none⟩=some (.int .u64 it.page.aL) from(World.cell?_of_block (a:=⟨g3,3,none⟩) (Below.heap_setCell ot ⟨fb,it.idx*9+8,none⟩ (.int .u64 it.page.aL) g3 BR)).trans FE.out));refine jx 9 (w':=ot.setCell ⟨fb,it.idx*9+8,none⟩ (.int .u64 it.page.aL)) rfl (by go_simp) (λ_=>hS8.out) ?_;have Q_:=zH (fq.a_ (it.idx*9+8) (.int .u64 it.page.aL));have sR:=zH (uj.setCell (p:=⟨fb,it.idx*9+8,none⟩) (.inl vR) (.int .u64 it.page.aL));have MC:Hid (∀b,b≠fb->(ot.setCell ⟨fb,it.idx*9+8,none⟩ (.int .u64 it.page.aL)).heap[b]? =w8.heap[b]?):=λb hb=>(Below.heap_setCell ot _ _ b hb).trans (qP b hb);have PF:Hid (w8.heap.size<=(ot.setCell ⟨fb,it.idx*9+8,none⟩ (.int .u64 it.page.aL)).heap.size):=by show _<=_;simpa[World.setCell] using NI
 refine aC (by kernel_rfl) ?_ _;rename_i K9 aT;refine aT _ _ ?_;clear aT fq uj qP NI FE hS8 vK qw;generalize ot.setCell ⟨fb,it.idx*9+8,none⟩ (.int .u64 it.page.aL)=JR at*;go_wp2_with fail;go_ret;have hpl:=H8.out.upd (f:=Sp.It.I7 it.page) (w':=JR) (cs':=(Jk.setIfInBounds (it.idx*9+7) (.bool true)).setIfInBounds (it.idx*9+8) (.int .u64 it.page.aL)) (Sp.It.yE it.page) AO ?_ PF.out (λb _ hb=>MC.out b hb) Q_.out ⟨by simp,λk hk=>?_⟩ ⟨A2,c2,oq,?_,λj hj=>?_⟩
 ·rw[Sa.out] at hpl;refine .inr ⟨i,p',F',H',ids',rest,w6,F3,(λb=>R b\/(w4.heap.size<=b/\rowOf w5 A' b)),v3,s',r',_,rfl,hpl,hfree,hnone,hZ,hF',TN.trans iA,⟨λb=>(w4.heap.size<=b/\rowOf w5 A' b),?_,?_⟩⟩
  ·rintro b hb;have hb4:=PJ b hb;refine⟨λhh=>?_,by have:=hb.1;omega⟩;rcases iA.foot b hh with h | h
   ·have:=hH b h;have:=hb.1;omega
   ·omega
  ·refine⟨sR.out.os.trans (ig.os.trans iU.os),sR.out.tape.trans (ig.tape.trans iU.tape),sR.out.output.trans (ig.output.trans iU.output),zl TS (zl ig.size sR.out.size),λb hb hn=>?_,λb hb=>?_⟩
   ·have hbF3:¬F3 b:=λhh=>by
     rcases SI b hh with h | h
     ·exact hn h
     ·omega
    have D4:=ig.size;rw[sR.out.block b (by omega) hbF3,ig.block b (by omega) hn];exact iU.block b hb (λh=>hn (.inl h))
   ·rcases SI b hb with h | h
    ·exact .inl h
    ·exact .inr (by omega)
 ·have hsm:=H8.out.wf.small _ AO;have rW:=H8.out.wf.pg _ AO;unfold Sp.It.I7;rw[zK rfl];exact⟨rW.1,rW.2,hsm.1,rW.1.2.2.2.1⟩
 ·rw[zJ (by have:(k<it.idx*9\/it.idx*9+9<=k):=hk;omega),zJ (by have:(k<it.idx*9\/it.idx*9+9<=k):=hk;omega)]
 ·have e:(Sp.It.I7 it.page {it with pins:=it.pins+1}).page=it.page:=by
   unfold Sp.It.I7;rw[zK rfl]
  rw[e];exact pW.keep PF.out (λb hb=>MC.out b (H8.out.rows b hb).2.2.1)
 ·have e:Sp.It.I7 it.page {it with pins:=it.pins+1}={it with pins:=it.pins+1,aK:=true,from_:=it.page.aL}:=by
   unfold Sp.It.I7;rw[zK rfl]
  rw[e];show((Jk.setIfInBounds (it.idx*9+7) (.bool true)).setIfInBounds (it.idx*9+8) (.int .u64 it.page.aL))[it.idx*9+j]? =_;by_cases j8:j=8
  ·subst j8;rw[zaq (by simp;omega)];rfl
  ·rw[zJ (by omega)];by_cases j7:j=7
   ·subst j7;rw[zaq (by omega)];rfl
   ·rw[zJ (by omega)];have:=hc0 j hj;refine this.trans ?_;have hj7:j<7:=by omega
    match j,hj7 with
    | 0,_ | 1,_ | 2,_ | 3,_ | 4,_ | 5,_ | 6,_=>rfl
section
open Go.Conc
section
variable {F R G:af} {w:World} {gp gd gl at_ base fb cb mb s r:Nat} {v:Value} {cs:Array Value} {fl ids:List Nat} {p:Sp.Pl} {x:Sp.Pg} {A:Option Addr} {c:Nat}
theorem xI (h:aH F R w gp gd gl at_ base fb cb mb v s r cs fl ids p) (hR:aA G w A x.rows) (hn:x.rows.length<=1000000000) (ht:Sp.total x.rows<=1000000000000000000) (hm:bE x=false):
 Calls prog 81 #[ptr gp,iR x A c] w λe w'=>e=.returned (.int .i64 2)/\zB w w':=by
 have hba:=(zR w).alloc (za _) (.cells (aG x A c) 64);have h1:=h.keep hba.size (λb hb=>hba.block b (h.lt b hb));have aM:=aj.new w 64 (aG x A c);have mU:=Reads.below hR hba;have HM:=zH (cF (w:=w.alloc (.cells (aG x A c) 64)) h1.cells.2.2.2.2.2.2.1);have lU:=zH (mE (w:=w.alloc (.cells (aG x A c) 64)) (c:=c) mU hn ht);rw[hm] at lU;clear h hR;go_enter func81,ntmps81;go_wp2_with fail;obtain⟨w1,hw1⟩:=zE (w.alloc (.cells (aG x A c) 64));rw[<-hw1] at h1 aM mU HM lU hba ⊢;obtain⟨g3,hg3⟩:=zE w.heap.size;rw[<-hg3] at aM ⊢;clear hw1 hg3;have z0:=aM.cell 0;have z1:=aM.cell 1;have z2:=aM.cell 2;have z3:=aM.cell 3;have z4:=aM.cell 4;have z5:=aM.cell 5;simp only[zGA,zGB,zGC] at z0 z1 z2 z3 z4 z5;refine HM.out.mono ?_;rintro e w2 ⟨rfl,hw⟩;subst w2;go_wp2_with fail;refine lU.out.mono ?_;rintro e w2 ⟨rfl,hb2⟩;have dm:=hba.trans (hb2.mono hba.size);clear z0 z1 z2 z3 z4 z5 h1 aM mU HM lU;go_wp2_with fail;go_ret;exact⟨rfl,dm⟩
theorem vA (h:aH F R w gp gd gl at_ base fb cb mb v s r cs fl ids p) (hR:aA G w A x.rows) (hn:x.rows.length<=1000000000) (ht:Sp.total x.rows<=1000000000000000000) (hid:x.id<4294967296) (hm:bE x=true) {it:Sp.It} (hf:p.find x.id=some it):
 Calls prog 81 #[ptr gp,iR x A c] w λe w'=>e=.returned (.int .i64 8)/\zB w w':=by
 have hba:=(zR w).alloc (za _) (.cells (aG x A c) 64);have h1:=h.keep hba.size (λb hb=>hba.block b (h.lt b hb));have aM:=aj.new w 64 (aG x A c);have mU:=Reads.below hR hba;have HM:=zH (cF (w:=w.alloc (.cells (aG x A c) 64)) h1.cells.2.2.2.2.2.2.1);have lU:=zH (mE (w:=w.alloc (.cells (aG x A c) 64)) (c:=c) mU hn ht);rw[hm] at lU;clear h hR;go_enter func81,ntmps81;go_wp2_with fail;obtain⟨w1,hw1⟩:=zE (w.alloc (.cells (aG x A c) 64));rw[<-hw1] at h1 aM mU HM lU hba ⊢;obtain⟨g3,hg3⟩:=zE w.heap.size;rw[<-hg3] at aM ⊢;clear hw1 hg3;have z0:=aM.cell 0;have z1:=aM.cell 1;have z2:=aM.cell 2;have z3:=aM.cell 3;have z4:=aM.cell 4;have z5:=aM.cell 5;simp only[zGA,zGB,zGC] at z0 z1 z2 z3 z4 z5;refine HM.out.mono ?_;rintro e w2 ⟨rfl,hw⟩;subst w2;go_wp2_with fail;refine lU.out.mono ?_;rintro e w2 ⟨rfl,hb2⟩;have dm:=hba.trans (hb2.mono hba.size);have h2:=h1.keep hb2.size (λb hb=>hb2.block b (h1.lt b hb));have bB:=aM.below hb2 aM.lt;have c6:=h2.cells.2.2.2.2.2.2.1;have z2:=bB.cell 2;simp only[zGA,zGB,zGC] at z2;have wL:=zH h2;have hS:=zH (show w2.drew.cell? ⟨gp,6,none⟩=some (.map (some mb))/\w2.drew.cell? ⟨g3,2,none⟩=some (av x.id)/\(Instr.lookup 216 (.map (some mb)) (av x.id) true).run prog w2.drew=.ok (.tuple #[.int .i64 it.idx,.bool true]) w2.drew from
  ⟨c6,z2,(wL.out.keep (w':=w2.drew) (za _) (λ_ _=>rfl)).gw hid hf⟩)
 clear z0 z1 z3 z4 z5 h1 aM mU HM lU h2 c6 z2;go_wp2_with fail;refine fQ (λW=>zC W gp 6 (.map (some mb))/\zC W g3 2 (av x.id)/\(Instr.lookup 216 (.map (some mb)) (av x.id) true).run prog W=.ok (.tuple #[.int .i64 it.idx,.bool true]) W) (λ_=>false) ?_
 repeat (refine bK hS.out ?_)
 refine aC (by kernel_rfl) ?_ _;rename_i K9 aT;refine aT _ _ ?_;clear aT hS;go_wp2_with fail;go_ret;exact⟨rfl,⟨dm.os,dm.tape,dm.output,dm.size,dm.block⟩⟩
theorem xH (h:aH F R w gp gd gl at_ base fb cb mb v s r cs fl ids p) (hR:aA G w A x.rows) (hn:x.rows.length<=1000000000) (ht:Sp.total x.rows<=1000000000000000000) (hid:x.id<4294967296) (hm:bE x=true) (hf:p.find x.id=none)
 (hfar:∀W,zB w W->Calls prog 136 #[ptr gd,.int .i64 base,av x.id] W λe w'=>e=.returned (.tuple #[str [],.int .i64 2])/\zB W w'):
 Calls prog 81 #[ptr gp,iR x A c] w λe w'=>e=.returned (.int .i64 2)/\zB w w':=by
 have HFAR:=zH hfar;have hba:=(zR w).alloc (za _) (.cells (aG x A c) 64);have h1:=h.keep hba.size (λb hb=>hba.block b (h.lt b hb));have aM:=aj.new w 64 (aG x A c);have mU:=Reads.below hR hba;have HM:=zH (cF (w:=w.alloc (.cells (aG x A c) 64)) h1.cells.2.2.2.2.2.2.1);have lU:=zH (mE (w:=w.alloc (.cells (aG x A c) 64)) (c:=c) mU hn ht);rw[hm] at lU;clear h hR;go_enter func81,ntmps81;go_wp2_with fail;obtain⟨w1,hw1⟩:=zE (w.alloc (.cells (aG x A c) 64));rw[<-hw1] at h1 aM mU HM lU hba ⊢;obtain⟨g3,hg3⟩:=zE w.heap.size;rw[<-hg3] at aM ⊢;clear hw1 hg3;have z0:=aM.cell 0;have z1:=aM.cell 1;have z2:=aM.cell 2;have z3:=aM.cell 3;have z4:=aM.cell 4;have z5:=aM.cell 5;simp only[zGA,zGB,zGC] at z0 z1 z2 z3 z4 z5;refine HM.out.mono ?_;rintro e w2 ⟨rfl,hw⟩;subst w2;go_wp2_with fail;refine lU.out.mono ?_;rintro e w2 ⟨rfl,hb2⟩;have dm:=hba.trans (hb2.mono hba.size);have h2:=h1.keep hb2.size (λb hb=>hb2.block b (h1.lt b hb));have bB:=aM.below hb2 aM.lt;have c6:=h2.cells.2.2.2.2.2.2.1;have z2:=bB.cell 2;simp only[zGA,zGB,zGC] at z2;have wL:=zH h2;have hS:=zH (show w2.drew.cell? ⟨gp,6,none⟩=some (.map (some mb))/\w2.drew.cell? ⟨g3,2,none⟩=some (av x.id)/\(Instr.lookup 216 (.map (some mb)) (av x.id) true).run prog w2.drew=.ok (.tuple #[.int .i64 0,.bool false]) w2.drew from
  ⟨c6,z2,(wL.out.keep (w':=w2.drew) (za _) (λ_ _=>rfl)).gH hid hf⟩)
 clear z0 z1 z3 z4 z5 h1 aM mU HM lU h2 c6 z2;go_wp2_with fail;refine fQ (λW=>zC W gp 6 (.map (some mb))/\zC W g3 2 (av x.id)/\(Instr.lookup 216 (.map (some mb)) (av x.id) true).run prog W=.ok (.tuple #[.int .i64 0,.bool false]) W) (λ_=>false) ?_
 repeat (refine bK hS.out ?_)
 refine aC (by kernel_rfl) ?_ _;rename_i K9 aT;refine aT _ _ ?_;clear aT hS;have h3:=wL.out.keep (w':=w2.drew) (za _) (λ_ _=>rfl);have cg:=bB.drew;have dY:zB w w2.drew:=⟨dm.os,dm.tape,dm.output,dm.size,dm.block⟩;obtain⟨w3,hw3⟩:=zE w2.drew;rw[<-hw3] at h3 cg dY ⊢;clear hw3 dm bB wL hb2 hba;go_wp2_with fail;obtain⟨c0,c1,c2,c3,c4,c5,c6,c7⟩:=h3.cells;have z2:=cg.cell 2;simp only[zGA,zGB,zGC] at z2;have hS:=zH (show w3.drew.cell? ⟨gp,0,none⟩=some (ptr gd)/\w3.drew.cell? ⟨gp,3,none⟩=some (.int .i64 base)/\w3.drew.cell? ⟨g3,2,none⟩=some (av x.id) from⟨c0,c3,z2⟩);have JD:=zH (HFAR.out w3.drew (dY.trans ((zR w3).drew.mono dY.size)));clear c0 c1 c2 c3 c4 c5 c6 c7 z2;refine fQ (λW=>zC W gp 0 (ptr gd)/\zC W gp 3 (.int .i64 base)/\zC W g3 2 (av x.id)) (λ_=>false) ?_
 repeat (refine bK hS.out ?_)
 refine aI 10 39 (w':=w3.drew) rfl rfl (by rfl) (by kernel_rfl) ?_ JD.out ?_
 ·go_simp
 rintro e w4 ⟨rfl,hb4⟩;have hbd:zB w3 w4:=(zR w3).drew.trans hb4;have h4:=h3.keep hbd.size (λb hb=>hbd.block b (h3.lt b hb));have dn:=cg.below hbd cg.lt;have qx:zB w w4:=dY.trans (hbd.mono dY.size);have gz:w4.cell? ⟨gp,0,none⟩=some (ptr gd)/\w4.cell? ⟨gp,3,none⟩=some (.int .i64 base)/\w4.cell? ⟨g3,2,none⟩=some (av x.id):=⟨h4.cells.1,h4.cells.2.2.2.1,dn.cell 2⟩;clear hS JD;have hS:=zH gz;refine⟨_,rfl,λ_=>gz,?_⟩;clear gz;simp only[zSA,zSB,zSC]
 repeat (refine bK hS.out ?_)
 refine aC (by kernel_rfl) ?_ _;rename_i K9 aT;refine aT _ _ ?_;clear aT hS h3 cg dY hb4 hbd;go_wp2_with fail;go_ret;exact⟨rfl,qx⟩
end
end
open Go.RowKit Go.Conc
namespace Sp
def aF.fresh (s:aF) (x:Pg) (may:Bool):Nat×aF:=
 if may=false then(2,s)
 else if dJ s.L x.id=true then(8,s)
 else if s.top<x.id then(2,s)
 else
  let r:=s.room
  if r.1≠0 then(r.1,r.2) else(0,{r.2 with L:=r.2.L++[⟨x,1,true,x.aL⟩]})
theorem Y8 {p:Pl} {x:Pg} (h:p.find x.id=none):((((p.bring x i rest).fL x.id).upd x.id (It.I7 x)).items).map It.ri=p.items.map It.ri++[⟨x,1,true,x.aL⟩]:=by
 have e:=lG (p:=p) (x:=x) (i:=i) (rest:=rest) h;show(List.map _ ((p.bring x i rest).fL x.id).items).map It.ri=_;rw[e,zI,zI]
 congr 1
 ·rw[zat];apply zY;intro y hy;have:=Pl.ir.1 h y hy;simp only[Function.comp];rw[zD this]
 ·simp[It.I7,It.ri]
end Sp
theorem OW {ly:Ly} {K G0:af} {w:World} {l:Sp.Lg} {s:Sp.aF} (h:cn ly K w gd gl gp l s) {x:Sp.Pg} (hwf:x.wf) (hA:cO A) (hR:aA G0 w A x.rows) (hn:x.rows.length<=1000000000) (ht:Sp.total x.rows<=1000000000000000000):
 Calls prog 81 #[ptr gp,iR x A c] w (kV ly K w gd gl gp l (s.fresh x (bE x))):=by
 have HH:=h;obtain⟨p,D,F,G,dk,hpl,hd,hg,mV,og,nX,hr,hK,j4⟩:=h;have hwp:=hpl.wf;have nB:Sp.dJ s.L x.id=(p.find x.id).isSome:=by rw[hr.L];exact Sp.Dd p x.id
 have u9:∀{w':World} {X:af},aa (cj F D G) X w w'->Kept K w w':=λht=>Kept.gF ht (λb hk=>⟨j4 b hk,λhF=>hK b hF hk⟩);obtain⟨R,fb,cb,mb,v,s0,r,cs,hat⟩:=hpl
 cases hm:bE x with
 | false=>
  have e:s.fresh x false=(2,s):=by unfold Sp.aF.fresh;rw[zK rfl]
  rw[e];refine(xI hat hR hn ht hm).mono ?_;rintro e' w' ⟨rfl,hb⟩;exact jl HH hb 2
 | true=>
  have hmay:=(mF x).1 hm
  cases hf:p.find x.id with
  | some it=>
   have e:s.fresh x true=(8,s):=by
    unfold Sp.aF.fresh;rw[zD (by decide),zK (by rw[nB,hf];rfl)]
   rw[e];refine(vA hat hR hn ht hwf.2.2.1 hm hf).mono ?_;rintro e' w' ⟨rfl,hb⟩;exact jl HH hb 8
  | none=>
   have hno:¬Sp.dJ s.L x.id=true:=by rw[nB,hf];decide
   by_cases hkt:ly.top<x.id
   ·have e:s.fresh x true=(2,s):=by
     unfold Sp.aF.fresh;rw[zD (by decide),zD hno,zK (by rw[hr.top];exact hkt)]
    rw[e];refine(xH hat hR hn ht hwf.2.2.1 hm hf (λW hb=>?_)).mono ?_
    ·refine(qA (hd.below hb) ly.base x.id hwf.2.2.1 (by rw[hr.B_.len];have:=ly.fits;omega) (by rw[hr.B_.len];have:=hr.tight;omega)).mono ?_;rintro e' w' ⟨rfl,rfl⟩;exact⟨rfl,Below.refl _ _⟩
    ·rintro e' w' ⟨rfl,hb⟩;exact jl HH hb 2
   ·have hin:=hr.inside (n:=x.id) hmay.2.1 (by omega);have hM:Mem F D G R w gp gd gl ly.at_ ly.base fb cb mb v s0 r cs p.free (p.items.map (·.page.id)) p dk l:=⟨hat,hd,hg,mV,og,nX⟩;have hall:∀it∈p.items,Sp.inside dk.sure.length ly.at_ ly.base it.page.id:=λit hit=>hr.inside (hr.dA it hit).1 (hr.dA it hit).2;unfold Sp.inside at hin;refine(xG (H:=cj F D G) hat ⟨hwf,hmay⟩ hA hR hf hd (by rw[hr.dl.bk];decide) hr.dl.loose hin.1 hM.lt
     (ZM G gd gl ly.at_ ly.base p dk l (p.items.map (·.page.id))) (Z4M F D G R w gp gd gl ly.at_ ly.base fb cb mb v s0 r (p.items.map (·.page.id)) p dk l)
     (λW hb hW=>Ep (id:=x.id) hM hr.dl rfl hall hf W hb)
     (λi p' ids' F' H' w2 hZ=>by
      obtain⟨D',d',l',_,_,_,_,_,_,hS⟩:=hZ;obtain⟨_,hr',hi⟩:=hr.wC hS;have:=hr'.wf.len;have:=hr'.wf.rV;rw[hi,zM];omega)).mono ?_
    have hfr:s.fresh x true=(if s.room.1≠0 then(s.room.1,s.room.2) else(0,{s.room.2 with L:=s.room.2.L++[⟨x,1,true,x.aL⟩]})):=by
     unfold Sp.aF.fresh;rw[zD (by decide),zD hno,zD (by rw[hr.top];omega)]
    rintro e' w' (⟨c4,vO,rfl,⟨hE,cs',jK,dx⟩⟩ | ⟨i,p',F',H',ids',rest,w2,F3,R3,v3,s3,r3,Jk,rfl,h',hfree,hnone,⟨D',d',l',rfl,Ad,B1,s6,FI,I4,hS⟩,hF',ht,⟨G0,QN,gA⟩⟩)
    ·obtain⟨er,_⟩:=hr.EB hE;rw[er,zK vO] at hfr;rw[hfr];refine⟨u9 dx,rfl,?_⟩;show cn ly K w' gd gl gp {l with forced:=s.forced} s;rw[<-hr.Vd];exact gT ⟨R,fb,cb,mb,v,s0,r,cs',jK.pl⟩ jK.dk jK.lg mV og nX hr hK j4 dx (λb hb=>.inl hb)
    ·obtain⟨e1,hr',ja⟩:=hr.wC hS;rw[zD (by rw[e1];simp)] at hfr;rw[hfr];have hz:=ht.size;have QT:∀b,F3 b->(F' b\/G0 b)\/w2.heap.size<=b:=gA.foot;have hn:∀b,D' b\/G b->¬F3 b:=λb hb hf3=>by
      rcases QT b hf3 with(e | e) | e
      ·rcases hb with hb | hb
       ·exact s6 b e hb
       ·exact FI b e hb
      ·exact(QN b e).1 (.inr hb)
      ·rcases hb with hb | hb
       ·have:=Ad.dA b hb;omega
       ·have:=B1.dA b hb;omega
     have hk3:∀b,D' b\/G b->b<w2.heap.size->w'.heap[b]? =w2.heap[b]? :=λb hb hlt=>gA.block b hlt (λe=>by
      rcases e with e | e
      ·rcases hb with hb | hb
       ·exact s6 b e hb
       ·exact FI b e hb
      ·exact(QN b e).1 (.inr hb))
     have gW:aa (cj F D G) (cj F3 D' G) w w':=by
      refine⟨gA.os.trans ht.os,gA.tape.trans ht.tape,gA.output.trans ht.output,zl hz gA.size,λb hb hn=>?_,λb hb=>?_⟩
      ·rw[gA.block b (by omega) (λe=>by
        rcases e with e | e
        ·rcases ht.foot b (.inl e) with h | h
         ·exact hn h
         ·omega
        ·have:=(QN b e).2;omega)]
       exact ht.block b hb hn
      ·rcases hb with hb | hb
       ·rcases QT b hb with(e | e) | e
        ·exact ht.foot b (.inl e)
        ·exact .inr (QN b e).2
        ·exact .inr (zl hz e)
       ·exact ht.foot b (.inr hb)
     have e2:((((p'.bring x i rest).fL x.id).upd x.id (Sp.It.I7 x)).items.map (·.page.id))=ids'.filter (λy=> !(y==x.id))++[x.id]:=by
      have hnot:ids'.filter (λy=> !(y==x.id))=ids':=by
       rw[List.filter_eq_self];intro a ha;rw[ja] at ha;obtain⟨y,hy,rfl⟩:=zn.1 ha;have:=Sp.Pl.ir.1 hnone y hy;simpa using this
      rw[hnot,ja];refine(Sp.Pl.pK (Sp.It.yE x)).trans ?_;rw[Sp.lG hnone,zI];rfl
     have yh:gY F3 w' gp gd gl ly.at_ ly.base (((p'.bring x i rest).fL x.id).upd x.id (Sp.It.I7 x)):=⟨R3,fb,cb,mb,v3,s3,r3,Jk,by rw[e2];exact h'⟩;have hr3:mi ly (((p'.bring x i rest).fL x.id).upd x.id (Sp.It.I7 x)) d' l' {s.room.2 with L:=s.room.2.L++[⟨x,1,true,x.aL⟩]}:=by
      refine hr'.of h'.wf rfl (by rw[hr'.L];exact Sp.Y8 hnone) (λy hy=>?_);obtain⟨z,hz,rfl⟩:=Sp.Pl.lp hy;rw[Sp.lG hnone] at hz;have hx':1<=z.page.id/\z.page.id<=ly.top:=by
       rcases zz.1 hz with hz | hz
       ·exact hr'.dA z hz
       ·rw[zq.1 hz];exact⟨hmay.2.1,by show x.id<=_;omega⟩
      split
      ·rw[(Sp.It.yE x).id];exact hx'
      ·exact hx'
     have Y_:l'={l with forced:=({s.room.2 with L:=s.room.2.L++[⟨x,1,true,x.aL⟩]}:Sp.aF).forced}:=hr3.lg (by have:=hS.lg;exact this);refine⟨u9 gW,rfl,?_⟩;show cn ly _ w' gd gl gp {l with forced:=_} _;rw[<-Y_];exact gT yh (Ad.keep (λb hb=>hk3 b (.inl hb) (Ad.dA b hb))) (B1.keep (λb hb=>hk3 b (.inr hb) (B1.dA b hb))) (λb h1 h2=>hn b (.inl h2) h1) (λb h1 h2=>hn b (.inr h2) h1) I4 hr3 hK j4 gW (λb hb=>.inl hb)
section
open Go.Conc

end
open Go.RowKit Go.Conc
namespace Sp
end Sp
section
variable {ly:Ly} {K:af} {w:World} {gd gl gp:Nat} {l:Sp.Lg} {s:Sp.aF}
end
open Go.RowKit Go.Conc
namespace Sp
def aF.pages (s:aF):List Nat:=sorted (s.L.map (·.page.id))
def aF.aU (s:aF):List (Nat×Nat):=(s.pages.filter (aW s.L)).map λn=>(n,((cJ s.L n).map (·.from_)).getD 0)
end Sp
section
variable {ly:Ly} {K:af} {w:World} {gd gl gp:Nat} {l:Sp.Lg} {s:Sp.aF}
theorem pk_pages (h:cn ly K w gd gl gp l s) (h12:s.frames<=12):
 Calls prog 122 #[ptr gp] w λe w'=>∃A c,e=.returned (.slice A s.pages.length c)/\Reads (λb=>w.heap.size<=b) w' 1 A s.pages.length (s.pages.map av)/\zB w w':=by
 obtain⟨p,D,F,G,dk,hpl,hd,hg,mV,og,nX,hr,hK,j4⟩:=h;refine(xF hpl (by have:=hr.frames;omega)).mono ?_;rintro e w' ⟨v,rfl,hv,hb⟩;have e1:s.pages=Sp.sorted (p.items.map (·.page.id)):=by
  unfold Sp.aF.pages;rw[hr.L,zat];rfl
 have e2:p.items.length=s.pages.length:=by
  rw[e1,(Sp.aX _).1.length_eq,zM]
 rw[e2,<-e1] at hv;rcases hv.2 with⟨h0,h1⟩ | ⟨g,cap,cur,h0,_⟩
 ·have h3:s.pages=[]:=zy h1;rw[h3];exact⟨none,0,by rw[h0];rfl,Reads.none_,hb⟩
 ·subst h0;exact⟨some ⟨g,0,none⟩,cap,rfl,eX hv,hb⟩
theorem OZ (h:cn ly K w gd gl gp l s) (h12:s.frames<=12):
 Calls prog 47 #[ptr gp] w λe w'=>∃A c,e=.returned (.slice A s.aU.length c)/\Reads (λb=>w.heap.size<=b) w' 2 A s.aU.length (tj s.aU)/\zB w w':=by
 obtain⟨p,D,F,G,dk,hpl,hd,hg,mV,og,nX,hr,hK,j4⟩:=h;refine(Hs hpl (by have:=hr.frames;omega)).mono ?_;rintro e w' ⟨v,rfl,hv,hb⟩;have e1:s.aU=p.FO (Sp.sorted (p.items.map (·.page.id))):=by
  unfold Sp.aF.aU Sp.aF.pages Sp.Pl.FO;rw[hr.L,zat,show Sp.aW (p.items.map Sp.It.ri)=p.jR from funext (Sp.kI p)];refine congrArg (λf=>List.map f _) (funext λn=>?_);rw[Sp.lO];unfold Sp.Pl.uy
  cases p.find n<;>rfl
 rw[<-e1] at hv;rcases hv.2 with⟨h0,h1⟩ | ⟨g,cap,cur,h0,_⟩
 ·have h3:s.aU=[]:=zy h1;rw[h3];exact⟨none,0,by rw[h0];rfl,Reads.none_,hb⟩
 ·subst h0;exact⟨some ⟨g,0,none⟩,cap,rfl,eX hv,hb⟩
end
section
open Go.Conc
def NM (_:Option Addr):Prop:=True
def au (x:Sp.RI) (A:Option Addr) (c:Nat):List Value:=[.int .u8 x.page.kind,.int .u8 x.page.level,.int .u32 x.page.id,.int .u64 x.page.aL,.int .u32 x.page.next,.slice A x.page.rows.length c,.int .i64 x.pins,.bool x.aK,.int .u64 x.from_]
def fE (G:af) (w:World) (L:List Sp.RI) (xs:List Value):Prop:=
 xs.length=L.length*9/\∀i x,L[i]? =some x->∃A c,NM A/\aA G w A x.page.rows/\∀j,j<9->xs[i*9+j]? =(au x A c)[j]?
def Sp.aF.home (s:Sp.aF) (q:Nat):Sp.Pg:=if q=0 then⟨0,0,1048576,0,0,[]⟩ else s.cm q
def PgRow (G:af) (w:World) (s:Sp.aF) (ys:List Value):Prop:=
 ys.length=(s.top+1)*6/\∀q,q<=s.top->∃A c,NM A/\aA G w A (s.home q).rows/\∀j,j<6->ys[q*6+j]? =(aG (s.home q) A c)[j]?
structure bG (B:Nat) (G:af) (w:World) (gr:Nat) (vL vD:Value) (s:Sp.aF):Prop where
 blk:aj w gr 60 #[.int .i64 s.frames,vL,vD,.int .u64 s.forced,.int .u64 s.next]
 L:∃xs,w.ownsRow B 207 9 vL s.L.length xs/\fE G w s.L xs
 D:∃ys,w.ownsRow B 64 6 vD (s.top+1) ys/\PgRow G w s ys
 few:s.L.length<=64
 ids:∀x∈s.L,x.page.id<4294967296
 nd:(s.L.map (·.page.id)).Nodup
 Lr:vL.ownBlock≠some gr
 Dr:vD.ownBlock≠some gr
 LD:∀b,vL.ownBlock=some b->vD.ownBlock≠some b
 g:∀b,G b->b<w.heap.size/\b≠gr/\vL.ownBlock≠some b/\vD.ownBlock≠some b
 lo:B<=gr
def Sp.aF.at_ (s:Sp.aF) (id:Nat):Int:=match s.L.findIdx? (λx=>x.page.id==id) with
 | some i=>(i:Int)
 | none=> -1
section
variable {B gr:Nat} {G:af} {w:World} {vL vD:Value} {s:Sp.aF}
theorem bG.slice (h:bG B G w gr vL vD s):∃A c,vL=.slice A s.L.length c/\(0<s.L.length->∃g,A=some ⟨g,0,none⟩/\∀i x,s.L[i]? =some x->w.cell? ⟨g,i*9+2,none⟩=some (.int .u32 x.page.id)):=by
 obtain⟨xs,hrow,hR⟩:=h.L;rcases hrow.2 with⟨h0,h1⟩ | ⟨g,cap,cur,h0,_⟩
 ·exact⟨none,0,by rw[h0,h1],λh=>by omega⟩
 ·subst h0;refine⟨some ⟨g,0,none⟩,cap,rfl,λ_=>⟨g,rfl,λi x hx=>?_⟩⟩;obtain⟨A,c,_,_,hc⟩:=hR.2 i x hx;have:=hrow.cells (g:=g) rfl (i*9+2) _ (hc 2 (by omega));rw[show(⟨g,0,none⟩:Addr).add (i*9+2)=⟨g,0+(i*9+2),none⟩ by unfold Addr.add;split<;>simp_all,zaj] at this;exact this
theorem lX (h:bG B G w gr vL vD s) (id:Nat):
 Calls prog 119 #[ptr gr,av id] w λe w'=>e=.returned (.int .i64 (s.at_ id))/\zB w w':=by
 obtain⟨A,c,rfl,hcell⟩:=h.slice;have jb:=h.few;have H:=zH h.blk;have HC:=zH hcell;have kW:=h.blk.lt;clear h hcell;go_enter func119,ntmps119;go_wp2_with fail;go_loopw [5] (λi wr=>∃k:Nat,k<=s.L.length/\i=.int .i64 k/\(∀x∈s.L.take k,x.page.id≠id)/\w=wr) (λi _=>s.L.length-(intOf i).toNat)
 case atStart=>exact⟨0,by omega,rfl,by simp,rfl⟩
 case round=>
  obtain⟨k,hk,rfl,hno,rfl⟩:=hrel;have c1:=H.out.cell 1;simp only[zGA,zGB,zGC] at c1;by_cases hlt:k<s.L.length
  ·obtain⟨g,rfl,hg⟩:=HC.out (by omega);have hx:s.L[k]? =some s.L[k]:=zk hlt;have GH:=hg k _ hx;have htk:s.L.take (k+1)=s.L.take k++[s.L[k]]:=zg hlt;have hmeas:k+1<=s.L.length:=hlt;clear hg;by_cases he:s.L[k].page.id=id
   ·have hat:s.at_ id=(k:Int):=by
     unfold Sp.aF.at_;have:s.L.findIdx? (λx=>x.page.id==id)=some k:=by
      rw[List.findIdx?_eq_some_iff_getElem];refine⟨hlt,by simpa using he,λj hj=>?_⟩;have:=hno s.L[j] (List.mem_take_iff_getElem.2 ⟨j,by omega,rfl⟩);simpa using this
     rw[this]
    rw[he] at GH;clear he htk hno hx;go_wp2_with fail;go_ret;exact⟨by rw[hat];rfl,Below.refl _ _⟩
   ·have IE:∀x∈s.L.take (k+1),x.page.id≠id:=λx hx=>by
     rw[htk] at hx;rcases zz.1 hx with hx | hx
     ·exact hno x hx
     ·rw[zq.1 hx];exact he
    generalize s.L[k].page.id=z at*;have hd:((z:Int)==(id:Int))=false:=by
     rw[zv];omega
    have hd2:¬((z:Int)=(id:Int)):=by omega
    clear htk hno hx;go_wp2_with fail;go_roundw
    case rel=>exact⟨k+1,hmeas,by go_num,IE,trivial⟩
    case measure=>simp[intOf];omega
  ·obtain rfl:k=s.L.length:=by omega
   have hat:s.at_ id= -1:=by
    unfold Sp.aF.at_;have:s.L.findIdx? (λx=>x.page.id==id)=none:=by
     rw[List.findIdx?_eq_none_iff];intro x hx;have:=hno x (by rw[zL];exact hx);simpa using this
    rw[this]
   go_wp2_with fail;go_ret;exact⟨by rw[hat];rfl,Below.refl _ _⟩
theorem bG.cm (h:bG B G w gr vL vD s):∃g c,vD=.slice (some ⟨g,0,none⟩) (s.top+1) c/\∀q,q<=s.top->∃A c',NM A/\aA G w A (s.home q).rows/\∀j,j<6->w.cell? ⟨g,q*6+j,none⟩=(aG (s.home q) A c')[j]? :=by
 obtain⟨ys,hrow,hR⟩:=h.D;rcases hrow.2 with⟨h0,h1⟩ | ⟨g,cap,cur,h0,_⟩
 ·omega
 ·subst h0;refine⟨g,cap,rfl,λq hq=>?_⟩;obtain⟨A,c,hA,hR,hc⟩:=hR.2 q hq;refine⟨A,c,hA,hR,λj hj=>?_⟩;have hy:ys[q*6+j]? =some ((aG (s.home q) A c)[j]!):=by
   rw[hc j hj,zG _ j (by simpa using hj)];exact Array.getElem?_eq_getElem (by simpa using hj)
  have:=hrow.cells (g:=g) rfl (q*6+j) _ hy;rw[show(⟨g,0,none⟩:Addr).add (q*6+j)=⟨g,0+(q*6+j),none⟩ by unfold Addr.add;split<;>simp_all,zaj] at this;rw[this,<-hy,hc j hj]
end
section
variable {B gr:Nat} {G:af} {w:World} {vL vD:Value} {s:Sp.aF}
theorem sA (h:bG B G w gr vL vD s) (hid:id<4294967296) (ht:s.top<id) (Ea:s.top<1000000):
 Calls prog 141 #[ptr gr,av id] w λe w'=>e=.returned (.tuple #[eG,.bool false])/\zB w w':=by
 obtain⟨g,c,rfl,hc⟩:=h.cm;have hb2:=aj.new w 64 #[.int .u8 0,.int .u8 0,.int .u32 0,.int .u64 0,.int .u32 0,.slice none 0 0];have cH:=(zR w).alloc (za _) (.cells #[.int .u8 0,.int .u8 0,.int .u32 0,.int .u64 0,.int .u32 0,.slice none 0 0] 64);have c2:=(h.blk.below cH h.blk.lt).cell 2;simp only[zGA,zGB,zGC] at c2;have hz0:∀W,(Instr.build 64 #[]).run prog W=.ok eG W:=λW=>by kernel_rfl
 have d1:decide (((s.top:Int)+1)<=(id:Int))=true:=by rw[zA];omega
 have d2:decide (((s.top+1:Nat):Int)<=(id:Int))=true:=by rw[zA];omega
 have d3:(s.top:Int)+1<=(id:Int):=by omega
 have kW:=h.blk.lt;clear h hc;go_enter func141,ntmps141;go_wp2_with fail;have z0:=hb2.cell 0;have z1:=hb2.cell 1;have z2:=hb2.cell 2;have z3:=hb2.cell 3;have z4:=hb2.cell 4;have z5:=hb2.cell 5;simp only[zGA,zGB,zGC] at z0 z1 z2 z3 z4 z5;exact bodyPost_ret (v:=.tuple #[eG,.bool false]) (by rw[results_cell_tmp rfl];go_simp) rfl ⟨rfl,cH⟩
theorem uO (h:bG B G w gr vL vD s) (hid:id<4294967296) (ht:id<=s.top) (Ea:s.top<1000000):
 Calls prog 141 #[ptr gr,av id] w λe w'=>∃A c,e=.returned (.tuple #[iR (s.home id) A c,.bool true])/\NM A/\aA G w' A (s.home id).rows/\zB w w':=by
 obtain⟨g,c,rfl,hc⟩:=h.cm;obtain⟨A,c',hA,hR,hcell⟩:=hc id ht;have hb2:=aj.new w 64 #[.int .u8 0,.int .u8 0,.int .u32 0,.int .u64 0,.int .u32 0,.slice none 0 0];have cH:=(zR w).alloc (za _) (.cells #[.int .u8 0,.int .u8 0,.int .u32 0,.int .u64 0,.int .u32 0,.slice none 0 0] 64);have c2:=(h.blk.below cH h.blk.lt).cell 2;simp only[zGA,zGB,zGC] at c2;have hgg:g<w.heap.size:=by
  have:=hcell 0 (by omega);exact World.block_lt_of_cell? w _ (this.trans rfl)
 have hk:∀j,j<6->(w.alloc (.cells #[.int .u8 0,.int .u8 0,.int .u32 0,.int .u64 0,.int .u32 0,.slice none 0 0] 64)).cell? ⟨g,id*6+j,none⟩=(aG (s.home id) A c')[j]? :=λj hj=>(cH.cell (p:=⟨g,id*6+j,none⟩) hgg).trans (hcell j hj);have k0:=hk 0 (by omega);have k1:=hk 1 (by omega);have k2:=hk 2 (by omega);have k3:=hk 3 (by omega);have k4:=hk 4 (by omega);have k5:=hk 5 (by omega);simp only[zGA,zGB,zGC,Nat.add_zero] at k0 k1 k2 k3 k4 k5;have d1:decide (((s.top:Int)+1)<=(id:Int))=false:=by rw[ze];omega
 have d3:¬(s.top:Int)+1<=(id:Int):=by omega
 have kW:=h.blk.lt;have hRr0:=hR;clear h hc hcell hk hR;generalize s.home id=x at*;have z0:=hb2.cell 0;have z1:=hb2.cell 1;have z2:=hb2.cell 2;have z3:=hb2.cell 3;have z4:=hb2.cell 4;have z5:=hb2.cell 5;simp only[zGA,zGB,zGC] at z0 z1 z2 z3 z4 z5;have f0:=hb2.frozen 0;have f1:=hb2.frozen 1;have f2:=hb2.frozen 2;have f3:=hb2.frozen 3;have f4:=hb2.frozen 4;have f5:=hb2.frozen 5;have hne:g≠w.heap.size:=by omega
 go_enter func141,ntmps141;go_wp2_with fail;clear z0 z1 z2 z3 z4 z5 f0 f1 f2 f3 f4 f5;have hb3:=aj.new w 64 #[.int .u8 x.kind,.int .u8 x.level,.int .u32 x.id,.int .u64 x.aL,.int .u32 x.next,.slice A x.rows.length c'];have dN:=(zR w).alloc (za _) (.cells #[.int .u8 x.kind,.int .u8 x.level,.int .u32 x.id,.int .u64 x.aL,.int .u32 x.next,.slice A x.rows.length c'] 64);have z0:=hb3.cell 0;have z1:=hb3.cell 1;have z2:=hb3.cell 2;have z3:=hb3.cell 3;have z4:=hb3.cell 4;have z5:=hb3.cell 5;simp only[zGA,zGB,zGC] at z0 z1 z2 z3 z4 z5;exact bodyPost_ret (v:=.tuple #[iR x A c',.bool true]) (by rw[results_cell_tmp rfl];go_simp) rfl ⟨A,⟨c',rfl⟩,hA,Reads.below hRr0 dN,dN⟩
end
theorem Ls (cur cells:List Value) (o s N:Nat) (hs:cells.length=s) (h1:o+s<=N) (h2:N<=cur.length):(cur.take o++cells++cur.drop (o+s)).take N=(cur.take N).take o++cells++(cur.take N).drop (o+s):=by
 have e1:(cur.take o++cells).length=o+s:=by simp;omega
 rw[List.take_append,zX (by omega),e1,List.take_take,Nat.min_eq_left (by omega),List.drop_take]
theorem su {w:World} {base size:Nat} (h:w.ownsRow base e size (.slice (some ⟨g,0,none⟩) n c) n xs) (hk:k<n) (cells:List Value) (hs:cells.length=size):
 ∃cur,aj w g e cur/\k*size+size<=cur.size/\(w.setRow g (aD cur (k*size) cells)).ownsRow base e size (.slice (some ⟨g,0,none⟩) n c) n (xs.take (k*size)++cells++xs.drop (k*size+size)):=by
 have hN:k*size+size<=n*size:=by
  have:(k+1)*size<=n*size:=Nat.mul_le_mul_right _ hk;rw[Nat.succ_mul] at this;exact this
 rcases h.2 with⟨h0,h1⟩ | ⟨g',cap,cur,h0,hb,hh,hnc,hcm,hsz,htk⟩
 ·omega
 ·injection h0 with h0 _ h2;injection h0 with h0;injection h0 with h0;subst h0 h2;have hl:n*size<=cur.size:=by rw[hsz];exact Nat.mul_le_mul_right _ hnc
  have hB:aj w g e cur:=hh;refine⟨cur,hB,by omega,?_,.inr ⟨g,c,aD cur (k*size) cells,rfl,hb,hB.setRow _,hnc,hcm,?_,?_⟩⟩
  ·have:=h.1;simp;omega
  ·rw[<-hsz];exact BC (by rw[hs];omega)
  ·rw[<-htk];unfold aD;rw[List.toList_toArray];have:=Ls cur.toList cells (k*size) size (n*size) hs hN (by simpa using hl);rw[hs];exact this
theorem uX {l:List Value} {o:Nat} (hi:o+l.length<=xs.length) (hj:j<l.length):(xs.take o++l++xs.drop (o+l.length))[o+j]? =l[j]? :=by
 have:=J1 (cs:=xs.toArray) (o:=o) (l:=l) (by simpa using hi) hj;unfold aD at this;rw[zGA] at this;exact this
theorem sK {l:List Value} {o:Nat} (hi:o+l.length<=xs.length) (hk:k<o\/o+l.length<=k):(xs.take o++l++xs.drop (o+l.length))[k]? =xs[k]? :=by
 have:=oF (cs:=xs.toArray) (o:=o) (l:=l) (by simpa using hi) hk;unfold aD at this;rw[zGA,zGA] at this;exact this
theorem bG.S2 {G:af} {w:World} {vD:Value} {s:Sp.aF} (h:bG B G w gr (.slice (some ⟨g,0,none⟩) n c) vD s) (hn:n=s.L.length) (hk:k<s.L.length) {x':Sp.RI} {A':Option Addr} {c':Nat} (hA:NM A') (hR:aA G w A' x'.page.rows) (hid:x'.page.id=s.L[k].page.id):
 ∃cur,aj w g 207 cur/\k*9+9<=cur.size/\bG B G (w.setRow g (aD cur (k*9) (au x' A' c'))) gr (.slice (some ⟨g,0,none⟩) n c) vD {s with L:=s.L.set k x'}:=by
 obtain⟨xs,hrow,oP⟩:=h.L;obtain⟨ys,hD,hP⟩:=h.D;subst hn;obtain⟨cur,hB,hsz,hrow'⟩:=su (k:=k) hrow hk (au x' A' c') rfl;have NH:(w.setRow g (aD cur (k*9) (au x' A' c'))).heap.size=w.heap.size:=by simp[World.setRow]
 have lY:∀b,b≠g->(w.setRow g (aD cur (k*9) (au x' A' c'))).heap[b]? =w.heap[b]? :=λb hb=>ak w g b _ hb;have Yk:∀b,G b->b≠g:=λb hb e=>(h.g b hb).2.2.1 (by rw[e];rfl);have hgr:gr≠g:=λe=>h.Lr (by rw[e];rfl);have hxl:xs.length=s.L.length*9:=oP.1;have hpos:k*9+(au x' A' c').length<=xs.length:=by
  rw[hxl];show k*9+9<=_;omega
 have ja:(s.L.set k x').map (·.page.id)=s.L.map (·.page.id):=by
  rw[List.map_set];apply za9;intro i;by_cases hi:i=k
  ·subst hi;rw[List.getElem?_set_self (by simpa using hk),zN,zk hk];simp[hid]
  ·rw[List.getElem?_set_ne (λe=>hi e.symm)]
 refine⟨cur,hB,hsz,?_⟩;exact{
  blk:=h.blk.keep (lY gr hgr)
  L:=⟨_,by
   show World.ownsRow _ _ _ _ _ (s.L.set k x').length _;rw[zbp];exact hrow',by
   refine⟨?_,λi x hx=>?_⟩
   ·show _=(s.L.set k x').length*9;rw[zbp];exact hrow'.1
   ·have hx:(s.L.set k x')[i]? =some x:=hx;by_cases hi:i=k
    ·subst hi;rw[List.getElem?_set_self hk] at hx;injection hx with hx;subst hx;exact⟨A',c',hA,hR.keep (by rw[NH];exact za _) (λb hb=>lY b (Yk b hb)),λj hj=>uX hpos hj⟩
    ·rw[List.getElem?_set_ne (λe=>hi e.symm)] at hx;obtain⟨A,c2,h1,h2,h3⟩:=oP.2 i x hx;refine⟨A,c2,h1,h2.keep (by rw[NH];exact za _) (λb hb=>lY b (Yk b hb)),λj hj=>?_⟩;have:=sK (xs:=xs) (l:=au x' A' c') (o:=k*9) (k:=i*9+j) hpos (by show i*9+j<k*9\/k*9+9<=i*9+j;omega);exact this.trans (h3 j hj)⟩
  D:=⟨ys,aN hD (λb hb=>lY b (λe=>h.LD g rfl (by rw[<-e];exact hb))),hP.1,λq hq=>by
   obtain⟨A,c2,h1,h2,h3⟩:=hP.2 q hq;exact⟨A,c2,h1,h2.keep (by rw[NH];exact za _) (λb hb=>lY b (Yk b hb)),h3⟩⟩
  few:=by show(s.L.set k x').length<=64;rw[zbp];exact h.few
  ids:=λx hx=>by
   have hm:x.page.id∈(s.L.set k x').map (·.page.id):=zn.2 ⟨x,hx,rfl⟩;rw[ja] at hm;obtain⟨y,hy,e⟩:=zn.1 hm;rw[<-e];exact h.ids y hy
  nd:=by show((s.L.set k x').map _).Nodup;rw[ja];exact h.nd
  Lr:=h.Lr
  Dr:=h.Dr
  LD:=h.LD
  g:=λb hb=>⟨by rw[NH];exact(h.g b hb).1,(h.g b hb).2⟩
  lo:=h.lo}
end
open Go.RowKit Go.Conc
namespace Sp
theorem gO (s:aF) (id:Nat):(s.at_ id= -1/\cJ s.L id=none/\dJ s.L id=false)\/∃(k:Nat) (hk:k<s.L.length),s.at_ id=(k:Int)/\s.L[k].page.id=id/\cJ s.L id=some s.L[k]/\dJ s.L id=true:=by
 unfold aF.at_
 cases hf:s.L.findIdx? (λx=>x.page.id==id) with
 | none=>
  rw[List.findIdx?_eq_none_iff] at hf;refine .inl ⟨rfl,?_,?_⟩
  ·unfold cJ;rw[List.find?_eq_none];intro x hx;simpa using hf x hx
  ·unfold dJ;rw[List.any_eq_false];intro x hx;simpa using hf x hx
 | some k=>
  rw[List.findIdx?_eq_some_iff_getElem] at hf;obtain⟨hk,h1,h2⟩:=hf;have hid:s.L[k].page.id=id:=by simpa using h1
  refine .inr ⟨k,hk,rfl,hid,?_,?_⟩
  ·unfold cJ;rw[List.find?_eq_some_iff_getElem];exact⟨h1,k,hk,rfl,λj hj=>by have:=h2 j hj;simpa using this⟩
  ·unfold dJ;rw[List.any_eq_true];exact⟨s.L[k],zw hk,h1⟩
theorem v_ {L:List RI} (hn:(L.map (·.page.id)).Nodup) (hk:k<L.length) {f:RI->RI}:Gq L (L[k].page.id) f=L.set k (f L[k]):=by
 unfold Gq;apply za9;intro i;rw[zN];by_cases hi:i=k
 ·subst hi;rw[List.getElem?_set_self hk,zk hk];simp
 ·rw[List.getElem?_set_ne (λe=>hi e.symm)]
  cases hx:L[i]? with
  | none=>rfl
  | some x=>
   simp only[zas];rw[zD];intro e;obtain⟨hil,rfl⟩:=zad.1 hx;have hp:=za8.1 hn;rcases Nat.lt_or_gt_of_ne hi with h | h
   ·have:=hp i k (by simpa using hil) (by simpa using hk) h;exact this (by simpa using e)
   ·have:=hp k i (by simpa using hk) (by simpa using hil) h;exact this (by simpa using e.symm)
end Sp
theorem bG.below {G:af} {w:World} {vL vD:Value} {s:Sp.aF} (h:bG B G w gr vL vD s) (hb:zB w w'):bG B G w' gr vL vD s:=by
 obtain⟨xs,hrow,oP⟩:=h.L;obtain⟨ys,hD,hP⟩:=h.D;have hl:∀{e k n:Nat} {v:Value} {zs:List Value},w.ownsRow B e k v n zs->∀b,v.ownBlock=some b->b<w.heap.size:=λhr b hb=>by
  obtain⟨cur,hc⟩:=fk hr hb;exact(zm.1 hc).1
 exact{
  blk:=h.blk.below hb h.blk.lt
  L:=⟨xs,aN hrow (λb hb'=>hb.block b (hl hrow b hb')),oP.1,λi x hx=>by
   obtain⟨A,c,h1,h2,h3⟩:=oP.2 i x hx;exact⟨A,c,h1,Reads.below h2 hb,h3⟩⟩
  D:=⟨ys,aN hD (λb hb'=>hb.block b (hl hD b hb')),hP.1,λq hq=>by
   obtain⟨A,c,h1,h2,h3⟩:=hP.2 q hq;exact⟨A,c,h1,Reads.below h2 hb,h3⟩⟩
  few:=h.few,ids:=h.ids,nd:=h.nd,Lr:=h.Lr,Dr:=h.Dr,LD:=h.LD,lo:=h.lo
  g:=λb hG=>⟨zf (h.g b hG).1 hb.size,(h.g b hG).2⟩}
section
open Go.Conc
def fR (gr:Nat) (vL vD:Value):af:=λb=>b=gr\/vL.ownBlock=some b\/vD.ownBlock=some b
def dg (B:Nat) (G:af) (w:World) (gr:Nat) (vL vD:Value) (s':Sp.aF) (w':World):Prop:=
 ∃SS,bG B G w' gr SS vD s'/\aa (fR gr vL vD) (fR gr SS vD) w w'
theorem dg.same {B gr:Nat} {G:af} {w:World} {vL vD:Value} {s:Sp.aF} (h:bG B G w gr vL vD s) (hb:zB w w'):dg B G w gr vL vD s w':=⟨vL,h.below hb,aa.az hb _⟩
theorem kq (g j:Nat):(⟨g,0,none⟩:Addr).add j=⟨g,j,none⟩:=by unfold Addr.add;split<;>simp_all
theorem bG.item {B gr:Nat} {G:af} {w:World} {vL vD:Value} {s:Sp.aF} (h:bG B G w gr vL vD s) (hk:k<s.L.length):∃g c A c',vL=.slice (some ⟨g,0,none⟩) s.L.length c/\NM A/\aA G w A s.L[k].page.rows/\∀j,j<9->w.cell? ⟨g,k*9+j,none⟩=(au s.L[k] A c')[j]? :=by
 obtain⟨xs,hrow,hR⟩:=h.L;rcases hrow.2 with⟨h0,h1⟩ | ⟨g,cap,cur,h0,_⟩
 ·omega
 ·subst h0;obtain⟨A,c,hA,YO,hc⟩:=hR.2 k _ (zk hk);refine⟨g,cap,A,c,rfl,hA,YO,λj hj=>?_⟩;have hy:xs[k*9+j]? =some ((au s.L[k] A c)[j]!):=by
   rw[hc j hj,zG _ j (by exact hj)];exact zk (by exact hj)
  have:=hrow.cells (g:=g) rfl (k*9+j) _ hy;rw[kq] at this;rw[this,<-hy,hc j hj]
theorem ic:(prog.info? 207).map (·.size)=some 9:=by kernel_rfl
section
variable {B gr:Nat} {G:af} {w:World} {vL vD:Value} {s:Sp.aF}
theorem LO (h:bG B G w gr vL vD s) (hp:∀x∈s.L,x.pins<1000000000):
 Calls prog 76 #[ptr gr,av id] w λe w'=>e=.returned (.int .i64 (s.dW id).1)/\dg B G w gr vL vD (s.dW id).2 w':=by
 have vZ:=zH (lX h id);have H:=zH h;obtain⟨r,hr⟩:=zE (s.dW id);rw[<-hr];have HE:=zH hr;clear hr h;go_enter func76,ntmps76;go_wp2_with fail;refine vZ.out.mono ?_;rintro e w1 ⟨rfl,hb1⟩;clear vZ;have h1:=H.out.below hb1;rcases Sp.gO s id with⟨hat,cQ,_⟩ | ⟨k,hk,hat,hid,cQ,_⟩
 ·have e1:s.dW id=(3,s):=by unfold Sp.aF.dW;rw[cQ]
  rw[hat];clear hat cQ h1;go_wp2_with fail;go_ret;rw[HE.out,e1];exact⟨rfl,dg.same H.out hb1⟩
 ·rw[hat];obtain⟨g,c,A,c',rfl,hA,hR,hc⟩:=h1.item hk;have c1:=h1.blk.cell 1;simp only[zGA,zGB,zGC] at c1;have hpk:=hp s.L[k] (zw hk);have H1:=zH h1;have HR:=zH hR;have k0:=hc 0 (by omega);have k1:=hc 1 (by omega);have k2:=hc 2 (by omega);have k3:=hc 3 (by omega);have k4:=hc 4 (by omega);have k5:=hc 5 (by omega);have k6:=hc 6 (by omega);have k7:=hc 7 (by omega);have k8:=hc 8 (by omega);simp only[au,zGB,zGC,Nat.add_zero] at k0 k1 k2 k3 k4 k5 k6 k7 k8;have hds:decide ((k:Int)<0)=false:=by rw[ze];omega
  clear hat hc h1 hR;by_cases h0:s.L[k].pins=0
  ·have e1:s.dW id=(3,s):=by unfold Sp.aF.dW;rw[cQ];simp only;rw[zK h0]
   rw[h0] at k6;go_wp2_with fail;go_ret;rw[HE.out,e1];exact⟨rfl,dg.same H.out hb1⟩
  ·have e1:s.dW id=(0,{s with L:=Sp.Gq s.L id (λy=>{y with pins:=y.pins-1})}):=by unfold Sp.aF.dW;rw[cQ];simp only;rw[zD h0]
   have jY:=Sp.v_ H.out.nd hk (f:=λy=>{y with pins:=y.pins-1});rw[hid] at jY;have Wj:Hid (r=(0,{s with L:=s.L.set k {s.L[k] with pins:=s.L[k].pins-1}})):=by
    show r=_;rw[HE.out,e1,jY]
   have hq:((s.L[k].pins:Int)==0)=false:=by simp;omega
   have hq2:¬(s.L[k].pins:Int)=0:=by omega
   clear cQ e1 jY;go_wp2_with fail;have hcast:((s.L[k].pins-1:Nat):Int)=(s.L[k].pins:Int)-1:=by omega
   obtain⟨x',hx'⟩:∃x':Sp.RI,x'={s.L[k] with pins:=s.L[k].pins-1}:=⟨_,rfl⟩;have rW:x'.page=s.L[k].page:=by rw[hx']
   have B2:(au x' A c').toArray=#[.int .u8 s.L[k].page.kind,.int .u8 s.L[k].page.level,.int .u32 id,.int .u64 s.L[k].page.aL,.int .u32 s.L[k].page.next,.slice A s.L[k].page.rows.length c',.int .i64 ((s.L[k].pins:Int)-1),.bool s.L[k].aK,.int .u64 s.L[k].from_]:=by
    rw[hx'];simp only[au,hid,hcast]
   generalize hw2:World.alloc w1 _=w2;have kK:zB w1 w2:=by rw[<-hw2];exact(zR _).alloc (za _) _
   have hX:aj w2 w1.heap.size 207 (au x' A c').toArray:=by rw[B2,<-hw2];exact aj.new _ _ _
   have hbd:zB w1 w2.drew:=kK.trans ((zR w2).drew.mono kK.size);have h3:=H1.out.below hbd;have wF:aA G w2.drew A x'.page.rows:=by rw[rW];exact Reads.below HR.out hbd
   have dY:zB w w2.drew:=hb1.trans (hbd.mono hb1.size);obtain⟨cur,hB,hsz,jY⟩:=h3.S2 rfl hk hA wF (by rw[rW]);have c1:=h3.blk.cell 1;simp only[zGA,zGB,zGC] at c1;have hS:=zH (show w2.drew.cell? ⟨gr,1,none⟩=some (.slice (some ⟨g,0,none⟩) s.L.length c)/\aj w2.drew w1.heap.size 207 (au x' A c').toArray from⟨c1,hX.drew⟩);have JF:Hid (bG B G (w2.drew.setRow g (aD cur (k*9) (au x' A c'))) gr (.slice (some ⟨g,0,none⟩) s.L.length c) vD {s with L:=s.L.set k x'}):=jY;have HB:=zH hB;have Nt:=zH dY;rw[<-hx'] at Wj;clear k0 k1 k2 k3 k4 k5 k6 k7 k8 c1 hw2 hX jY hB B2 hcast hx';generalize w1.heap.size=gx at*;refine fQ (fun(W:World)=>zC W gr 1 (.slice (some ⟨g,0,none⟩) s.L.length c)/\aj W gx 207 (au x' A c').toArray) (λj=>decide (7<=j)) ?_
   repeat (refine bK hS.out ?_)
   refine kT 5 39 (v:=.agg (au x' A c').toArray) rfl hS.out ?_ ?_
   ·intro w hSw;exact ay _ _ _ rfl rfl (run_loadVar_row w gx _ _ _ _ _ hSw.2 underlying207 rfl rfl)
   repeat (refine bK hS.out ?_)
   refine jx 7 (w':=w2.drew.setRow g (aD cur (k*9) (au x' A c'))) rfl (aq _ _ _ ⟨g,k*9,none⟩ _ rfl rfl rfl (ax w2.drew g (k*9) _ _ cur (au x' A c').toArray HB.out ic (by show k*9+9<=_;omega) (by simp[au,Value.oneCell']))) (λh=>nomatch h) ?_;have ht:=(aa.az dY (fR gr (.slice (some ⟨g,0,none⟩) s.L.length c) vD)).setRow (g:=g) (.inl (.inr (.inl rfl))) (aD cur (k*9) (au x' A c'));have HT:=zH ht;clear ht hS HB Nt dY hbd kK HR H1 H wF h3;generalize w2.drew.setRow g (aD cur (k*9) (au x' A c'))=w4 at*;refine aC (by kernel_rfl) ?_ _;rename_i K9 aT;refine aT _ _ ?_;clear aT;go_wp2_with fail;go_ret;rw[Wj.out];exact⟨rfl,_,JF.out,HT.out⟩
end
end
def jQ (rows:List Sp.Bs) (k:Nat):Int:=(484:Int)-4*k-Sp.total (rows.take k)
theorem Hi {w:World} {G:af} {p:Sp.Pg} (hR:aA G w A p.rows) (hn:p.rows.length<=1000000000) (ht:Sp.total p.rows<=1000000000000000000):
 Calls prog 205 #[iR p A c] w λe w'=>e=.returned (.int .i64 (jQ p.rows p.rows.length))/\zB w w':=by
 have hb1:=(zR w).alloc (za _) (.cells (aG p A c) 64);have aM:=aj.new w 64 (aG p A c);have Cq:=zH (Reads.below hR hb1);have c5:=aM.cell 5;simp only[zGA,zGB,zGC] at c5;clear hR;go_enter func205,ntmps205;go_wp2_with fail;change Code.wp _ _ _ _ (w.alloc (.cells (aG p A c) 64));generalize hw1:World.alloc w _=w1 at hb1 aM Cq c5 ⊢;clear hw1;go_loopw [3,4] (λv i wr=>∃k:Nat,k<=p.rows.length/\i=.int .i64 k/\v=.int .i64 (jQ p.rows k)/\wr=w1) (λ_ i _=>p.rows.length-(intOf i).toNat)
 case atStart=>exact⟨0,by omega,rfl,by simp[jQ],rfl⟩
 case round=>
  obtain⟨k,hk,rfl,rfl,rfl⟩:=hrel;by_cases hlt:k<p.rows.length
  ·obtain⟨b,o,rfl,_,hb,hc⟩:=aA.row Cq.out hlt;have htk:=Sp.bL p.rows k hlt;have hle:=Sp.b_ p.rows (k+1);have IG:=Sp.b_ p.rows k;have HE:=zH (show jQ p.rows (k+1)=jQ p.rows k-4-(p.rows[k].length:Int) by unfold jQ;omega);have tP:jQ p.rows k<=484:=by unfold jQ;omega
   have hl2: -2000000000000000000<=jQ p.rows k:=by unfold jQ;omega
   have P6:p.rows[k].length<=1000000000000000000:=by omega
   generalize jQ p.rows k=L at*;generalize p.rows[k]=r at*;clear htk hle IG;go_wp2_with fail;go_roundw
   case rel=>exact⟨k+1,hlt,by go_num,by rw[HE.out],trivial⟩
   case measure=>simp[intOf];omega
  ·obtain rfl:k=p.rows.length:=by omega
   go_wp2_with fail;go_ret;exact⟨rfl,hb1⟩
theorem BA {w:World} {G:af} {p:Sp.Pg} (hR:aA G w A p.rows) (hn:p.rows.length<=1000000000) (ht:Sp.total p.rows<=1000000000000000000):
 Calls prog 145 #[iR p A c] w λe w'=>e=.returned (.bool (bE p))/\zB w w':=by
 have key:(decide ((p.kind:Int)<=5)=false/\bE p=false)\/(decide ((p.kind:Int)<=5)=true/\decide (0<(p.id:Int))=false/\bE p=false)\/
  (decide ((p.kind:Int)<=5)=true/\decide (0<(p.id:Int))=true/\decide ((p.id:Int)<=1024)=false/\bE p=false)\/
  (decide ((p.kind:Int)<=5)=true/\decide (0<(p.id:Int))=true/\decide ((p.id:Int)<=1024)=true/\decide ((p.next:Int)<=1024)=false/\bE p=false)\/
  (decide ((p.kind:Int)<=5)=true/\decide (0<(p.id:Int))=true/\decide ((p.id:Int)<=1024)=true/\decide ((p.next:Int)<=1024)=true/\decide (0<=jQ p.rows p.rows.length)=false/\bE p=false)\/
  (decide ((p.kind:Int)<=5)=true/\decide (0<(p.id:Int))=true/\decide ((p.id:Int)<=1024)=true/\decide ((p.next:Int)<=1024)=true/\decide (0<=jQ p.rows p.rows.length)=true/\bE p=true):=by
  have e5:jQ p.rows p.rows.length=(484:Int)-4*p.rows.length-Sp.total p.rows:=by unfold jQ;rw[zL]
  rw[e5];by_cases a1:p.kind<=5
  ·by_cases a2:1<=p.id
   ·by_cases a3:p.id<=1024
    ·by_cases a4:p.next<=1024
     ·by_cases a5:4*p.rows.length+Sp.total p.rows<=484
      ·refine .inr (.inr (.inr (.inr (.inr ⟨?_,?_,?_,?_,?_,by simp[bE,a1,a2,a3,a4,a5]⟩))))<;>rw[zx]<;>omega
      ·refine .inr (.inr (.inr (.inr (.inl ⟨?_,?_,?_,?_,?_,by simp[bE,a5]⟩))))<;>first | (rw[zx];omega) | (rw[ze];omega)
     ·refine .inr (.inr (.inr (.inl ⟨?_,?_,?_,?_,by simp[bE,a4]⟩)))<;>first | (rw[zx];omega) | (rw[ze];omega)
    ·refine .inr (.inr (.inl ⟨?_,?_,?_,by simp[bE,a3]⟩))<;>first | (rw[zx];omega) | (rw[ze];omega)
   ·refine .inr (.inl ⟨?_,?_,by simp[bE,a2]⟩)<;>first | (rw[zx];omega) | (rw[ze];omega)
  ·refine .inl ⟨?_,by simp[bE,a1]⟩;rw[ze];omega
 have hb1:=(zR w).alloc (za _) (.cells (aG p A c) 64);have aM:=aj.new w 64 (aG p A c);have HL:=zH (Hi (c:=c) (Reads.below hR hb1) hn ht);have c0:=aM.cell 0;have c1:=aM.cell 1;have c2:=aM.cell 2;have c3:=aM.cell 3;have c4:=aM.cell 4;have c5:=aM.cell 5;simp only[zGA,zGB,zGC] at c0 c1 c2 c3 c4 c5;have HM:Hid (∃mb,bE p=mb):=⟨_,rfl⟩;generalize bE p=mb at*;generalize jQ p.rows p.rows.length=L at*;clear hR HM;rcases key with⟨d1,hmb⟩ | ⟨d1,d2,hmb⟩ | ⟨d1,d2,d3,hmb⟩ | ⟨d1,d2,d3,d4,hmb⟩ | ⟨d1,d2,d3,d4,d5,hmb⟩ | ⟨d1,d2,d3,d4,d5,hmb⟩
 ·subst hmb;go_enter func145,ntmps145;go_wp2_with fail;go_ret;exact⟨rfl,hb1⟩
 ·subst hmb;have d2':¬(0<p.id):=by have:=of_decide_eq_false d2;omega
  go_enter func145,ntmps145;go_wp2_with fail;go_ret;exact⟨rfl,hb1⟩
 ·subst hmb;have d2':0<p.id:=by have:=of_decide_eq_true d2;omega
  go_enter func145,ntmps145;go_wp2_with fail;go_ret;exact⟨rfl,hb1⟩
 ·subst hmb;have d2':0<p.id:=by have:=of_decide_eq_true d2;omega
  go_enter func145,ntmps145;go_wp2_with fail;go_ret;exact⟨rfl,hb1⟩
 all_goals
  subst hmb;have d2':0<p.id:=by have:=of_decide_eq_true d2;omega
  go_enter func145,ntmps145;go_wp2_with fail;refine HL.out.mono ?_;rintro e w2 ⟨rfl,hb2⟩;have hb3:=hb1.trans (hb2.mono hb1.size);clear HL c0 c1 c2 c3 c4 c5;go_wp2_with fail;go_ret;exact⟨rfl,hb3⟩
section
open Go.Conc
section
variable {B gr:Nat} {G:af} {w:World} {vL vD:Value} {s:Sp.aF}
theorem S7 (h:bG B G w gr vL vD s) {x:Sp.Pg} {A0:Option Addr} {c0:Nat} (Ae:NM A0) (yB:aA G w A0 x.rows) (hn:x.rows.length<=1000000000) (ht:Sp.total x.rows<=1000000000000000000):
 Calls prog 74 #[ptr gr,iR x A0 c0] w λe w'=>e=.returned (.int .i64 (s.put x (bE x)).1)/\dg B G w gr vL vD (s.put x (bE x)).2 w':=by
 obtain⟨r,hr⟩:=zE (s.put x (bE x));rw[<-hr];have HE:=zH hr;have H:=zH h;have hba:=(zR w).alloc (za _) (.cells (aG x A0 c0) 64);have aM:=aj.new w 64 (aG x A0 c0);have lU:=zH (BA (w:=w.alloc (.cells (aG x A0 c0) 64)) (c:=c0) (Reads.below yB hba) hn ht);clear hr h;go_enter func74,ntmps74;go_wp2_with fail;obtain⟨w1,hw1⟩:=zE (w.alloc (.cells (aG x A0 c0) 64));rw[<-hw1] at aM lU hba ⊢;obtain⟨g3,hg3⟩:=zE w.heap.size;rw[<-hg3] at aM ⊢;have MF:w.heap.size<=g3:=by omega
 clear hw1 hg3;refine lU.out.mono ?_;rintro e w2 ⟨rfl,hb2⟩;have bB:=aM.below hb2 aM.lt;have dm:zB w w2:=hba.trans (hb2.mono hba.size);clear lU aM hb2 hba
 cases hm:bE x with
 | false=>
  have e1:s.put x false=(2,s):=by unfold Sp.aF.put;rw[zK rfl]
  rw[hm] at HE;clear bB;go_wp2_with fail;go_ret;rw[HE.out,e1];exact⟨rfl,dg.same H.out dm⟩
 | true=>
  rw[hm] at HE;have z0:=bB.cell 0;have z1:=bB.cell 1;have z2:=bB.cell 2;have z3:=bB.cell 3;have z4:=bB.cell 4;have z5:=bB.cell 5;simp only[zGA,zGB,zGC] at z0 z1 z2 z3 z4 z5;have vZ:=zH (lX (H.out.below dm) x.id);have eo:=zH bB;clear bB;go_wp2_with fail;refine vZ.out.mono ?_;rintro e w3 ⟨rfl,hb3⟩;have dY:zB w w3:=dm.trans (hb3.mono dm.size);have cg:=eo.out.below hb3 eo.out.lt;clear vZ z0 z1 z2 z3 z4 z5 eo hb3 dm;have h3:=H.out.below dY;rcases Sp.gO s x.id with⟨hat,cQ,_⟩ | ⟨k,hk,hat,hid,cQ,_⟩
  ·have e1:s.put x true=(3,s):=by unfold Sp.aF.put;rw[zD (by decide),cQ]
   rw[hat];clear hat cQ h3 cg;go_wp2_with fail;go_ret;rw[HE.out,e1];exact⟨rfl,dg.same H.out dY⟩
  ·rw[hat];obtain⟨g,c,A,c',rfl,hA,hR,hc⟩:=h3.item hk;have c1:=h3.blk.cell 1;simp only[zGA,zGB,zGC] at c1;have H3:=zH h3;have k0:=hc 0 (by omega);have k1:=hc 1 (by omega);have k2:=hc 2 (by omega);have k3:=hc 3 (by omega);have k4:=hc 4 (by omega);have k5:=hc 5 (by omega);have k6:=hc 6 (by omega);have k7:=hc 7 (by omega);have k8:=hc 8 (by omega);simp only[au,zGB,zGC,Nat.add_zero] at k0 k1 k2 k3 k4 k5 k6 k7 k8;have hds:decide ((k:Int)<0)=false:=by rw[ze];omega
   have z0:=cg.cell 0;have z1:=cg.cell 1;have z2:=cg.cell 2;have z3:=cg.cell 3;have z4:=cg.cell 4;have z5:=cg.cell 5;simp only[zGA,zGB,zGC] at z0 z1 z2 z3 z4 z5;have hg3w:=cg.lt;have hggw:g<w3.heap.size:=World.block_lt_of_cell? w3 _ k0;clear hat hc h3 hR cg;by_cases h0:s.L[k].pins=0
   ·have e1:s.put x true=(3,s):=by unfold Sp.aF.put;rw[zD (by decide),cQ];simp only;rw[zK h0]
    rw[h0] at k6;go_wp2_with fail;go_ret;rw[HE.out,e1];exact⟨rfl,dg.same H.out dY⟩
   ·have hq:((s.L[k].pins:Int)==0)=false:=by simp;omega
    have hq2:¬(s.L[k].pins:Int)=0:=by omega
    cases hd:s.L[k].aK with
    | true=>
     rw[hd] at k7;go_wp2_with fail;have Wj:Hid (r=(0,{s with L:=s.L.set k {s.L[k] with page:=x}})):=by
      show r=_;rw[HE.out];unfold Sp.aF.put;rw[zD (by decide),cQ];simp only;rw[zD h0];have jY:=Sp.v_ H.out.nd hk (f:=λy=>if y.aK then{y with page:=x} else{y with page:=x,aK:=true,from_:=x.aL});rw[hid] at jY;rw[jY,hd];rfl
     obtain⟨x',hx'⟩:∃x':Sp.RI,x'={s.L[k] with page:=x}:=⟨_,rfl⟩;have B2:(au x' A0 c0).toArray=#[.int .u8 x.kind,.int .u8 x.level,.int .u32 x.id,.int .u64 x.aL,.int .u32 x.next,.slice A0 x.rows.length c0,.int .i64 s.L[k].pins,.bool true,.int .u64 s.L[k].from_]:=by rw[hx'];simp only[au,hd]
     generalize hw2:World.alloc w3 _=w5;have kK:zB w3 w5:=by rw[<-hw2];exact(zR _).alloc (za _) _
     have hX:aj w5 w3.heap.size 207 (au x' A0 c0).toArray:=by rw[B2,<-hw2];exact aj.new _ _ _
     have hbd:zB w3 w5.drew:=kK.trans ((zR w5).drew.mono kK.size);have h6:=H3.out.below hbd;have wF:aA G w5.drew A0 x'.page.rows:=by rw[show x'.page=x by rw[hx']];exact Reads.below (Reads.below yB dY) hbd
     have ux:zB w w5.drew:=dY.trans (hbd.mono dY.size);obtain⟨cur,hB,hsz,jY⟩:=h6.S2 rfl hk Ae wF (by rw[show x'.page=x by rw[hx']];exact hid.symm);have c1:=h6.blk.cell 1;simp only[zGA,zGB,zGC] at c1;have hS:Hid (zC w5.drew gr 1 (.slice (some ⟨g,0,none⟩) s.L.length c)/\aj w5.drew w3.heap.size 207 (au x' A0 c0).toArray):=⟨c1,hX.drew⟩;have JF:Hid (bG B G (w5.drew.setRow g (aD cur (k*9) (au x' A0 c0))) gr (.slice (some ⟨g,0,none⟩) s.L.length c) vD {s with L:=s.L.set k x'}):=jY;have HB:Hid (aj w5.drew g 207 cur):=hB;have HT:Hid (aa (fR gr (.slice (some ⟨g,0,none⟩) s.L.length c) vD) (fR gr (.slice (some ⟨g,0,none⟩) s.L.length c) vD) w (w5.drew.setRow g (aD cur (k*9) (au x' A0 c0)))):=(aa.az ux _).setRow (g:=g) (.inl (.inr (.inl rfl))) _;rw[<-hx'] at Wj;clear k0 k1 k2 k3 k4 k5 k6 k7 k8 c1 hw2 hX jY hB B2 hx';generalize w3.heap.size=gx at*;refine fQ (fun(W:World)=>zC W gr 1 (.slice (some ⟨g,0,none⟩) s.L.length c)/\aj W gx 207 (au x' A0 c0).toArray) (λj=>decide (7<=j)) ?_
     repeat (refine bK hS.out ?_)
     refine kT 5 48 (v:=.agg (au x' A0 c0).toArray) rfl hS.out ?_ ?_
     ·intro w hSw;exact ay _ _ _ rfl rfl (run_loadVar_row w gx _ _ _ _ _ hSw.2 underlying207 rfl rfl)
     repeat (refine bK hS.out ?_)
     refine jx 7 (w':=w5.drew.setRow g (aD cur (k*9) (au x' A0 c0))) rfl (aq _ _ _ ⟨g,k*9,none⟩ _ rfl rfl rfl (ax w5.drew g (k*9) _ _ cur (au x' A0 c0).toArray HB.out ic (by show k*9+9<=_;omega) (by simp[au,Value.oneCell']))) (λh=>nomatch h) ?_;clear hS HB ux hbd kK wF h6;generalize w5.drew.setRow g (aD cur (k*9) (au x' A0 c0))=w6 at*;refine aC (by kernel_rfl) ?_ _;rename_i K9 aT;refine aT _ _ ?_;clear aT;go_wp2_with fail;go_ret;rw[Wj.out];exact⟨rfl,_,JF.out,HT.out⟩
    | false=>
     rw[hd] at k7;go_wp2_with fail;have Wj:Hid (r=(0,{s with L:=s.L.set k {s.L[k] with page:=x,aK:=true,from_:=x.aL}})):=by
      show r=_;rw[HE.out];unfold Sp.aF.put;rw[zD (by decide),cQ];simp only;rw[zD h0];have jY:=Sp.v_ H.out.nd hk (f:=λy=>if y.aK then{y with page:=x} else{y with page:=x,aK:=true,from_:=x.aL});rw[hid] at jY;rw[jY,hd];rfl
     obtain⟨x',hx'⟩:∃x':Sp.RI,x'={s.L[k] with page:=x,aK:=true,from_:=x.aL}:=⟨_,rfl⟩;have B2:(au x' A0 c0).toArray=#[.int .u8 x.kind,.int .u8 x.level,.int .u32 x.id,.int .u64 x.aL,.int .u32 x.next,.slice A0 x.rows.length c0,.int .i64 s.L[k].pins,.bool true,.int .u64 x.aL]:=by rw[hx'];rfl
     generalize hw2:World.alloc w3 _=w5;have kK:zB w3 w5:=by rw[<-hw2];exact(zR _).alloc (za _) _
     have hX:aj w5 w3.heap.size 207 (au x' A0 c0).toArray:=by rw[B2,<-hw2];exact aj.new _ _ _
     have hbd:zB w3 w5.drew:=kK.trans ((zR w5).drew.mono kK.size);have h6:=H3.out.below hbd;have wF:aA G w5.drew A0 x'.page.rows:=by rw[show x'.page=x by rw[hx']];exact Reads.below (Reads.below yB dY) hbd
     have ux:zB w w5.drew:=dY.trans (hbd.mono dY.size);obtain⟨cur,hB,hsz,jY⟩:=h6.S2 rfl hk Ae wF (by rw[show x'.page=x by rw[hx']];exact hid.symm);have c1:=h6.blk.cell 1;simp only[zGA,zGB,zGC] at c1;have hS:Hid (zC w5.drew gr 1 (.slice (some ⟨g,0,none⟩) s.L.length c)/\aj w5.drew w3.heap.size 207 (au x' A0 c0).toArray):=⟨c1,hX.drew⟩;have JF:Hid (bG B G (w5.drew.setRow g (aD cur (k*9) (au x' A0 c0))) gr (.slice (some ⟨g,0,none⟩) s.L.length c) vD {s with L:=s.L.set k x'}):=jY;have HB:Hid (aj w5.drew g 207 cur):=hB;have HT:Hid (aa (fR gr (.slice (some ⟨g,0,none⟩) s.L.length c) vD) (fR gr (.slice (some ⟨g,0,none⟩) s.L.length c) vD) w (w5.drew.setRow g (aD cur (k*9) (au x' A0 c0)))):=(aa.az ux _).setRow (g:=g) (.inl (.inr (.inl rfl))) _;rw[<-hx'] at Wj;clear k0 k1 k2 k3 k4 k5 k6 k7 k8 c1 hw2 hX jY hB B2 hx';generalize w3.heap.size=gx at*;refine fQ (fun(W:World)=>zC W gr 1 (.slice (some ⟨g,0,none⟩) s.L.length c)/\aj W gx 207 (au x' A0 c0).toArray) (λj=>decide (7<=j)) ?_
     repeat (refine bK hS.out ?_)
     refine kT 5 48 (v:=.agg (au x' A0 c0).toArray) rfl hS.out ?_ ?_
     ·intro w hSw;exact ay _ _ _ rfl rfl (run_loadVar_row w gx _ _ _ _ _ hSw.2 underlying207 rfl rfl)
     repeat (refine bK hS.out ?_)
     refine jx 7 (w':=w5.drew.setRow g (aD cur (k*9) (au x' A0 c0))) rfl (aq _ _ _ ⟨g,k*9,none⟩ _ rfl rfl rfl (ax w5.drew g (k*9) _ _ cur (au x' A0 c0).toArray HB.out ic (by show k*9+9<=_;omega) (by simp[au,Value.oneCell']))) (λh=>nomatch h) ?_;clear hS HB ux hbd kK wF h6;generalize w5.drew.setRow g (aD cur (k*9) (au x' A0 c0))=w6 at*;refine aC (by kernel_rfl) ?_ _;rename_i K9 aT;refine aT _ _ ?_;clear aT;go_wp2_with fail;go_ret;rw[Wj.out];exact⟨rfl,_,JF.out,HT.out⟩
end
theorem bG.setD {q:Nat} {G:af} {w:World} {vL:Value} {s:Sp.aF} (h:bG B G w gr vL (.slice (some ⟨g,0,none⟩) (s.top+1) c) s) (h1:1<=q) (hq:q<=s.top) {x:Sp.Pg} {A':Option Addr} {c':Nat} (hA:NM A') (hR:aA G w A' x.rows):
 ∃cur,aj w g 64 cur/\q*6+6<=cur.size/\bG B G (w.setRow g (aD cur (q*6) (aG x A' c').toList)) gr vL (.slice (some ⟨g,0,none⟩) (s.top+1) c) {s with cm:=λn=>if n=q then x else s.cm n}:=by
 obtain⟨xs,hrow,oP⟩:=h.L;obtain⟨ys,hD,hP⟩:=h.D;obtain⟨cur,hB,hsz,Ad⟩:=su (k:=q) hD (by omega) (aG x A' c').toList rfl;have NH:(w.setRow g (aD cur (q*6) (aG x A' c').toList)).heap.size=w.heap.size:=by simp[World.setRow]
 have lY:∀b,b≠g->(w.setRow g (aD cur (q*6) (aG x A' c').toList)).heap[b]? =w.heap[b]? :=λb hb=>ak w g b _ hb;have Yk:∀b,G b->b≠g:=λb hb e=>(h.g b hb).2.2.2 (by rw[e];rfl);have hgr:gr≠g:=λe=>h.Dr (by rw[e];rfl);have hyl:ys.length=(s.top+1)*6:=hP.1;have hpos:q*6+(aG x A' c').toList.length<=ys.length:=by
  rw[hyl];show q*6+6<=_;omega
 refine⟨cur,hB,hsz,?_⟩;exact{
  blk:=h.blk.keep (lY gr hgr)
  L:=⟨xs,aN hrow (λb hb=>lY b (λe=>h.LD b hb (by rw[e];rfl))),oP.1,λi x hx=>by
   obtain⟨A,c2,q1,q2,q3⟩:=oP.2 i x hx;exact⟨A,c2,q1,q2.keep (by rw[NH];exact za _) (λb hb=>lY b (Yk b hb)),q3⟩⟩
  D:=⟨_,Ad,Ad.1,λn hn=>by
   by_cases e:n=q
   ·subst e;have eh:({s with cm:=λm=>if m=n then x else s.cm m}:Sp.aF).home n=x:=by
     unfold Sp.aF.home;rw[zD (by omega)];show(if n=n then x else _)=x;rw[zK rfl]
    rw[eh];refine⟨A',c',hA,hR.keep (by rw[NH];exact za _) (λb hb=>lY b (Yk b hb)),λj hj=>?_⟩;have:=uX (xs:=ys) (l:=(aG x A' c').toList) (o:=n*6) (j:=j) hpos hj;exact this.trans zZ
   ·have eh:({s with cm:=λm=>if m=q then x else s.cm m}:Sp.aF).home n=s.home n:=by
     unfold Sp.aF.home;by_cases e0:n=0
     ·rw[zK e0,zK e0]
     ·rw[zD e0,zD e0];show(if n=q then x else _)=_;rw[zD e]
    rw[eh];obtain⟨A,c2,q1,q2,q3⟩:=hP.2 n hn;refine⟨A,c2,q1,q2.keep (by rw[NH];exact za _) (λb hb=>lY b (Yk b hb)),λj hj=>?_⟩;have:=sK (xs:=ys) (l:=(aG x A' c').toList) (o:=q*6) (k:=n*6+j) hpos (by show n*6+j<q*6\/q*6+6<=n*6+j;omega);exact this.trans (q3 j hj)⟩
  few:=h.few,ids:=h.ids,nd:=h.nd,Lr:=h.Lr,Dr:=h.Dr,LD:=h.LD,lo:=h.lo
  g:=λb hb=>⟨by rw[NH];exact(h.g b hb).1,(h.g b hb).2⟩}
end
open Go.RowKit Go.Conc
namespace Sp
def aF.DY (s:aF) (F:Nat) (ids:List Nat):aF:={s with forced:=F,L:=s.L.map (bw ids),cm:=λq=>if q∈ids/\aW s.L q=true then((cJ s.L q).map (·.page)).getD (s.cm q) else s.cm q}
def aF.w1 (s:aF) (n:Nat):aF:=match cJ s.L n with
 | some x=>if x.aK=true then{s with L:=Gq s.L n (λy=>{y with aK:=false,from_:=0}),cm:=λm=>if m=n then x.page else s.cm m} else s
 | none=>s
theorem je (ids:List Nat) (x:RI):(bw ids x).page=x.page:=by unfold bw;split<;>rfl
theorem FY (x:RI):bw [] x=x:=by unfold bw;rw[zD (by simp)]
theorem Rb (L:List RI) (ids:List Nat) (n:Nat):cJ (L.map (bw ids)) n=(cJ L n).map (bw ids):=by
 unfold cJ;rw[List.find?_map]
 congr 1
 apply congrArg (λf=>List.find? f L);funext x;simp only[Function.comp,je]
theorem FL {L:List RI} {x:RI} (h:cJ L n=some x):x∈L/\x.page.id=n:=by
 unfold cJ at h;exact⟨List.mem_of_find?_eq_some h,by simpa using List.find?_some h⟩
theorem Vb {L:List RI} (hn:(L.map (·.page.id)).Nodup) {x y:RI} (hx:x∈L) (hy:y∈L) (h:x.page.id=y.page.id):x=y:=by
 obtain⟨i,hi,rfl⟩:=List.mem_iff_getElem.1 hx;obtain⟨j,hj,rfl⟩:=List.mem_iff_getElem.1 hy;have hp:=za8.1 hn;rcases Nat.lt_trichotomy i j with hlt | rfl | hlt
 ·exact absurd (by rw[za6,za6];exact h) (hp i j (by simpa using hi) (by simpa using hj) hlt)
 ·rfl
 ·exact absurd (by rw[za6,za6];exact h.symm) (hp j i (by simpa using hj) (by simpa using hi) hlt)
theorem Ec (s:aF) (F:Nat):s.DY F []={s with forced:=F}:=by
 have e:s.L.map (bw [])=s.L:=by
  rw[zY (g:=id) (λx _=>FY x),List.map_id]
 simp[aF.DY,e]
theorem NT {s:aF} (hn:(s.L.map (·.page.id)).Nodup) (F:Nat) (ids:List Nat) (n:Nat):s.DY F (ids++[n])=(s.DY F ids).w1 n:=by
 have hL:(s.DY F ids).L=s.L.map (bw ids):=rfl;unfold aF.w1;rw[hL,Rb]
 cases hg:cJ s.L n with
 | none=>
  have hno:∀y∈s.L,y.page.id≠n:=λy hy e=>by
   unfold cJ at hg;have:=List.find?_eq_none.1 hg y hy;simp[e] at this
  have hd:aW s.L n=false:=by unfold aW;rw[hg]
  simp only[Option.map_none];unfold aF.DY
  congr 1
  ·apply zY;intro y hy;have:=hno y hy;unfold bw;simp[this]
  ·funext m;by_cases hm:m=n
   ·subst hm;simp[hd]
   ·simp[hm]
 | some x=>
  obtain⟨hx,hxi⟩:=FL hg;have hd:aW s.L n=x.aK:=by unfold aW;rw[hg]
  simp only[zas]
  cases Xv:x.aK with
  | false=>
   have e1:(bw ids x).aK=false:=by unfold bw;simp[Xv]
   rw[zD (by rw[e1];decide)];unfold aF.DY
   congr 1
   ·apply zY;intro y hy;by_cases Pz:y.page.id=n
    ·obtain rfl:=Vb hn hy hx (Pz.trans hxi.symm);unfold bw;simp[Xv]
    ·unfold bw;simp[Pz]
   ·funext m;by_cases hm:m=n
    ·subst hm;simp[hd,Xv]
    ·simp[hm]
  | true=>
   by_cases hmem:n∈ids
   ·have e1:(bw ids x).aK=false:=by unfold bw;simp[Xv,hxi,hmem]
    rw[zD (by rw[e1];decide)];unfold aF.DY
    congr 1
    ·apply zY;intro y hy;unfold bw;by_cases Pz:y.page.id=n
     ·simp[Pz,hmem]
     ·simp[Pz]
    ·funext m;by_cases hm:m=n
     ·subst hm;simp[hmem]
     ·simp[hm]
   ·have e1:bw ids x=x:=by unfold bw;simp[hxi,hmem]
    rw[e1,zK Xv];unfold aF.DY
    congr 1
    ·show _=Gq (s.L.map (bw ids)) n _;unfold Gq;rw[zat];apply zY;intro y hy;simp only[Function.comp,je];by_cases Pz:y.page.id=n
     ·obtain rfl:=Vb hn hy hx (Pz.trans hxi.symm);rw[zK Pz,e1];unfold bw;simp[Xv,Pz]
     ·rw[zD Pz];unfold bw;simp[Pz]
    ·funext m;show _=if m=n then x.page else _
     by_cases hm:m=n
     ·subst hm;rw[zK rfl,zK ⟨by simp,by rw[hd,Xv]⟩,hg];rfl
     ·rw[zD hm];simp[hm]
theorem SQ (s:aF) (F:Nat) (ids:List Nat) (n:Nat):dJ (s.DY F ids).L n=dJ s.L n:=by
 show(s.L.map (bw ids)).any _=_;unfold dJ;rw[List.any_map]
 congr 1
 funext x;simp only[Function.comp,je]
theorem Le {s:aF} (h0:q.all (λid=> !aW s.L id)=false) (h1:gG s.L q<=s.next):s.write q=(0,s.DY (if s.forced<=gG s.L q then s.next else s.forced) q):=by
 unfold aF.write;rw[zD (by rw[h0];decide),zD (by omega)];rfl
end Sp
section
variable {B gr:Nat} {G:af} {w:World} {vL vD:Value} {s:Sp.aF}
theorem bG.Ow (h:bG B G w gr vL vD s) (i:Nat) (v:Value) {s':Sp.aF} (hs:s'.L=s.L/\s'.cm=s.cm/\s'.top=s.top)
 (hc:(#[.int .i64 s.frames,vL,vD,.int .u64 s.forced,.int .u64 s.next]:Array Value).setIfInBounds i v=#[.int .i64 s'.frames,vL,vD,.int .u64 s'.forced,.int .u64 s'.next]):
 bG B G (w.setCell ⟨gr,i,none⟩ v) gr vL vD s':=by
 obtain⟨eL,eD,eT⟩:=hs;have hsz:(w.setCell ⟨gr,i,none⟩ v).heap.size=w.heap.size:=by simp[World.setCell]
 have lY:∀b,b≠gr->(w.setCell ⟨gr,i,none⟩ v).heap[b]? =w.heap[b]? :=λb hb=>Below.heap_setCell w ⟨gr,i,none⟩ v b hb;obtain⟨xs,hrow,oP⟩:=h.L;obtain⟨ys,hD,hP⟩:=h.D;have eh:s'.home=s.home:=by funext q;unfold Sp.aF.home;rw[eD]
 exact{
  blk:=by have:=h.blk.a_ i v;rw[hc] at this;exact this
  L:=⟨xs,by rw[eL];exact aN hrow (λb hb=>lY b (λe=>h.Lr (by rw[<-e];exact hb))),by rw[eL];exact oP.1,λj x hx=>by
   rw[eL] at hx;obtain⟨A,c,h1,h2,h3⟩:=oP.2 j x hx;exact⟨A,c,h1,h2.keep (by rw[hsz];exact za _) (λb hb=>lY b (h.g b hb).2.1),h3⟩⟩
  D:=⟨ys,by rw[eT];exact aN hD (λb hb=>lY b (λe=>h.Dr (by rw[<-e];exact hb))),by rw[eT];exact hP.1,λq hq=>by
   rw[eT] at hq;rw[eh];obtain⟨A,c,h1,h2,h3⟩:=hP.2 q hq;exact⟨A,c,h1,h2.keep (by rw[hsz];exact za _) (λb hb=>lY b (h.g b hb).2.1),h3⟩⟩
  few:=by rw[eL];exact h.few
  ids:=by rw[eL];exact h.ids
  nd:=by rw[eL];exact h.nd
  Lr:=h.Lr,Dr:=h.Dr,LD:=h.LD,lo:=h.lo
  g:=λb hb=>⟨by rw[hsz];exact(h.g b hb).1,(h.g b hb).2⟩}
theorem bG.keep (h:bG B G w gr vL vD s) (hs:w.heap.size<=w'.heap.size) (hk:∀b,fR gr vL vD b\/G b->w'.heap[b]? =w.heap[b]?):bG B G w' gr vL vD s:=by
 obtain⟨xs,hrow,oP⟩:=h.L;obtain⟨ys,hD,hP⟩:=h.D;exact{
  blk:=h.blk.keep (hk gr (.inl (.inl rfl)))
  L:=⟨xs,aN hrow (λb hb=>hk b (.inl (.inr (.inl hb)))),oP.1,λi x hx=>by
   obtain⟨A,c,h1,h2,h3⟩:=oP.2 i x hx;exact⟨A,c,h1,h2.keep hs (λb hb=>hk b (.inr hb)),h3⟩⟩
  D:=⟨ys,aN hD (λb hb=>hk b (.inl (.inr (.inr hb)))),hP.1,λq hq=>by
   obtain⟨A,c,h1,h2,h3⟩:=hP.2 q hq;exact⟨A,c,h1,h2.keep hs (λb hb=>hk b (.inr hb)),h3⟩⟩
  few:=h.few,ids:=h.ids,nd:=h.nd,Lr:=h.Lr,Dr:=h.Dr,LD:=h.LD,lo:=h.lo
  g:=λb hG=>⟨zf (h.g b hG).1 hs,(h.g b hG).2⟩}
theorem bG.lt (h:bG B G w gr vL vD s) (hb:fR gr vL vD b\/G b):b<w.heap.size:=by
 obtain⟨xs,hrow,_⟩:=h.L;obtain⟨ys,hD,_⟩:=h.D;have hl:∀{e k n:Nat} {v:Value} {zs:List Value},w.ownsRow B e k v n zs->∀b,v.ownBlock=some b->b<w.heap.size:=λhr b hb=>by
  obtain⟨cur,hc⟩:=fk hr hb;exact(zm.1 hc).1
 rcases hb with(rfl | hb | hb) | hb
 ·exact h.blk.lt
 ·exact hl hrow b hb
 ·exact hl hD b hb
 ·exact(h.g b hb).1
theorem bG.far (h:bG B G w gr vL vD s) (hg:¬(fR gr vL vD g\/G g)) (i:Nat) (v:Value):bG B G (w.setCell ⟨g,i,none⟩ v) gr vL vD s:=
 h.keep (by simp[World.setCell]) (λb hb=>Below.heap_setCell w ⟨g,i,none⟩ v b (λe=>hg (by have e:b=g:=e;rw[<-e];exact hb)))
theorem bG.LJ (h:bG B G w gr vL vD s) (F:Nat):bG B G (w.setCell ⟨gr,3,none⟩ (.int .u64 F)) gr vL vD {s with forced:=F}:=h.Ow 3 _ ⟨rfl,rfl,rfl⟩ rfl
theorem bG.wA (h:bG B G w gr vL vD s) (F:Nat):bG B G (w.setCell ⟨gr,4,none⟩ (.int .u64 F)) gr vL vD {s with next:=F}:=h.Ow 4 _ ⟨rfl,rfl,rfl⟩ rfl
end
open Go.RowKit Go.Conc
namespace Sp
theorem oU {L:List RI} (hn:(L.map (·.page.id)).Nodup) (hk:k<L.length):jt L L[k].page.id=L.eraseIdx k:=by
 induction L generalizing k with
 | nil=>simp at hk
 | cons y L ih=>
  rw[zF,List.nodup_cons] at hn;unfold jt
  cases k with
  | zero=>
   rw[zbn,zQ (by simp),List.eraseIdx_cons_zero,List.filter_eq_self];intro x hx;have:x.page.id≠y.page.id:=λe=>hn.1 (e▸zn.2 ⟨x,hx,rfl⟩);simpa using this
  | succ k=>
   have hk':k<L.length:=by simpa using hk
   rw[zbo,zU,List.eraseIdx_cons_succ]
   ·congr 1
    exact ih hn.2 hk'
   ·have:y.page.id≠L[k].page.id:=λe=>hn.1 (e▸zn.2 ⟨L[k],zw hk',rfl⟩);simpa using this
theorem Rh {L:List RI} (hn:(L.map (·.page.id)).Nodup) (hk:k<L.length):L.filter (λx=>x.page.id==L[k].page.id)=[L[k]]:=by
 induction L generalizing k with
 | nil=>simp at hk
 | cons y L ih=>
  rw[zF,List.nodup_cons] at hn
  cases k with
  | zero=>
   rw[zbn,zU (by simp)]
   congr 1
   rw[List.filter_eq_nil_iff];intro x hx;have:x.page.id≠y.page.id:=λe=>hn.1 (e▸zn.2 ⟨x,hx,rfl⟩);simpa using this
  | succ k=>
   have hk':k<L.length:=by simpa using hk
   rw[zbo,zQ]
   ·exact ih hn.2 hk'
   ·have:y.page.id≠L[k].page.id:=λe=>hn.1 (e▸zn.2 ⟨L[k],zw hk',rfl⟩);simpa using this
theorem Hv {L:List RI} (hn:(L.map (·.page.id)).Nodup) (hk:k<L.length):nk L L[k].page.id=L.eraseIdx k++[{L[k] with pins:=L[k].pins+1}]:=by
 unfold nk;rw[oU hn hk,Rh hn hk];rfl
theorem EU {L:List RI} (hn:(L.map (·.page.id)).Nodup) (k:Nat):((L.eraseIdx k).map (·.page.id)).Nodup:=
 List.Nodup.sublist ((List.eraseIdx_sublist L k).map _) hn
theorem Xm {L:List RI} (hn:(L.map (·.page.id)).Nodup) (hk:k<L.length) {x:RI} (hx:x.page.id=L[k].page.id):((L.eraseIdx k++[x]).map (·.page.id)).Nodup:=by
 rw[zI,za3];refine⟨EU hn k,by simp,λa ha b hb=>?_⟩;simp only[zF,zaw,zq] at hb;subst hb;obtain⟨y,hy,rfl⟩:=zn.1 ha;rw[<-oU hn hk] at hy;have:=(zam.1 hy).2;rw[hx];simpa using this
end Sp
section
variable {B gr:Nat} {G:af} {w w':World} {vL vD:Value} {s:Sp.aF} {L:List Sp.RI} {xs:List Value}
theorem fE.keep (h:fE G w L xs) (hs:w.heap.size<=w'.heap.size) (hk:∀b,G b->w'.heap[b]? =w.heap[b]?):fE G w' L xs:=
 ⟨h.1,λi x hx=>by
  obtain⟨A,c,h1,h2,h3⟩:=h.2 i x hx;exact⟨A,c,h1,h2.keep hs hk,h3⟩⟩
theorem fE.take (h:fE G w L xs) (hk:k<=L.length):fE G w (L.take k) (xs.take (k*9)):=by
 have hl:=h.1;refine⟨by simp;omega,λi x hx=>?_⟩;have hi:i<k:=by
  have:=(zad.1 hx).1;simp at this;omega
 rw[List.getElem?_take_of_lt hi] at hx;obtain⟨A,c,h1,h2,h3⟩:=h.2 i x hx;exact⟨A,c,h1,h2,λj hj=>by rw[List.getElem?_take_of_lt (by omega)];exact h3 j hj⟩
theorem fE.drop (h:fE G w L xs) (k:Nat):fE G w (L.drop k) (xs.drop (k*9)):=by
 have hl:=h.1;refine⟨by simp;omega,λi x hx=>?_⟩;rw[zaf] at hx;obtain⟨A,c,h1,h2,h3⟩:=h.2 _ x hx;refine⟨A,c,h1,h2,λj hj=>?_⟩;rw[zaf,<-h3 j hj]
 congr 1
 omega
theorem fE.append {L2:List Sp.RI} {ys:List Value} (h:fE G w L xs) (h2:fE G w L2 ys):fE G w (L++L2) (xs++ys):=by
 have hl:=h.1;have hl2:=h2.1;refine⟨by simp;omega,λi x hx=>?_⟩;by_cases hi:i<L.length
 ·rw[zai hi] at hx;obtain⟨A,c,q1,q2,q3⟩:=h.2 i x hx;exact⟨A,c,q1,q2,λj hj=>by rw[zai (by omega)];exact q3 j hj⟩
 ·rw[zO (by omega)] at hx;obtain⟨A,c,q1,q2,q3⟩:=h2.2 _ x hx;refine⟨A,c,q1,q2,λj hj=>?_⟩;rw[zO (by omega),<-q3 j hj]
  congr 1
  omega
theorem fE.one {x:Sp.RI} (hA:NM A) (hR:aA G w A x.page.rows):fE G w [x] (au x A c):=by
 refine⟨rfl,λi y hy=>?_⟩
 match i,hy with
 | 0,hy=>
  injection hy with hy;subst hy;exact⟨A,c,hA,hR,λj _=>by rw[Nat.zero_mul,zaj]⟩
theorem fE.erase (h:fE G w L xs) (hk:k<L.length):fE G w (L.eraseIdx k) (xs.take (k*9)++xs.drop ((k+1)*9)):=by
 rw[List.eraseIdx_eq_take_drop_succ];exact(h.take (by omega)).append (h.drop (k+1))
theorem bG.Ds (h:bG B G w gr vL vD s) (hg:¬(fR gr vL vD g\/G g)) (cs:Array Value):bG B G (w.setRow g cs) gr vL vD s:=
 h.keep (zbj (by simp[World.setRow])) (λb hb=>ak w g b cs (λe=>hg (by rw[<-e];exact hb)))
theorem bG.newL {L':List Sp.RI} (h:bG B G w gr vL vD s) (hs:w.heap.size<=w'.heap.size) (hk:∀b,(b=gr\/vD.ownBlock=some b)\/G b->w'.heap[b]? =w.heap[b]?)
 (hrow:w'.ownsRow B 207 9 v L'.length xs) (hR:fE G w' L' xs) (hv:∀b,v.ownBlock=some b->vL.ownBlock=some b\/w.heap.size<=b) (hf:L'.length<=64) (hid:∀x∈L',x.page.id<4294967296) (hn:(L'.map (·.page.id)).Nodup):
 bG B G (w'.setCell ⟨gr,1,none⟩ v) gr v vD {s with L:=L'}:=by
 obtain⟨ys,hD,hP⟩:=h.D;have hsz:(w'.setCell ⟨gr,1,none⟩ v).heap.size=w'.heap.size:=by simp[World.setCell]
 have lY:∀b,b≠gr->(w'.setCell ⟨gr,1,none⟩ v).heap[b]? =w'.heap[b]? :=λb hb=>Below.heap_setCell w' ⟨gr,1,none⟩ v b hb;have hvr:v.ownBlock≠some gr:=λe=>by
  rcases hv gr e with h1 | h1
  ·exact h.Lr h1
  ·have:=h.blk.lt;omega
 have hGr:∀b,G b->b≠gr:=λb hb=>(h.g b hb).2.1;have hDl:∀b,vD.ownBlock=some b->b<w.heap.size:=λb hb=>h.lt (.inl (.inr (.inr hb)));exact{
  blk:=by
   have:=(h.blk.keep (hk gr (.inl (.inl rfl)))).a_ 1 v;exact this
  L:=⟨xs,aN hrow (λb hb=>lY b (λe=>hvr (by rw[<-e];exact hb))),hR.keep (by rw[hsz];exact za _) (λb hb=>lY b (hGr b hb))⟩
  D:=⟨ys,aN hD (λb hb=>(lY b (λe=>h.Dr (by rw[<-e];exact hb))).trans (hk b (.inl (.inr hb)))),hP.1,λq hq=>by
   obtain⟨A,c,h1,h2,h3⟩:=hP.2 q hq;exact⟨A,c,h1,h2.keep (by rw[hsz];exact hs) (λb hb=>(lY b (hGr b hb)).trans (hk b (.inr hb))),h3⟩⟩
  few:=hf,ids:=hid,nd:=hn,Lr:=hvr,Dr:=h.Dr,lo:=h.lo
  LD:=λb hb hb2=>by
   rcases hv b hb with h1 | h1
   ·exact h.LD b h1 hb2
   ·have:=hDl b hb2;omega
  g:=λb hb=>⟨by rw[hsz];exact zf (h.g b hb).1 hs,hGr b hb,λe=>by
   rcases hv b e with h1 | h1
   ·exact(h.g b hb).2.2.1 h1
   ·have:=(h.g b hb).1;omega,(h.g b hb).2.2.2⟩}
end
end Go.Proofs.YtfpjlkdklgokiaaGreat
