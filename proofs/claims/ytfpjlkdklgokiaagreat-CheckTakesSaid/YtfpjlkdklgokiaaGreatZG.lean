/- A part of the proof of CheckTakes. -/
import Derived.Test.YtfpjlkdklgokiaaGreatZF
namespace Go.Proofs.YtfpjlkdklgokiaaGreat
set_option maxRecDepth 100000
set_option maxHeartbeats 40000000
open Go.RowKit
open Go.Proofs.Tryz
variable {n g k gp gd c gl i id b s r cb mb fb cd h N m fuel j ct p B cap sz gr z gt x aL:Nat} {v c1 c2 c3 c0 c5 c4:Value} {w' W:World} {A D T:Option Addr} {a:Act} {ids q fl l rest:List Nat} {xs fs:List Value} {o oi:Oper} {listed:Array Bool} {P:Program} {e t:TypeId} {args cs' buf:Array Value} {tm:Bool}
open Go.RowKit Go.Conc
namespace Sp
def jM (L:List RI) (ns:List Nat):List (Nat×Nat):=(ns.filter (aW L)).map λn=>(n,((cJ L n).map (·.from_)).getD 0)
theorem FT {L:List RI} (hi:i<q.length) {x:RI} (hx:cJ L q[i]=some x):jM L (q.take (i+1))=jM L (q.take i)++(if x.aK=true then[(q[i],x.from_)] else[]):=by
 unfold jM;rw[zg hi,zba,zI]
 congr 1
 have e:aW L q[i]=x.aK:=by unfold aW;rw[hx]
 cases hd:x.aK with
 | true=>rw[zU (by rw[e,hd]),zK rfl];simp[hx]
 | false=>rw[zQ (by rw[e,hd];decide),zD (by decide)];rfl
theorem Jj (L:List RI) (ns:List Nat):(jM L ns).length<=ns.length:=by
 unfold jM;rw[zM];exact zau _ _
theorem Mf {s:aF} (h:n∈s.pages):dJ s.L n=true:=by
 have:=(aX (s.L.map (·.page.id))).1.mem_iff.1 h;obtain⟨x,hx,rfl⟩:=zn.1 this;exact List.any_eq_true.2 ⟨x,hx,by simp⟩
theorem Me (s:aF):s.pages.length=s.L.length:=by
 have:=(aX (s.L.map (·.page.id))).1.length_eq;simpa[aF.pages] using this
end Sp
section
variable {B gr:Nat} {G:af} {w:World} {vL vD:Value} {s:Sp.aF}
theorem LU (h:bG B G w gr vL vD s):
 Calls prog 44 #[ptr gr] w λe w'=>∃A c,e=.returned (.slice A s.aU.length c)/\Reads (λb=>w.heap.size<=b) w' 2 A s.aU.length (tj s.aU)/\zB w w':=by
 have H:=zH h;have Zz:=zH (LP h);have jb:=h.few;have hpl:=Sp.Me s;obtain⟨q,hq⟩:=zE s.pages;have HQ:Hid (∀n∈q,Sp.dJ s.L n=true):=λn hn=>Sp.Mf (by rw[<-hq];exact hn);have hdt:s.aU=Sp.jM s.L q:=by rw[hq];rfl
 rw[hdt];rw[<-hq] at Zz hpl;obtain⟨iH,hiH,hy0,hy1,sP⟩:=info_parts rO;have HI:=zH hiH;have GJ:=zH hy0;have GI:=zH hy1;have Cl:=zH sP;clear h hq hdt hiH hy0 hy1 sP;go_enter func44,ntmps44;go_wp2_with fail;refine Zz.out.mono ?_;rintro e w1 ⟨A0,c0,rfl,yB,hb1⟩;have JI:=zH yB;have cA:=zH hb1;clear yB hb1 Zz;go_wp2_with fail;go_loopw [3,5] (λv3 v5 wr=>∃i:Nat,i<=q.length/\v5=.int .i64 i/\wr.ownsRow w1.heap.size 111 2 v3 (Sp.jM s.L (q.take i)).length (tj (Sp.jM s.L (q.take i)))/\zB w1 wr) (λ_ v5 _=>q.length-(intOf v5).toNat)
 case atStart=>exact⟨0,by omega,rfl,World.ownsRow_nil _ _ _ _,Below.refl _ _⟩
 case round=>
  obtain⟨i,hi,rfl,hown,MN⟩:=hrel;have hbr:zB w wr:=cA.out.trans (MN.mono cA.out.size);have Gz:=Sp.Jj s.L (q.take i);have hdl2:(q.take i).length<=64:=by rw[zag];omega
  by_cases hlt:i<q.length
  ·obtain⟨b,o,u,rfl,I2,cH,hu,hcell⟩:=JI.out.at_ hlt;have Vh:u=av q[i]:=by
    rw[zN,zk hlt] at hu;injection hu with hu;exact hu.symm
   subst Vh;have h1:=H.out.below hbr;rcases Sp.gO s q[i] with⟨_,_,hno⟩ | ⟨k,hk,hat,hid,cQ,_⟩
   ·rw[HQ.out q[i] (zw hlt)] at hno;cases hno
   ·obtain⟨g,c,A,c',PC,hA,hR,hc⟩:=h1.item hk;have hdt:=Sp.FT hlt cQ;obtain⟨x,hx⟩:=zE (s.L[k]);rw[<-hx] at hdt hc hR hid cQ;have Uj:∀W,zB wr W->W.cell? ⟨gr,1,none⟩=some (.slice (some ⟨g,0,none⟩) s.L.length c)/\W.cell? ⟨b,o+i,none⟩=some (av q[i])/\W.cell? ⟨g,k*9,none⟩=some (.int .u8 x.page.kind)/\W.cell? ⟨g,k*9+1,none⟩=some (.int .u8 x.page.level)/\W.cell? ⟨g,k*9+2,none⟩=some (.int .u32 x.page.id)/\W.cell? ⟨g,k*9+3,none⟩=some (.int .u64 x.page.aL)/\W.cell? ⟨g,k*9+4,none⟩=some (.int .u32 x.page.next)/\W.cell? ⟨g,k*9+5,none⟩=some (.slice A x.page.rows.length c')/\W.cell? ⟨g,k*9+6,none⟩=some (.int .i64 x.pins)/\W.cell? ⟨g,k*9+7,none⟩=some (.bool x.aK)/\W.cell? ⟨g,k*9+8,none⟩=some (.int .u64 x.from_):=λW hb=>by
     have hw:=(h1.below hb);have c1:=hw.blk.cell 1;rw[PC] at c1;have hgg:g<wr.heap.size:=World.block_lt_of_cell? wr _ ((hc 0 (by omega)).trans rfl);have qP:∀j,j<9->W.cell? ⟨g,k*9+j,none⟩=(au x A c')[j]? :=λj hj=>(hb.cell (p:=⟨g,k*9+j,none⟩) hgg).trans (hc j hj);exact⟨c1,((MN.trans (hb.mono MN.size)).cell (p:=⟨b,o+i,none⟩) cH).trans hcell,qP 0 (by omega),qP 1 (by omega),qP 2 (by omega),qP 3 (by omega),qP 4 (by omega),qP 5 (by omega),qP 6 (by omega),qP 7 (by omega),qP 8 (by omega)⟩
    have wK:=zH Uj;have DV:=zH fun(W:World) (hb:zB wr W)=>lX (h1.below hb) q[i];rw[hat] at DV;have hmeas:i+1<=q.length:=hlt;have Nl:=zH hown;have HDT:=zH hdt;obtain⟨A3,n3,c3,rfl⟩:=cU hown;have hcb:Hid (∀W,zB w1 W->zC W b (o+i) (av q[i])):=λW hb=>(hb.cell (p:=⟨b,o+i,none⟩) cH).trans hcell;clear Uj h1 hc hR hat cQ hx hA hid hown hdt hu I2;go_wp2_with fail;go_cut [6] from 9 to 38 (λv wy=>∃gx,v=ptr gx/\aj wy gx 207 (au x A c').toArray/\zB wr wy/\wr.heap.size<=gx)
    case first=>
     have hb0:zB wr wr.drew:=(zR wr).drew;have BZ:=zH (wK.out wr.drew hb0);refine fQ (fun(W:World)=>zC W gr 1 (.slice (some ⟨g,0,none⟩) s.L.length c)/\zC W b (o+i) (av q[i])/\zC W g (k*9) (.int .u8 x.page.kind)/\zC W g (k*9+1) (.int .u8 x.page.level)/\zC W g (k*9+2) (.int .u32 x.page.id)/\zC W g (k*9+3) (.int .u64 x.page.aL)/\zC W g (k*9+4) (.int .u32 x.page.next)/\zC W g (k*9+5) (.slice A x.page.rows.length c')/\zC W g (k*9+6) (.int .i64 x.pins)/\zC W g (k*9+7) (.bool x.aK)/\zC W g (k*9+8) (.int .u64 x.from_)) (λj=>decide (13<=j)) ?_
     repeat (refine bK BZ.out ?_)
     refine gR (rs:=[9,12]) (by kernel_rfl) (by simp) (λi hi=>?_);simp only[zW,zak,or_false] at hi;rcases hi with rfl | rfl
     ·skip;refine lI 24 (w':=wr.drew) rfl rfl (by rfl) ?_ (DV.out wr.drew hb0) ?_
      ·go_simp
      rintro e v1 ⟨rfl,hc1⟩;have hb1:=hb0.trans (hc1.mono hb0.size);have hS1:=zH (wK.out v1 hb1);refine⟨_,rfl,λ_=>hS1.out,?_⟩;simp only[zSA,zSB,zSC]
      repeat (refine bK hS1.out ?_)
      have hc2:=(zR v1).alloc (za _) (.cells sy 207);have hb2:=hb1.trans (hc2.mono hb1.size);have hn2:=aj.new v1 207 sy;have hg2:wr.heap.size<=v1.heap.size:=hb1.size;have gB:=zH (wK.out _ hb2);refine fe 12 6 (v:=ptr v1.heap.size) (w':=(v1.alloc (.cells sy 207))) rfl ?_ (λ_=>gB.out) ?_
      ·first | (go_simp;done) | (go_simp;rfl)
      refine jx 13 (w':=((v1.alloc (.cells sy 207)).setRow v1.heap.size (aD sy 0 (au x A c')))) rfl (aq _ _ _ ⟨v1.heap.size,0,none⟩ _ rfl rfl rfl (ax _ _ 0 _ _ sy (au x A c').toArray hn2 ic (by show 0+9<=9;omega) (by simp[au,Value.oneCell']))) (λh=>nomatch h) ?_;refine aC (by kernel_rfl) ?_ _;rename_i K9 aT;refine aT _ _ ?_;clear aT;go_meet
      case rel=>exact⟨v1.heap.size,rfl,by rw[<-sx];exact hn2.setRow _,below_setRow hb2 hg2 _,hg2⟩
     ·skip;have hc1:=(zR wr.drew).alloc (za _) (.cells sy 207);have hb1:=hb0.trans (hc1.mono hb0.size);have hn1:=aj.new wr.drew 207 sy;have hg1:wr.heap.size<=wr.drew.heap.size:=hb0.size;have hS1:=zH (wK.out _ hb1);refine cN 6 (v:=ptr wr.drew.heap.size) (w':=(wr.drew.alloc (.cells sy 207))) rfl rfl (by rfl) ?_ ⟨λ_=>hS1.out,?_⟩
      ·first | (go_simp;done) | (go_simp;rfl)
      simp only[zSA,zSB,zSC];refine aI 9 24 (w':=(wr.drew.alloc (.cells sy 207))) rfl rfl (by rfl) (by kernel_rfl) ?_ (DV.out (wr.drew.alloc (.cells sy 207)) hb1) ?_
      ·go_simp
      rintro e v2 ⟨rfl,hc2⟩;have hb2:=hb1.trans (hc2.mono hb1.size);have gB:=zH (wK.out v2 hb2);refine⟨_,rfl,λ_=>gB.out,?_⟩;simp only[zSA,zSB,zSC];have hn2:=hn1.below hc2 hn1.lt
      repeat (refine bK gB.out ?_)
      refine jx 13 (w':=(v2.setRow wr.drew.heap.size (aD sy 0 (au x A c')))) rfl (aq _ _ _ ⟨wr.drew.heap.size,0,none⟩ _ rfl rfl rfl (ax _ _ 0 _ _ sy (au x A c').toArray hn2 ic (by show 0+9<=9;omega) (by simp[au,Value.oneCell']))) (λh=>nomatch h) ?_;refine aC (by kernel_rfl) ?_ _;rename_i K9 aT;refine aT _ _ ?_;clear aT;go_meet
      case rel=>exact⟨wr.drew.heap.size,rfl,by rw[<-sx];exact hn2.setRow _,below_setRow hb2 hg1 _,hg1⟩
    case rest=>
     rename_i K9 aT;refine aT _ _ ?_;clear aT wK DV;obtain⟨gx,rfl,hX,hby,hgxr⟩:=hcut;have x7:=hX.cell 7;simp only[au,zGA,zGB,zGC] at x7;have hbz:=MN.trans (hby.mono MN.size);have hOw:=cq Nl.out hby;have HX:=zH hX;have qf:=zH hby;have HOW:=zH hOw;clear hX hby hOw
     cases hd:x.aK with
     | false=>
      rw[hd] at x7;have hd2:=HDT.out;rw[hd,zD (by decide),za7] at hd2;have UX:=zH hd2;clear hd2;go_wp2_with fail;go_roundw
      case rel=>exact⟨i+1,hmeas,by go_num,by rw[UX.out];exact HOW.out,hbz⟩
      case measure=>simp[intOf];omega
     | true=>
      rw[hd] at x7;have hd2:=HDT.out;rw[hd,zK rfl] at hd2;have UX:=zH hd2;have hws:w1.heap.size<=wr.heap.size:=MN.size;have hsy:wr.heap.size<=wc.heap.size:=qf.out.size;have hn13:(Sp.jM s.L (q.take i)).length<=64:=by omega
      clear hd2;go_wp2_with fail;have ez:∀(W:World),zB w1 W->aj W gx 207 (au x A c').toArray->W.cell? ⟨b,o+i,none⟩=some (av q[i])/\W.cell? ⟨gx,8,none⟩=some (.int .u64 x.from_):=λW hb h2=>⟨hcb.out W hb,(h2.cell 8).trans rfl⟩;have qd:=zH ez;have hbd:zB wc wc.drew:=(zR wc).drew;have hba:=hbd.alloc (za _) (.cells #[av q[i],.int .u64 x.from_] 111);have hS:=zH (qd.out wc.drew (hbz.trans (hbd.mono hbz.size)) HX.out.drew);have SF:=zH (qd.out _ (hbz.trans (hba.mono hbz.size)) (HX.out.below hba HX.out.lt));refine fQ (fun(W:World)=>zC W b (o+i) (av q[i])/\zC W gx 8 (.int .u64 x.from_)) (λ_=>false) ?_
      repeat (refine bK hS.out ?_)
      refine fe 8 37 (v:=.slice (some ⟨wc.heap.size,0,none⟩) 1 1) (w':=wc.drew.alloc (.cells #[av q[i],.int .u64 x.from_] 111)) rfl ?_ (λ_=>SF.out) ?_
      ·first | (go_simp;done) | (go_simp;rfl)
      refine jf 9 rfl (by rfl) (by kernel_rfl) ?_;refine bX _ _ _ _ rfl w1.heap.size 111 iH _ 2 16 underlying33 HI.out GJ.out GI.out Cl.out rfl (by decide) _ _ _ rfl (HOW.out.drew.alloc _) ⟨wc.heap.size,0,none⟩ 1 1 [av q[i],.int .u64 x.from_] rfl rfl (e8 (cs:=[av q[i],.int .u64 x.from_]) (aj.new wc.drew 111 #[av q[i],.int .u64 x.from_])) (λx hx=>by simp at hx;rcases hx with rfl | rfl<;>rfl) (by unfold maxLen;omega) (by omega) (by simp;omega) ?_;intro v6 w6 q1 q2 q3;obtain⟨A6,n6,c6,rfl⟩:=cU q1;have hba1:=hbz.trans (hba.mono hbz.size);have fI:zB w1 w6:=hba1.grown q2 (by simp;omega) (λk e=>(HOW.out.lt k e).1);have vh:=(HX.out.below hba HX.out.lt).grown q2 (λe=>by have:=(Nl.out.lt gx e.symm).2;omega);have YN:=zH (qd.out w6 fI vh);refine⟨λ_=>YN.out,?_⟩;refine qZ 38 rfl ?_;simp only[zSA,zSB,zSC];refine fe 10 3 (v:=.slice A6 n6 c6) (w':=w6) rfl (by go_simp) (λ_=>YN.out) ?_;have oM:w6.ownsRow w1.heap.size 111 2 (.slice A6 n6 c6) (Sp.jM s.L (q.take (i+1))).length (tj (Sp.jM s.L (q.take (i+1)))):=by
       rw[UX.out,zo,KF];exact q1
      have ZR:=zH oM;clear oM q1 q2 q3 vh hba hba1 hbd hS SF;refine aC (by kernel_rfl) ?_ _;go_wp2_with fail;go_roundw
      case rel=>exact⟨i+1,hmeas,by go_num,ZR.out,fI⟩
      case measure=>simp[intOf];omega
  ·obtain rfl:i=q.length:=by omega
   rw[zL] at hown;obtain⟨A3,n3,c3,rfl⟩:=cU hown;have hR:=nr hown;have qN:n3=(Sp.jM s.L q).length:=by
    rcases hown.2 with⟨h0,h2⟩ | ⟨g,cap,cur,h0,_⟩
    ·injection h0 with _ h3 _;omega
    ·injection h0
   rw[qN];have HR:=zH hR;clear hown Gz hdl2;go_wp2_with fail;go_ret;exact⟨A3,c3,rfl,HR.out.mono (λb hb=>zl cA.out.size hb),hbr⟩
end
theorem Hh {w:World} {G G':af} {p:Sp.Pg} {A':Option Addr} {c':Nat} (hR:aA G w A p.rows) (vQ:aA G' w A' p.rows) (hn:p.rows.length<=1000000000):
 Calls prog 70 #[iR p A c,iR p A' c'] w λe w'=>e=.returned (.bool true)/\zB w w':=by
 have hb1:=(zR w).alloc (za _) (.cells (aG p A c) 64);have hb2:=hb1.alloc hb1.size (.cells (aG p A' c') 64);have aM:=(aj.new w 64 (aG p A c)).alloc (.cells (aG p A' c') 64);have bB:=aj.new (w.alloc (.cells (aG p A c) 64)) 64 (aG p A' c');have HR:=zH (Reads.below hR hb2);have HR':=zH (Reads.below vQ hb2);have hsz:(w.alloc (.cells (aG p A c) 64)).heap.size=w.heap.size+1:=by simp
 rw[hsz] at bB;clear hR vQ hsz hb1;go_enter func70,ntmps70;go_upto_region 1 with fail;change Code.wp _ _ _ _ ((w.alloc (.cells (aG p A c) 64)).alloc (.cells (aG p A' c') 64));generalize hw1:World.alloc (World.alloc w _) _=w1 at hb2 aM bB HR HR' ⊢;clear hw1;have a0:=aM.cell 0;have a1:=aM.cell 1;have a2:=aM.cell 2;have a3:=aM.cell 3;have a4:=aM.cell 4;have a5:=aM.cell 5;have z0:=bB.cell 0;have z1:=bB.cell 1;have z2:=bB.cell 2;have z3:=bB.cell 3;have z4:=bB.cell 4;have z5:=bB.cell 5;simp only[zGA,zGB,zGC] at a0 a1 a2 a3 a4 a5 z0 z1 z2 z3 z4 z5;have HB:=zH hb2;have cA:=zH aM;have eo:=zH bB;clear hb2 aM bB;go_wp2_with fail;clear a0 a1 a2 a3 a4 z0 z1 z2 z3 z4;go_loopw [5] (λi wr=>∃k:Nat,k<=p.rows.length/\i=.int .i64 k/\zB w1 wr) (λi _=>p.rows.length-(intOf i).toNat)
 case atStart=>exact⟨0,by omega,rfl,Below.refl _ _⟩
 case round=>
  clear a5 z5;obtain⟨k,hk,rfl,hbr⟩:=hrel;have a5:=(cA.out.below hbr cA.out.lt).cell 5;have z5:=(eo.out.below hbr eo.out.lt).cell 5;simp only[zGA,zGB,zGC] at a5 z5;by_cases hlt:k<p.rows.length
  ·obtain⟨b,o,rfl,_,hb,hc⟩:=aA.row (Reads.below HR.out hbr) hlt;obtain⟨b',o',rfl,_,hb',hc'⟩:=aA.row (Reads.below HR'.out hbr) hlt;have hmeas:k+1<=p.rows.length:=hlt;generalize p.rows[k]=r at*;go_wp2_with fail;go_quiet (fail);go_wp2_with fail;go_roundw
   case rel=>exact⟨k+1,hmeas,by go_num,below_drewN' hbr _⟩
   case measure=>simp[intOf];omega
  ·obtain rfl:k=p.rows.length:=by omega
   go_wp2_with fail;go_ret;exact⟨rfl,HB.out.trans (hbr.mono HB.out.size)⟩
def Ic:Ly:=⟨8,44,6,72,by omega,by omega⟩
open Go.RowKit Go.Conc
namespace Sp
theorem qH:∀(q l:List Nat),q.Nodup->(∀x∈q,x∈l)->q.length<=l.length
 | [],_,_,_=>za0 _
 | a::q,l,hn,hs=>by
  rw[List.nodup_cons] at hn;have ha:=hs a (by simp);have h:=qH q (l.erase a) hn.2 (λx hx=>by
   have hne:x≠a:=λe=>hn.1 (e▸hx);exact(List.mem_erase_of_ne hne).2 (hs x (by simp[hx])))
  rw[List.length_erase_of_mem ha] at h;have:0<l.length:=List.length_pos_of_mem ha;simp only[zP];omega
theorem iJ {α:Type} (f:α->Nat):∀(l:List α) (a b:Nat),l.foldl (λm x=>max m (f x)) a<=b↔a<=b/\∀x∈l,f x<=b
 | [],a,b=>by simp
 | x::l,a,b=>by
  rw[zbh,iJ f l];simp only[zW,forall_eq_or_imp];constructor
  ·rintro⟨h1,h2⟩;exact⟨by omega,by omega,h2⟩
  ·rintro⟨h1,h2,h3⟩;exact⟨by omega,h3⟩
theorem yG {α:Type} (f:α->Nat) {l l':List α} (h:l.Perm l') (a:Nat):l.foldl (λm x=>max m (f x)) a=l'.foldl (λm x=>max m (f x)) a:=by
 refine Nat.le_antisymm ?_ ?_
 ·rw[iJ];have:=(iJ f l' a _).1 (za _);exact⟨this.1,λx hx=>this.2 x (h.mem_iff.1 hx)⟩
 ·rw[iJ];have:=(iJ f l a _).1 (za _);exact⟨this.1,λx hx=>this.2 x (h.mem_iff.2 hx)⟩
theorem Pl.G3 (p:Pl) {q':List Nat} (h:q.Perm q'):p.fA q=p.fA q':=yG _ (h.filter _) 0
end Sp
theorem mi.GR {ly:Ly} {p:Sp.Pl} {dk:Sp.Dk} {l:Sp.Lg} {s:Sp.aF} (h:mi ly p dk l s) {q':List Nat} (hp:q.Perm q'):s.write q=s.write q':=by
 have e1:Sp.gG s.L q=Sp.gG s.L q':=by rw[h.L,Sp.sJ,Sp.sJ,Sp.Pl.G3 p hp]
 have e2:(q.all (λid=> !Sp.aW s.L id)=true)↔(q'.all (λid=> !Sp.aW s.L id)=true):=by
  rw[List.all_eq_true,List.all_eq_true];exact⟨λh x hx=>h x (hp.mem_iff.2 hx),λh x hx=>h x (hp.mem_iff.1 hx)⟩
 have e3:Sp.bw q=Sp.bw q':=by
  funext x;unfold Sp.bw;simp only[hp.mem_iff]
 unfold Sp.aF.write;rw[e1,e3];simp only[e2,hp.mem_iff]
theorem Mi {w:World} {base:Nat} (hO:w.ownsRow base 61 1 (.slice (some ⟨g,0,none⟩) q.length c) q.length (q.map av)):∃cur,aj w g 61 cur/\∀j,j<q.length->cur[j]? =some (av q[j]!):=by
 rcases hO.2 with⟨h0,_⟩ | ⟨g',cap,cur,h0,_,hh,h1,h2,h3,h4⟩
 ·cases h0
 ·injection h0 with a1 a2 a3;injection a1 with a1;injection a1 with a1;subst a1;refine⟨cur,hh,λj hj=>?_⟩;have:=congrArg (λl=>l[j]?) h4;simp only[Nat.mul_one,zT,hj,if_true] at this;rw[zZ] at this;rw[this];simp[hj]
theorem OX {ly:Ly} {K G:af} {w:World} {l:Sp.Lg} {s:Sp.aF} (h:cn ly K w gd gl gp l s) (h12:s.frames<=12) (hA:cO A) (Ae:q.length=0->A=none) (hR:Reads G w 1 A q.length (q.map av)) (hq:∀n∈q,n<4294967296) (hl:q.length<=100000)
 (hnil:q.length=0->∀W,zB w W->Calls prog 146 #[ptr gp,.slice none 0 0] W λe w'=>e=.returned (.int .i64 0)/\zB W w'):
 Calls prog 77 #[ptr gp,.slice A q.length c] w (kV ly K w gd gl gp l (s.flush q)):=by
 have H:=h;obtain⟨p,D,F,G1,dk,hpl,hd,hg,mV,og,nX,hr,hK,j4⟩:=h;obtain⟨R,fb,cb,mb,v,s0,r,cs,hat⟩:=hpl;have hM:Mem F D G1 R w gp gd gl ly.at_ ly.base fb cb mb v s0 r cs p.free (p.items.map (·.page.id)) p dk l:=⟨hat,hd,hg,mV,og,nX⟩;have hdf:q.filter (Sp.aW s.L)=q.filter p.jR:=by
  congr 1
  funext n;rw[hr.L,Sp.kI]
 have hhf:q.all (Sp.dJ s.L)=q.all (λn=>(p.find n).isSome):=by
  congr 1
  funext n;rw[hr.L,Sp.Dd]
 have BQ:q.Nodup->(q.filter p.jR).length<=8->q.all (λn=>(p.find n).isSome)=true->s.flush q=s.write q:=λh1 h2 h3=>by
  unfold Sp.aF.flush;rw[zD (λe=>e h1),zD (by rw[hdf];omega),zD (by rw[hhf,h3];decide)]
 refine(Hq (X:=λc w'=>kV ly K w gd gl gp l (s.flush q) (.returned (.int .i64 c)) w') hat hA Ae hR hq hl (λhnd h8 MZ hpos W hb g c' kW hO=>?_) (λh0 W hb=>?_)).mono ?_
 ·have hMW:=hM.below hb;obtain⟨cur,hB,hcur⟩:=Mi hO;have hlen:q.length<=12:=by
   have h1:=Sp.qH q (p.items.map (·.page.id)) hnd (λn hn=>by
    obtain⟨it,hf⟩:=MZ n hn;obtain⟨hit,oc⟩:=Sp.Pl.bu hf;exact zn.2 ⟨it,hit,oc⟩)
   have h2:=hr.wf.len;have h3:=hr.frames;rw[zM] at h1;omega
  have eY:=(Sp.aX q).1;have IV:(p.aU (Sp.sorted q)).length<=8:=by
   have e:(p.aU (Sp.sorted q)).length=((Sp.sorted q).filter p.jR).length:=by rw[<-Sp.Pl.jv,zM]
   rw[e,(eY.filter _).length_eq];exact h8
  refine(uT (cap:=c') hMW hr.dl hB (λe=>by have:=hM.lt g e;omega) hlen hcur (λn hn=>?_) hnd IV).mono ?_
  ·obtain⟨it,hf⟩:=MZ n hn;obtain⟨hit,oc⟩:=Sp.Pl.bu hf;refine⟨hq n hn,?_,it,hf⟩;rw[<-oc];exact hr.inside (hr.dA it hit).1 (hr.dA it hit).2
  ·rintro e w' ⟨c2,D',cs',p',d',l',rfl,hW,_,jK,ht⟩;obtain⟨e1,hr'⟩:=hr.wrote hW (λn hn=>MZ n (eY.mem_iff.1 hn)) (eY.nodup_iff.2 hnd) IV;rw[hr.GR eY] at e1 hr';have hall:q.all (λn=>(p.find n).isSome)=true:=by
    rw[List.all_eq_true];intro n hn;obtain⟨it,hf⟩:=MZ n hn;rw[hf];rfl
   rw[BQ hnd h8 hall];have gW:aa (cj F D G1) (cj F D' G1) w w':=by
    refine⟨ht.os.trans hb.os,ht.tape.trans hb.tape,ht.output.trans hb.output,zl hb.size ht.size,λb hb1 hn=>?_,λb hb1=>?_⟩
    ·have:=hb.size;rw[ht.block b (by omega) (λe=>e.elim hn (λe=>by omega))];exact hb.block b hb1
    ·rcases ht.foot b (.inl hb1) with(e | e) | e
     ·exact .inl e
     ·exact .inr (by omega)
     ·exact .inr (zl hb.size e)
   obtain⟨k1,k2,k3,_,_⟩:=hW.keep;refine⟨c2,rfl,Kept.gF gW (λb hk=>⟨j4 b hk,λhF=>hK b hF hk⟩),by rw[e1],?_⟩;have Y_:l'={l with forced:=(s.write q).2.forced}:=hr'.lg hW.lg;rw[<-Y_];have yh:=jK.pl;rw[<-k1,<-k3] at yh;exact gT ⟨R,fb,cb,mb,v,s0,r,cs',yh⟩ jK.dk jK.lg jK.FD jK.FG jK.DG hr' hK j4 gW (λb hb=>.inl hb)
 ·obtain rfl:=zy h0;refine(hnil h0 W hb).mono ?_;rintro e w' ⟨rfl,hb2⟩;have e1:s.flush []=(0,s):=by
   rw[BQ (by simp) (by simp) (by simp)];unfold Sp.aF.write;rw[zK (by simp)]
  refine⟨0,rfl,?_⟩;rw[e1];exact jl H (hb.trans (hb2.mono hb.size)) 0
 ·rintro e w' ⟨c2,rfl,⟨MO,hb⟩ | hx⟩
  ·have e1:s.flush q=(c2,s):=by
    unfold Sp.aF.flush;rcases MO with⟨rfl,h1 | h1⟩ | ⟨rfl,h1,h2,h3⟩
    ·rw[zK h1]
    ·split
     ·rfl
     ·rw[zK (by rw[hdf];exact h1)]
    ·rw[zD (λe=>e h1),zD (by rw[hdf];omega),zK (by rw[hhf,h3])]
   rw[e1];exact jl H hb c2
  ·exact hx
section
open Go.Sort
theorem yc (w:World):Calls prog 250 #[.slice none 0 0,.int .i64 0,.int .i64 0] w λe w'=>e=.returned (.tuple #[])/\zB w w':=by
 go_enter func250,ntmps250;go_wp2_with fail;go_loopw [6] (λvi wr=>vi=.int .i64 1/\w=wr) (λ_ _=>0)
 case atStart=>exact⟨rfl,rfl⟩
 case round=>
  obtain⟨rfl,rfl⟩:=hrel;go_wp2_with fail
  go_end0
  exact⟨rfl,Below.refl _ _⟩
theorem O7 (w:World):Calls prog 213 #[.slice none 0 0,.int .i64 0,.int .i64 0,.int .i64 0] w λe w'=>e=.returned (.tuple #[])/\zB w w':=by
 have HI:=zH fun(W:World)=>yc W;go_enter func213,ntmps213;go_wp2_with fail;refine wp_loop_rounds 1 ?_;rw[rounds_succ];go_wp2_with fail;refine(HI.out _).mono ?_;rintro e w1 ⟨rfl,hb⟩;go_wp2_with fail;refine bodyPost_ret (results_none rfl _ _ _) rfl ?_;exact⟨rfl,hb⟩
theorem LC (w:World):Calls prog 162 #[.slice none 0 0] w λe w'=>e=.returned (.tuple #[])/\zB w w':=by
 have HP:=zH fun(W:World)=>O7 W;have HL:=zH fun(x:Int) (W:World) (h0:0<=x) (h1:x<=18446744073709551615)=>Tryz.bits_Len x W h0 h1;go_enter func162,ntmps162;go_wp2_with fail;refine(HL.out _ _ (by omega) (by omega)).mono ?_;rintro e w1 ⟨rfl,hw⟩;subst w1;go_wp2_with fail;refine(HP.out _).mono ?_;rintro e w1 ⟨rfl,hb⟩;go_wp2_with fail
 go_end0
 exact⟨rfl,hb⟩
theorem GQ (gp:Nat) (w:World):Calls prog 146 #[ptr gp,.slice none 0 0] w λe w'=>e=.returned (.int .i64 0)/\zB w w':=by
 have HS:=zH (LC w);go_enter func146,ntmps146;go_wp2_with fail;refine HS.out.mono ?_;rintro e w1 ⟨rfl,hb⟩;go_wp2_with fail;go_loopw [5,6,21] (λv5 v6 i wr=>v5=.slice none 0 0/\v6=.int .u64 0/\i=.int .i64 0/\w1=wr) (λ_ _ _ _=>0)
 case atStart=>exact⟨rfl,rfl,rfl,rfl⟩
 case round=>
  obtain⟨rfl,rfl,rfl,rfl⟩:=hrel;go_wp2_with fail;go_ret;exact⟨rfl,hb⟩
theorem CN {ly:Ly} {K G:af} {w:World} {l:Sp.Lg} {s:Sp.aF} (h:cn ly K w gd gl gp l s) (h12:s.frames<=12) (hA:cO A) (Ae:q.length=0->A=none) (hR:Reads G w 1 A q.length (q.map av)) (hq:∀n∈q,n<4294967296) (hl:q.length<=100000):
 Calls prog 77 #[ptr gp,.slice A q.length c] w (kV ly K w gd gl gp l (s.flush q)):=
 OX h h12 hA Ae hR hq hl (λ_ W _=>GQ gp W)
end
section
open Go.Conc
def Sp.first (n:Nat):Sp.Pg:=⟨1,0,n,0,0,[[102,105,114,115,116]]⟩
theorem Sp.yH (h1:1<=n) (h2:n<=1024):(Sp.first n).wf/\(Sp.first n).may:=by
 refine⟨⟨?_,?_,?_,?_,?_⟩,?_,?_,?_,?_,?_⟩<;>simp[Sp.first,Sp.total]<;>omega
theorem Mo (n:Nat) (w:World):Calls prog 107 #[av n] w λe w'=>
 ∃A c,e=.returned (iR (Sp.first n) A c)/\cO A/\aA (λb=>w.heap.size<=b) w' A (Sp.first n).rows/\zB w w':=by
 go_enter func107,ntmps107;go_wp2_with fail;have hB:=(aj.new w 64 #[.int .u8 1,.int .u8 0,.int .u32 n,.int .u64 0,.int .u32 0,.slice (some ⟨w.heap.size+1,0,none⟩) 1 1]).alloc (.cells #[str [102,105,114,115,116]] 9);have hb:=((zR w).alloc (za _) (.cells #[.int .u8 1,.int .u8 0,.int .u32 n,.int .u64 0,.int .u32 0,.slice (some ⟨w.heap.size+1,0,none⟩) 1 1] 64)).alloc (by simp) (.cells #[str [102,105,114,115,116]] 9);have hs:=aj.new (w.alloc (.cells #[.int .u8 1,.int .u8 0,.int .u32 n,.int .u64 0,.int .u32 0,.slice (some ⟨w.heap.size+1,0,none⟩) 1 1] 64)) 9 #[str [102,105,114,115,116]];have e1:(w.alloc (.cells #[.int .u8 1,.int .u8 0,.int .u32 n,.int .u64 0,.int .u32 0,.slice (some ⟨w.heap.size+1,0,none⟩) 1 1] 64)).heap.size=w.heap.size+1:=by simp
 rw[e1] at hs;refine bodyPost_ret (v:=iR (Sp.first n) (some ⟨w.heap.size+1,0,none⟩) 1) (by rw[results_cell_row rfl _ _ w.heap.size 64 _ (0,0) _ rfl hB underlying64 rfl rfl];rfl) rfl ⟨_,_,rfl,.inr ⟨_,_,rfl⟩,⟨rfl,λ_=>⟨w.heap.size+1,0,rfl,by omega,hs.lt,λj u hu=>?_⟩⟩,hb⟩;rw[zaj];exact(hs.cell j).trans (by rw[zGA];exact hu)
structure F_ (dk:Sp.Dk) (k:Nat):Prop where
 len:dk.sure.length=72
 loose:dk.loose=[]
 bk:dk.bk= -1
 page:∀q,1<=q->q<k->Sp.cM dk.sure (44+q*4)=bW (Sp.first q)
 zero:Sp.cM dk.sure (44+0*4)=Sp.zeros 512
 rest:∀i,41<=i->i<44->dk.sure[i]? =some (Sp.zeros 128)
theorem Hy:Sp.cM (Sp.lJ 72).sure (44+0*4)=Sp.zeros 512:=by
 show((List.drop 44 (List.replicate 72 (Sp.zeros 128))).take 4).flatten=_;rw[List.drop_replicate,List.take_replicate];simp[Sp.zeros]
theorem OA:∀i,41<=i->i<44->(Sp.lJ 72).sure[i]? =some (Sp.zeros 128):=λi h1 h2=>by
 show(List.replicate 72 (Sp.zeros 128))[i]? =_;rw[List.getElem?_replicate,zK (by omega)]
def Nz (w:World) (n:Nat) (e:Ending) (w':World):Prop:=
 ∃(gP gr gd gl gp:Nat) (v:Value) (xs:List Value) (D F:af) (dk:Sp.Dk),e=.returned (ptr gP)/\aj w' gP 45 #[ptr gd,ptr gl,ptr gp,ptr gr]/\
  aj w' gr 60 #[.int .i64 n,.slice none 0 0,v,.int .u64 110,.int .u64 110]/\w'.ownsRow w.heap.size 64 6 v 7 xs/\
  aj w' gl 131 (dR gd 0 8 1 (.slice none 0 0) (.slice none 0 0) 110 110 110 0)/\
  cR D w' gd dk/\F_ dk 7/\gY F w' gp gd gl 8 44 ⟨n,[],List.range n⟩/\(∀b,D b->¬F b)/\(∀b,D b\/F b->w.heap.size<=b/\b≠gP/\b≠gr/\b≠gl)/\zB w w'
def Gm (w:World) (n:Nat) (e:Ending) (w':World):Prop:=
 ∃(gP gr gd gl gp:Nat) (v:Value) (xs:List Value) (D F:af) (dk:Sp.Dk),e=.returned (ptr gP)/\aj w' gP 45 #[ptr gd,ptr gl,ptr gp,ptr gr]/\
  aj w' gr 60 #[.int .i64 n,.slice none 0 0,v,.int .u64 110,.int .u64 110]/\w'.ownsRow w.heap.size 64 6 v 7 xs/\
  aj w' gl 131 (dR gd 0 8 1 (.slice none 0 0) (.slice none 0 0) 110 110 110 0)/\
  cR D w' gd dk/\F_ dk 7/\gY F w' gp gd gl 8 44 ⟨n,[],List.range n⟩/\(∀b,D b->¬F b)/\(∀b,D b\/F b->w.heap.size<=b/\b≠gP/\b≠gr/\b≠gl)/\zB w w'/\w.heap.size<=gl/\gl<gP
theorem Gm.post {w:World} {e:Ending} (h:Gm w n e w'):Nz w n e w':=by
 obtain⟨gP,gr,gd,gl,gp,v,xs,D,F,dk,h0,h1,h2,h3,h4,h5,h6,h7,h8,h9,h10,_⟩:=h;exact⟨gP,gr,gd,gl,gp,v,xs,D,F,dk,h0,h1,h2,h3,h4,h5,h6,h7,h8,h9,h10⟩
def pgK (q:Nat):Sp.Pg:=if q=0 then⟨0,0,1048576,0,0,[]⟩ else Sp.first q
def DM (Gs:af) (W:World) (k:Nat) (xs:List Value):Prop:=∀q,q<k->∃A c,aA Gs W A (pgK q).rows/\∀j,j<6->xs[q*6+j]? =(aG (pgK q) A c)[j]?
theorem DM.keep {Gs:af} {w:World} (h:DM Gs w k xs) (hs:w.heap.size<=w'.heap.size) (hk:∀b,Gs b->w'.heap[b]? =w.heap[b]?):DM Gs w' k xs:=λq hq=>by
 obtain⟨A,c,h1,h2⟩:=h q hq;exact⟨A,c,h1.keep hs hk,h2⟩
theorem DM.snoc {Gs:af} {w:World} (h:DM Gs w k xs) (hl:xs.length=k*6) {G' Gn:af} (hk1:1<=k) (hR:aA Gn w A (Sp.first k).rows) (hG:∀b,Gs b->G' b) (B1:∀b,Gn b->G' b):DM G' w (k+1) (xs++(aG (Sp.first k) A c).toList):=λq hq=>by
 by_cases My:q<k
 ·obtain⟨A',c',h1,h2⟩:=h q My;exact⟨A',c',h1.mono hG,λj hj=>by rw[zai (by omega)];exact h2 j hj⟩
 ·obtain rfl:q=k:=by omega
  have e:pgK q=Sp.first q:=by unfold pgK;rw[zD (by omega)]
  rw[e];exact⟨A,c,hR.mono B1,λj hj=>by rw[zO (by omega),hl,za5];exact zZ⟩
def JC (w:World) (n gd gr:Nat) (k:Nat) (wr:World):Prop:=
 ∃(v:Value) (xs:List Value) (D:af) (dk:Sp.Dk),aj wr gr 60 #[.int .i64 n,.slice none 0 0,v,.int .u64 110,.int .u64 110]/\wr.ownsRow w.heap.size 64 6 v k xs/\
  cR D wr gd dk/\F_ dk k/\(∀b,D b->w.heap.size<=b/\b≠gr/\v.ownBlock≠some b)/\v.ownBlock≠some gr/\w.heap.size<=gr/\zB w wr/\
  ∃Gs:af,DM Gs wr k xs/\∀b,Gs b->w.heap.size<=b/\b<wr.heap.size/\b≠gr/\v.ownBlock≠some b/\¬D b
def Ct (w:World) (n:Nat) (e:Ending) (w':World):Prop:=
 ∃(gP gr gd gl gp:Nat) (v:Value) (xs:List Value) (D F:af) (dk:Sp.Dk),e=.returned (ptr gP)/\aj w' gP 45 #[ptr gd,ptr gl,ptr gp,ptr gr]/\
  aj w' gr 60 #[.int .i64 n,.slice none 0 0,v,.int .u64 110,.int .u64 110]/\w'.ownsRow w.heap.size 64 6 v 7 xs/\
  aj w' gl 131 (dR gd 0 8 1 (.slice none 0 0) (.slice none 0 0) 110 110 110 0)/\
  cR D w' gd dk/\F_ dk 7/\gY F w' gp gd gl 8 44 ⟨n,[],List.range n⟩/\(∀b,D b->¬F b)/\(∀b,D b\/F b->w.heap.size<=b/\b≠gP/\b≠gr/\b≠gl)/\zB w w'/\w.heap.size<=gl/\gl<gP/\
  v.ownBlock≠some gr/\w.heap.size<=gr/\gr<gl/\(∀b,v.ownBlock=some b->w.heap.size<=b/\b<gl/\¬D b/\¬F b)/\∃Gs:af,DM Gs w' 7 xs/\∀b,Gs b->w.heap.size<=b/\b<gl/\b≠gr/\v.ownBlock≠some b/\¬D b/\¬F b
theorem xZ (n:Nat) (h1:1<=n) (I5:n<=64) (w:World):Calls prog 38 #[.int .i64 n] w (Ct w n):=by
 have HDN:=zH fun(W:World)=>Rs 72 W (by omega) (by omega);go_enter func38,ntmps38;go_wp2_with fail;refine(HDN.out w).mono ?_;rintro e w1 ⟨gd,D,rfl,hd,ht⟩;have hD:∀b,D b->w.heap.size<=b:=λb hb=>(ht.foot b hb).resolve_left (λh=>h);have cH:=ht.ei;have HD:=zH hd;have HDF:=zH hD;clear hd hD ht HDN;obtain⟨ip,Km,oK,hp1,sU⟩:=info_parts Mg;go_wp2_with (at_builtin;refine aO _ rfl _ _ 58 rfl w1.heap.size 64 ip Hw 6 48 underlying58 Km oK hp1 sU rfl (by decide) _ 0 [] rfl (World.ownsRow_nil _ _ _ _) ⟨w1.heap.size+1,0,none⟩ 1 1 [.int .u8 0,.int .u8 0,.int .u32 1048576,.int .u64 0,.int .u32 0,.slice none 0 0] rfl rfl (by have:=e8 (aj.new (w1.alloc (.cells #[.int .i64 n,.slice none 0 0,.slice none 0 0,.int .u64 110,.int .u64 110] 60)) 64 #[.int .u8 0,.int .u8 0,.int .u32 1048576,.int .u64 0,.int .u32 0,.slice none 0 0]);simpa only[World.size_alloc] using this) (λx hx=>by simp at hx;rcases hx with rfl | rfl | rfl | rfl | rfl | rfl<;>rfl) (by unfold maxLen;omega) (by omega) (by simp;omega) ?_);intro v' w2 hrow hg hown;have hB:=((aj.new w1 60 #[.int .i64 n,.slice none 0 0,.slice none 0 0,.int .u64 110,.int .u64 110]).alloc (.cells #[.int .u8 0,.int .u8 0,.int .u32 1048576,.int .u64 0,.int .u32 0,.slice none 0 0] 64)).grown hg (λe=>by simp[Value.ownBlock] at e);have hb2:=(((zR w1).alloc (za _) (.cells #[.int .i64 n,.slice none 0 0,.slice none 0 0,.int .u64 110,.int .u64 110] 60)).alloc (by simp) (.cells #[.int .u8 0,.int .u8 0,.int .u32 1048576,.int .u64 0,.int .u32 0,.slice none 0 0] 64)).grown hg (by simp;omega) (λr e=>by simp[Value.ownBlock] at e);have kW:=hB.lt;obtain⟨A0,n0,c0,rfl⟩:∃A m c,v'=.slice A m c:=by
  rcases hrow.2 with⟨h0,_⟩ | ⟨g6,c6,_,h0,_⟩
  ·exact⟨_,_,_,h0⟩
  ·exact⟨_,_,_,h0⟩
 have hown2:(Value.slice A0 n0 c0).ownBlock≠some w1.heap.size:=λe=>by
  rcases hown _ e with h | h
  ·simp[Value.ownBlock] at h
  ·omega
 have Vp:∀b,(Value.slice A0 n0 c0).ownBlock=some b->w1.heap.size<=b:=λb e=>by
  rcases hown _ e with h | h
  ·simp[Value.ownBlock] at h
  ·omega
 have hBs:=hB.a_ 2 (.slice A0 n0 c0);have hsw:w.heap.size<=w1.heap.size:=cH.size;have cG:zB w (w2.setCell ⟨w1.heap.size,2,none⟩ (.slice A0 n0 c0)):=(cH.trans (hb2.mono hsw)).setCell (p:=⟨w1.heap.size,2,none⟩) hsw _;have Gz:=HD.out.dA;have hd2:=HD.out.below (hb2.setCell (p:=⟨w1.heap.size,2,none⟩) (za _) (.slice A0 n0 c0));have hLAY:JC w n gd w1.heap.size 1 (w2.setCell ⟨w1.heap.size,2,none⟩ (.slice A0 n0 c0)):=by
  refine⟨.slice A0 n0 c0,_,D,_,hBs,(Oy hrow hsw).kept (pY _ ⟨w1.heap.size,2,none⟩ _) (.inr (λe=>hown2 e)),hd2,⟨by simp[Sp.lJ],rfl,rfl,λq h1 h2=>by omega,Hy,OA⟩,λb hb=>⟨HDF.out b hb,?_,λe=>?_⟩,hown2,hsw,cG,bM,?_,λb hb=>hb.elim⟩
  ·have:=Gz b hb;omega
  ·have:=Gz b hb;have:=Vp b e;omega
  ·intro q hq;obtain rfl:q=0:=by omega
   refine⟨none,0,Reads.none_,λj hj=>?_⟩
   match j,hj with
   | 0,_ | 1,_ | 2,_ | 3,_ | 4,_ | 5,_=>rfl
 have c2:=hB.cell 2;have f2:=hB.frozen 2;simp only[zGA,zGB,zGC] at c2;have HL:=zH hLAY;clear hLAY hd2 Gz cG hBs Vp hown2 hrow hg hown hB hb2;go_wp2_with fail;obtain⟨w3,hw3⟩:=zE (w2.setCell ⟨w1.heap.size,2,none⟩ (.slice A0 n0 c0));rw[<-hw3] at HL ⊢;clear hw3 c2 f2 kW HD HDF cH;generalize w1.heap.size=gr at*;go_loopw [6] (λi wr=>∃k:Nat,1<=k/\k<=7/\i=.int .u32 k/\JC w n gd gr k wr) (λi _=>7-(intOf i).toNat)
 case atStart=>exact⟨1,by omega,by omega,rfl,HL.out⟩
 case round=>
  obtain⟨k,hk1,rJ,rfl,hL⟩:=hrel;have HLk:=zH hL;clear hL HL;by_cases hlt:k<7
  ·have HF:=zH λW=>Mo k W;have d7:decide ((k:Int)<7)=true:=by rw[zx];omega
   go_wp2_with fail;refine(HF.out wr).mono ?_;rintro e w4 ⟨A,c,rfl,hA,hR,hb4⟩;have hfo:=Sp.yH (n:=k) (by omega) (by omega);have cS:=(zR w4).alloc (za _) (.cells (aG (Sp.first k) A c) 64);have B0:=Reads.below hR cS;have HE:=zH (oG (c:=c) B0 hfo.1 hfo.2);have Cp:=zH hR;have hrk:Hid (∀b,nh A (Sp.first k).rows.length b->wr.heap.size<=b/\b<w4.heap.size):=λb hb=>wB hR hb;have hX:=aj.new w4 64 (aG (Sp.first k) A c);have uu:zB wr _:=hb4.trans (cS.mono hb4.size);have mS:wr.heap.size<=w4.heap.size:=hb4.size;go_wp2_with fail;change Calls prog _ #[iR (Sp.first k) A c] (w4.alloc (.cells (aG (Sp.first k) A c) 64)) _;have hg4:w4.heap.size<(w4.alloc (.cells (aG (Sp.first k) A c) 64)).heap.size:=by simp
   obtain⟨w5,Gu⟩:=zE (w4.alloc (.cells (aG (Sp.first k) A c) 64));rw[<-Gu] at HE hX uu B0 hg4 ⊢;have HR5:=zH B0;clear Gu cS hR hb4 HF Cp;generalize w4.heap.size=g7 at*;refine HE.out.mono ?_;rintro e w6 ⟨rfl,fI⟩;have vh:=hX.below fI hg4;have hb6k:∀b,b<w5.heap.size->w6.heap[b]? =w5.heap[b]? :=fI.block;have hb6z:w5.heap.size<=w6.heap.size:=fI.size;have hb45k:∀b,b<wr.heap.size->w5.heap[b]? =wr.heap[b]? :=uu.block;have IM:g7<w5.heap.size:=hg4;have hb46:zB wr w6:=uu.trans (fI.mono uu.size);have HX:=zH vh;clear hX HE uu vh fI hg4;obtain⟨v,xs,DD,dk,hB,hrow,hd,hlk,Un,hvg,hgr,hbr,Gs,Uk,NL⟩:=HLk.out;have hxl:xs.length=k*6:=hrow.1;have HPR:=zH Uk;have HGS:=zH NL;clear Uk NL;have hlen:=iF hfo.2;have jZ:=hb46.alloc hb46.size (.cells #[.int .u32 k,str (bW (Sp.first k))] 194);have MK:=hd.below jZ;have hHm:=aj.new w6 194 #[.int .u32 k,str (bW (Sp.first k))];have hRd:Reads (λb=>b=w6.heap.size) (w6.alloc (.cells #[.int .u32 k,str (bW (Sp.first k))] 194)) 2 (some ⟨w6.heap.size,0,none⟩) 1 (hcs [(k,bW (Sp.first k))]):=
    ⟨rfl,λ_=>⟨w6.heap.size,0,rfl,rfl,hHm.lt,λj u hu=>by
     rw[zaj];exact(hHm.cell j).trans (by rw[zGA];exact hu)⟩⟩
   have ym:Sp.inside dk.sure.length 8 44 k:=by rw[hlk.len];unfold Sp.inside;omega
   have NN:=zH (wW MK hlk.bk (by rw[hlk.loose];simp) 8 44 (l:=[(k,bW (Sp.first k))]) (c:=1) hRd (by simp) (by simp) (λx hx=>by
    rw[zq.1 hx];exact⟨by show k<_;omega,hlen,ym⟩) (by simp) (by rw[hlk.len];omega) (by rw[hlk.len];omega))
   have hone:=Sp.Od dk hlk.loose hlk.bk 8 44 k _ hlen ym;clear hRd hHm HLk MK;go_wp2_with fail;refine NN.out.mono ?_;rintro e w7 ⟨D7,rfl,MK,iU⟩;have hrl:∀b,v.ownBlock=some b->b<wr.heap.size:=λb hb=>by
    obtain⟨cur,hc⟩:=fk hrow hb;exact(zm.1 hc).1
   have hDl:=hd.dA;have IJ:=hB.lt;have hgX:=HX.out.lt;have fu:=(hB.below jZ IJ).turns iU (λhh=>(Un gr hh).2.1 rfl);have yA:=(HX.out.alloc (.cells #[.int .u32 k,str (bW (Sp.first k))] 194)).turns iU (λhh=>by have:=hDl g7 hh;omega);have TS:=iU.size;have Gr:w6.heap.size<=w7.heap.size:=by have:=iU.size;simp only[World.size_alloc] at this;omega
   have hszb:=jZ.size;have Vm:=aN (w':=w7) hrow (λb hb=>(iU.block b (by have:=hrl b hb;omega) (λhh=>(Un b hh).2.2 hb)).trans (jZ.block b (hrl b hb)));have hD7:∀b,D7 b->w.heap.size<=b/\b≠gr/\v.ownBlock≠some b:=λb hb=>by
    have hz:=hbr.size;rcases iU.foot b hb with h | h
    ·exact Un b h
    ·refine⟨by omega,by omega,λe=>?_⟩;have:=hrl b e;omega
   have oN:zB w w7:=(hbr.trans (jZ.mono hbr.size)).trans (iU.below (zl hbr.size hszb) (λb hb=>(Un b hb).1));have MA:F_ (dk.acts (Sp.bq 8 44 [(k,bW (Sp.first k))])) (k+1):=by
    refine⟨hone.2.2.1.trans hlk.len,hone.1,hone.2.1,λq hq1 hq2=>?_,(hone.2.2.2.2 0 (by omega) (by omega) (by rw[hlk.len];omega)).trans hlk.zero,λi hi1 hi2=>(Sp.tW dk hlk.loose 8 44 [(k,bW (Sp.first k))] (by simp) (.inr hi1) (λx _=>.inl (by omega))).trans (hlk.rest i hi1 hi2)⟩;by_cases e:q=k
    ·rw[e];exact hone.2.2.2.1
    ·rw[hone.2.2.2.2 q e (by omega) (by rw[hlk.len];omega)];exact hlk.page q hq1 (by omega)
   have hKp:Hid (∀b,b<g7->¬DD b->w7.heap[b]? =w5.heap[b]?):=λb hb hn=>(iU.block b (by simp;omega) hn).trans ((Below.heap_alloc w6 _ b (by omega)).trans (hb6k b (by omega)));have hKw:Hid (∀b,b<wr.heap.size->w5.heap[b]? =wr.heap[b]?):=λb hb=>hb45k b hb;have hD7o:Hid (∀b,D7 b->DD b\/g7<=b):=λb hb=>(iU.foot b hb).imp id (λh=>by simp only[World.size_alloc] at h;omega);have QU:Hid (∀b,DD b->b<wr.heap.size):=hDl;have hmeas:k+1<=7:=hlt;have hown7:∀b,v.ownBlock=some b->b<w7.heap.size:=λb hb=>by have:=hrl b hb;omega
   have hd7l:=MK.dA;obtain⟨dk7,hdk7⟩:=zE (dk.acts (Sp.bq 8 44 [(k,bW (Sp.first k))]));rw[<-hdk7] at MK MA;clear hdk7 hone Un hlk ym iU jZ hd hrow hB hDl hbr NN HX;go_wp2_with fail;have c2:=fu.cell 2;simp only[zGA,zGB,zGC] at c2;have hS:=zH (⟨c2,yA⟩:w7.drew.cell? ⟨gr,2,none⟩=some v/\aj w7.drew g7 64 (aG (Sp.first k) A c));clear c2;refine fQ (λW=>zC W gr 2 v/\aj W g7 64 (aG (Sp.first k) A c)) (λj=>decide (8<=j)) ?_
   repeat (refine bK hS.out ?_)
   refine kT 5 64 (v:=iR (Sp.first k) A c) rfl hS.out ?_ ?_
   ·intro w hSw;exact ay _ _ _ rfl rfl (run_loadVar_row w g7 _ _ _ _ _ hSw.2 underlying64 rfl rfl)
   have MR:=(aa.refl bM w7).drew.alloc (.cells (aG (Sp.first k) A c) 64);refine fe 6 65 (v:=.slice (some ⟨w7.drew.heap.size,0,none⟩) 1 1) (w':=w7.drew.alloc (.cells (aG (Sp.first k) A c) 64)) rfl ?_ ?_ ?_
   ·go_simp
   ·exact λ_=>⟨(((fu.turns MR (λe=>e)).cell 2).trans rfl),yA.turns MR (λe=>e)⟩
   have iW:=fu.turns MR (λe=>e);have Kh:=aN (w':=w7.drew.alloc (.cells (aG (Sp.first k) A c) 64)) Vm (λb hb=>MR.block b (hown7 b hb) (λe=>e));have hN8:=aj.new w7.drew 64 (aG (Sp.first k) A c);have iB:=yA.turns MR (λe=>e);have D4:=MR.size;have iO:∀b,b<w7.heap.size->(w7.drew.alloc (.cells (aG (Sp.first k) A c) 64)).heap[b]? =w7.heap[b]? :=λb hb=>MR.block b hb (λe=>e);have hgr7:=fu.lt;have hg77:=yA.lt;have Qn:zB w _:=oN.trans ((MR.ei).mono oN.size);have IV:=MK.below MR.ei;obtain⟨g8,u_⟩:=zE w7.drew.heap.size;obtain⟨w8,Kf⟩:=zE (w7.drew.alloc (.cells (aG (Sp.first k) A c) 64));rw[<-Kf,<-u_] at hN8;rw[<-Kf] at iW Kh iB D4 Qn IV iO;have HK8:=zH iO;clear iO;rw[<-Kf,<-u_];clear Kf u_ MR hS Vm yA fu MK oN;refine jf 7 rfl (by rfl) (by kernel_rfl) ?_;refine bX _ _ _ _ rfl w.heap.size 64 ip Hw 6 48 underlying58 Km oK hp1 sU rfl (by decide) _ _ _ rfl Kh ⟨g8,0,none⟩ 1 1 (aG (Sp.first k) A c).toList rfl rfl (e8 hN8) (λx hx=>by simp at hx;rcases hx with rfl | rfl | rfl | rfl | rfl | rfl<;>rfl) (by unfold maxLen;omega) (by omega) ?_ ?_
   ·exact Qn.size
   intro v2 w9 q1 q2 q3;have fq:=iW.grown q2 (λe=>hvg e.symm);have hX9:=iB.grown q2 (λe=>by have:=hrl g7 e.symm;omega);have Uj:w9.cell? ⟨gr,2,none⟩=some v/\aj w9 g7 64 (aG (Sp.first k) A c):=⟨(fq.cell 2).trans rfl,hX9⟩;have hd8l:=IV.dA;have hd9:=IV.keep (λb hb=>q2.block b (hd8l b hb) (λe=>(hD7 b hb).2.2 e.symm));have MM:=Qn.grown q2 Qn.size (λb e=>(Ez Kh e));obtain⟨x0,x1,x2,rfl⟩:∃g m c,v2=.slice (some ⟨g,0,none⟩) m c:=by
    rcases q1.2 with⟨_,h0⟩ | ⟨g6,c6,_,h0,_⟩
    ·omega
    ·exact⟨g6,_,c6,h0⟩
   have c2:=fq.cell 2;have f2:=fq.frozen 2;simp only[zGA,zGB,zGC] at c2;have hv2:(Value.slice (some ⟨x0,0,none⟩) x1 x2).ownBlock≠some gr:=λe=>by
    rcases q3 gr e with h | h
    ·exact hvg h
    ·omega
   have hLA:JC w n gd gr (k+1) (w9.setCell ⟨gr,2,none⟩ (.slice (some ⟨x0,0,none⟩) x1 x2)):=by
    refine⟨_,_,D7,dk7,fq.a_ 2 _,q1.kept (pY _ ⟨gr,2,none⟩ _) (.inr (λe=>hv2 e)),hd9.keep (λb hb=>Below.heap_setCell w9 _ _ b (hD7 b hb).2.1),MA,λb hb=>⟨(hD7 b hb).1,(hD7 b hb).2.1,λe=>?_⟩,hv2,hgr,MM.setCell (p:=⟨gr,2,none⟩) hgr _,λb=>Gs b\/nh A (Sp.first k).rows.length b,?_,?_⟩
    ·rcases q3 b e with h | h
     ·exact(hD7 b hb).2.2 h
     ·have:=hd7l b hb;omega
    ·have hsf:w5.heap.size<=(w9.setCell ⟨gr,2,none⟩ (.slice (some ⟨x0,0,none⟩) x1 x2)).heap.size:=by
      have:=q2.size;simp only[World.setCell,Array.size_modify];omega
     have hkk:∀b,b<g7->¬DD b->v.ownBlock≠some b->b≠gr->(w9.setCell ⟨gr,2,none⟩ (.slice (some ⟨x0,0,none⟩) x1 x2)).heap[b]? =w5.heap[b]? :=λb h1 h2 h3 h4=>
      (Below.heap_setCell w9 ⟨gr,2,none⟩ _ b h4).trans ((q2.block b (by omega) (λe=>h3 e.symm)).trans ((HK8.out b (by omega)).trans (hKp.out b h1 h2)))
     refine DM.snoc (HPR.out.keep (by omega) (λb hb=>?_)) hxl hk1 (Gn:=nh A (Sp.first k).rows.length) (Reads.keep (w:=w5) ⟨HR5.out.1,λhn=>by
      obtain⟨b,o,e,_,hlt,hc⟩:=HR5.out.2 hn;exact⟨b,o,e,⟨hn,o,e⟩,hlt,hc⟩⟩ hsf (λb hb=>?_)) (λb hb=>.inl hb) (λb hb=>.inr hb)
     ·obtain⟨g1,g2,g3,g4,g5⟩:=HGS.out b hb;exact(hkk b (by omega) g5 g4 g3).trans (hKw.out b g2)
     ·have:=hrk.out b hb;exact hkk b this.2 (λe=>by have:=QU.out b e;omega) (λe=>by have:=hrl b e;omega) (by omega)
    ·intro b hb;have hsf:w8.heap.size<=(w9.setCell ⟨gr,2,none⟩ (.slice (some ⟨x0,0,none⟩) x1 x2)).heap.size:=by
      have:=q2.size;simp only[World.setCell,Array.size_modify];omega
     have hz:=MM.size;rcases hb with hb | hb
     ·obtain⟨g1,g2,g3,g4,g5⟩:=HGS.out b hb;exact⟨g1,by omega,g3,λe=>(q3 b e).elim (λh=>g4 h) (λh=>by omega),λe=>(hD7o.out b e).elim g5 (λh=>by omega)⟩
     ·have hr:=hrk.out b hb;exact⟨by omega,by omega,by omega,λe=>(q3 b e).elim (λh=>by have:=hrl b h;omega) (λh=>by omega),λe=>(hD7o.out b e).elim (λh=>by have:=QU.out b h;omega) (λh=>by omega)⟩
   have HLA:=zH hLA;clear hLA q1 q2 q3 IV hd9 iW iB Kh hX9 hN8 Qn MM;refine⟨λ_=>Uj,?_⟩;refine qZ 66 rfl ?_;simp only[zSA,zSB,zSC];refine fe 8 67 (v:=ptr gr) (w':=w9) rfl (by go_simp) (λh=>nomatch h) ?_;refine fe 9 68 (v:=.pointer (some ⟨gr,2,none⟩)) (w':=w9) rfl (by go_simp) (λh=>nomatch h) ?_;refine jx 10 (w':=w9.setCell ⟨gr,2,none⟩ (.slice (some ⟨x0,0,none⟩) x1 x2)) rfl (by go_simp) (λh=>nomatch h) ?_;refine aC (by kernel_rfl) ?_ _;rename_i K9 aT;refine aT _ _ ?_;go_wp2_with fail;go_roundw
   case rel=>exact⟨k+1,by omega,hmeas,by go_num,HLA.out⟩
   case measure=>simp[intOf];omega
  ·obtain rfl:k=7:=by omega
   obtain⟨v,xs,DD,dk,hB,hrow,hd,hlk,Un,hvg,hgr,hbr,Gs,Uk,NL⟩:=HLk.out;have HPR:=zH Uk;have HGS:=zH NL;have HOW:=zH (show ∀b,v.ownBlock=some b->w.heap.size<=b from λb hb=>(hrow.lt b hb).1);have HVG:=zH hvg;clear Uk NL;have HLN:=zH (Tw hd 0 8 1 (by omega) (by omega) (by rw[hlk.len];omega) (by omega));have Bj:=zH fun(gl:Nat) (W:World)=>OS gd gl 8 44 n h1 I5 W;clear HLk;go_wp2_with fail;refine HLN.out.mono ?_;rintro e w4 ⟨rfl,hw4⟩;have hLb:=aj.new wr 131 (dR gd 0 8 1 (.slice none 0 0) (.slice none 0 0) 110 110 110 0);have hb4:=(zR wr).alloc (za _) (.cells (dR gd 0 8 1 (.slice none 0 0) (.slice none 0 0) 110 110 110 0) 131);have IJ:=hB.lt;have hDl:=hd.dA;have hrl:∀b,v.ownBlock=some b->b<wr.heap.size:=λb hb=>by
    obtain⟨cur,hc⟩:=fk hrow hb;exact(zm.1 hc).1
   have hwr:w.heap.size<=wr.heap.size:=hbr.size;go_wp2_with fail;refine(Bj.out wr.heap.size _).mono ?_;rintro e w5 ⟨gp,F,rfl,hpl,cS,hF⟩;have Gx:=hb4.size;have hLl:=hLb.lt;have uu:zB wr w5:=hb4.trans (cS.mono Gx);have hL5:=hLb.below cS hLl;have eC:=hB.below uu IJ;have hd5:=hd.below uu;have Ki:=aN (w':=w5) hrow (λb hb=>uu.block b (hrl b hb));have gK:zB w w5:=hbr.trans (uu.mono hwr);have XP:=uu.size;have QO:∀b,F b->wr.heap.size+1<=b:=λb hb=>by have:=hF b hb;simpa using this
   have hpll:=hpl.lt;have tR:=zH hpl;have hs5:wr.heap.size<w5.heap.size:=hL5.lt;have HPR5:=zH (HPR.out.keep XP (λb hb=>uu.block b (HGS.out b hb).2.1));clear HPR;generalize wr.heap.size=gl at*;clear hpl uu cS hb4 hLb hB hd hrow hbr Bj HLN hF;go_wp2_with fail;go_ret;refine⟨w5.heap.size,gr,gd,gl,gp,v,xs,DD,F,dk,rfl,aj.new w5 _ _,eC.alloc _,aN Ki (λb hb=>Below.heap_alloc w5 _ b (by have:=hrl b hb;omega)),hL5.alloc _,hd5.below ((Below.refl _ w5).alloc (za _) _),hlk,tR.out.below ((Below.refl _ w5).alloc (za _) _),λb hb hf=>?_,λb hb=>?_,gK.alloc gK.size _,hwr,hs5,HVG.out,hgr,IJ,λb hb=>⟨HOW.out b hb,hrl b hb,λe=>(Un b e).2.2 hb,λe=>by have:=QO b e;have:=hrl b hb;omega⟩,Gs,HPR5.out.keep (Nat.le_of_lt (by simp)) (λb hb=>Below.heap_alloc w5 _ b (by have:=(HGS.out b hb).2.1;omega)),λb hb=>?_⟩
   ·have:=hDl b hb;have:=QO b hf;omega
   ·rcases hb with hb | hb
    ·have:=hDl b hb;exact⟨(Un b hb).1,by omega,(Un b hb).2.1,by omega⟩
    ·have:=hpll b hb;have:=QO b hb;exact⟨by omega,by omega,by omega,by omega⟩
   ·obtain⟨g1,g2,g3,g4,g5⟩:=HGS.out b hb;exact⟨g1,g2,g3,g4,g5,λe=>by have:=QO b e;omega⟩

end
open Go.RowKit
namespace Sp
end Sp

section
open Go.Conc
theorem cn.Og {ly:Ly} {K X X':af} {w w':World} {gd gl gp:Nat} {l:Sp.Lg} {s:Sp.aF} (h:cn ly K w gd gl gp l s) (ht:aa X X' w w') (hX:∀b,X b->K b):cn ly (λb=>K b\/(w.heap.size<=b/\b<w'.heap.size)) w' gd gl gp l s:=by
 obtain⟨p,D,F,G,dk,hpl,hd,hg,h1,h2,h3,hr,h4,h5⟩:=h;have hlt:∀b,cj F D G b->b<w.heap.size:=λb hb=>by
  rcases hb with e | e | e
  ·exact hpl.lt b e
  ·exact hd.dA b e
  ·exact hg.dA b e
 have hk:∀b,cj F D G b->w'.heap[b]? =w.heap[b]? :=λb hA=>ht.block b (hlt b hA) (λe=>h4 b hA (hX b e));exact⟨p,D,F,G,dk,hpl.keep ht.size (λb hb=>hk b (.inl hb)),hd.keep (λb hb=>hk b (.inr (.inl hb))),hg.keep (λb hb=>hk b (.inr (.inr hb))),h1,h2,h3,hr,λb hb e=>by
  rcases e with e | e
  ·exact h4 b hb e
  ·have:=hlt b hb;omega,λb hb=>by
  rcases hb with e | e
  ·exact zf (h5 b e) ht.size
  ·exact e.2⟩
def eA (B gP gd gl gp gr:Nat) (O G:af) (l:Sp.Lg) (sp sr:Sp.aF) (w:World):Prop:=
 ∃(K:af) (vL vD:Value),cn Ic K w gd gl gp l sp/\bG B G w gr vL vD sr/\(∀b,O b\/G b\/fR gr vL vD b\/b=gP->K b)/\(∀b,O b->¬fR gr vL vD b/\¬G b/\b≠gP)/\¬fR gr vL vD gP/\aj w gP 45 #[ptr gd,ptr gl,ptr gp,ptr gr]
def mC (gP:Nat) (O G:af):af:=λb=>O b\/G b\/b=gP
section
variable {B gP gd gl gp gr:Nat} {O G:af} {l l':Sp.Lg} {sp sp' sr sr':Sp.aF} {w w':World}
theorem eA.lt (h:eA B gP gd gl gp gr O G l sp sr w) (hb:mC gP O G b):b<w.heap.size:=by
 obtain⟨K,vL,vD,hpk,hrf,hK,hO,nV,hP⟩:=h;refine hpk.lt b (hK b ?_);rcases hb with e | e | e
 ·exact .inl e
 ·exact .inr (.inl e)
 ·exact .inr (.inr (.inr e))
theorem eA.dH (h:eA B gP gd gl gp gr O G l sp sr w):aj w gP 45 #[ptr gd,ptr gl,ptr gp,ptr gr]:=by
 obtain⟨K,vL,vD,hpk,hrf,hK,hO,nV,hP⟩:=h;exact hP
theorem eA.rep (h:eA B gP gd gl gp gr O G l sp sr w):∃p dk,mi Ic p dk l sp:=by
 obtain⟨K,vL,vD,hpk,_⟩:=h;exact hpk.rep
theorem eA.EP {K K':af} {vL vD:Value} (hrf:bG B G w gr vL vD sr) (hK:∀b,O b\/G b\/fR gr vL vD b\/b=gP->K b) (hO:∀b,O b->¬fR gr vL vD b/\¬G b/\b≠gP) (nV:¬fR gr vL vD gP) (hP:aj w gP 45 #[ptr gd,ptr gl,ptr gp,ptr gr])
 (hk:Kept K w w') (hp:cn Ic K' w' gd gl gp l' sp') (hKK:∀b,K b->K' b):eA B gP gd gl gp gr O G l' sp' sr w'/\Kept (mC gP O G) w w':=by
 refine⟨⟨K',vL,vD,hp,hrf.keep hk.size (λb hb=>hk.block b (hK b ?_)),λb hb=>hKK b (hK b hb),hO,nV,hP.keep (hk.block gP (hK gP (.inr (.inr (.inr rfl)))))⟩,hk.os,hk.tape,hk.output,hk.size,λb hb=>hk.block b (hK b ?_)⟩
 ·rcases hb with e | e
  ·exact .inr (.inr (.inl e))
  ·exact .inr (.inl e)
 ·rcases hb with e | e | e
  ·exact .inl e
  ·exact .inr (.inl e)
  ·exact .inr (.inr (.inr e))
theorem eA.ref {K:af} {vL SS vD:Value} (hrf:bG B G w gr vL vD sr) (hpk:cn Ic K w gd gl gp l sp) (hK:∀b,O b\/G b\/fR gr vL vD b\/b=gP->K b) (hO:∀b,O b->¬fR gr vL vD b/\¬G b/\b≠gP) (nV:¬fR gr vL vD gP) (hP:aj w gP 45 #[ptr gd,ptr gl,ptr gp,ptr gr])
 (hr:bG B G w' gr SS vD sr') (ht:aa (fR gr vL vD) (fR gr SS vD) w w'):eA B gP gd gl gp gr O G l sp sr' w'/\Kept (mC gP O G) w w':=by
 have hlt:=hpk.lt;have hnew:∀b,b<w.heap.size->¬fR gr vL vD b->¬fR gr SS vD b:=λb hb hn e=>by
  rcases ht.foot b e with e | e
  ·exact hn e
  ·omega
 have hOl:∀b,O b->b<w.heap.size:=λb hb=>hlt b (hK b (.inl hb));refine⟨⟨_,SS,vD,hpk.Og ht (λb hb=>hK b (.inr (.inr (.inl hb)))),hr,λb hb=>?_,λb hb=>⟨hnew b (hOl b hb) (hO b hb).1,(hO b hb).2⟩,hnew gP hP.lt nV,hP.turns ht nV⟩,ht.os,ht.tape,ht.output,ht.size,λb hb=>?_⟩
 ·rcases hb with e | e | e | e
  ·exact .inl (hK b (.inl e))
  ·exact .inl (hK b (.inr (.inl e)))
  ·rcases ht.foot b e with e2 | e2
   ·exact .inl (hK b (.inr (.inr (.inl e2))))
   ·exact .inr ⟨e2,hr.lt (.inl e)⟩
  ·exact .inl (hK b (.inr (.inr (.inr e))))
 ·rcases hb with e | e | e
  ·exact ht.block b (hOl b e) (hO b e).1
  ·refine ht.block b (hlt b (hK b (.inr (.inl e)))) (λe2=>?_);obtain⟨_,q2,q3,q4⟩:=hrf.g b e;rcases e2 with e2 | e2 | e2
   ·exact q2 e2
   ·exact q3 e2
   ·exact q4 e2
  ·rw[e];exact ht.block gP hP.lt nV
def jO (B gP gd gl gp gr:Nat) (O G:af) (l:Sp.Lg) (r:Nat) (sp sr:Sp.aF) (w:World) (e:Ending) (w':World):Prop:=
 e=.returned (.int .i64 r)/\eA B gP gd gl gp gr O G l sp sr w'/\Kept (mC gP O G) w w'
theorem eA.ER {f:FuncId} {r:Nat×Sp.aF} (h:eA B gP gd gl gp gr O G l sp sr w) (hc:∀K,cn Ic K w gd gl gp l sp->Calls prog f args w (kV Ic K w gd gl gp l r)):
 Calls prog f args w (jO B gP gd gl gp gr O G {l with forced:=r.2.forced} r.1 r.2 sr w):=by
 obtain⟨K,vL,vD,hpk,hrf,hK,hO,nV,hP⟩:=h;refine(hc K hpk).mono ?_;rintro e w' ⟨hk,rfl,hp⟩;obtain⟨q1,q2⟩:=eA.EP hrf hK hO nV hP hk hp (λb hb=>hb);exact⟨rfl,q1,q2⟩
theorem eA.EJ {f:FuncId} {r:Nat×Sp.aF} (h:eA B gP gd gl gp gr O G l sp sr w) (hc:∀vL vD,bG B G w gr vL vD sr->(∀b,O b->¬fR gr vL vD b)->Calls prog f args w λe w'=>e=.returned (.int .i64 r.1)/\dg B G w gr vL vD r.2 w'):
 Calls prog f args w (jO B gP gd gl gp gr O G l r.1 sp r.2 w):=by
 obtain⟨K,vL,vD,hpk,hrf,hK,hO,nV,hP⟩:=h;refine(hc vL vD hrf (λb hb=>(hO b hb).1)).mono ?_;rintro e w' ⟨rfl,SS,hr,ht⟩;obtain⟨q1,q2⟩:=eA.ref hrf hpk hK hO nV hP hr ht;exact⟨rfl,q1,q2⟩
theorem LX (h:eA B gP gd gl gp gr O G l sp sr w) (hid:id<4294967296):Calls prog 75 #[ptr gp,av id] w (jO B gP gd gl gp gr O G {l with forced:=(sp.dW id).2.forced} (sp.dW id).1 (sp.dW id).2 sr w):=
 h.ER λ_ hp=>OT hp hid
theorem LW (h:eA B gP gd gl gp gr O G l sp sr w) (ho:sr.Ok) (id:Nat):Calls prog 76 #[ptr gr,av id] w (jO B gP gd gl gp gr O G l (sr.dW id).1 sp (sr.dW id).2 w):=
 h.EJ λ_ _ hr _=>LO hr ho.pins
theorem L5 (h:eA B gP gd gl gp gr O G l sp sr w) (hid:id<4294967296):Calls prog 79 #[ptr gp,av id] w (jO B gP gd gl gp gr O G {l with forced:=(sp.dB id).2.forced} (sp.dB id).1 (sp.dB id).2 sr w):=
 h.ER λ_ hp=>OY hp hid
theorem L4 (h:eA B gP gd gl gp gr O G l sp sr w) (ho:sr.Ok) (id:Nat):Calls prog 80 #[ptr gr,av id] w (jO B gP gd gl gp gr O G l (sr.dB id).1 sp (sr.dB id).2 w):=
 h.EJ λ_ _ hr _=>LS hr ho id
theorem Tf (h:eA B gP gd gl gp gr O G l sp sr w) {x:Sp.Pg} (hwf:x.wf) {G0:af} (hA:cO A) (hR:aA G0 w A x.rows) (hn:x.rows.length<=1000000000) (ht:Sp.total x.rows<=1000000000000000000):Calls prog 72 #[ptr gp,iR x A c] w (jO B gP gd gl gp gr O G {l with forced:=(sp.put x (bE x)).2.forced} (sp.put x (bE x)).1 (sp.put x (bE x)).2 sr w):=
 h.ER λ_ hp=>W6 hp hwf hA hR hn ht
theorem Te (h:eA B gP gd gl gp gr O G l sp sr w) {x:Sp.Pg} (hR:aA G w A x.rows) (hn:x.rows.length<=1000000000) (ht:Sp.total x.rows<=1000000000000000000):Calls prog 74 #[ptr gr,iR x A c] w (jO B gP gd gl gp gr O G l (sr.put x (bE x)).1 sp (sr.put x (bE x)).2 w):=
 h.EJ λ_ _ hr _=>S7 hr trivial hR hn ht
theorem LZ (h:eA B gP gd gl gp gr O G l sp sr w) {x:Sp.Pg} (hwf:x.wf) {G0:af} (hA:cO A) (hR:aA G0 w A x.rows) (hn:x.rows.length<=1000000000) (ht:Sp.total x.rows<=1000000000000000000):Calls prog 81 #[ptr gp,iR x A c] w (jO B gP gd gl gp gr O G {l with forced:=(sp.fresh x (bE x)).2.forced} (sp.fresh x (bE x)).1 (sp.fresh x (bE x)).2 sr w):=
 h.ER λ_ hp=>OW hp hwf hA hR hn ht
theorem LY (h:eA B gP gd gl gp gr O G l sp sr w) (ho:sr.Ok) {x:Sp.Pg} (hwf:x.wf) (hR:aA G w A x.rows) (hn:x.rows.length<=1000000000) (ht:Sp.total x.rows<=1000000000000000000):Calls prog 82 #[ptr gr,iR x A c] w (jO B gP gd gl gp gr O G l (sr.fresh x (bE x)).1 sp (sr.fresh x (bE x)).2 w):=
 h.EJ λ_ _ hr _=>LQ hr ho hwf trivial hR hn ht
theorem L3 (h:eA B gP gd gl gp gr O G l sp sr w) (h12:sp.frames<=12) {G0:af} (hA:cO A) (Ae:q.length=0->A=none) (hR:Reads G0 w 1 A q.length (q.map av)) (hq:∀n∈q,n<4294967296) (hl:q.length<=100000):Calls prog 77 #[ptr gp,.slice A q.length c] w (jO B gP gd gl gp gr O G {l with forced:=(sp.flush q).2.forced} (sp.flush q).1 (sp.flush q).2 sr w):=
 h.ER λ_ hp=>CN hp h12 hA Ae hR hq hl
theorem L1 (h:eA B gP gd gl gp gr O G l sp sr w) (ho:sr.Ok) (hR:Reads G w 1 A q.length (q.map av)) (hl:q.length<=100000):Calls prog 78 #[ptr gr,.slice A q.length c] w (jO B gP gd gl gp gr O G l (sr.flush q).1 sp (sr.flush q).2 w):=
 h.EJ λvL vD hr _=>LR hr ho hR (λb hb=>⟨(hr.g b hb).1,λe=>by
  obtain⟨_,q2,q3,q4⟩:=hr.g b hb;rcases e with e | e | e
  ·exact q2 e
  ·exact q3 e
  ·exact q4 e⟩) hl
theorem eA.below (h:eA B gP gd gl gp gr O G l sp sr w) (hb:zB w w'):eA B gP gd gl gp gr (λb=>O b\/(w.heap.size<=b/\b<w'.heap.size)) G l sp sr w':=by
 obtain⟨K,vL,vD,hpk,hrf,hK,hO,nV,hP⟩:=h;refine⟨λb=>K b\/(w.heap.size<=b/\b<w'.heap.size),vL,vD,hpk.more hb (λb hb=>hb),hrf.below hb,λb hb=>?_,λb hb=>?_,nV,hP.below hb hP.lt⟩
 ·rcases hb with(e | e) | e | e | e
  ·exact .inl (hK b (.inl e))
  ·exact .inr e
  ·exact .inl (hK b (.inr (.inl e)))
  ·exact .inl (hK b (.inr (.inr (.inl e))))
  ·exact .inl (hK b (.inr (.inr (.inr e))))
 ·rcases hb with e | e
  ·exact hO b e
  ·exact⟨λe2=>by have:=hrf.lt (.inl e2);omega,λe2=>by have:=hrf.lt (.inr e2);omega,λe2=>by have:=hP.lt;omega⟩
theorem eA.less (h:eA B gP gd gl gp gr O G l sp sr w) {O':af} (SG:∀b,O' b->O b):eA B gP gd gl gp gr O' G l sp sr w:=by
 obtain⟨K,vL,vD,hpk,hrf,hK,hO,nV,hP⟩:=h;exact⟨K,vL,vD,hpk,hrf,λb hb=>hK b (hb.elim (λe=>.inl (SG b e)) .inr),λb hb=>hO b (SG b hb),nV,hP⟩
theorem eA.own {X X':af} (h:eA B gP gd gl gp gr O G l sp sr w) (ht:aa X X' w w') (hX:∀b,X b->O b):eA B gP gd gl gp gr O G l sp sr w':=by
 obtain⟨K,vL,vD,hpk,hrf,hK,hO,nV,hP⟩:=h;refine⟨K,vL,vD,hpk.turns ht (λb hb=>.inl (hK b (.inl (hX b hb)))),hrf.keep ht.size (λb hb=>ht.block b (hrf.lt hb) (λe=>?_)),hK,hO,nV,hP.turns ht (λe=>(hO gP (hX gP e)).2.2 rfl)⟩;have:=hO b (hX b e);rcases hb with hb | hb
 ·exact this.1 hb
 ·exact this.2.1 hb
theorem eA.rows (h:eA B gP gd gl gp gr O G l sp sr w) {O' G':af} (SG:∀b,O' b->O b/\¬G' b) (hG:∀b,G b->G' b) (B1:∀b,G' b->G b\/O b):eA B gP gd gl gp gr O' G' l sp sr w:=by
 obtain⟨K,vL,vD,hpk,hrf,hK,hO,nV,hP⟩:=h;have hOl:∀b,O b->b<w.heap.size:=λb hb=>hpk.lt b (hK b (.inl hb));obtain⟨xs,hrow,oP⟩:=hrf.L;obtain⟨ys,hD,hPg⟩:=hrf.D;refine⟨K,vL,vD,hpk,?_,λb hb=>?_,λb hb=>⟨(hO b (SG b hb).1).1,(SG b hb).2,(hO b (SG b hb).1).2.2⟩,nV,hP⟩
 ·exact{
   blk:=hrf.blk
   L:=⟨xs,hrow,oP.1,λi x hx=>by
    obtain⟨A,c,h1,h2,h3⟩:=oP.2 i x hx;exact⟨A,c,h1,h2.mono hG,h3⟩⟩
   D:=⟨ys,hD,hPg.1,λq hq=>by
    obtain⟨A,c,h1,h2,h3⟩:=hPg.2 q hq;exact⟨A,c,h1,h2.mono hG,h3⟩⟩
   few:=hrf.few,ids:=hrf.ids,nd:=hrf.nd,Lr:=hrf.Lr,Dr:=hrf.Dr,LD:=hrf.LD,lo:=hrf.lo
   g:=λb hb=>by
    rcases B1 b hb with e | e
    ·exact hrf.g b e
    ·have:=hO b e;exact⟨hOl b e,λe2=>this.1 (.inl e2),λe2=>this.1 (.inr (.inl e2)),λe2=>this.1 (.inr (.inr e2))⟩}
 ·rcases hb with e | e | e | e
  ·exact hK b (.inl (SG b e).1)
  ·rcases B1 b e with e | e
   ·exact hK b (.inr (.inl e))
   ·exact hK b (.inl e)
  ·exact hK b (.inr (.inr (.inl e)))
  ·exact hK b (.inr (.inr (.inr e)))
end
end
open Go.RowKit Go.Conc
namespace Sp
def Bn:Pg:=⟨0,0,0,0,0,[]⟩
def aF.le (s:aF) (m:Nat):Prop:=∀x∈s.L,x.pins<=m
theorem U6 {L:List RI} {m':Nat} (h:∀x∈L,x.pins<=m) (hm:m<=m') {f:RI->RI} (hf:∀x,(f x).pins<=x.pins):∀x∈Gq L id f,x.pins<=m':=λx hx=>by
 obtain⟨y,hy,rfl⟩:=zn.1 hx;have:=h y hy
 split
 ·have:=hf y;omega
 ·omega
theorem wO {s:aF} (h:s.le m) (q:List Nat):(s.write q).2.le m:=λx hx=>by
 obtain⟨y,hy,_,e⟩:=pJ hx;rw[e];exact h y hy
theorem KG {s:aF} (h:s.le m) (id:Nat):(s.drop id).2.le m:=by
 unfold aF.drop;dsimp only
 split
 ·exact wO h [id]
 ·exact λx hx=>wO h [id] x (zam.1 hx).1
theorem room_le {s:aF} (h:s.le m):s.room.2.le m:=by
 unfold aF.room
 split
 ·exact h
 ·split
  ·exact KG h _
  ·exact h
theorem JZ {L:List RI} (h:∀x∈L,x.pins<=m):∀x∈nk L id,x.pins<=m+1:=λx hx=>by
 rcases zz.1 hx with hx | hx
 ·have:=h x (zam.1 hx).1;omega
 ·obtain⟨y,hy,rfl⟩:=zn.1 hx;have:=h y (zam.1 hy).1;show y.pins+1<=_;omega
theorem Xa {s:aF} (h:s.le m) (id:Nat):(s.iQ id).2.2.le (m+1):=by
 have hw:∀t:aF,t.le m->t.le (m+1):=λt ht x hx=>Nat.le_succ_of_le (ht x hx);unfold aF.iQ
 split
 ·exact JZ h
 ·split
  ·exact hw s h
  ·split
   ·exact hw s h
   ·dsimp only
    split
    ·exact hw _ (room_le h)
    ·refine JZ (λx hx=>?_);rcases zz.1 hx with hx | hx
     ·exact room_le h x hx
     ·rw[zq.1 hx];exact za0 _
theorem WY {s:aF} (h:s.le m) (x:Pg) (b:Bool):(s.put x b).2.le m:=by
 unfold aF.put
 split
 ·exact h
 ·split
  ·exact h
  ·split
   ·exact h
   ·exact U6 h (za _) (λy=>by split<;>exact za _)
theorem N8 {s:aF} (h:s.le m) (id:Nat):(s.dW id).2.le m:=by
 unfold aF.dW
 split
 ·exact h
 ·split
  ·exact h
  ·exact U6 h (za _) (λy=>Nat.sub_le _ _)
theorem Rf {s:aF} (h:s.le m) (q:List Nat):(s.flush q).2.le m:=by
 unfold aF.flush
 split
 ·exact h
 ·split
  ·exact h
  ·split
   ·exact h
   ·exact wO h q
theorem Rj {s:aF} (h:s.le m) (id:Nat):(s.dB id).2.le m:=by
 unfold aF.dB
 split
 ·exact h
 ·split
  ·exact h
  ·exact KG h id
theorem Rc {s:aF} (h:s.le m) (x:Pg) (b:Bool):(s.fresh x b).2.le (m+1):=by
 have hw:∀t:aF,t.le m->t.le (m+1):=λt ht x hx=>Nat.le_succ_of_le (ht x hx);unfold aF.fresh
 split
 ·exact hw s h
 ·split
  ·exact hw s h
  ·split
   ·exact hw s h
   ·dsimp only
    split
    ·exact hw _ (room_le h)
    ·intro y hy;rcases zz.1 hy with hy | hy
     ·exact hw _ (room_le h) y hy
     ·rw[zq.1 hy];show 1<=m+1;omega
theorem Cu (s:aF) (q:List Nat):(s.write q).2.frames=s.frames:=(pI s q).2.1
theorem FQ (s:aF) (id:Nat):(s.drop id).2.frames=s.frames:=(FP s id).2.1
theorem Hu (s:aF) (id:Nat):(s.iQ id).2.2.frames=s.frames:=by
 unfold aF.iQ
 split
 ·rfl
 ·split
  ·rfl
  ·split
   ·rfl
   ·dsimp only
    split
    ·exact(iE s).2.1
    ·exact(iE s).2.1
theorem Ho (s:aF) (x:Pg) (b:Bool):(s.put x b).2.frames=s.frames:=by
 unfold aF.put
 split
 ·rfl
 ·split
  ·rfl
  ·split<;>rfl
theorem Cw (s:aF) (id:Nat):(s.dW id).2.frames=s.frames:=by
 unfold aF.dW
 split
 ·rfl
 ·split<;>rfl
theorem Dq (s:aF) (q:List Nat):(s.flush q).2.frames=s.frames:=by
 unfold aF.flush
 split
 ·rfl
 ·split
  ·rfl
  ·split
   ·rfl
   ·exact Cu s q
theorem Dt (s:aF) (id:Nat):(s.dB id).2.frames=s.frames:=by
 unfold aF.dB
 split
 ·rfl
 ·split
  ·rfl
  ·exact FQ s id
theorem Di (s:aF) (x:Pg) (b:Bool):(s.fresh x b).2.frames=s.frames:=by
 unfold aF.fresh
 split
 ·rfl
 ·split
  ·rfl
  ·split
   ·rfl
   ·dsimp only
    split
    ·exact(iE s).2.1
    ·exact(iE s).2.1
theorem aF.le.up {s:aF} {m':Nat} (h:s.le m) (hm:m<=m'):s.le m':=λx hx=>zl (h x hx) hm
end Sp
theorem WT {p:Sp.Pl} {dk:Sp.Dk} {l:Sp.Lg} {s:Sp.aF} (h:mi Ic p dk l s) (hp:s.le m) (hm:m<1000000000):s.Ok:=by
 have hlen:=h.wf.len;refine⟨λx hx=>?_,λx hx=>?_,λx hx=>?_,?_,?_,?_,?_,λq h1 h2=>?_⟩
 ·rw[h.L] at hx;obtain⟨it,hit,rfl⟩:=zn.1 hx;rw[h.top];exact h.dA it hit
 ·rw[h.L] at hx;obtain⟨it,hit,rfl⟩:=zn.1 hx;exact(h.wf.pg it hit).1.2.2.2.1
 ·have:=hp x hx;omega
 ·rw[h.top];show 6<_;omega
 ·rw[h.L,zat];exact h.wf.ids
 ·rw[h.L,zM,h.frames];omega
 ·rw[h.frames];exact h.wf.rV
 ·rw[h.top] at h2;have:=h.ok q h1 h2;exact⟨this.2.2,this.1.2.2.2.1⟩
section
variable {B gP gd gl gp gr:Nat} {O G:af} {l l':Sp.Lg} {sp sp' sr sr':Sp.aF} {w w':World}
theorem eA.ok (h:eA B gP gd gl gp gr O G l sp sr w) (hp:sp.le m) (hm:m<1000000000):sp.Ok:=by
 obtain⟨p,dk,hr⟩:=h.rep;exact WT hr hp hm
theorem eA.Xl (h:eA B gP gd gl gp gr O G l sp sr w):sp.next=l.next/\sp.top=6:=by
 obtain⟨p,dk,hr⟩:=h.rep;exact⟨hr.next,hr.top⟩
theorem eA.drew (h:eA B gP gd gl gp gr O G l sp sr w):eA B gP gd gl gp gr O G l sp sr w.drew:=(h.below (zR w).drew).less (λ_ hb=>.inl hb)
theorem eA.OG (h:eA B gP gd gl gp gr O G l sp sr w) (hb:O b):¬G b:=by
 obtain⟨K,vL,vD,hpk,hrf,hK,hO,nV,hP⟩:=h;exact(hO b hb).2.1
inductive Sp.Nx (d n:Nat) (l:Sp.Lg) (s:Sp.aF):Sp.Lg->Sp.aF->Prop
 | iQ (id:Nat):Nx d n l s {l with forced:=(s.iQ id).2.2.forced} (s.iQ id).2.2
 | put (x:Sp.Pg) (h:x.aL=n):Nx d n l s {l with forced:=(s.put x (bE x)).2.forced} (s.put x (bE x)).2
 | dW (id:Nat):Nx d n l s {l with forced:=(s.dW id).2.forced} (s.dW id).2
 | flush (q:List Nat):Nx d n l s {l with forced:=(s.flush q).2.forced} (s.flush q).2
 | dB (id:Nat):Nx d n l s {l with forced:=(s.dB id).2.forced} (s.dB id).2
 | fresh (x:Sp.Pg) (h:x.aL=n):Nx d n l s {l with forced:=(s.fresh x (bE x)).2.forced} (s.fresh x (bE x)).2
 | append (l2:Sp.Lg) (h:d%7=6):Nx d n l s l2 {s with next:=l2.next}
def PyEnd (B gP gd gl gp gr:Nat) (O G:af) (d n m:Nat) (l:Sp.Lg) (s:Sp.aF) (w w':World):Prop:=
 ∃(G':af) (l':Sp.Lg) (s':Sp.aF),(∀b,G b->G' b)/\eA B gP gd gl gp gr O G' l' s' s' w'/\s'.le (m+1)/\s'.frames=s.frames/\l'.n=l.n/\l'.reserved=l.reserved/\l'.next<=l.next+4110/\Kept (mC gP O G) w w'/\Sp.Nx d n l s l' s'
theorem JX (h:eA B gP gd gl gp gr O G l sp sr w) (hid:id<4294967296) (hs:∀x∈sp.L,x.pins<1000000):
 Calls prog 68 #[ptr gp,av id] w λe w'=>∃(x:Sp.Pg) (A:Option Addr) (c:Nat) (O':af),e=.returned (.tuple #[iR x A c,.int .i64 (sp.iQ id).1])/\x=((sp.iQ id).2.1).getD Sp.Bn/\x.rows.length<=484/\(∀b,O b->O' b)/\aA (λb=>O' b/\w.heap.size<=b) w' A x.rows/\eA B gP gd gl gp gr O' G {l with forced:=(sp.iQ id).2.2.forced} (sp.iQ id).2.2 sr w'/\Kept (mC gP O G) w w':=by
 obtain⟨K,vL,vD,hpk,hrf,hK,hO,nV,hP⟩:=h;have hlt:=hpk.lt;refine(W_ hpk hid hs).mono ?_;rintro e w' ⟨hk,hh⟩;rcases hh with⟨h0,_,rfl,hp⟩ | ⟨x,A,cc,h0,h1,hwf,hmay,rfl,hA,hR,hp⟩
 ·obtain⟨q1,q2⟩:=eA.EP hrf hK hO nV hP hk hp (λb hb=>hb);exact⟨Sp.Bn,none,0,O,rfl,by rw[h0];rfl,by simp[Sp.Bn],λb hb=>hb,Reads.none_,q1,q2⟩
 ·obtain⟨q1,q2⟩:=eA.EP hrf hK hO nV hP hk (hp.mono (K':=K) (λb hb=>.inl hb)) (λb hb=>hb);refine⟨x,A,cc,λb=>O b\/(w.heap.size<=b/\nh A x.rows.length b),by rw[h1];rfl,by rw[h0];rfl,?_,λb hb=>.inl hb,hR.mono (λb hb=>⟨.inr hb,hb.1⟩),?_,q2⟩
  ·have:=hmay.2.2.2.2;omega
  ·refine⟨λb=>K b\/nh A x.rows.length b,vL,vD,hp,hrf.keep hk.size (λb hb=>hk.block b (hK b ?_)),λb hb=>?_,λb hb=>?_,nV,hP.keep (hk.block gP (hK gP (.inr (.inr (.inr rfl)))))⟩
   ·rcases hb with e | e
    ·exact .inr (.inr (.inl e))
    ·exact .inr (.inl e)
   ·rcases hb with(e | e) | e
    ·exact .inl (hK b (.inl e))
    ·exact .inr e.2
    ·exact .inl (hK b (.inr e))
   ·rcases hb with e | e
    ·exact hO b e
    ·exact⟨λe2=>by have:=hlt b (hK b (.inr (.inr (.inl e2))));omega,λe2=>by have:=hlt b (hK b (.inr (.inl e2)));omega,λe2=>by have:=hP.lt;omega⟩
theorem JW (h:eA B gP gd gl gp gr O G l sp sr w) (ho:sr.Ok) (hid:id<4294967296):
 Calls prog 69 #[ptr gr,av id] w λe w'=>∃(x:Sp.Pg) (A:Option Addr) (c:Nat),e=.returned (.tuple #[iR x A c,.int .i64 (sr.iQ id).1])/\x=((sr.iQ id).2.1).getD Sp.Bn/\aA G w' A x.rows/\eA B gP gd gl gp gr O G l sp (sr.iQ id).2.2 w'/\Kept (mC gP O G) w w':=by
 obtain⟨K,vL,vD,hpk,hrf,hK,hO,nV,hP⟩:=h;refine(S8 hrf ho hid).mono ?_;rintro e w' ⟨⟨SS,hr,ht⟩,hh⟩;obtain⟨q1,q2⟩:=eA.ref hrf hpk hK hO nV hP hr ht;rcases hh with⟨h0,_,rfl⟩ | ⟨x,A,cc,h0,h1,rfl,hA,hR⟩
 ·exact⟨Sp.Bn,none,0,rfl,by rw[h0];rfl,Reads.none_,q1,q2⟩
 ·exact⟨x,A,cc,by rw[h1];rfl,by rw[h0];rfl,hR,q1,q2⟩
theorem L8 (h:eA B gP gd gl gp gr O G l sp sr w) (hn:l.next<1000000000000) (hr0:l.reserved<1000000000) (t:Sp.Bs) (ht:t.length<1000000000):
 Calls prog 42 #[ptr gl,str t] w λe w'=>∃(v:Value) (l':Sp.Lg),e=.returned v/\eA B gP gd gl gp gr O G l' {sp with next:=l'.next} sr w'/\Kept (mC gP O G) w w'/\l'.n=l.n/\l'.reserved=l.reserved/\l'.next<=l.next+4110:=by
 have tO:=h.Xl.1;obtain⟨K,vL,vD,hpk,hrf,hK,hO,nV,hP⟩:=h;have hsame:({sp with next:=l.next}:Sp.aF)=sp:=by rw[<-tO]
 refine(ue hpk hn hr0 t ht).mono ?_;rintro e w' ⟨hk,hh⟩;rcases hh with⟨_,h4,_,rfl,hp⟩ | ⟨_,_,_,rfl,hp⟩ | ⟨_,rfl,hp⟩
 ·obtain⟨q1,q2⟩:=eA.EP hrf hK hO nV hP hk hp (λb hb=>hb);exact⟨_,_,rfl,q1,q2,rfl,rfl,by show l.next+(14+t.length)<=_;omega⟩
 ·obtain⟨q1,q2⟩:=eA.EP hrf hK hO nV hP hk hp (λb hb=>hb);exact⟨_,l,rfl,by rw[hsame];exact q1,q2,rfl,rfl,by omega⟩
 ·obtain⟨q1,q2⟩:=eA.EP hrf hK hO nV hP hk hp (λb hb=>hb);exact⟨_,l,rfl,by rw[hsame];exact q1,q2,rfl,rfl,by omega⟩
theorem pQ (h:eA B gP gd gl gp gr O G l sp sr w):Calls prog 13 #[ptr gl] w λe w'=>e=.returned (.int .u64 l.next)/\w'=w:=by
 obtain⟨K,vL,vD,hpk,_⟩:=h;exact Tj hpk
theorem L0 (h:eA B gP gd gl gp gr O G l sp sr w):Calls prog 17 #[ptr gl] w λe w'=>e=.returned (.int .u64 sp.forced)/\w'=w:=by
 obtain⟨K,vL,vD,hpk,_⟩:=h;exact L_ hpk
theorem eA.cells (h:eA B gP gd gl gp gr O G l sp sr w):∃vL vD,aj w gr 60 #[.int .i64 sr.frames,vL,vD,.int .u64 sr.forced,.int .u64 sr.next]:=by
 obtain⟨K,vL,vD,hpk,hrf,_⟩:=h;exact⟨vL,vD,hrf.blk⟩
theorem eA.wA (h:eA B gP gd gl gp gr O G l sp sr w) (N:Nat):eA B gP gd gl gp gr O G l sp {sr with next:=N} (w.setCell ⟨gr,4,none⟩ (.int .u64 N))/\Kept (mC gP O G) w (w.setCell ⟨gr,4,none⟩ (.int .u64 N)):=by
 obtain⟨K,vL,vD,hpk,hrf,hK,hO,nV,hP⟩:=h;exact eA.ref hrf hpk hK hO nV hP (hrf.wA N) ((aa.refl (fR gr vL vD) w).setCell (p:=⟨gr,4,none⟩) (.inl (.inl rfl)) _)
end
section
open Go.Conc
theorem Lz:(prog.info? 9).map (λi=>(i.zero,i.size,i.bytes))=some (some (.string .empty),1,16):=by kernel_rfl
def kU (A:Option Addr) (c:Nat) (n:Nat):Prop:=(∃ad,A=some ad)\/(A=none/\c=0/\n=0)
theorem sN {w:World} {G:af} {x:Sp.Pg} (hN:kU A c x.rows.length) (hR:aA G w A x.rows) (hn:x.rows.length<=1000000):
 Calls prog 73 #[iR x A c] w λe w'=>∃A' c',e=.returned (iR x A' c')/\cO A'/\aA (λb=>w.heap.size<=b) w' A' x.rows/\zB w w':=by
 have hb1:=(zR w).alloc (za _) (.cells (aG x A c) 64);have hb2:=hb1.alloc hb1.size (.cells #[.int .u8 0,.int .u8 0,.int .u32 0,.int .u64 0,.int .u32 0,.slice none 0 0] 64);have aM:=(aj.new w 64 (aG x A c)).alloc (.cells #[.int .u8 0,.int .u8 0,.int .u32 0,.int .u64 0,.int .u32 0,.slice none 0 0] 64);have bB:=aj.new (w.alloc (.cells (aG x A c) 64)) 64 #[.int .u8 0,.int .u8 0,.int .u32 0,.int .u64 0,.int .u32 0,.slice none 0 0];have HR:=zH (Reads.below hR hb2);have hsz:(w.alloc (.cells (aG x A c) 64)).heap.size=w.heap.size+1:=by simp
 rw[hsz] at bB;obtain⟨is,his,hs0,hs1,hs2⟩:=info_parts Lz;clear hR hsz hb1;go_enter func73,ntmps73;go_upto_region 1 with fail;change Code.wp _ _ _ _ ((w.alloc (.cells (aG x A c) 64)).alloc (.cells #[.int .u8 0,.int .u8 0,.int .u32 0,.int .u64 0,.int .u32 0,.slice none 0 0] 64));generalize hw1:World.alloc (World.alloc w _) _=w1 at hb2 aM bB HR ⊢;obtain⟨g1,hg1⟩:=zE w.heap.size;rw[<-hg1] at aM bB ⊢;have hg1l:w.heap.size<=g1:=by omega
 clear hw1 hg1;have a5:=aM.cell 5;have f5:=aM.frozen 5;simp only[zGA,zGB,zGC] at a5;have HB:=zH hb2;have cA:=zH aM;have eo:=zH bB;have hne:g1≠g1+1:=by omega
 have kW:=bB.lt;have hws:=hb2.size;clear hb2 aM bB;have qy:Hid (∀(A':Option Addr) (n' c':Nat) (w2:World),w2.ownsRow w1.heap.size 9 1 (.slice A' n' c') x.rows.length (Ak x.rows)->zB w1 w2->n'=x.rows.length/\cO A'/\aA (λb=>w1.heap.size<=b) w2 A' x.rows):=by
  intro A' n' c' w2 h1 h2;refine⟨?_,?_,nr h1⟩
  ·rcases h1.2 with⟨h0,h3⟩ | ⟨g,cap,cur,h0,_⟩
   ·injection h0 with _ h4 _;omega
   ·injection h0
  ·rcases h1.2 with⟨h0,h3⟩ | ⟨g,cap,cur,h0,_⟩
   ·injection h0 with h4 _ _;exact .inl h4
   ·injection h0 with h4 _ _;exact .inr ⟨g,0,h4⟩
 rcases hN with⟨ad,rfl⟩ | ⟨rfl,rfl,h0⟩
 ·go_wp2_with (at_builtin;refine aO _ rfl _ _ 62 rfl w1.heap.size 9 is _ 1 16 underlying62 his hs0 hs1 hs2 rfl (by decide) _ 0 [] rfl (World.ownsRow_nil _ _ _ _) ad x.rows.length c (Ak x.rows) rfl (by simp[Ak]) (λj u hu=>?cells) (λu hu=>by obtain⟨z,_,rfl⟩:=zn.1 hu;rfl) (by unfold maxLen;omega) (by omega) (za _) ?next)
  case cells=>
   have hj:j<x.rows.length:=by
    have:=(zad.1 hu).1;simpa[Ak] using this
   obtain⟨b,o,e,_,_,hc⟩:=HR.out.2 (by omega);injection e with e;subst e;rw[ko];exact hc j u hu
  case next=>
   intro v2 w2 q1 q2 q3;replace q2:w1.grownBy w2 none:=q2;replace q1:w2.ownsRow w1.heap.size 9 1 v2 x.rows.length (Ak x.rows):=by simpa using q1
   obtain⟨A',n',c',rfl⟩:=cU q1;have kK:zB w1 w2:=(zR _).grown q2 (za _) (λk e=>nomatch e);have qq:=cA.out.lt;have cg:=cA.out.below kK qq;have dn:=eo.out.below kK kW;obtain⟨hn',hok,hRR⟩:=qy.out A' n' c' w2 q1 kK;subst hn';have a0:=cg.cell 0;have a1:=cg.cell 1;have a2:=cg.cell 2;have a3:=cg.cell 3;have a4:=cg.cell 4;have a5:=cg.cell 5;have f5:=cg.frozen 5;simp only[zGA,zGB,zGC] at a0 a1 a2 a3 a4 a5;have jh:Hid (aj (w2.setCell ⟨g1,5,none⟩ (.slice A' x.rows.length c')) (g1+1) 64 #[.int .u8 0,.int .u8 0,.int .u32 0,.int .u64 0,.int .u32 0,.slice none 0 0]):=dn.far (λe=>hne (by have e:g1+1=g1:=e;omega)) _;have Ge:=zH hRR;have HB12:=zH (HB.out.trans (kK.mono HB.out.size));have Bk:=zH hok;clear q1 q2 q3 cg dn hRR kK hok;go_wp2_with (refine cL rfl _ _ _ rfl (g1+1) 0 #[.int .u8 x.kind,.int .u8 x.level,.int .u32 x.id,.int .u64 x.aL,.int .u32 x.next,.slice A' x.rows.length c'] rfl rfl _ _ jh.out eI (by show 0+6<=6;omega) (by simp[Value.oneCell']) ?_);have eC:aj ((w2.setCell ⟨g1,5,none⟩ (.slice A' x.rows.length c')).setRow (g1+1) _) (g1+1) 64 (aG x A' c'):=jh.out.setRow _;have fI:=below_setRow (HB12.out.setCell (p:=⟨g1,5,none⟩) hg1l (.slice A' x.rows.length c')) (g:=g1+1) (by omega) (aG x A' c');have YQ:aA (λb=>w.heap.size<=b) ((w2.setCell ⟨g1,5,none⟩ (.slice A' x.rows.length c')).setRow (g1+1) (aG x A' c')) A' x.rows:=(Ge.out.keep (zbj (by simp[World.setRow,World.setCell])) (λb hb=>(ak _ _ _ _ (by omega)).trans (Below.heap_setCell _ ⟨g1,5,none⟩ _ b (by show b≠g1;omega)))).mono (λb hb=>zl hws hb);exact bodyPost_ret (v:=iR x A' c') (results_cell_row rfl _ _ (g1+1) 64 _ (0,0) _ rfl eC underlying64 rfl rfl) rfl ⟨A',c',rfl,Bk.out,YQ,fI⟩
 ·have hnil:x.rows=[]:=zy h0;have HNIL:=zH hnil;rw[h0] at a5;have cg:=cA.out;have a0:=cg.cell 0;have a1:=cg.cell 1;have a2:=cg.cell 2;have a3:=cg.cell 3;have a4:=cg.cell 4;simp only[zGA,zGB,zGC] at a0 a1 a2 a3 a4;have jh:Hid (aj (w1.setCell ⟨g1,5,none⟩ (.slice none 0 0)) (g1+1) 64 #[.int .u8 0,.int .u8 0,.int .u32 0,.int .u64 0,.int .u32 0,.slice none 0 0]):=eo.out.far (λe=>hne (by have e:g1+1=g1:=e;omega)) _;have HH0:=zH h0;clear cg h0 hnil;go_wp2_with (first | (at_builtin;refine wpList_append_own_none rfl _ _ 62 rfl w1.heap.size 9 is 1 underlying62 his _ 0 [] rfl (World.ownsRow_nil _ _ _ _) rfl ?_) | (refine cL rfl _ _ _ rfl (g1+1) 0 #[.int .u8 x.kind,.int .u8 x.level,.int .u32 x.id,.int .u64 x.aL,.int .u32 x.next,.slice none 0 0] rfl rfl _ _ jh.out eI (by show 0+6<=6;omega) (by simp[Value.oneCell']) ?_));have epg:aG x none 0=#[.int .u8 x.kind,.int .u8 x.level,.int .u32 x.id,.int .u64 x.aL,.int .u32 x.next,.slice none 0 0]:=by unfold aG;rw[HH0.out]
  have eC:aj ((w1.setCell ⟨g1,5,none⟩ (.slice none 0 0)).setRow (g1+1) (aG x none 0)) (g1+1) 64 (aG x none 0):=jh.out.setRow _;have fI:=below_setRow (HB.out.setCell (p:=⟨g1,5,none⟩) hg1l (.slice none 0 0)) (g:=g1+1) (by omega) (aG x none 0);rw[epg] at fI eC;refine bodyPost_ret (v:=iR x none 0) (by rw[show iR x none 0=.agg (aG x none 0) from rfl,epg];exact results_cell_row rfl _ _ (g1+1) 64 _ (0,0) _ rfl eC underlying64 rfl rfl) rfl ⟨none,0,rfl,.inl rfl,by rw[HNIL.out];exact Reads.none_,fI⟩
structure dZ where
 mK:Nat
 page:Nat
 x:Sp.Pg
 own:Bool
 row:Sp.Bs
 pages:List Nat
def dZ.cs (a:dZ) (AX:Option Addr) (cX:Nat) (AP:Option Addr) (cP:Nat):Array Value:=#[.int .u8 a.mK,.int .u32 a.page,.int .u8 a.x.kind,.int .u8 a.x.level,.int .u32 a.x.id,.int .u64 a.x.aL,.int .u32 a.x.next,.slice AX a.x.rows.length cX,.bool a.own,str a.row,.slice AP a.pages.length cP]
def dZ.pg (a:dZ) (n:Nat):Sp.Pg:=if a.own then⟨1,0,a.page,n,0,[a.row]⟩ else a.x
section
variable {B gP gd gl gp gr:Nat} {O G:af} {l:Sp.Lg} {sp sr:Sp.aF} {w:World}
theorem x_ (h:eA B gP gd gl gp gr O G l sp sr w) {a:dZ} {AX AP:Option Addr} {cX cP:Nat} (hN:kU AX cX a.x.rows.length) (hR:aA G w AX a.x.rows):
 Calls prog 71 #[ptr gP,.agg (a.cs AX cX AP cP)] w λe w'=>∃A c,e=.returned (iR (a.pg l.next) A c)/\kU A c (a.pg l.next).rows.length/\aA (λb=>G b\/w.heap.size<=b) w' A (a.pg l.next).rows/\zB w w':=by
 obtain⟨y,hy⟩:=zE (a.pg l.next);rw[<-hy];have HYY:=zH hy;clear hy;have hb1:=(zR w).alloc (za _) (.cells (a.cs AX cX AP cP) 67);have hb2:=hb1.alloc hb1.size (.cells #[.int .u8 0,.int .u8 0,.int .u32 0,.int .u64 0,.int .u32 0,.slice none 0 0] 64);have aM:=(aj.new w 67 (a.cs AX cX AP cP)).alloc (.cells #[.int .u8 0,.int .u8 0,.int .u32 0,.int .u64 0,.int .u32 0,.slice none 0 0] 64);have bB:=aj.new (w.alloc (.cells (a.cs AX cX AP cP) 67)) 64 #[.int .u8 0,.int .u8 0,.int .u32 0,.int .u64 0,.int .u32 0,.slice none 0 0];have hsz:(w.alloc (.cells (a.cs AX cX AP cP) 67)).heap.size=w.heap.size+1:=by simp
 rw[hsz] at bB;have hP:=(h.dH.below hb2 h.dH.lt);have gB:=h.below hb2;clear hsz hb1;go_enter func71,ntmps71;go_upto_region 1 with fail;change Code.wp _ _ _ _ ((w.alloc (.cells (a.cs AX cX AP cP) 67)).alloc (.cells #[.int .u8 0,.int .u8 0,.int .u32 0,.int .u64 0,.int .u32 0,.slice none 0 0] 64));generalize hw2:World.alloc (World.alloc w _) _=w2 at hb2 aM bB hP gB ⊢;obtain⟨gb,hgb⟩:=zE w.heap.size;rw[<-hgb] at aM bB ⊢;have kW:w.heap.size<=gb:=by omega
 clear hw2 hgb;have HB:=zH hb2;have cA:=zH aM;have eo:=zH bB;have HP:=zH hP;have a8:=aM.cell 8;simp only[dZ.cs,zGA,zGB,zGC] at a8;have pH:Hid (∀W,zB w2 W->Calls prog 13 #[ptr gl] W λe w'=>e=.returned (.int .u64 l.next)/\w'=W):=λW hb=>pQ (gB.below hb);clear hb2 aM bB hP gB
 cases ho:a.own with
 | false=>
  rw[ho] at a8;have rW:y=a.x:=by rw[HYY.out];unfold dZ.pg;rw[ho];rfl
  subst rW;have a2:=cA.out.cell 2;have a3:=cA.out.cell 3;have a4:=cA.out.cell 4;have a5:=cA.out.cell 5;have a6:=cA.out.cell 6;have a7:=cA.out.cell 7;simp only[dZ.cs,zGA,zGB,zGC] at a2 a3 a4 a5 a6 a7;have HR:=zH hR;clear hR ho;go_wp2_with (refine cL rfl _ _ _ rfl (gb+1) 0 (aG a.x AX cX) rfl rfl _ _ eo.out eI (by show 0+6<=6;omega) (by simp[Value.oneCell']) ?_);have eC:aj (w2.setRow (gb+1) (aG a.x AX cX)) (gb+1) 64 (aG a.x AX cX):=eo.out.setRow _;have D9:=below_setRow HB.out (g:=gb+1) (by omega) (aG a.x AX cX);exact bodyPost_ret (v:=iR a.x AX cX) (results_cell_row rfl _ _ (gb+1) 64 _ (0,0) _ rfl eC underlying64 rfl rfl) rfl ⟨AX,cX,rfl,hN,(Reads.below HR.out D9).mono (λb hb=>.inl hb),D9⟩
 | true=>
  rw[ho] at a8;have rW:y=⟨1,0,a.page,l.next,0,[a.row]⟩:=by rw[HYY.out];unfold dZ.pg;rw[ho];rfl
  subst rW;clear hR ho;go_wp2_with fail;have ez:∀(W:World),zB w2 W->W.cell? ⟨gP,1,none⟩=some (ptr gl)/\W.cell? ⟨gb,1,none⟩=some (.int .u32 a.page)/\W.cell? ⟨gb,9,none⟩=some (str a.row):=λW hb=>⟨((HP.out.below hb HP.out.lt).cell 1).trans rfl,((cA.out.below hb cA.out.lt).cell 1).trans rfl,((cA.out.below hb cA.out.lt).cell 9).trans rfl⟩;have qd:=zH ez;clear ez a8;have hb0:zB w2 w2.drew:=(zR w2).drew;have BZ:=zH (qd.out w2.drew hb0);refine fQ (fun(W:World)=>zC W gP 1 (ptr gl)/\zC W gb 1 (.int .u32 a.page)/\zC W gb 9 (str a.row)) (λj=>decide (11<=j)) ?_
  repeat (refine bK BZ.out ?_)
  refine gR (rs:=[6,9]) (by kernel_rfl) (by simp) (λi hi=>?_);simp only[zW,zak,or_false] at hi;rcases hi with rfl | rfl
  ·skip;refine lI 16 (w':=w2.drew) rfl rfl (by rfl) ?_ (pH.out w2.drew hb0) ?_
   ·go_simp
   rintro e v1 ⟨rfl,rfl⟩;refine⟨_,rfl,λ_=>BZ.out,?_⟩;simp only[zSA,zSB,zSC];have hc1:=(zR w2.drew).alloc (za _) (.cells #[str a.row] 9);have hb1:=hb0.trans (hc1.mono hb0.size);have hn1:=aj.new w2.drew 9 #[str a.row];have hS1:=zH (qd.out _ hb1);refine fe 9 19 (v:=.slice (some ⟨w2.drew.heap.size,0,none⟩) 1 1) (w':=(w2.drew.alloc (.cells #[str a.row] 9))) rfl ?_ (λ_=>hS1.out) ?_
   ·first | (go_simp;done) | (go_simp;rfl)
   repeat (refine bK hS1.out ?_)
   have dn:=eo.out.below hb1 eo.out.lt;refine jx 11 (w':=((w2.drew.alloc (.cells #[str a.row] 9)).setRow (gb+1) #[.int .u8 1,.int .u8 0,.int .u32 a.page,.int .u64 l.next,.int .u32 0,.slice (some ⟨w2.drew.heap.size,0,none⟩) 1 1])) rfl (aq _ _ _ ⟨gb+1,0,none⟩ _ rfl rfl rfl (ax _ _ 0 _ _ #[.int .u8 0,.int .u8 0,.int .u32 0,.int .u64 0,.int .u32 0,.slice none 0 0] #[.int .u8 1,.int .u8 0,.int .u32 a.page,.int .u64 l.next,.int .u32 0,.slice (some ⟨w2.drew.heap.size,0,none⟩) 1 1] dn eI (by show 0+6<=6;omega) (by simp[Value.oneCell']))) (λh=>nomatch h) ?_;refine aC (by kernel_rfl) ?_ _;rename_i K9 aT;refine aT _ _ ?_;clear aT;have eC:aj ((w2.drew.alloc (.cells #[str a.row] 9)).setRow (gb+1) #[.int .u8 1,.int .u8 0,.int .u32 a.page,.int .u64 l.next,.int .u32 0,.slice (some ⟨w2.drew.heap.size,0,none⟩) 1 1]) (gb+1) 64 #[.int .u8 1,.int .u8 0,.int .u32 a.page,.int .u64 l.next,.int .u32 0,.slice (some ⟨w2.drew.heap.size,0,none⟩) 1 1]:=dn.setRow _;have hsz:=hb1.size;have hone:((w2.drew.alloc (.cells #[str a.row] 9)).setRow (gb+1) #[.int .u8 1,.int .u8 0,.int .u32 a.page,.int .u64 l.next,.int .u32 0,.slice (some ⟨w2.drew.heap.size,0,none⟩) 1 1]).cell? ⟨w2.drew.heap.size,0,none⟩=some (str a.row):=(World.cell?_of_block (w:=(w2.drew.alloc (.cells #[str a.row] 9))) (a:=⟨w2.drew.heap.size,0,none⟩) (ak _ _ _ _ (by have:=eo.out.lt;have:=hb1.size;simp at*;omega))).trans ((hn1.cell 0).trans rfl);have D9:=below_setRow (HB.out.trans (hb1.mono HB.out.size)) (g:=gb+1) (by omega) #[.int .u8 1,.int .u8 0,.int .u32 a.page,.int .u64 l.next,.int .u32 0,.slice (some ⟨w2.drew.heap.size,0,none⟩) 1 1];go_wp2_with fail;refine bodyPost_ret (v:=iR ⟨1,0,a.page,l.next,0,[a.row]⟩ (some ⟨w2.drew.heap.size,0,none⟩) 1) (results_cell_row rfl _ _ (gb+1) 64 _ (0,0) _ rfl eC underlying64 rfl rfl) rfl ⟨_,_,rfl,.inl ⟨_,rfl⟩,⟨rfl,λ_=>⟨w2.drew.heap.size,0,rfl,.inr (by have:=HB.out.size;simp at*;omega),by simp[World.setRow],λj u hu=>?_⟩⟩,D9⟩
   match j,hu with
   | 0,hu=>injection hu with hu;rw[<-hu];exact hone
  ·skip;have hc1:=(zR w2.drew).alloc (za _) (.cells #[str a.row] 9);have hb1:=hb0.trans (hc1.mono hb0.size);have hn1:=aj.new w2.drew 9 #[str a.row];have hS1:=zH (qd.out _ hb1);refine cN 19 (v:=.slice (some ⟨w2.drew.heap.size,0,none⟩) 1 1) (w':=(w2.drew.alloc (.cells #[str a.row] 9))) rfl rfl (by rfl) ?_ ⟨λ_=>hS1.out,?_⟩
   ·first | (go_simp;done) | (go_simp;rfl)
   simp only[zSA,zSB,zSC];refine aI 6 16 (w':=(w2.drew.alloc (.cells #[str a.row] 9))) rfl rfl (by rfl) (by kernel_rfl) ?_ (pH.out (w2.drew.alloc (.cells #[str a.row] 9)) hb1) ?_
   ·go_simp
   rintro e v1 ⟨rfl,rfl⟩;refine⟨_,rfl,λ_=>hS1.out,?_⟩;simp only[zSA,zSB,zSC]
   repeat (refine bK hS1.out ?_)
   have dn:=eo.out.below hb1 eo.out.lt;refine jx 11 (w':=((w2.drew.alloc (.cells #[str a.row] 9)).setRow (gb+1) #[.int .u8 1,.int .u8 0,.int .u32 a.page,.int .u64 l.next,.int .u32 0,.slice (some ⟨w2.drew.heap.size,0,none⟩) 1 1])) rfl (aq _ _ _ ⟨gb+1,0,none⟩ _ rfl rfl rfl (ax _ _ 0 _ _ #[.int .u8 0,.int .u8 0,.int .u32 0,.int .u64 0,.int .u32 0,.slice none 0 0] #[.int .u8 1,.int .u8 0,.int .u32 a.page,.int .u64 l.next,.int .u32 0,.slice (some ⟨w2.drew.heap.size,0,none⟩) 1 1] dn eI (by show 0+6<=6;omega) (by simp[Value.oneCell']))) (λh=>nomatch h) ?_;refine aC (by kernel_rfl) ?_ _;rename_i K9 aT;refine aT _ _ ?_;clear aT;have eC:aj ((w2.drew.alloc (.cells #[str a.row] 9)).setRow (gb+1) #[.int .u8 1,.int .u8 0,.int .u32 a.page,.int .u64 l.next,.int .u32 0,.slice (some ⟨w2.drew.heap.size,0,none⟩) 1 1]) (gb+1) 64 #[.int .u8 1,.int .u8 0,.int .u32 a.page,.int .u64 l.next,.int .u32 0,.slice (some ⟨w2.drew.heap.size,0,none⟩) 1 1]:=dn.setRow _;have hsz:=hb1.size;have hone:((w2.drew.alloc (.cells #[str a.row] 9)).setRow (gb+1) #[.int .u8 1,.int .u8 0,.int .u32 a.page,.int .u64 l.next,.int .u32 0,.slice (some ⟨w2.drew.heap.size,0,none⟩) 1 1]).cell? ⟨w2.drew.heap.size,0,none⟩=some (str a.row):=(World.cell?_of_block (w:=(w2.drew.alloc (.cells #[str a.row] 9))) (a:=⟨w2.drew.heap.size,0,none⟩) (ak _ _ _ _ (by have:=eo.out.lt;have:=hb1.size;simp at*;omega))).trans ((hn1.cell 0).trans rfl);have D9:=below_setRow (HB.out.trans (hb1.mono HB.out.size)) (g:=gb+1) (by omega) #[.int .u8 1,.int .u8 0,.int .u32 a.page,.int .u64 l.next,.int .u32 0,.slice (some ⟨w2.drew.heap.size,0,none⟩) 1 1];go_wp2_with fail;refine bodyPost_ret (v:=iR ⟨1,0,a.page,l.next,0,[a.row]⟩ (some ⟨w2.drew.heap.size,0,none⟩) 1) (results_cell_row rfl _ _ (gb+1) 64 _ (0,0) _ rfl eC underlying64 rfl rfl) rfl ⟨_,_,rfl,.inl ⟨_,rfl⟩,⟨rfl,λ_=>⟨w2.drew.heap.size,0,rfl,.inr (by have:=HB.out.size;simp at*;omega),by simp[World.setRow],λj u hu=>?_⟩⟩,D9⟩
   match j,hu with
   | 0,hu=>injection hu with hu;rw[<-hu];exact hone
end
theorem dZ.U' {a:dZ} (h1:a.page<4294967296) (h2:a.x.wf) (h3:n<18446744073709551616) (h4:a.row.length<=100000) (h5:a.x.rows.length<=100000) (h6:Sp.total a.x.rows<=1000000000000000000):(a.pg n).wf/\(a.pg n).rows.length<=100000/\Sp.total (a.pg n).rows<=1000000000000000000:=by
 unfold dZ.pg
 split
 ·refine⟨⟨by show 1<256;omega,by show 0<256;omega,h1,h3,by show 0<_;omega⟩,by show 1<=_;omega,?_⟩;have:Sp.total [a.row]=a.row.length:=by simp[Sp.total]
  show Sp.total [a.row]<=_;omega
 ·exact⟨h2,h5,h6⟩
theorem ua (w:World) (t ty e:TypeId) (i:TypeInfo) (ht:P.underlying t=some (.slice e)) (hi:P.info? e=some i) (A:Option Addr) (c:Nat):(Builtin.append_ #[t,t] ty #[.slice none 0 0,.slice A 0 c]).run P w=.ok (.slice none 0 0) w:=by
 cases A<;>simp[Builtin.append_,run_underlying ht,sizeOf,typeInfo,hi,Builtin.lenOf,Builtin.firstCells,loadCells,loadCellsFrom]
theorem Ee {w:World} {K:Act->World->Prop} {Q:Exit->Act->World->Prop} {G:af} {AP:Option Addr} {cP:Nat} (x:Operand) (ho:o.op=.call {callee:=.builtin .append,args:=#[.const (.slice none 0 0),x],argTypes:=#[65,65]})
 (hx:a.eval x=.slice AP q.length cP) (hN:kU AP cP q.length) (hR:Reads G w 1 AP q.length (q.map av)) (hl:q.length<=10000)
 (h:∀A' c' w',cO A'->(q.length=0->A'=none)->Reads (λb=>w.heap.size<=b) w' 1 A' q.length (q.map av)->zB w w'->K (a.put o.dst (.slice A' q.length c')) w'):o.wp prog a w K Q:=by
 obtain⟨iu,P8,hz0,hz1,hz2⟩:=info_parts oz;by_cases h0:q.length=0
 ·have hq:q=[]:=zy h0;subst hq;have hr:=ua w 65 o.type 61 iu underlying65 P8 AP cP;have hx':a.eval x=.slice AP 0 cP:=hx;unfold Oper.wp execOp;have hs:a.eval (.const (.slice none 0 0))=.slice none 0 0:=rfl;simp only[ho,resolve,invoke,builtin,Sem.run_bind,Sem.run_pure,Result.andThen_ok,zar,zF,zaw,hs,hx',hr];exact h none 0 w (.inl rfl) (λ_=>rfl) Reads.none_ (zR _)
 ·rcases hN with⟨ad,rfl⟩ | ⟨_,_,hn0⟩
  ·refine bX w (.const (.slice none 0 0)) x _ ho w.heap.size 61 iu _ 1 4 underlying65 P8 hz0 hz1 hz2 rfl (by decide) (.slice none 0 0) 0 [] rfl (World.ownsRow_nil _ _ _ _) ad q.length cP (q.map av) hx (by simp) (λj u hu=>?_) (λu hu=>by obtain⟨z,_,rfl⟩:=zn.1 hu;rfl) (by unfold maxLen;omega) (by omega) (za _) ?_
   ·obtain⟨b,o',e,_,_,hc⟩:=hR.2 (by omega);injection e with e;subst e;rw[ko];exact hc j u hu
   ·intro v' w' q1 q2 q3;replace q2:w.grownBy w' none:=q2;replace q1:w'.ownsRow w.heap.size 61 1 v' q.length (q.map av):=by simpa using q1
    have hb:zB w w':=(zR _).grown q2 (za _) (λk e=>nomatch e);rcases q1.2 with⟨_,e⟩ | ⟨g,cap,cur,e,_⟩
    ·omega
    ·subst e;exact h _ _ _ (.inr ⟨g,0,rfl⟩) (λe=>absurd e h0) (nr q1) hb
  ·exact absurd hn0 h0
section
variable {B gP gd gl gp gr:Nat} {O G:af} {l:Sp.Lg} {s:Sp.aF} {w:World}
theorem ya (h:eA B gP gd gl gp gr O G l s s w) (hle:s.le m) (hm:m<100000) (hf6:s.frames<=6) (tO:l.next<100000000000) (hr0:l.reserved<1000000000) {a:dZ} (hdo:a.mK<256) (rW:a.page<4294967296) (hxw:a.x.wf) (hrow:a.row.length<=100000) (hxr:a.x.rows.length<=100000) (hxt:Sp.total a.x.rows<=1000000000000000000) (hpl:a.pages.length<=10000) (hpp:∀n∈a.pages,n<4294967296)
 {AX AP:Option Addr} {cX cP:Nat} (hN:kU AX cX a.x.rows.length) (hR:aA G w AX a.x.rows) (I1:kU AP cP a.pages.length) (GF:Reads G w 1 AP a.pages.length (a.pages.map av)):
 Calls prog 21 #[ptr gP,.agg (a.cs AX cX AP cP)] w λe w'=>e=.returned (.bool true)/\PyEnd B gP gd gl gp gr O G a.mK (a.pg l.next).aL m l s w w':=by
 have hok:=h.ok hle (by omega);have hb1:=(zR w).alloc (za _) (.cells (a.cs AX cX AP cP) 67);have aM:=aj.new w 67 (a.cs AX cX AP cP);have hS1:=h.below hb1;have hsz:(w.alloc (.cells (a.cs AX cX AP cP) 67)).heap.size=w.heap.size+1:=by simp
 have HKW:Hid (∀w',Kept (mC gP (λb=>O b\/(w.heap.size<=b/\b<(w.alloc (.cells (a.cs AX cX AP cP) 67)).heap.size)) G) (w.alloc (.cells (a.cs AX cX AP cP) 67)).drew w'->Kept (mC gP O G) w w'):=λw' hk=>by
  have h1:Kept (mC gP O G) w (w.alloc (.cells (a.cs AX cX AP cP) 67)).drew:=Kept.az (hb1.trans ((zR _).drew.mono hb1.size)) (λb hb=>h.lt hb);refine h1.trans (hk.mono (λb hb=>?_));rcases hb with e | e | e
  ·exact .inl (.inl e)
  ·exact .inr (.inl e)
  ·exact .inr (.inr e)
 have HR:=zH (Reads.below hR hb1);have HRP:=zH (Reads.below GF hb1);have Bk:=zH hok;have HKB:Hid (∀w',zB w w'->Kept (mC gP O G) w w'):=λw' hb=>Kept.az hb (λb hb=>h.lt hb);have jA:=zH hb1;go_enter func21,ntmps21;go_upto_region 1 with fail;change Code.wp _ _ _ _ (w.alloc (.cells (a.cs AX cX AP cP) 67));obtain⟨gb,hgb⟩:=zE w.heap.size;have hgbO0:w.heap.size<=gb/\gb<(w.alloc (.cells (a.cs AX cX AP cP) 67)).heap.size:=by omega
 generalize hw1:w.alloc (.cells (a.cs AX cX AP cP) 67)=w1 at*;rw[<-hgb] at aM ⊢;have yw:(λb=>O b\/(w.heap.size<=b/\b<w1.heap.size)) gb:=.inr hgbO0;have cA:=zH aM;have vY:=zH hS1;have HH:=zH h;have c0:=aM.cell 0;simp only[dZ.cs,zGA,zGC] at c0;clear hw1 aM hS1 hR GF hb1 hsz h hgb;rename_i K9 aT;have h7:a.mK%7=0\/a.mK%7=1\/a.mK%7=2\/a.mK%7=3\/a.mK%7=4\/a.mK%7=5\/a.mK%7=6:=by omega
 rcases h7 with h7 | h7 | h7 | h7 | h7 | h7 | h7
 ·have d7:(a.mK:Int)%7=0:=by omega
  have Vn:∀x∈s.L,x.pins<1000000:=λx hx=>by have:=hle x hx;omega
  have ez:∀(W:World),aj W gP 45 #[ptr gd,ptr gl,ptr gp,ptr gr]->aj W gb 67 (a.cs AX cX AP cP)->W.cell? ⟨gP,2,none⟩=some (ptr gp)/\W.cell? ⟨gP,3,none⟩=some (ptr gr)/\W.cell? ⟨gb,1,none⟩=some (.int .u32 a.page):=λW h1 h2=>⟨(h1.cell 2).trans rfl,(h1.cell 3).trans rfl,(h2.cell 1).trans rfl⟩;have qd:=zH ez;clear ez;obtain⟨n,hn⟩:=zE ((s.iQ a.page).1);obtain⟨y,hy⟩:=zE (((s.iQ a.page).2.1).getD Sp.Bn);have HN:=zH hn;have HY:=zH hy;clear hn hy;go_upto_region 3 with fail;go_cut [5,6] (λv5 v6 wy=>∃(g5 c:Nat) (A:Option Addr) (O2:af),v5=ptr g5/\v6=.int .i64 n/\y.rows.length<=484/\(∀b,(λb=>O b\/(w.heap.size<=b/\b<w1.heap.size)) b->O2 b)/\O2 g5/\aj wy g5 64 (aG y A c)/\aA O2 wy A y.rows/\eA B gP gd gl gp gr O2 G {l with forced:=(s.iQ a.page).2.2.forced} (s.iQ a.page).2.2 s wy/\Kept (mC gP (λb=>O b\/(w.heap.size<=b/\b<w1.heap.size)) G) w1.drew wy)
  case first=>
   rename_i J8 K8 hJ8 iO;have hS:=zH (qd.out w1.drew vY.out.dH.drew cA.out.drew);refine fQ (fun(W:World)=>zC W gP 2 (ptr gp)/\zC W gP 3 (ptr gr)/\zC W gb 1 (.int .u32 a.page)) (λ_=>false) ?_
   repeat (refine bK hS.out ?_)
   refine gR (rs:=[6,10]) (by kernel_rfl) (by simp) (λi hi=>?_);simp only[zW,zak,or_false] at hi;rcases hi with rfl | rfl
   ·skip;refine lI 23 (w':=w1.drew) rfl rfl (by rfl) ?_ (JX vY.out.drew rW Vn) ?_
    ·go_simp
    rintro e v1 ⟨x,A,c,O2,rfl,hx,hxl,Ks,wF,h1,k1⟩;have hxy:x=y:=by rw[HY.out,hx]
    clear hx;subst hxy;rw[<-HN.out];have aM:aj v1 gb 67 (a.cs AX cX AP cP):=cA.out.drew.keep (k1.block gb (.inl yw));have hS1:=zH (qd.out v1 h1.dH aM);refine⟨_,rfl,λ_=>hS1.out,?_⟩;simp only[zSA,zSB,zSC]
    repeat (refine bK hS1.out ?_)
    have hba:=(zR v1).alloc (za _) (.cells #[.int .u8 0,.int .u8 0,.int .u32 0,.int .u64 0,.int .u32 0,.slice none 0 0] 64);have eC:=aj.new v1 64 #[.int .u8 0,.int .u8 0,.int .u32 0,.int .u64 0,.int .u32 0,.slice none 0 0];have h2:=h1.below hba;have hsa:v1.heap.size<(v1.alloc (.cells #[.int .u8 0,.int .u8 0,.int .u32 0,.int .u64 0,.int .u32 0,.slice none 0 0] 64)).heap.size:=eC.lt;have pW:=Reads.below wF hba;obtain⟨g5,jm⟩:=zE v1.heap.size;have gB:=zH (qd.out _ h2.dH (aM.below hba aM.lt));refine fe 10 5 (v:=ptr v1.heap.size) (w':=v1.alloc (.cells #[.int .u8 0,.int .u8 0,.int .u32 0,.int .u64 0,.int .u32 0,.slice none 0 0] 64)) rfl ?_ (λ_=>gB.out) ?_
    ·first | (go_simp;done) | (go_simp;rfl)
    rw[<-jm] at eC ⊢;have hT:aa (only g5) (only g5) (v1.alloc (.cells #[.int .u8 0,.int .u8 0,.int .u32 0,.int .u64 0,.int .u32 0,.slice none 0 0] 64)) ((v1.alloc (.cells #[.int .u8 0,.int .u8 0,.int .u32 0,.int .u64 0,.int .u32 0,.slice none 0 0] 64)).setRow g5 (aG x A c)):=(aa.refl (only g5) _).setRow (g:=g5) (.inl rfl) _;have h3:=h2.own hT (λb hb=>.inr (by have hb:b=g5:=hb;omega));have vP:=pW.turns hT (λb hb=>⟨by have:=h1.lt (.inl hb.1);omega,λe=>by have e:b=g5:=e;have:=h1.lt (.inl hb.1);omega⟩);have fq:aj _ g5 64 (aG x A c):=eC.setRow (aG x A c);have IK:gb≠g5:=by have:=aM.lt;omega
    have AZ:=zH (qd.out _ h3.dH ((aM.below hba aM.lt).turns hT (λe=>IK e)));have P7:Kept (mC gP (λb=>O b\/(w.heap.size<=b/\b<w1.heap.size)) G) w1.drew ((v1.alloc (.cells #[.int .u8 0,.int .u8 0,.int .u32 0,.int .u64 0,.int .u32 0,.slice none 0 0] 64)).setRow g5 (aG x A c)):=(k1.trans (Kept.az hba (λb hb=>by
     exact zf (vY.out.lt (b:=b) hb) k1.size))).trans ⟨rfl,rfl,rfl,zbj (by simp[World.setRow]),λb hb=>ak _ _ _ _ (λe=>by
     have:=vY.out.lt (b:=b) hb;have h9:w1.heap.size<=v1.heap.size:=k1.size;omega)⟩
    refine jx 11 (w':=(v1.alloc (.cells #[.int .u8 0,.int .u8 0,.int .u32 0,.int .u64 0,.int .u32 0,.slice none 0 0] 64)).setRow g5 (aG x A c)) rfl (aq _ _ _ ⟨g5,0,none⟩ (.agg (aG x A c)) rfl rfl rfl (ax _ _ 0 _ _ #[.int .u8 0,.int .u8 0,.int .u32 0,.int .u64 0,.int .u32 0,.slice none 0 0] (aG x A c) eC eI (by show 0+6<=6;omega) (by simp[Value.oneCell']))) (λ_=>AZ.out) ?_
    repeat (refine bK AZ.out ?_)
    have HF:=zH (And.intro fq (And.intro vP (And.intro h3 P7)));clear hS hS1 gB AZ h1 h2 h3 k1 aM eC fq pW vP hT wF P7 hba;refine aC (by kernel_rfl) ?_ _;refine iO _ _ ?_;clear iO;go_meet
    case rel=>exact⟨g5,c,A,_,rfl,rfl,hxl,λb hb=>.inl (Ks b hb),.inr (by omega),HF.out.1,HF.out.2.1.mono (λb hb=>.inl hb.1),HF.out.2.2.1,HF.out.2.2.2⟩
   ·skip;have hba:=(zR w1).drew.alloc (za _) (.cells #[.int .u8 0,.int .u8 0,.int .u32 0,.int .u64 0,.int .u32 0,.slice none 0 0] 64);have eC:=aj.new w1.drew 64 #[.int .u8 0,.int .u8 0,.int .u32 0,.int .u64 0,.int .u32 0,.slice none 0 0];have h0:=vY.out.below hba;have hsa:w1.heap.size<(w1.drew.alloc (.cells #[.int .u8 0,.int .u8 0,.int .u32 0,.int .u64 0,.int .u32 0,.slice none 0 0] 64)).heap.size:=eC.lt;obtain⟨g5,jm⟩:=zE w1.heap.size;have MX:=cA.out.below hba cA.out.lt;have hS1:=zH (qd.out _ h0.dH MX);refine cN 5 (v:=ptr w1.heap.size) (w':=w1.drew.alloc (.cells #[.int .u8 0,.int .u8 0,.int .u32 0,.int .u64 0,.int .u32 0,.slice none 0 0] 64)) rfl rfl (by rfl) ?_ ⟨λ_=>hS1.out,?_⟩
    ·first | (go_simp;done) | (go_simp;rfl)
    simp only[zSA,zSB,zSC];have P_:w1.drew.heap.size=w1.heap.size:=rfl;rw[P_,<-jm] at eC;rw[<-jm];refine aI 6 23 (w':=w1.drew.alloc (.cells #[.int .u8 0,.int .u8 0,.int .u32 0,.int .u64 0,.int .u32 0,.slice none 0 0] 64)) rfl rfl (by rfl) (by kernel_rfl) ?_ (JX h0 rW Vn) ?_
    ·go_simp
    rintro e v1 ⟨x,A,c,O2,rfl,hx,hxl,Ks,wF,h1,k1⟩;have hxy:x=y:=by rw[HY.out,hx]
    clear hx;subst hxy;rw[<-HN.out];have aM:=MX.keep (k1.block gb (.inl (.inl yw)));have gM:=eC.keep (k1.block g5 (.inl (.inr (by omega))));have gB:=zH (qd.out v1 h1.dH aM);refine⟨_,rfl,λ_=>gB.out,?_⟩;simp only[zSA,zSB,zSC]
    repeat (refine bK gB.out ?_)
    have hT:aa (only g5) (only g5) v1 (v1.setRow g5 (aG x A c)):=(aa.refl (only g5) _).setRow (g:=g5) (.inl rfl) _;have Kr:O2 g5:=Ks g5 (.inr (by omega));have h3:=h1.own hT (λb hb=>by have hb:b=g5:=hb;rw[hb];exact Kr);have vP:=wF.turns hT (λb hb=>⟨h1.lt (.inl hb.1),λe=>by have e:b=g5:=e;have:=hb.2;omega⟩);have fq:aj _ g5 64 (aG x A c):=gM.setRow (aG x A c);have IK:gb≠g5:=by have:=cA.out.lt;omega
    have AZ:=zH (qd.out _ h3.dH (aM.turns hT (λe=>IK e)));have P7:Kept (mC gP (λb=>O b\/(w.heap.size<=b/\b<w1.heap.size)) G) w1.drew (v1.setRow g5 (aG x A c)):=((Kept.az (w:=w1.drew) (K:=mC gP (λb=>O b\/(w.heap.size<=b/\b<w1.heap.size)) G) ((Below.refl w1.heap.size w1.drew).alloc (za _) (.cells #[.int .u8 0,.int .u8 0,.int .u32 0,.int .u64 0,.int .u32 0,.slice none 0 0] 64)) (λb hb=>vY.out.lt (b:=b) hb)).trans (k1.mono (λb hb=>hb.imp (λe=>.inl e) id))).trans ⟨rfl,rfl,rfl,zbj (by simp[World.setRow]),λb hb=>ak _ _ _ _ (λe=>by have:=vY.out.lt (b:=b) hb;omega)⟩;refine jx 11 (w':=v1.setRow g5 (aG x A c)) rfl (aq _ _ _ ⟨g5,0,none⟩ (.agg (aG x A c)) rfl rfl rfl (ax _ _ 0 _ _ #[.int .u8 0,.int .u8 0,.int .u32 0,.int .u64 0,.int .u32 0,.slice none 0 0] (aG x A c) gM eI (by show 0+6<=6;omega) (by simp[Value.oneCell']))) (λ_=>AZ.out) ?_
    repeat (refine bK AZ.out ?_)
    have HF:=zH (And.intro fq (And.intro vP (And.intro h3 P7)));clear hS hS1 gB AZ h0 h1 h3 k1 aM eC gM MX fq vP hT wF P7 hba;refine aC (by kernel_rfl) ?_ _;refine iO _ _ ?_;clear iO;go_meet
    case rel=>exact⟨g5,c,A,O2,rfl,rfl,hxl,λb hb=>Ks b (.inl hb),Kr,HF.out.1,HF.out.2.1.mono (λb hb=>hb.1),HF.out.2.2.1,HF.out.2.2.2⟩
  case rest=>
   rename_i K8 iO;refine iO _ _ ?_;clear iO;obtain⟨g5,c,A,O2,rfl,rfl,hyl,YR,Kr,eC,B0,h5,k5⟩:=hcut;have VC:O2 gb:=YR gb yw;have tU:=zH (show aj wc gb 67 (a.cs AX cX AP cP) from cA.out.drew.keep (k5.block gb (.inl yw)));have H5:=zH h5;have mj:=zH eC;have HR5:=zH B0;have UT:=zH k5;have ZF:=zH YR;clear h5 eC B0 k5 YR;generalize hlf:({l with forced:=(s.iQ a.page).2.2.forced}:Sp.Lg)=l2 at*;have HLF:=zH hlf;clear hlf;go_upto_region 4 with fail;go_cut [7,8] (λv7 v8 wz=>∃(g7 c2:Nat) (A2:Option Addr),v7=ptr g7/\v8=.int .i64 n/\aj wz g7 64 (aG y A2 c2)/\aj wz g5 64 (aG y A c)/\aA O2 wz A y.rows/\aA G wz A2 y.rows/\eA B gP gd gl gp gr O2 G l2 (s.iQ a.page).2.2 (s.iQ a.page).2.2 wz/\Kept (mC gP O2 G) wc.drew wz)
   case first=>
    rename_i J8 K8 hJ8 iO;have hS:=zH (qd.out wc.drew H5.out.dH.drew tU.out.drew);refine fQ (fun(W:World)=>zC W gP 2 (ptr gp)/\zC W gP 3 (ptr gr)/\zC W gb 1 (.int .u32 a.page)) (λ_=>false) ?_
    repeat (refine bK hS.out ?_)
    refine gR (rs:=[6,10]) (by kernel_rfl) (by simp) (λi hi=>?_);simp only[zW,zak,or_false] at hi;rcases hi with rfl | rfl
    ·skip;refine lI 33 (w':=wc.drew) rfl rfl (by rfl) ?_ (JW H5.out.drew Bk.out rW) ?_
     ·go_simp
     rintro e v1 ⟨x,A2,c2,rfl,hx,wF,h1,k1⟩;have hxy:x=y:=by rw[HY.out,hx]
     clear hx;subst hxy;rw[<-HN.out];have aM:aj v1 gb 67 (a.cs AX cX AP cP):=tU.out.drew.keep (k1.block gb (.inl VC));have bB:aj v1 g5 64 (aG x A c):=mj.out.drew.keep (k1.block g5 (.inl Kr));have mU:aA O2 v1 A x.rows:=HR5.out.keep k1.size (λb hb=>k1.block b (.inl hb));have hS1:=zH (qd.out v1 h1.dH aM);refine⟨_,rfl,λ_=>hS1.out,?_⟩;simp only[zSA,zSB,zSC]
     repeat (refine bK hS1.out ?_)
     have hba:=(zR v1).alloc (za _) (.cells #[.int .u8 0,.int .u8 0,.int .u32 0,.int .u64 0,.int .u32 0,.slice none 0 0] 64);have eC:=aj.new v1 64 #[.int .u8 0,.int .u8 0,.int .u32 0,.int .u64 0,.int .u32 0,.slice none 0 0];have h2:=h1.below hba;have hsa:v1.heap.size<(v1.alloc (.cells #[.int .u8 0,.int .u8 0,.int .u32 0,.int .u64 0,.int .u32 0,.slice none 0 0] 64)).heap.size:=eC.lt;obtain⟨g7,mS⟩:=zE v1.heap.size;have gB:=zH (qd.out _ h2.dH (aM.below hba aM.lt));refine fe 10 7 (v:=ptr v1.heap.size) (w':=v1.alloc (.cells #[.int .u8 0,.int .u8 0,.int .u32 0,.int .u64 0,.int .u32 0,.slice none 0 0] 64)) rfl ?_ (λ_=>gB.out) ?_
     ·first | (go_simp;done) | (go_simp;rfl)
     rw[<-mS] at eC ⊢;have hT:aa (only g7) (only g7) (v1.alloc (.cells #[.int .u8 0,.int .u8 0,.int .u32 0,.int .u64 0,.int .u32 0,.slice none 0 0] 64)) ((v1.alloc (.cells #[.int .u8 0,.int .u8 0,.int .u32 0,.int .u64 0,.int .u32 0,.slice none 0 0] 64)).setRow g7 (aG x A2 c2)):=(aa.refl (only g7) _).setRow (g:=g7) (.inl rfl) _;have h3:=(h2.own hT (λb hb=>.inr (by have hb:b=g7:=hb;omega))).less (O':=O2) (λb hb=>.inl hb);have l6:∀b,mC gP O2 G b->b<v1.heap.size:=λb hb=>h1.lt hb;have vP:aA O2 _ A x.rows:=(Reads.below mU hba).turns hT (λb hb=>⟨by have:=l6 b (.inl hb);omega,λe=>by have e:b=g7:=e;have:=l6 b (.inl hb);omega⟩);have FH:aA G _ A2 x.rows:=(Reads.below wF hba).turns hT (λb hb=>⟨by have:=l6 b (.inr (.inl hb));omega,λe=>by have e:b=g7:=e;have:=l6 b (.inr (.inl hb));omega⟩);have fq:aj _ g7 64 (aG x A2 c2):=eC.setRow (aG x A2 c2);have IK:gb≠g7:=by have:=aM.lt;omega
     have Ym:g5≠g7:=by have:=bB.lt;omega
     have iW:aj _ g5 64 (aG x A c):=(bB.below hba bB.lt).turns hT (λe=>Ym e);have AZ:=zH (qd.out _ h3.dH ((aM.below hba aM.lt).turns hT (λe=>IK e)));have P7:Kept (mC gP O2 G) wc.drew ((v1.alloc (.cells #[.int .u8 0,.int .u8 0,.int .u32 0,.int .u64 0,.int .u32 0,.slice none 0 0] 64)).setRow g7 (aG x A2 c2)):=(k1.trans (Kept.az hba l6)).trans ⟨rfl,rfl,rfl,zbj (by simp[World.setRow]),λb hb=>ak _ _ _ _ (λe=>by have:=l6 b hb;omega)⟩;refine jx 11 (w':=(v1.alloc (.cells #[.int .u8 0,.int .u8 0,.int .u32 0,.int .u64 0,.int .u32 0,.slice none 0 0] 64)).setRow g7 (aG x A2 c2)) rfl (aq _ _ _ ⟨g7,0,none⟩ (.agg (aG x A2 c2)) rfl rfl rfl (ax _ _ 0 _ _ #[.int .u8 0,.int .u8 0,.int .u32 0,.int .u64 0,.int .u32 0,.slice none 0 0] (aG x A2 c2) eC eI (by show 0+6<=6;omega) (by simp[Value.oneCell']))) (λ_=>AZ.out) ?_
     repeat (refine bK AZ.out ?_)
     have HF:=zH (And.intro fq (And.intro iW (And.intro vP (And.intro FH (And.intro h3 P7)))));clear hS hS1 gB AZ h1 h2 h3 k1 aM bB eC iW fq mU vP FH hT wF P7 hba l6;refine aC (by kernel_rfl) ?_ _;refine iO _ _ ?_;clear iO;go_meet
     case rel=>exact⟨g7,c2,A2,rfl,rfl,HF.out.1,HF.out.2.1,HF.out.2.2.1,HF.out.2.2.2.1,HF.out.2.2.2.2.1,HF.out.2.2.2.2.2⟩
    ·skip;have hba:=(zR wc).drew.alloc (za _) (.cells #[.int .u8 0,.int .u8 0,.int .u32 0,.int .u64 0,.int .u32 0,.slice none 0 0] 64);have eC:=aj.new wc.drew 64 #[.int .u8 0,.int .u8 0,.int .u32 0,.int .u64 0,.int .u32 0,.slice none 0 0];have h0:=H5.out.below hba;have hsa:wc.heap.size<(wc.drew.alloc (.cells #[.int .u8 0,.int .u8 0,.int .u32 0,.int .u64 0,.int .u32 0,.slice none 0 0] 64)).heap.size:=eC.lt;obtain⟨g7,mS⟩:=zE wc.heap.size;have MX:=tU.out.below hba tU.out.lt;have hB0:=mj.out.below hba mj.out.lt;have yB:=Reads.below HR5.out hba;have hS1:=zH (qd.out _ h0.dH MX);refine cN 7 (v:=ptr wc.heap.size) (w':=wc.drew.alloc (.cells #[.int .u8 0,.int .u8 0,.int .u32 0,.int .u64 0,.int .u32 0,.slice none 0 0] 64)) rfl rfl (by rfl) ?_ ⟨λ_=>hS1.out,?_⟩
     ·first | (go_simp;done) | (go_simp;rfl)
     simp only[zSA,zSB,zSC];have P_:wc.drew.heap.size=wc.heap.size:=rfl;rw[P_,<-mS] at eC;rw[<-mS];refine aI 6 33 (w':=wc.drew.alloc (.cells #[.int .u8 0,.int .u8 0,.int .u32 0,.int .u64 0,.int .u32 0,.slice none 0 0] 64)) rfl rfl (by rfl) (by kernel_rfl) ?_ (JW h0 Bk.out rW) ?_
     ·go_simp
     rintro e v1 ⟨x,A2,c2,rfl,hx,wF,h1,k1⟩;have hxy:x=y:=by rw[HY.out,hx]
     clear hx;subst hxy;rw[<-HN.out];have aM:=MX.keep (k1.block gb (.inl (.inl VC)));have bB:aj v1 g5 64 (aG x A c):=hB0.keep (k1.block g5 (.inl (.inl Kr)));have mU:aA O2 v1 A x.rows:=yB.keep k1.size (λb hb=>k1.block b (.inl (.inl hb)));have gM:=eC.keep (k1.block g7 (.inl (.inr (by omega))));have gB:=zH (qd.out v1 h1.dH aM);refine⟨_,rfl,λ_=>gB.out,?_⟩;simp only[zSA,zSB,zSC]
     repeat (refine bK gB.out ?_)
     have hT:aa (only g7) (only g7) v1 (v1.setRow g7 (aG x A2 c2)):=(aa.refl (only g7) _).setRow (g:=g7) (.inl rfl) _;have h3:=(h1.own hT (λb hb=>by have hb:b=g7:=hb;exact .inr (by omega))).less (O':=O2) (λb hb=>.inl hb);have l6:∀b,mC gP O2 G b->b<wc.heap.size:=λb hb=>H5.out.lt hb;have hlv:wc.heap.size<=v1.heap.size:=by have:=k1.size;omega
     have vP:aA O2 _ A x.rows:=mU.turns hT (λb hb=>⟨by have:=l6 b (.inl hb);omega,λe=>by have e:b=g7:=e;have:=l6 b (.inl hb);omega⟩);have FH:aA G _ A2 x.rows:=wF.turns hT (λb hb=>⟨by have:=l6 b (.inr (.inl hb));omega,λe=>by have e:b=g7:=e;have:=l6 b (.inr (.inl hb));omega⟩);have fq:aj _ g7 64 (aG x A2 c2):=gM.setRow (aG x A2 c2);have IK:gb≠g7:=by have:=tU.out.lt;omega
     have Ym:g5≠g7:=by have:=mj.out.lt;omega
     have iW:aj _ g5 64 (aG x A c):=bB.turns hT (λe=>Ym e);have AZ:=zH (qd.out _ h3.dH (aM.turns hT (λe=>IK e)));have P7:Kept (mC gP O2 G) wc.drew (v1.setRow g7 (aG x A2 c2)):=((Kept.az (w:=wc.drew) (K:=mC gP O2 G) ((Below.refl wc.heap.size wc.drew).alloc (za _) (.cells #[.int .u8 0,.int .u8 0,.int .u32 0,.int .u64 0,.int .u32 0,.slice none 0 0] 64)) (λb hb=>l6 b hb)).trans (k1.mono (λb hb=>hb.imp (λe=>.inl e) id))).trans ⟨rfl,rfl,rfl,zbj (by simp[World.setRow]),λb hb=>ak _ _ _ _ (λe=>by have:=l6 b hb;omega)⟩;refine jx 11 (w':=v1.setRow g7 (aG x A2 c2)) rfl (aq _ _ _ ⟨g7,0,none⟩ (.agg (aG x A2 c2)) rfl rfl rfl (ax _ _ 0 _ _ #[.int .u8 0,.int .u8 0,.int .u32 0,.int .u64 0,.int .u32 0,.slice none 0 0] (aG x A2 c2) gM eI (by show 0+6<=6;omega) (by simp[Value.oneCell']))) (λ_=>AZ.out) ?_
     repeat (refine bK AZ.out ?_)
     have HF:=zH (And.intro fq (And.intro iW (And.intro vP (And.intro FH (And.intro h3 P7)))));clear hS hS1 gB AZ h0 h1 h3 k1 aM bB hB0 yB eC gM MX iW fq mU vP FH hT wF P7 hba l6;refine aC (by kernel_rfl) ?_ _;refine iO _ _ ?_;clear iO;go_meet
     case rel=>exact⟨g7,c2,A2,rfl,rfl,HF.out.1,HF.out.2.1,HF.out.2.2.1,HF.out.2.2.2.1,HF.out.2.2.2.2.1,HF.out.2.2.2.2.2⟩
   case rest=>
    rename_i K8 iO;refine iO _ _ ?_;clear iO;obtain⟨g7,c2,A2,rfl,rfl,fu,iW,hR8,YP,h8,k8⟩:=hcut;have k9:Kept (mC gP (λb=>O b\/(w.heap.size<=b/\b<w1.heap.size)) G) _ _:=k8.mono (λb hb=>hb.imp (λe=>ZF.out b e) id);have hkw:Kept (mC gP O G) w wc:=HKW.out _ (UT.out.trans ⟨k9.os,k9.tape,k9.output,k9.size,k9.block⟩);have GL:=zH (Hh (c:=c) (c':=c2) hR8 YP (by omega));have u0:=iW.cell 0;have u1:=iW.cell 1;have u2:=iW.cell 2;have u3:=iW.cell 3;have u4:=iW.cell 4;have u5:=iW.cell 5;have z0:=fu.cell 0;have z1:=fu.cell 1;have z2:=fu.cell 2;have z3:=fu.cell 3;have z4:=fu.cell 4;have z5:=fu.cell 5;simp only[zGA,zGB,zGC] at u0 u1 u2 u3 u4 u5 z0 z1 z2 z3 z4 z5;have H8:=zH h8;have HKF:=zH hkw;clear fu iW hR8 YP h8 k8 k9 hkw;go_wp2_with fail;refine GL.out.mono ?_;rintro e w9 ⟨rfl,BW⟩;have HF:=zH (And.intro (H8.out.below BW) (HKF.out.trans (Kept.az BW (λb hb=>by
     rcases hb with e | e | e
     ·exact H8.out.lt (.inl (ZF.out b (.inl e)))
     ·exact H8.out.lt (.inr (.inl e))
     ·exact H8.out.lt (.inr (.inr e))))))
    clear u0 u1 u2 u3 u4 u5 z0 z1 z2 z3 z4 z5 BW GL;go_wp2_with fail;go_ret;exact⟨rfl,G,l2,_,λb hb=>hb,HF.out.1.less (λb hb=>.inl (ZF.out b (.inl hb))),Sp.Xa hle a.page,Sp.Hu s a.page,by rw[<-HLF.out],by rw[<-HLF.out],by rw[<-HLF.out];show l.next<=_;omega,HF.out.2,by have:=Sp.Nx.iQ (d:=a.mK) (n:=(a.pg l.next).aL) (l:=l) (s:=s) a.page;rwa [HLF.out] at this⟩
 ·have d7:(a.mK:Int)%7=1:=by omega
  have JJ:=zH (x_ vY.out (AP:=AP) (cP:=cP) hN HR.out);have c1:=cA.out.cell 1;have c2:=cA.out.cell 2;have c3:=cA.out.cell 3;have c4:=cA.out.cell 4;have c5:=cA.out.cell 5;have c6:=cA.out.cell 6;have c7:=cA.out.cell 7;have c8:=cA.out.cell 8;have c9:=cA.out.cell 9;have c10:=cA.out.cell 10;simp only[dZ.cs,zGA,zGB,zGC] at c1 c2 c3 c4 c5 c6 c7 c8 c9 c10;obtain⟨y,hy⟩:=zE (a.pg l.next);have HYE:=zH hy;rw[<-hy] at JJ;obtain⟨Xq,hyl,hyt⟩:=dZ.U' (n:=l.next) rW hxw (by omega) hrow hxr hxt;rw[<-hy] at Xq hyl hyt;have HYW:=zH Xq;clear hy Xq;go_wp2_with fail;refine JJ.out.mono ?_;rintro e wp ⟨A,c,rfl,hNA,hRA,hbp⟩;clear c0 c1 c2 c3 c4 c5 c6 c7 c8 c9 c10 JJ;have HNA:=zH hNA;have Zw:=zH hRA;have ZX:=zH hbp;clear hNA hRA hbp;go_wp2_with fail;generalize hw3:World.alloc wp _=w3;have hba:zB wp w3:=by rw[<-hw3];exact(zR _).alloc (za _) _
  have fq:aj w3 wp.heap.size 64 (aG y A c):=by rw[<-hw3];exact aj.new _ _ _
  have I0:=ZX.out.trans (hba.mono ZX.out.size);have h3:=vY.out.below I0;have hsp:=ZX.out.size;have hs3:=fq.lt;have hRp:aA (λb=>G b\/(w1.heap.size<=b/\b<wp.heap.size/\nh A y.rows.length b)) wp A y.rows:=⟨Zw.out.1,λhn=>by
   obtain⟨b,o,e,hG,hlt,hc⟩:=Zw.out.2 hn;exact⟨b,o,e,hG.imp id (λh=>⟨h,hlt,hn,o,e⟩),hlt,hc⟩⟩
  have h4:=h3.rows (O':=λb=>(O b\/(w.heap.size<=b/\b<w1.heap.size))\/b=wp.heap.size) (G':=λb=>G b\/(w1.heap.size<=b/\b<wp.heap.size/\nh A y.rows.length b)) (λb hb=>by
   rcases hb with hb | hb
   ·have hl:=vY.out.lt (.inl hb);exact⟨.inl hb,λe=>e.elim (λe=>vY.out.OG hb e) (λe=>by omega)⟩
   ·subst hb;exact⟨.inr ⟨hsp,hs3⟩,λe=>e.elim (λe=>by have:=vY.out.lt (.inr (.inl e));omega) (λe=>by omega)⟩) (λb hb=>.inl hb) (λb hb=>hb.imp id (λe=>.inr ⟨e.1,by omega⟩))
  have JH:=zH (Reads.below hRp hba);have H4:=zH h4;have tL:=zH fq;have nO:=zH I0;obtain⟨g9,nC⟩:=zE wp.heap.size;generalize hGG:(λb=>G b\/(w1.heap.size<=b/\b<wp.heap.size/\nh A y.rows.length b))=G2 at*;have hG2:∀b,G b->G2 b:=λb hb=>by rw[<-hGG];exact .inl hb
  rw[<-nC] at tL H4 ⊢;clear hw3 hGG nC h3 h4 hba fq I0 hRp Zw hsp hs3;have ez:∀(W:World),aj W gP 45 #[ptr gd,ptr gl,ptr gp,ptr gr]->aj W g9 64 (aG y A c)->W.cell? ⟨gP,2,none⟩=some (ptr gp)/\W.cell? ⟨gP,3,none⟩=some (ptr gr)/\W.cell? ⟨g9,0,none⟩=some (.int .u8 y.kind)/\W.cell? ⟨g9,1,none⟩=some (.int .u8 y.level)/\W.cell? ⟨g9,2,none⟩=some (.int .u32 y.id)/\W.cell? ⟨g9,3,none⟩=some (.int .u64 y.aL)/\W.cell? ⟨g9,4,none⟩=some (.int .u32 y.next)/\W.cell? ⟨g9,5,none⟩=some (.slice A y.rows.length c):=λW h1 h2=>⟨(h1.cell 2).trans rfl,(h1.cell 3).trans rfl,(h2.cell 0).trans rfl,(h2.cell 1).trans rfl,(h2.cell 2).trans rfl,(h2.cell 3).trans rfl,(h2.cell 4).trans rfl,(h2.cell 5).trans rfl⟩;have hS:=zH (ez w3.drew H4.out.dH.drew tL.out.drew);refine fQ (fun(W:World)=>zC W gP 2 (ptr gp)/\zC W gP 3 (ptr gr)/\zC W g9 0 (.int .u8 y.kind)/\zC W g9 1 (.int .u8 y.level)/\zC W g9 2 (.int .u32 y.id)/\zC W g9 3 (.int .u64 y.aL)/\zC W g9 4 (.int .u32 y.next)/\zC W g9 5 (.slice A y.rows.length c)) (λ_=>false) ?_
  repeat (refine bK hS.out ?_)
  refine aI 5 54 (w':=w3.drew) rfl rfl (by rfl) (by kernel_rfl) ?_ (sN HNA.out (Reads.below JH.out (zR w3).drew) (by omega)) ?_
  ·go_simp
  rintro e v1 ⟨A2,c2,rfl,oq,pW,hb2⟩;have h5:=H4.out.drew.below hb2;have eC:=tL.out.drew.below hb2 tL.out.lt;have hS1:=zH (ez v1 h5.dH eC);refine⟨_,rfl,λ_=>hS1.out,?_⟩;simp only[zSA,zSB,zSC];refine aI 6 55 (w':=v1) rfl rfl (by rfl) (by kernel_rfl) ?_ (Tf (c:=c2) h5 HYW.out oq pW (by omega) (by omega)) ?_
  ·go_simp
  rintro e v2 ⟨rfl,h6,k6⟩;have gM:=eC.keep (k6.block g9 (.inl (.inl (.inr rfl))));have gB:=zH (ez v2 h6.dH gM);refine⟨_,rfl,λ_=>gB.out,?_⟩;simp only[zSA,zSB,zSC];have YQ:=(Reads.below (Reads.below JH.out (zR w3).drew) hb2).keep k6.size (λb hb=>k6.block b (.inr (.inl hb)));refine aI 12 61 (w':=v2) rfl rfl (by rfl) (by kernel_rfl) ?_ (Te (c:=c) h6 YQ (by omega) (by omega)) ?_
  ·go_simp
  rintro e v3 ⟨rfl,h7,k7⟩;have fu:=gM.keep (k7.block g9 (.inl (.inl (.inr rfl))));have gz:=zH (ez v3 h7.dH fu);refine⟨_,rfl,λ_=>gz.out,?_⟩;simp only[zSA,zSB,zSC]
  repeat (refine bK gz.out ?_)
  have cH:zB w v1:=jA.out.trans ((nO.out.trans (((zR w3).drew.trans hb2).mono nO.out.size)).mono jA.out.size);have hkk:∀b,mC gP O G b->mC gP (λb=>((O b\/(w.heap.size<=b/\b<w1.heap.size))\/b=g9)\/(w3.drew.heap.size<=b/\b<v1.heap.size)) G2 b:=λb hb=>by
   rcases hb with e | e | e
   ·exact .inl (.inl (.inl (.inl e)))
   ·exact .inr (.inl (hG2 b e))
   ·exact .inr (.inr e)
  have HF:=zH (And.intro h7 ((HKB.out v1 cH).trans ((k6.trans k7).mono hkk)));clear h5 h6 h7 k6 k7 eC gM fu hS hS1 gB gz ez hb2 pW YQ hkk cH;refine aC (by kernel_rfl) ?_ _;rename_i K9 aT;refine aT _ _ ?_;clear aT;go_wp2_with fail;go_ret;exact⟨rfl,G2,_,_,hG2,HF.out.1.less (λb hb=>.inl (.inl (.inl hb))),Sp.aF.le.up (Sp.WY hle y (bE y)) (by omega),Sp.Ho s y (bE y),rfl,rfl,by show l.next<=_;omega,HF.out.2,.put y (congrArg Sp.Pg.aL HYE.out)⟩
 ·have d7:(a.mK:Int)%7=2:=by omega
  go_wp2_with fail;have ez:∀(W:World),aj W gP 45 #[ptr gd,ptr gl,ptr gp,ptr gr]->aj W gb 67 (a.cs AX cX AP cP)->W.cell? ⟨gP,2,none⟩=some (ptr gp)/\W.cell? ⟨gP,3,none⟩=some (ptr gr)/\W.cell? ⟨gb,1,none⟩=some (.int .u32 a.page):=λW h1 h2=>⟨(h1.cell 2).trans rfl,(h1.cell 3).trans rfl,(h2.cell 1).trans rfl⟩;have hS:=zH (ez w1.drew vY.out.dH.drew cA.out.drew);refine fQ (fun(W:World)=>zC W gP 2 (ptr gp)/\zC W gP 3 (ptr gr)/\zC W gb 1 (.int .u32 a.page)) (λ_=>false) ?_
  repeat (refine bK hS.out ?_)
  refine aI 6 71 (w':=w1.drew) rfl rfl (by rfl) (by kernel_rfl) ?_ (LX vY.out.drew rW) ?_
  ·go_simp
  rintro e v1 ⟨rfl,h1,k1⟩;have aM:aj v1 gb 67 (a.cs AX cX AP cP):=cA.out.drew.keep (k1.block gb (.inl yw));have hS1:=zH (ez v1 h1.dH aM);refine⟨_,rfl,λ_=>hS1.out,?_⟩;simp only[zSA,zSB,zSC];refine aI 13 78 (w':=v1) rfl rfl (by rfl) (by kernel_rfl) ?_ (LW h1 hok a.page) ?_
  ·go_simp
  rintro e v2 ⟨rfl,h2,k2⟩;have bB:aj v2 gb 67 (a.cs AX cX AP cP):=aM.keep (k2.block gb (.inl yw));have gB:=zH (ez v2 h2.dH bB);refine⟨_,rfl,λ_=>gB.out,?_⟩;simp only[zSA,zSB,zSC]
  repeat (refine bK gB.out ?_)
  have HF:=zH (And.intro h2 (k1.trans k2));clear h1 k1 h2 k2 aM bB hS hS1 gB ez;refine aC (by kernel_rfl) ?_ _;rename_i K9 aT;refine aT _ _ ?_;clear aT;go_wp2_with fail;go_ret;exact⟨rfl,G,_,_,λb hb=>hb,HF.out.1.less (λb hb=>.inl hb),Sp.aF.le.up (Sp.N8 hle a.page) (by omega),Sp.Cw s a.page,rfl,rfl,by show l.next<=_;omega,HKW.out _ HF.out.2,.dW a.page⟩
 ·have d7:(a.mK:Int)%7=3:=by omega
  go_wp2_with fail;have ez:∀(W:World),aj W gP 45 #[ptr gd,ptr gl,ptr gp,ptr gr]->aj W gb 67 (a.cs AX cX AP cP)->W.cell? ⟨gP,2,none⟩=some (ptr gp)/\W.cell? ⟨gP,3,none⟩=some (ptr gr)/\W.cell? ⟨gb,10,none⟩=some (.slice AP a.pages.length cP):=λW h1 h2=>⟨(h1.cell 2).trans rfl,(h1.cell 3).trans rfl,(h2.cell 10).trans rfl⟩;have hS:=zH (ez w1.drew vY.out.dH.drew cA.out.drew);refine fQ (fun(W:World)=>zC W gP 2 (ptr gp)/\zC W gP 3 (ptr gr)/\zC W gb 10 (.slice AP a.pages.length cP)) (λ_=>false) ?_
  repeat (refine bK hS.out ?_)
  refine jf 6 rfl (by rfl) (by kernel_rfl) ?_;refine Ee _ rfl rfl I1 (Reads.below HRP.out (zR w1).drew) hpl ?_;intro A1 c1 v1 oh Ae hRc hb1;have h1:=vY.out.drew.below hb1;have aM:=cA.out.drew.below hb1 cA.out.lt;have hS1:=zH (ez v1 h1.dH aM);refine⟨λ_=>hS1.out,?_⟩;refine qZ 88 rfl ?_;simp only[zSA,zSB,zSC];refine aI 7 89 (w':=v1) rfl rfl (by rfl) (by kernel_rfl) ?_ (L3 (c:=c1) h1 (by omega) oh Ae hRc hpp (by omega)) ?_
  ·go_simp
  rintro e v2 ⟨rfl,h2,k2⟩;have bB:aj v2 gb 67 (a.cs AX cX AP cP):=aM.keep (k2.block gb (.inl (.inl yw)));have gB:=zH (ez v2 h2.dH bB);refine⟨_,rfl,λ_=>gB.out,?_⟩;simp only[zSA,zSB,zSC];have pW:=(Reads.below (Reads.below HRP.out (zR w1).drew) hb1).keep k2.size (λb hb=>k2.block b (.inr (.inl hb)));refine aI 14 96 (w':=v2) rfl rfl (by rfl) (by kernel_rfl) ?_ (L1 (c:=cP) h2 Bk.out pW (by omega)) ?_
  ·go_simp
  rintro e v3 ⟨rfl,h3,k3⟩;have cg:aj v3 gb 67 (a.cs AX cX AP cP):=bB.keep (k3.block gb (.inl (.inl yw)));have gz:=zH (ez v3 h3.dH cg);refine⟨_,rfl,λ_=>gz.out,?_⟩;simp only[zSA,zSB,zSC]
  repeat (refine bK gz.out ?_)
  have cH:zB w v1:=jA.out.trans (((zR w1).drew.trans hb1).mono jA.out.size);have HF:=zH (And.intro h3 ((HKB.out v1 cH).trans ((k2.trans k3).mono (λb hb=>hb.imp (λe=>.inl (.inl e)) id))));clear h1 h2 h3 k2 k3 aM bB cg hS hS1 gB gz ez hb1 hRc pW cH;refine aC (by kernel_rfl) ?_ _;rename_i K9 aT;refine aT _ _ ?_;clear aT;go_wp2_with fail;go_ret;exact⟨rfl,G,_,_,λb hb=>hb,HF.out.1.less (λb hb=>.inl (.inl hb)),Sp.aF.le.up (Sp.Rf hle a.pages) (by omega),Sp.Dq s a.pages,rfl,rfl,by show l.next<=_;omega,HF.out.2,.flush a.pages⟩
 ·have d7:(a.mK:Int)%7=4:=by omega
  go_wp2_with fail;have ez:∀(W:World),aj W gP 45 #[ptr gd,ptr gl,ptr gp,ptr gr]->aj W gb 67 (a.cs AX cX AP cP)->W.cell? ⟨gP,2,none⟩=some (ptr gp)/\W.cell? ⟨gP,3,none⟩=some (ptr gr)/\W.cell? ⟨gb,1,none⟩=some (.int .u32 a.page):=λW h1 h2=>⟨(h1.cell 2).trans rfl,(h1.cell 3).trans rfl,(h2.cell 1).trans rfl⟩;have hS:=zH (ez w1.drew vY.out.dH.drew cA.out.drew);refine fQ (fun(W:World)=>zC W gP 2 (ptr gp)/\zC W gP 3 (ptr gr)/\zC W gb 1 (.int .u32 a.page)) (λ_=>false) ?_
  repeat (refine bK hS.out ?_)
  refine aI 6 106 (w':=w1.drew) rfl rfl (by rfl) (by kernel_rfl) ?_ (L5 vY.out.drew rW) ?_
  ·go_simp
  rintro e v1 ⟨rfl,h1,k1⟩;have aM:aj v1 gb 67 (a.cs AX cX AP cP):=cA.out.drew.keep (k1.block gb (.inl yw));have hS1:=zH (ez v1 h1.dH aM);refine⟨_,rfl,λ_=>hS1.out,?_⟩;simp only[zSA,zSB,zSC];refine aI 13 113 (w':=v1) rfl rfl (by rfl) (by kernel_rfl) ?_ (L4 h1 hok a.page) ?_
  ·go_simp
  rintro e v2 ⟨rfl,h2,k2⟩;have bB:aj v2 gb 67 (a.cs AX cX AP cP):=aM.keep (k2.block gb (.inl yw));have gB:=zH (ez v2 h2.dH bB);refine⟨_,rfl,λ_=>gB.out,?_⟩;simp only[zSA,zSB,zSC]
  repeat (refine bK gB.out ?_)
  have HF:=zH (And.intro h2 (k1.trans k2));clear h1 k1 h2 k2 aM bB hS hS1 gB ez;refine aC (by kernel_rfl) ?_ _;rename_i K9 aT;refine aT _ _ ?_;clear aT;go_wp2_with fail;go_ret;exact⟨rfl,G,_,_,λb hb=>hb,HF.out.1.less (λb hb=>.inl hb),Sp.aF.le.up (Sp.Rj hle a.page) (by omega),Sp.Dt s a.page,rfl,rfl,by show l.next<=_;omega,HKW.out _ HF.out.2,.dB a.page⟩
 ·have d7:(a.mK:Int)%7=5:=by omega
  have JJ:=zH (x_ vY.out (AP:=AP) (cP:=cP) hN HR.out);have c1:=cA.out.cell 1;have c2:=cA.out.cell 2;have c3:=cA.out.cell 3;have c4:=cA.out.cell 4;have c5:=cA.out.cell 5;have c6:=cA.out.cell 6;have c7:=cA.out.cell 7;have c8:=cA.out.cell 8;have c9:=cA.out.cell 9;have c10:=cA.out.cell 10;simp only[dZ.cs,zGA,zGB,zGC] at c1 c2 c3 c4 c5 c6 c7 c8 c9 c10;obtain⟨y,hy⟩:=zE (a.pg l.next);have HYE:=zH hy;rw[<-hy] at JJ;obtain⟨Xq,hyl,hyt⟩:=dZ.U' (n:=l.next) rW hxw (by omega) hrow hxr hxt;rw[<-hy] at Xq hyl hyt;have HYW:=zH Xq;clear hy Xq;go_wp2_with fail;refine JJ.out.mono ?_;rintro e wp ⟨A,c,rfl,hNA,hRA,hbp⟩;clear c0 c1 c2 c3 c4 c5 c6 c7 c8 c9 c10 JJ;have HNA:=zH hNA;have Zw:=zH hRA;have ZX:=zH hbp;clear hNA hRA hbp;go_wp2_with fail;generalize hw3:World.alloc wp _=w3;have hba:zB wp w3:=by rw[<-hw3];exact(zR _).alloc (za _) _
  have fq:aj w3 wp.heap.size 64 (aG y A c):=by rw[<-hw3];exact aj.new _ _ _
  have I0:=ZX.out.trans (hba.mono ZX.out.size);have h3:=vY.out.below I0;have hsp:=ZX.out.size;have hs3:=fq.lt;have hRp:aA (λb=>G b\/(w1.heap.size<=b/\b<wp.heap.size/\nh A y.rows.length b)) wp A y.rows:=⟨Zw.out.1,λhn=>by
   obtain⟨b,o,e,hG,hlt,hc⟩:=Zw.out.2 hn;exact⟨b,o,e,hG.imp id (λh=>⟨h,hlt,hn,o,e⟩),hlt,hc⟩⟩
  have h4:=h3.rows (O':=λb=>(O b\/(w.heap.size<=b/\b<w1.heap.size))\/b=wp.heap.size) (G':=λb=>G b\/(w1.heap.size<=b/\b<wp.heap.size/\nh A y.rows.length b)) (λb hb=>by
   rcases hb with hb | hb
   ·have hl:=vY.out.lt (.inl hb);exact⟨.inl hb,λe=>e.elim (λe=>vY.out.OG hb e) (λe=>by omega)⟩
   ·subst hb;exact⟨.inr ⟨hsp,hs3⟩,λe=>e.elim (λe=>by have:=vY.out.lt (.inr (.inl e));omega) (λe=>by omega)⟩) (λb hb=>.inl hb) (λb hb=>hb.imp id (λe=>.inr ⟨e.1,by omega⟩))
  have JH:=zH (Reads.below hRp hba);have H4:=zH h4;have tL:=zH fq;have nO:=zH I0;obtain⟨g9,nC⟩:=zE wp.heap.size;generalize hGG:(λb=>G b\/(w1.heap.size<=b/\b<wp.heap.size/\nh A y.rows.length b))=G2 at*;have hG2:∀b,G b->G2 b:=λb hb=>by rw[<-hGG];exact .inl hb
  rw[<-nC] at tL H4 ⊢;clear hw3 hGG nC h3 h4 hba fq I0 hRp Zw hsp hs3;have ez:∀(W:World),aj W gP 45 #[ptr gd,ptr gl,ptr gp,ptr gr]->aj W g9 64 (aG y A c)->W.cell? ⟨gP,2,none⟩=some (ptr gp)/\W.cell? ⟨gP,3,none⟩=some (ptr gr)/\W.cell? ⟨g9,0,none⟩=some (.int .u8 y.kind)/\W.cell? ⟨g9,1,none⟩=some (.int .u8 y.level)/\W.cell? ⟨g9,2,none⟩=some (.int .u32 y.id)/\W.cell? ⟨g9,3,none⟩=some (.int .u64 y.aL)/\W.cell? ⟨g9,4,none⟩=some (.int .u32 y.next)/\W.cell? ⟨g9,5,none⟩=some (.slice A y.rows.length c):=λW h1 h2=>⟨(h1.cell 2).trans rfl,(h1.cell 3).trans rfl,(h2.cell 0).trans rfl,(h2.cell 1).trans rfl,(h2.cell 2).trans rfl,(h2.cell 3).trans rfl,(h2.cell 4).trans rfl,(h2.cell 5).trans rfl⟩;have hS:=zH (ez w3.drew H4.out.dH.drew tL.out.drew);refine fQ (fun(W:World)=>zC W gP 2 (ptr gp)/\zC W gP 3 (ptr gr)/\zC W g9 0 (.int .u8 y.kind)/\zC W g9 1 (.int .u8 y.level)/\zC W g9 2 (.int .u32 y.id)/\zC W g9 3 (.int .u64 y.aL)/\zC W g9 4 (.int .u32 y.next)/\zC W g9 5 (.slice A y.rows.length c)) (λ_=>false) ?_
  repeat (refine bK hS.out ?_)
  refine aI 5 125 (w':=w3.drew) rfl rfl (by rfl) (by kernel_rfl) ?_ (sN HNA.out (Reads.below JH.out (zR w3).drew) (by omega)) ?_
  ·go_simp
  rintro e v1 ⟨A2,c2,rfl,oq,pW,hb2⟩;have h5:=H4.out.drew.below hb2;have eC:=tL.out.drew.below hb2 tL.out.lt;have hS1:=zH (ez v1 h5.dH eC);refine⟨_,rfl,λ_=>hS1.out,?_⟩;simp only[zSA,zSB,zSC];refine aI 6 126 (w':=v1) rfl rfl (by rfl) (by kernel_rfl) ?_ (LZ (c:=c2) h5 HYW.out oq pW (by omega) (by omega)) ?_
  ·go_simp
  rintro e v2 ⟨rfl,h6,k6⟩;have gM:=eC.keep (k6.block g9 (.inl (.inl (.inr rfl))));have gB:=zH (ez v2 h6.dH gM);refine⟨_,rfl,λ_=>gB.out,?_⟩;simp only[zSA,zSB,zSC];have YQ:=(Reads.below (Reads.below JH.out (zR w3).drew) hb2).keep k6.size (λb hb=>k6.block b (.inr (.inl hb)));refine aI 12 132 (w':=v2) rfl rfl (by rfl) (by kernel_rfl) ?_ (LY (c:=c) h6 Bk.out HYW.out YQ (by omega) (by omega)) ?_
  ·go_simp
  rintro e v3 ⟨rfl,h7,k7⟩;have fu:=gM.keep (k7.block g9 (.inl (.inl (.inr rfl))));have gz:=zH (ez v3 h7.dH fu);refine⟨_,rfl,λ_=>gz.out,?_⟩;simp only[zSA,zSB,zSC]
  repeat (refine bK gz.out ?_)
  have cH:zB w v1:=jA.out.trans ((nO.out.trans (((zR w3).drew.trans hb2).mono nO.out.size)).mono jA.out.size);have hkk:∀b,mC gP O G b->mC gP (λb=>((O b\/(w.heap.size<=b/\b<w1.heap.size))\/b=g9)\/(w3.drew.heap.size<=b/\b<v1.heap.size)) G2 b:=λb hb=>by
   rcases hb with e | e | e
   ·exact .inl (.inl (.inl (.inl e)))
   ·exact .inr (.inl (hG2 b e))
   ·exact .inr (.inr e)
  have HF:=zH (And.intro h7 ((HKB.out v1 cH).trans ((k6.trans k7).mono hkk)));clear h5 h6 h7 k6 k7 eC gM fu hS hS1 gB gz ez hb2 pW YQ hkk cH;refine aC (by kernel_rfl) ?_ _;rename_i K9 aT;refine aT _ _ ?_;clear aT;go_wp2_with fail;go_ret;exact⟨rfl,G2,_,_,hG2,HF.out.1.less (λb hb=>.inl (.inl (.inl hb))),Sp.aF.le.up (Sp.Rc hle y (bE y)) (by omega),Sp.Di s y (bE y),rfl,rfl,by show l.next<=_;omega,HF.out.2,.fresh y (congrArg Sp.Pg.aL HYE.out)⟩
 ·have d7:(a.mK:Int)%7=6:=by omega
  go_wp2_with fail;have ez:∀(W:World),aj W gP 45 #[ptr gd,ptr gl,ptr gp,ptr gr]->aj W gb 67 (a.cs AX cX AP cP)->W.cell? ⟨gP,2,none⟩=some (ptr gp)/\W.cell? ⟨gP,3,none⟩=some (ptr gr)/\W.cell? ⟨gP,1,none⟩=some (ptr gl)/\W.cell? ⟨gb,9,none⟩=some (str a.row):=λW h1 h2=>⟨(h1.cell 2).trans rfl,(h1.cell 3).trans rfl,(h1.cell 1).trans rfl,(h2.cell 9).trans rfl⟩;have hS:=zH (ez w1.drew vY.out.dH.drew cA.out.drew);refine fQ (fun(W:World)=>zC W gP 2 (ptr gp)/\zC W gP 3 (ptr gr)/\zC W gP 1 (ptr gl)/\zC W gb 9 (str a.row)) (λ_=>false) ?_
  repeat (refine bK hS.out ?_)
  refine aI 6 140 (w':=w1.drew) rfl rfl (by rfl) (by kernel_rfl) ?_ (L8 vY.out.drew (by omega) (by omega) a.row (by omega)) ?_
  ·go_simp
  rintro e v1 ⟨vv,l2,rfl,h1,k1,n1,r1,x1⟩;have aM:aj v1 gb 67 (a.cs AX cX AP cP):=cA.out.drew.keep (k1.block gb (.inl yw));have hS1:=zH (ez v1 h1.dH aM);refine⟨_,rfl,λ_=>hS1.out,?_⟩;simp only[zSA,zSB,zSC];have uJ:=zH h1;have HHB:=zH aM;have HK1:=zH k1;clear h1 aM k1 hS hS1;refine aC (by kernel_rfl) ?_ _;rename_i K9 aT;refine aT _ _ ?_;clear aT;go_wp2_with fail;obtain⟨vL,vD,hgr⟩:=uJ.out.cells;have hS:=zH (ez v1.drew uJ.out.dH.drew HHB.out.drew);have c4:=hgr.drew.cell 4;have f4:=hgr.drew.frozen 4;simp only[zGA,zGB,zGC] at c4;refine fQ (fun(W:World)=>zC W gP 2 (ptr gp)/\zC W gP 3 (ptr gr)/\zC W gP 1 (ptr gl)/\zC W gb 9 (str a.row)) (λj=>decide (11<=j)) ?_
  repeat (refine bK hS.out ?_)
  refine aI 8 149 (w':=v1.drew) rfl rfl (by rfl) (by kernel_rfl) ?_ (pQ uJ.out.drew) ?_
  ·go_simp
  rintro e v2 ⟨rfl,rfl⟩;refine⟨_,rfl,λ_=>hS.out,?_⟩;simp only[zSA,zSB,zSC]
  repeat (refine bK hS.out ?_)
  refine jx 11 (w':=v1.drew.setCell ⟨gr,4,none⟩ (.int .u64 l2.next)) rfl (by go_simp) (λh=>nomatch h) ?_;have oM:=uJ.out.drew.wA l2.next;have Gy:Kept (mC gP (λb=>O b\/(w.heap.size<=b/\b<w1.heap.size)) G) v1 v1.drew:=⟨rfl,rfl,rfl,za _,λ_ _=>rfl⟩;have HF:=zH (And.intro oM.1 (HK1.out.trans (Gy.trans oM.2)));clear oM c4 f4 hS ez hgr;refine aC (by kernel_rfl) ?_ _;rename_i K9 aT;refine aT _ _ ?_;clear aT;go_wp2_with fail;go_ret;exact⟨rfl,G,l2,{s with next:=l2.next},λb hb=>hb,HF.out.1.less (λb hb=>.inl hb),Sp.aF.le.up (s:=s) hle (by omega),rfl,n1,r1,x1,HKW.out _ HF.out.2,.append l2 (by omega)⟩
end
end
end Go.Proofs.YtfpjlkdklgokiaaGreat
