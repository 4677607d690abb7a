/- A part of the proof of CheckTakes. -/
import Derived.Deep.CutBlock
import Derived.Laws.AppendOwnNone
import Derived.Test.YtfpjlkdklgokiaaGreatZE
namespace Go.Proofs.YtfpjlkdklgokiaaGreat
set_option maxRecDepth 100000
set_option maxHeartbeats 40000000
open Go.RowKit
open Go.Proofs.Tryz
variable {n g k gp gd c gl i id b s r cb mb fb cd h N m fuel j ct p B cap sz gr z gt x aL:Nat} {v c1 c2 c3 c0 c5 c4:Value} {w' W:World} {A D T:Option Addr} {a:Act} {ids q fl l rest:List Nat} {xs fs:List Value} {o oi:Oper} {listed:Array Bool} {P:Program} {e t:TypeId} {args cs' buf:Array Value} {tm:Bool}
open Go.RowKit Go.Conc
namespace Sp
def J7 (L:List RI) (m id:Nat):Nat:=match cJ L id with
 | some x=>if x.aK then max m x.page.aL else m
 | none=>m
theorem Ig (L:List RI) (q:List Nat) (n:Nat):gG L (q++[n])=J7 L (gG L q) n:=by
 unfold gG;rw[List.foldl_append];rfl
theorem Ie {L:List RI} (hi:i<q.length) {x:RI} (hx:cJ L q[i]=some x):gG L (q.take (i+1))=if x.aK then max (gG L (q.take i)) x.page.aL else gG L (q.take i):=by
 rw[zg hi,Ig];unfold J7;rw[hx]
def vT (L:List RI) (q:List Nat):Nat:=q.countP (aW L)
theorem M_ {L:List RI} (hi:i<q.length) {x:RI} (hx:cJ L q[i]=some x):vT L (q.take (i+1))=if x.aK then vT L (q.take i)+1 else vT L (q.take i):=by
 unfold vT;rw[zg hi,List.countP_append];have e:aW L q[i]=x.aK:=by unfold aW;rw[hx]
 rw[List.countP_singleton,e]
 cases x.aK<;>rfl
theorem Cf {L:List RI}:vT L q=0↔q.all (λid=> !aW L id)=true:=by
 unfold vT;rw[List.countP_eq_zero,List.all_eq_true];constructor
 ·intro h x hx;have:=h x hx;simpa using this
 ·intro h x hx;have:=h x hx;simpa using this
end Sp
def sy:Array Value:=#[.int .u8 0,.int .u8 0,.int .u32 0,.int .u64 0,.int .u32 0,.slice none 0 0,.int .i64 0,.bool false,.int .u64 0]
theorem eI:(prog.info? 64).map (·.size)=some 6:=by kernel_rfl
theorem sx (x:Sp.RI) (A:Option Addr) (c:Nat):aD sy 0 (au x A c)=(au x A c).toArray:=by simp[aD,sy,au]
section
variable {B gr:Nat} {G:af} {w:World} {vL vD:Value} {s:Sp.aF}
theorem Bz (h:bG B G w gr vL vD s) {G1:af} {A0:Option Addr} {c0:Nat} (yB:Reads G1 w 1 A0 q.length (q.map av)) (MV:rf w (fR gr vL vD) G1) (hq:∀n∈q,Sp.dJ s.L n=true) (TV:q.length<=100000) (hls:∀x∈s.L,x.page.aL<18446744073709551616)
 (hin:∀x∈s.L,1<=x.page.id/\x.page.id<=s.top):
 Calls prog 148 #[ptr gr,.slice A0 q.length c0] w λe w'=>e=.returned (.int .i64 (s.write q).1)/\bG B G w' gr vL vD (s.write q).2/\aa (fR gr vL vD) (fR gr vL vD) w w':=by
 obtain⟨r,hr⟩:=zE (s.write q);rw[<-hr];have HE:=zH hr;obtain⟨gD,cD,rfl,_⟩:=h.cm;have H:=zH h;have JI:=zH yB;have HQ:=zH hq;have Wx:=zH MV;have tS:=zH hin;have HLS:=zH hls;clear hr h yB hq MV hin hls;go_enter func148,ntmps148;go_wp2_with fail;go_loopw [5,6,7] (λv5 v6 v7 wr=>∃i:Nat,i<=q.length/\v5=.int .u64 (Sp.gG s.L (q.take i):Nat)/\v6=.int .i64 (Sp.vT s.L (q.take i):Nat)/\v7=.int .i64 i/\zB w wr) (λ_ _ v7 _=>q.length-(intOf v7).toNat)
 case atStart=>exact⟨0,by omega,rfl,rfl,rfl,Below.refl _ _⟩
 case round=>
  obtain⟨i,hi,rfl,rfl,rfl,hbr⟩:=hrel;by_cases hlt:i<q.length
  ·obtain⟨b,o,u,rfl,I2,cH,hu,hcell⟩:=(Reads.below JI.out hbr).at_ hlt;have Vh:u=av q[i]:=by
    rw[zN,zk hlt] at hu;injection hu with hu;exact hu.symm
   subst Vh;have h1:=H.out.below hbr;rcases Sp.gO s q[i] with⟨_,_,hno⟩ | ⟨k,hk,hat,hid,cQ,_⟩
   ·rw[HQ.out q[i] (zw hlt)] at hno;cases hno
   ·obtain⟨g,c,A,c',rfl,hA,hR,hc⟩:=h1.item hk;have C5:=Sp.Ie hlt cQ;have IX:=Sp.M_ hlt cQ;obtain⟨x,hx⟩:=zE (s.L[k]);rw[<-hx] at C5 IX hc hR hid cQ;have Uj:∀W,zB wr W->W.cell? ⟨gr,1,none⟩=some (.slice (some ⟨g,0,none⟩) s.L.length c)/\W.cell? ⟨b,o+i,none⟩=some (av q[i])/\W.cell? ⟨g,k*9,none⟩=some (.int .u8 x.page.kind)/\W.cell? ⟨g,k*9+1,none⟩=some (.int .u8 x.page.level)/\W.cell? ⟨g,k*9+2,none⟩=some (.int .u32 x.page.id)/\W.cell? ⟨g,k*9+3,none⟩=some (.int .u64 x.page.aL)/\W.cell? ⟨g,k*9+4,none⟩=some (.int .u32 x.page.next)/\W.cell? ⟨g,k*9+5,none⟩=some (.slice A x.page.rows.length c')/\W.cell? ⟨g,k*9+6,none⟩=some (.int .i64 x.pins)/\W.cell? ⟨g,k*9+7,none⟩=some (.bool x.aK)/\W.cell? ⟨g,k*9+8,none⟩=some (.int .u64 x.from_):=λW hb=>by
     have hw:=(h1.below hb);have c1:=hw.blk.cell 1;have hgg:g<wr.heap.size:=World.block_lt_of_cell? wr _ ((hc 0 (by omega)).trans rfl);have qP:∀j,j<9->W.cell? ⟨g,k*9+j,none⟩=(au x A c')[j]? :=λj hj=>(hb.cell (p:=⟨g,k*9+j,none⟩) hgg).trans (hc j hj);exact⟨c1,(hb.cell (p:=⟨b,o+i,none⟩) cH).trans hcell,qP 0 (by omega),qP 1 (by omega),qP 2 (by omega),qP 3 (by omega),qP 4 (by omega),qP 5 (by omega),qP 6 (by omega),qP 7 (by omega),qP 8 (by omega)⟩
    have wK:=zH Uj;have DV:=zH fun(W:World) (hb:zB wr W)=>lX (h1.below hb) q[i];rw[hat] at DV;have hmeas:i+1<=q.length:=hlt;clear Uj h1 hc hR hat cQ hx hA hid;go_wp2_with fail;go_cut [8] from 12 to 38 (λv wy=>∃gx,v=ptr gx/\aj wy gx 207 (au x A c').toArray/\zB wr wy)
    case first=>
     have hb0:zB wr wr.drew:=(zR wr).drew;have BZ:=zH (wK.out wr.drew hb0);refine fQ (fun(W:World)=>zC W gr 1 (.slice (some ⟨g,0,none⟩) s.L.length c)/\zC W b (o+i) (av q[i])/\zC W g (k*9) (.int .u8 x.page.kind)/\zC W g (k*9+1) (.int .u8 x.page.level)/\zC W g (k*9+2) (.int .u32 x.page.id)/\zC W g (k*9+3) (.int .u64 x.page.aL)/\zC W g (k*9+4) (.int .u32 x.page.next)/\zC W g (k*9+5) (.slice A x.page.rows.length c')/\zC W g (k*9+6) (.int .i64 x.pins)/\zC W g (k*9+7) (.bool x.aK)/\zC W g (k*9+8) (.int .u64 x.from_)) (λj=>decide (13<=j)) ?_
     iterate 9 (refine bK BZ.out ?_)
     refine gR (rs:=[9,12]) (by kernel_rfl) (by simp) (λi hi=>?_);simp only[zW,zak,or_false] at hi;rcases hi with rfl | rfl
     ·skip;refine lI 27 (w':=wr.drew) rfl rfl (by rfl) ?_ (DV.out wr.drew hb0) ?_
      ·go_simp
      rintro e v1 ⟨rfl,hc1⟩;have hb1:=hb0.trans (hc1.mono hb0.size);have hS1:=zH (wK.out v1 hb1);refine⟨_,rfl,λ_=>hS1.out,?_⟩;simp only[zSA,zSB,zSC]
      iterate 2 (refine bK hS1.out ?_)
      have hc2:=(zR v1).alloc (za _) (.cells sy 207);have hb2:=hb1.trans (hc2.mono hb1.size);have hn2:=aj.new v1 207 sy;have hg2:wr.heap.size<=v1.heap.size:=hb1.size;have gB:=zH (wK.out _ hb2);refine fe 12 8 (v:=ptr v1.heap.size) (w':=(v1.alloc (.cells sy 207))) rfl ?_ (λ_=>gB.out) ?_
      ·first | (go_simp;done) | (go_simp;rfl)
      refine jx 13 (w':=((v1.alloc (.cells sy 207)).setRow v1.heap.size (aD sy 0 (au x A c')))) rfl (aq _ _ _ ⟨v1.heap.size,0,none⟩ _ rfl rfl rfl (ax _ _ 0 _ _ sy (au x A c').toArray hn2 ic (by show 0+9<=9;omega) (by simp[au,Value.oneCell']))) (λh=>nomatch h) ?_;refine aC (by kernel_rfl) ?_ _;rename_i K9 aT;refine aT _ _ ?_;clear aT;go_meet
      case rel=>exact⟨v1.heap.size,rfl,by rw[<-sx];exact hn2.setRow _,below_setRow hb2 hg2 _⟩
     ·skip;have hc1:=(zR wr.drew).alloc (za _) (.cells sy 207);have hb1:=hb0.trans (hc1.mono hb0.size);have hn1:=aj.new wr.drew 207 sy;have hg1:wr.heap.size<=wr.drew.heap.size:=hb0.size;have hS1:=zH (wK.out _ hb1);refine cN 8 (v:=ptr wr.drew.heap.size) (w':=(wr.drew.alloc (.cells sy 207))) rfl rfl (by rfl) ?_ ⟨λ_=>hS1.out,?_⟩
      ·first | (go_simp;done) | (go_simp;rfl)
      simp only[zSA,zSB,zSC];refine aI 9 27 (w':=(wr.drew.alloc (.cells sy 207))) rfl rfl (by rfl) (by kernel_rfl) ?_ (DV.out (wr.drew.alloc (.cells sy 207)) hb1) ?_
      ·go_simp
      rintro e v2 ⟨rfl,hc2⟩;have hb2:=hb1.trans (hc2.mono hb1.size);have gB:=zH (wK.out v2 hb2);refine⟨_,rfl,λ_=>gB.out,?_⟩;simp only[zSA,zSB,zSC];have hn2:=hn1.below hc2 hn1.lt
      iterate 2 (refine bK gB.out ?_)
      refine jx 13 (w':=(v2.setRow wr.drew.heap.size (aD sy 0 (au x A c')))) rfl (aq _ _ _ ⟨wr.drew.heap.size,0,none⟩ _ rfl rfl rfl (ax _ _ 0 _ _ sy (au x A c').toArray hn2 ic (by show 0+9<=9;omega) (by simp[au,Value.oneCell']))) (λh=>nomatch h) ?_;refine aC (by kernel_rfl) ?_ _;rename_i K9 aT;refine aT _ _ ?_;clear aT;go_meet
      case rel=>exact⟨wr.drew.heap.size,rfl,by rw[<-sx];exact hn2.setRow _,below_setRow hb2 hg1 _⟩
    case rest=>
     rename_i K9 aT;refine aT _ _ ?_;clear aT wK DV;obtain⟨gx,rfl,hX,hby⟩:=hcut;have x7:=hX.cell 7;have x3:=hX.cell 3;simp only[au,zGA,zGB,zGC] at x7 x3;have hbz:=hbr.trans (hby.mono hbr.size);clear hX hby
     cases hd:x.aK with
     | false=>
      rw[hd] at x7;rw[hd,zD (by decide)] at C5 IX;go_wp2_with fail;go_roundw
      case rel=>exact⟨i+1,hmeas,by rw[C5],by rw[IX],by go_num,hbz⟩
      case measure=>simp[intOf];omega
     | true=>
      rw[hd] at x7;rw[hd,zK rfl] at C5 IX;generalize hl0:Sp.gG s.L (q.take i)=l0 at*;have hcb:Sp.vT s.L (q.take i)<=100000:=by
       have h1:Sp.vT s.L (q.take i)<=(q.take i).length:=List.countP_le_length;have h2:(q.take i).length<=q.length:=by rw[zag];omega
       omega
      generalize hc0:Sp.vT s.L (q.take i)=n0 at*;generalize x.page.aL=l1 at*;go_wp2_with fail;go_roundw
      case rel=>exact⟨i+1,hmeas,by rw[C5];congr 1;rw[Nat.max_def,Int.max_def];split<;>split<;>omega,by rw[IX];go_num,by go_num,hbz⟩
      case measure=>simp[intOf];omega
  ·obtain rfl:i=q.length:=by omega
   rw[zL];have h1:=H.out.below hbr;have c3:=h1.blk.cell 3;have c4:=h1.blk.cell 4;simp only[zGA,zGB,zGC] at c3 c4;have H1:=zH h1;clear h1 hlt hi;by_cases h0:Sp.vT s.L q=0
   ·have e1:s.write q=(0,s):=by unfold Sp.aF.write;rw[zK (Sp.Cf.1 h0)]
    rw[h0];go_wp2_with fail;go_ret;rw[HE.out,e1];exact⟨rfl,H1.out,aa.az hbr _⟩
   ·have hall:q.all (λid=> !Sp.aW s.L id)=false:=by
     cases hh:q.all (λid=> !Sp.aW s.L id) with
     | false=>rfl
     | true=>exact absurd (Sp.Cf.2 hh) h0
    generalize Sp.vT s.L q=n0 at*;have d0:((n0:Int)==0)=false:=by rw[zv];omega
    have d1:¬(n0:Int)=0:=by omega
    by_cases h2:s.next<Sp.gG s.L q
    ·have e1:s.write q=(2,s):=by unfold Sp.aF.write;rw[zD (by rw[hall];decide),zK h2]
     generalize Sp.gG s.L q=l0 at*;have d2:decide ((s.next:Int)<(l0:Int))=true:=by rw[zA];omega
     have d3:(s.next:Int)<(l0:Int):=by omega
     go_wp2_with fail;go_ret;rw[HE.out,e1];exact⟨rfl,H1.out,aa.az hbr _⟩
    ·have hw:=Sp.Le hall (by omega);generalize Sp.gG s.L q=l0 at*;obtain⟨F,hF⟩:=zE (if s.forced<=l0 then s.next else s.forced);rw[<-hF,<-HE.out] at hw;have HW:=zH hw;have GP:=zH hF;have d2:decide ((s.next:Int)<(l0:Int))=false:=by rw[ze];omega
     have d3:¬(s.next:Int)<(l0:Int):=by omega
     clear HE hw hF h0 hall;go_upto_if 52 with fail;go_cut [5] (λv wy=>v=.int .u64 l0/\bG B G wy gr vL (.slice (some ⟨gD,0,none⟩) (s.top+1) cD) (s.DY F [])/\aa (fR gr vL (.slice (some ⟨gD,0,none⟩) (s.top+1) cD)) (fR gr vL (.slice (some ⟨gD,0,none⟩) (s.top+1) cD)) w wy)
     case first=>
      by_cases hf:s.forced<=l0
      ·have d4:decide ((s.forced:Int)<=(l0:Int))=true:=by rw[zA];omega
       have d5:(s.forced:Int)<=(l0:Int):=by omega
       have f3:=H1.out.blk.frozen 3;go_wp2_with fail;go_meet
       case rel=>
        refine⟨rfl,?_,(aa.az hbr _).setCell (p:=⟨gr,3,none⟩) (.inl (.inl rfl)) _⟩;rw[Sp.Ec,GP.out,zK hf];exact H1.out.LJ s.next
      ·have d4:decide ((s.forced:Int)<=(l0:Int))=false:=by rw[ze];omega
       have d5:¬(s.forced:Int)<=(l0:Int):=by omega
       go_wp2_with fail;go_meet
       case rel=>
        refine⟨rfl,?_,aa.az hbr _⟩;rw[Sp.Ec,GP.out,zD hf];exact H1.out
     case rest=>
      rename_i K9 aT;refine aT _ _ ?_;obtain⟨rfl,h3,gA⟩:=hcut;clear aT H1 GP c3 c4 d0 d1 d2 d3 h2 hbr;have HS3:=zH (show bG B G _ gr vL _ (s.DY F [])/\_ from⟨h3,gA⟩);clear h3 gA;go_wp2_with fail;go_loopw [9] (λv9 wr=>∃i:Nat,i<=q.length/\v9=.int .i64 i/\bG B G wr gr vL (.slice (some ⟨gD,0,none⟩) (s.top+1) cD) (s.DY F (q.take i))/\aa (fR gr vL (.slice (some ⟨gD,0,none⟩) (s.top+1) cD)) (fR gr vL (.slice (some ⟨gD,0,none⟩) (s.top+1) cD)) w wr) (λv9 _=>q.length-(intOf v9).toNat)
      case atStart=>exact⟨0,by omega,rfl,by rw[List.take_zero];exact HS3.out.1,HS3.out.2⟩
      case round=>
       clear HS3;obtain⟨i,hi,rfl,h1,gX⟩:=hrel;by_cases hlt:i<q.length
       ·obtain⟨b,o,u,rfl,I2,cH,hu,hcell⟩:=(Reads.turns JI.out gX Wx.out).at_ hlt;have Vh:u=av q[i]:=by
         rw[zN,zk hlt] at hu;injection hu with hu;exact hu.symm
        subst Vh;have sS:=Sp.NT (s:=s) H.out.nd F (q.take i) q[i];rw[<-zg hlt] at sS;have nB:Sp.dJ (s.DY F (q.take i)).L q[i]=true:=by rw[Sp.SQ];exact HQ.out q[i] (zw hlt)
        have Yb:∀x∈(s.DY F (q.take i)).L,1<=x.page.id/\x.page.id<=s.top:=λx hx=>by
         obtain⟨y,hy,rfl⟩:=zn.1 hx;rw[Sp.je];exact tS.out y hy
        have qo:(s.DY F (q.take i)).top=s.top:=rfl;have hmeas:i+1<=q.length:=hlt;obtain⟨s1,hs1⟩:=zE (s.DY F (q.take i));rw[<-hs1] at h1 sS nB Yb qo;rcases Sp.gO s1 q[i] with⟨_,_,hno⟩ | ⟨k,hk,hat,hid,cQ,_⟩
        ·rw[nB] at hno;cases hno
        ·have vZ:=zH (lX h1 q[i]);rw[hat] at vZ;have hw1:s1.w1 q[i]=if s1.L[k].aK=true then{s1 with L:=s1.L.set k {s1.L[k] with aK:=false,from_:=0},cm:=λm=>if m=q[i] then s1.L[k].page else s1.cm m} else s1:=by
          unfold Sp.aF.w1;rw[cQ];have jY:=Sp.v_ h1.nd hk (f:=λy=>{y with aK:=false,from_:=0});rw[hid] at jY;rw[jY]
         rw[hw1] at sS;have UK:=zH sS;have H1:=zH h1;have uH:=zH gX;have T4:=Yb s1.L[k] (zw hk);rw[hid] at T4;have hds:decide ((k:Int)<0)=false:=by rw[ze];omega
         clear hs1 h1 sS nB Yb hat cQ hw1 gX hi hu;go_wp2_with fail;refine vZ.out.mono ?_;rintro e w2 ⟨rfl,hb2⟩;have h2:=H1.out.below hb2;obtain⟨g,c,A,c',rfl,hA,hR,hc⟩:=h2.item hk;have c1:=h2.blk.cell 1;have c2:=h2.blk.cell 2;simp only[zGA,zGB,zGC] at c1 c2;have GK:=zH (uH.out.trans (aa.az hb2 _));have HR:=zH hR;have H2:=zH h2;have k0:=hc 0 (by omega);have k1:=hc 1 (by omega);have k2:=hc 2 (by omega);have k3:=hc 3 (by omega);have k4:=hc 4 (by omega);have k5:=hc 5 (by omega);have k6:=hc 6 (by omega);have k7:=hc 7 (by omega);have k8:=hc 8 (by omega);simp only[au,zGB,zGC,Nat.add_zero] at k0 k1 k2 k3 k4 k5 k6 k7 k8;clear hc hR h2 vZ uH H1 hb2
         cases hd:s1.L[k].aK with
         | false=>
          rw[hd] at k7;have C2:=UK.out;rw[hd,zD (by decide)] at C2;have R9:=zH C2;clear C2;go_wp2_with fail;go_roundw
          case rel=>
           refine⟨i+1,hmeas,by go_num,?_,GK.out.trans (aa.az ((zR _).alloc (za _) _) _)⟩;rw[R9.out];exact H2.out.below ((zR _).alloc (za _) _)
          case measure=>simp[intOf];omega
         | true=>
          rw[hd] at k7;have C2:=UK.out;rw[hd,zK rfl] at C2;have R9:=zH C2;clear C2 UK;go_wp2_with fail;have hgx:¬(fR gr (.slice (some ⟨g,0,none⟩) s1.L.length c) (.slice (some ⟨gD,0,none⟩) (s.top+1) cD) w2.heap.size\/G w2.heap.size):=λe=>by have:=H2.out.lt e;omega
          have hgxw:w.heap.size<=w2.heap.size:=GK.out.size;obtain⟨x,hxx⟩:=zE (s1.L[k]);rw[<-hxx] at k0 k1 k2 k3 k4 k5 k6 k8 hd R9 HR hid ⊢;obtain⟨x',hx'⟩:∃x':Sp.RI,x'={x with aK:=false,from_:=0}:=⟨_,rfl⟩;rw[<-hx'] at R9;have B2:(au x A c').toArray=#[.int .u8 x.page.kind,.int .u8 x.page.level,.int .u32 q[i],.int .u64 x.page.aL,.int .u32 x.page.next,.slice A x.page.rows.length c',.int .i64 x.pins,.bool true,.int .u64 x.from_]:=by simp only[au,hd,hid]
          generalize hw3:World.alloc w2 _=w3;have uw:zB w2 w3:=by rw[<-hw3];exact(zR _).alloc (za _) _
          have hX:aj w3 w2.heap.size 207 (au x A c').toArray:=by rw[B2,<-hw3];exact aj.new _ _ _
          have hbd:zB w2 w3.drew:=uw.trans ((zR w3).drew.mono uw.size);have h3:=H2.out.below hbd;rw[show s.top=s1.top from qo.symm] at h3;have wF:aA G w3.drew A x.page.rows:=Reads.below HR.out hbd;obtain⟨FV,hBD,hszD,Vk⟩:=h3.setD (q:=q[i]) T4.1 (by rw[qo];exact T4.2) (c':=c') hA wF;have c2:=h3.blk.cell 2;simp only[zGA,zGB,zGC] at c2;have z0:=hX.drew.cell 0;have z1:=hX.drew.cell 1;have z2:=hX.drew.cell 2;have z3:=hX.drew.cell 3;have z4:=hX.drew.cell 4;have z5:=hX.drew.cell 5;simp only[au,zGA,zGB,zGC] at z0 z1 z2 z3 z4 z5;rw[hid] at z2;have hS:Hid (zC w3.drew gr 2 (.slice (some ⟨gD,0,none⟩) (s1.top+1) cD)/\zC w3.drew w2.heap.size 0 (.int .u8 x.page.kind)/\zC w3.drew w2.heap.size 1 (.int .u8 x.page.level)/\zC w3.drew w2.heap.size 2 (.int .u32 q[i])/\zC w3.drew w2.heap.size 3 (.int .u64 x.page.aL)/\zC w3.drew w2.heap.size 4 (.int .u32 x.page.next)/\zC w3.drew w2.heap.size 5 (.slice A x.page.rows.length c')):=⟨c2,z0,z1,z2,z3,z4,z5⟩;have hne:w2.heap.size≠gD:=λe=>hgx (.inl (.inr (.inr (by rw[e];rfl))));have epg:(aG x.page A c')=#[.int .u8 x.page.kind,.int .u8 x.page.level,.int .u32 q[i],.int .u64 x.page.aL,.int .u32 x.page.next,.slice A x.page.rows.length c']:=by rw[<-hid]
          have HBD:Hid (aj w3.drew gD 64 FV):=hBD;have H4:Hid (bG B G (w3.drew.setRow gD (aD FV (q[i]*6) (aG x.page A c').toList)) gr (.slice (some ⟨g,0,none⟩) s1.L.length c) (.slice (some ⟨gD,0,none⟩) (s1.top+1) cD) {s1 with cm:=λn=>if n=q[i] then x.page else s1.cm n}):=Vk;have V3:Hid (aj (w3.drew.setRow gD (aD FV (q[i]*6) (aG x.page A c').toList)) w2.heap.size 207 (au x A c').toArray):=hX.drew.keep (ak _ _ _ _ hne);have JE:Hid (aa (fR gr (.slice (some ⟨g,0,none⟩) s1.L.length c) (.slice (some ⟨gD,0,none⟩) (s.top+1) cD)) (fR gr (.slice (some ⟨g,0,none⟩) s1.L.length c) (.slice (some ⟨gD,0,none⟩) (s.top+1) cD)) w (w3.drew.setRow gD (aD FV (q[i]*6) (aG x.page A c').toList))):=(GK.out.trans (aa.az hbd _)).setRow (g:=gD) (.inl (.inr (.inr rfl))) _;have Cp:Hid (aA G (w3.drew.setRow gD (aD FV (q[i]*6) (aG x.page A c').toList)) A x.page.rows):=wF.keep (zbj (by simp[World.setRow])) (λb hb=>ak _ _ _ _ (λe=>(h3.g b hb).2.2.2 (by rw[e];rfl)));have hq7:(q[i]:Int)<(s.top:Int)+1:=by have:=T4.2;omega
          have HGX:=zH hgx;clear k0 k1 k2 k3 k4 k5 k6 k7 k8 c1 c2 hw3 hX uw hbd h3 Vk hBD z0 z1 z2 z3 z4 z5 HR H2 GK hgx wF B2;generalize w2.heap.size=gx at*;refine fQ (fun(W:World)=>zC W gr 2 (.slice (some ⟨gD,0,none⟩) (s1.top+1) cD)/\zC W gx 0 (.int .u8 x.page.kind)/\zC W gx 1 (.int .u8 x.page.level)/\zC W gx 2 (.int .u32 q[i])/\zC W gx 3 (.int .u64 x.page.aL)/\zC W gx 4 (.int .u32 x.page.next)/\zC W gx 5 (.slice A x.page.rows.length c')) (λj=>decide (10<=j)) ?_
          iterate 8 (refine bK hS.out ?_)
          refine vo 8 89 (v:=.agg #[.int .u8 x.page.kind,.int .u8 x.page.level,.int .u32 q[i],.int .u64 x.page.aL,.int .u32 x.page.next,.slice A x.page.rows.length c']) hS.out ?_
          iterate 1 (refine bK hS.out ?_)
          refine jx 10 (w':=w3.drew.setRow gD (aD FV (q[i]*6) (aG x.page A c').toList)) rfl (aq _ _ _ ⟨gD,q[i]*6,none⟩ (.agg (aG x.page A c')) rfl rfl (by rw[epg];rfl) (ax w3.drew gD (q[i]*6) _ _ FV (aG x.page A c') HBD.out eI (by show q[i]*6+6<=_;omega) (by rw[epg];simp[Value.oneCell']))) (λh=>nomatch h) ?_;clear hS HBD epg;generalize w3.drew.setRow gD (aD FV (q[i]*6) (aG x.page A c').toList)=w4 at*;refine aC (by kernel_rfl) ?_ _;rename_i K9 aT;refine aT _ _ ?_;clear aT;have z7:=V3.out.cell 7;have z8:=V3.out.cell 8;simp only[au,zGA,zGB,zGC] at z7 z8;have f7:=V3.out.frozen 7;have f8:=V3.out.frozen 8;go_wp2_with fail;generalize Gu:World.setCell (World.setCell w4 _ _) _ _=w5;have h5:bG B G w5 gr (.slice (some ⟨g,0,none⟩) s1.L.length c) (.slice (some ⟨gD,0,none⟩) (s1.top+1) cD) {s1 with cm:=λn=>if n=q[i] then x.page else s1.cm n}:=by
           have Yf:=HGX.out;rw[show s.top=s1.top from qo.symm] at Yf;rw[<-Gu];exact(H4.out.far Yf 7 _).far Yf 8 _
          have Ab:aj w5 gx 207 (au x' A c').toArray:=by
           have:=(V3.out.a_ 7 (.bool false)).a_ 8 (.int .u64 0);rw[Gu] at this;rw[hx'];exact this
          have SE:=(JE.out.setCell (p:=⟨gx,7,none⟩) (.inr hgxw) (.bool false)).setCell (p:=⟨gx,8,none⟩) (.inr hgxw) (.int .u64 0);have B0:aA G w5 A x'.page.rows:=by
           rw[hx',<-Gu];have hGx:∀b,G b->b≠gx:=λb hb e=>HGX.out (.inr (by rw[<-e];exact hb));exact Cp.out.keep (zbj (by simp[World.setCell])) (λb hb=>(Below.heap_setCell _ ⟨gx,8,none⟩ _ b (hGx b hb)).trans (Below.heap_setCell _ ⟨gx,7,none⟩ _ b (hGx b hb)))
          rw[Gu] at SE;have h6:bG B G w5.drew gr (.slice (some ⟨g,0,none⟩) s1.L.length c) (.slice (some ⟨gD,0,none⟩) (s1.top+1) cD) {s1 with cm:=λn=>if n=q[i] then x.page else s1.cm n}:=h5.below (zR w5).drew;obtain⟨cur,hB,hsz,jY⟩:=h6.S2 (k:=k) (x':=x') (A':=A) (c':=c') rfl hk hA (Reads.below B0 (zR w5).drew) (by rw[hx',hxx]);have c1:=h6.blk.cell 1;simp only[zGA,zGB,zGC] at c1;have hS:Hid (zC w5.drew gr 1 (.slice (some ⟨g,0,none⟩) s1.L.length c)/\aj w5.drew gx 207 (au x' A c').toArray):=⟨c1,Ab.drew⟩;have HB:Hid (aj w5.drew g 207 cur):=hB;have JF:Hid (bG B G (w5.drew.setRow g (aD cur (k*9) (au x' A c'))) gr (.slice (some ⟨g,0,none⟩) s1.L.length c) (.slice (some ⟨gD,0,none⟩) (s.top+1) cD) {s1 with L:=s1.L.set k x',cm:=λm=>if m=q[i] then x.page else s1.cm m}):=by rw[show s.top=s1.top from qo.symm];exact jY
          have HT6:Hid (aa (fR gr (.slice (some ⟨g,0,none⟩) s1.L.length c) (.slice (some ⟨gD,0,none⟩) (s.top+1) cD)) (fR gr (.slice (some ⟨g,0,none⟩) s1.L.length c) (.slice (some ⟨gD,0,none⟩) (s.top+1) cD)) w (w5.drew.setRow g (aD cur (k*9) (au x' A c')))):=SE.drew.setRow (g:=g) (.inl (.inr (.inl rfl))) _;clear z7 z8 f7 f8 Gu h5 Ab SE B0 h6 hB jY c1 H4 V3 JE Cp;refine fQ (fun(W:World)=>zC W gr 1 (.slice (some ⟨g,0,none⟩) s1.L.length c)/\aj W gx 207 (au x' A c').toArray) (λj=>decide (7<=j)) ?_
          iterate 5 (refine bK hS.out ?_)
          refine kT 5 98 (v:=.agg (au x' A c').toArray) rfl hS.out ?_ ?_
          ·intro w hSw;exact ay _ _ _ rfl rfl (run_loadVar_row w gx _ _ _ _ _ hSw.2 underlying207 rfl rfl)
          iterate 1 (refine bK hS.out ?_)
          refine jx 7 (w':=w5.drew.setRow g (aD cur (k*9) (au x' A c'))) rfl (aq _ _ _ ⟨g,k*9,none⟩ _ rfl rfl rfl (ax w5.drew g (k*9) _ _ cur (au x' A c').toArray HB.out ic (by show k*9+9<=_;omega) (by simp[au,Value.oneCell']))) (λh=>nomatch h) ?_;clear hS HB;generalize w5.drew.setRow g (aD cur (k*9) (au x' A c'))=w6 at*;refine aC (by kernel_rfl) ?_ _;rename_i K9 aT;refine aT _ _ ?_;clear aT;go_wp2_with fail;go_roundw
          case rel=>
           refine⟨i+1,hmeas,by go_num,?_,HT6.out⟩;rw[R9.out];exact JF.out
          case measure=>simp[intOf];omega
       ·obtain rfl:i=q.length:=by omega
        rw[zL] at h1;have H1:=zH (And.intro h1 gX);clear h1 gX hlt hi;go_wp2_with fail;go_ret;rw[HW.out];exact⟨rfl,H1.out.1,H1.out.2⟩
end
open Go.RowKit Go.Conc
theorem pU:(prog.info? 207).map (λi=>(i.zero,i.size,i.bytes))=some (some (.agg sy),9,72):=by kernel_rfl
theorem fE.one1 {G:af} {w:World} {L:List Sp.RI} (h:fE G w L xs):∀u∈xs,u.oneCell'=true:=by
 intro u hu;obtain⟨n,hn,rfl⟩:=List.mem_iff_getElem.1 hu;have hl:=h.1;have hi:n/9<L.length:=by omega
 obtain⟨A,c,_,_,h3⟩:=h.2 (n/9) _ (zk hi);have h4:=h3 (n%9) (Nat.mod_lt _ (by omega));rw[show n/9*9+n%9=n by omega,zk hn] at h4;have h5:xs[n]∈au L[n/9] A c:=zbl h4.symm;generalize xs[n]=u at*;simp only[au,zW,zak,or_false] at h5;rcases h5 with rfl | rfl | rfl | rfl | rfl | rfl | rfl | rfl | rfl<;>rfl
theorem cU {w:World} {base:Nat} (h:w.ownsRow base e sz v n xs):∃A m c,v=.slice A m c:=by
 rcases h.2 with⟨h0,_⟩ | ⟨g,cap,cur,h0,_⟩
 ·exact⟨_,_,_,h0⟩
 ·exact⟨_,_,_,h0⟩
theorem ko (g o j:Nat):(⟨g,o,none⟩:Addr).add j=⟨g,o+j,none⟩:=by unfold Addr.add;split<;>simp_all
theorem tZ {α:Type} {l:List α} {u:α} (h:(l.take n)[j]? =some u):l[j]? =some u:=by
 rw[zT] at h
 split at h
 ·exact h
 ·cases h
namespace Sp
structure aF.Ok (s:aF):Prop where
 dA:∀x∈s.L,1<=x.page.id/\x.page.id<=s.top
 aL:∀x∈s.L,x.page.aL<18446744073709551616
 pins:∀x∈s.L,x.pins<1000000000
 top:s.top<1000000
 nd:(s.L.map (·.page.id)).Nodup
 len:s.L.length<=s.frames
 frames:s.frames<=64
 cm:∀q,1<=q->q<=s.top->(s.cm q).id=q/\(s.cm q).aL<18446744073709551616
theorem mo (s:aF) (q:List Nat):(s.write q).2.L.map (·.page)=s.L.map (·.page):=by
 unfold aF.write
 split
 ·rfl
 ·split
  ·rfl
  ·show(s.L.map (bw q)).map _=_;rw[zat];apply zY;intro x _;simp only[Function.comp,je]
theorem pI (s:aF) (q:List Nat):(s.write q).2.top=s.top/\(s.write q).2.frames=s.frames/\(s.write q).2.next=s.next:=by
 unfold aF.write
 split
 ·exact⟨rfl,rfl,rfl⟩
 ·split<;>exact⟨rfl,rfl,rfl⟩
theorem pJ {s:aF} {x:RI} (h:x∈(s.write q).2.L):∃y∈s.L,x.page=y.page/\x.pins=y.pins:=by
 unfold aF.write at h
 split at h
 ·exact⟨x,h,rfl,rfl⟩
 ·split at h
  ·exact⟨x,h,rfl,rfl⟩
  ·obtain⟨y,hy,rfl⟩:=zn.1 h;exact⟨y,hy,je q y,by unfold bw;split<;>rfl⟩
theorem Bp (s:aF) (q:List Nat):(s.write q).2.L.length=s.L.length:=by
 have:=congrArg List.length (mo s q);simpa using this
theorem aF.Ok.write {s:aF} (h:s.Ok) (q:List Nat):(s.write q).2.Ok:=by
 obtain⟨t1,t2,t3⟩:=pI s q;refine⟨λx hx=>?_,λx hx=>?_,λx hx=>?_,?_,?_,?_,?_,λm h1 h2=>?_⟩
 ·obtain⟨y,hy,e,_⟩:=pJ hx;rw[e,t1];exact h.dA y hy
 ·obtain⟨y,hy,e,_⟩:=pJ hx;rw[e];exact h.aL y hy
 ·obtain⟨y,hy,_,e⟩:=pJ hx;rw[e];exact h.pins y hy
 ·rw[t1];exact h.top
 ·have e:(s.write q).2.L.map (·.page.id)=s.L.map (·.page.id):=by
   have:=congrArg (List.map (λp:Pg=>p.id)) (mo s q);rw[zat,zat] at this;exact this
  rw[e];exact h.nd
 ·rw[Bp,t2];exact h.len
 ·rw[t2];exact h.frames
 ·rw[t1] at h2;unfold aF.write
  split
  ·exact h.cm m h1 h2
  ·split
   ·exact h.cm m h1 h2
   ·dsimp only
    split
    ·cases hg:cJ s.L m with
     | none=>exact h.cm m h1 h2
     | some x=>
      obtain⟨hx,e⟩:=FL hg;exact⟨e,h.aL x hx⟩
    ·exact h.cm m h1 h2
theorem aF.Ok.sub {s:aF} (h:s.Ok) {L':List RI} (hs:L'.Sublist s.L):({s with L:=L'}:aF).Ok:=
 ⟨λx hx=>h.dA x (hs.subset hx),λx hx=>h.aL x (hs.subset hx),λx hx=>h.pins x (hs.subset hx),h.top,List.Nodup.sublist (hs.map _) h.nd,zl hs.length_le h.len,h.frames,h.cm⟩
theorem aF.Ok.drop {s:aF} (h:s.Ok) (id:Nat):(s.drop id).2.Ok:=by
 unfold aF.drop;dsimp only
 split
 ·exact h.write [id]
 ·exact(h.write [id]).sub List.filter_sublist
theorem aF.Ok.room {s:aF} (h:s.Ok):s.room.2.Ok:=by
 unfold aF.room
 split
 ·exact h
 ·split
  ·exact h.drop _
  ·exact h
theorem Rp {s:aF} (hh:dJ s.L id=true) (h0:(s.drop id).1=0):(s.drop id).2.L.length<s.L.length:=by
 unfold aF.drop at h0 ⊢;dsimp only at h0 ⊢;by_cases hw:(s.write [id]).1≠0
 ·rw[zK hw] at h0;exact absurd h0 hw
 ·rw[zD hw];show(jt (s.write [id]).2.L id).length<_;unfold jt;rw[<-Bp s [id]];obtain⟨x,hx,he⟩:=List.any_eq_true.1 hh;have:x.page∈(s.write [id]).2.L.map (·.page):=by rw[mo];exact zn.2 ⟨x,hx,rfl⟩
  obtain⟨y,hy,e⟩:=zn.1 this;have h1:=List.length_filter_lt_length_iff_exists (l:=(s.write [id]).2.L) (p:=λx=>x.page.id != id);exact h1.2 ⟨y,hy,by rw[e];simpa using he⟩
theorem FP (s:aF) (id:Nat):(s.drop id).2.top=s.top/\(s.drop id).2.frames=s.frames/\(s.drop id).2.next=s.next:=by
 unfold aF.drop;dsimp only
 split
 ·exact pI s [id]
 ·exact pI s [id]
theorem iE (s:aF):s.room.2.top=s.top/\s.room.2.frames=s.frames/\s.room.2.next=s.next:=by
 unfold aF.room
 split
 ·exact⟨rfl,rfl,rfl⟩
 ·split
  ·exact FP s _
  ·exact⟨rfl,rfl,rfl⟩
theorem xo {s:aF} (ho:s.Ok) (h0:s.room.1=0):s.room.2.L.length<s.frames:=by
 unfold aF.room at h0 ⊢;by_cases hlt:s.L.length<s.frames
 ·rw[zK hlt];exact hlt
 ·rw[zD hlt] at h0 ⊢
  cases hf:s.L.find? (λx=>x.pins==0) with
  | none=>rw[hf] at h0;cases h0
  | some x=>
   rw[hf] at h0;have hx:=List.mem_of_find?_eq_some hf;have:=Rp (s:=s) (id:=x.page.id) (List.any_eq_true.2 ⟨x,hx,by simp⟩) h0;exact zf this ho.len
theorem EA {s:aF} (h:dJ s.L id=false):dJ s.room.2.L id=false:=by
 have hw:∀q,dJ (s.write q).2.L id=false:=λq=>by
  have e:∀L:List RI,dJ L id=(L.map (·.page)).any (λp=>p.id==id):=λL=>by unfold dJ;rw[List.any_map];rfl
  rw[e,mo,<-e];exact h
 have hs:∀(L L':List RI),L'.Sublist L->dJ L id=false->dJ L' id=false:=λL L' hsub hL=>by
  unfold dJ at hL ⊢;rw[List.any_eq_false] at hL ⊢;exact λx hx=>hL x (hsub.subset hx)
 unfold aF.room
 split
 ·exact h
 ·split
  ·unfold aF.drop;dsimp only
   split
   ·exact hw _
   ·exact hs _ _ List.filter_sublist (hw _)
  ·exact h
theorem aF.Ok.snoc {s:aF} (h:s.Ok) {x:RI} (h1:1<=x.page.id/\x.page.id<=s.top) (h2:x.page.aL<18446744073709551616) (h3:x.pins<1000000000) (hn:dJ s.L x.page.id=false) (hl:s.L.length<s.frames):({s with L:=s.L++[x]}:aF).Ok:=by
 refine⟨λy hy=>?_,λy hy=>?_,λy hy=>?_,h.top,?_,?_,h.frames,h.cm⟩
 ·rcases zz.1 hy with hy | hy
  ·exact h.dA y hy
  ·rw[zq.1 hy];exact h1
 ·rcases zz.1 hy with hy | hy
  ·exact h.aL y hy
  ·rw[zq.1 hy];exact h2
 ·rcases zz.1 hy with hy | hy
  ·exact h.pins y hy
  ·rw[zq.1 hy];exact h3
 ·show((s.L++[x]).map _).Nodup;rw[zI,za3];refine⟨h.nd,by simp,λa ha b hb=>?_⟩;simp only[zF,zaw,zq] at hb;subst hb;obtain⟨y,hy,rfl⟩:=zn.1 ha;unfold dJ at hn;rw[List.any_eq_false] at hn;have:=hn y hy;simpa using this
 ·show(s.L++[x]).length<=s.frames;rw[zo];exact hl
end Sp
section
variable {B gr:Nat} {G:af} {w:World} {vL vD:Value} {s:Sp.aF}
theorem ED (h:bG B G w gr vL vD s) (ho:s.Ok) (hk:k<s.L.length) (hid:s.L[k].page.id=id):
 Calls prog 150 #[ptr gr,.int .i64 k] w λe w'=>e=.returned (.int .i64 (s.drop id).1)/\dg B G w gr vL vD (s.drop id).2 w':=by
 obtain⟨r,hr⟩:=zE (s.drop id);rw[<-hr];have HE:=zH hr;have ja:=Sp.mo s [id];have hlen:(s.write [id]).2.L.length=s.L.length:=by have:=congrArg List.length ja;simpa using this
 have II:∀(hk':k<(s.write [id]).2.L.length),(s.write [id]).2.L[k].page.id=id:=λhk'=>by
  have e:((s.write [id]).2.L.map (·.page))[k]? =(s.L.map (·.page))[k]? :=by rw[ja]
  rw[zN,zN,zk hk',zk hk] at e;simp only[zas,Option.some.injEq] at e;rw[e,hid]
 obtain⟨g,c,A,c',rfl,hA,hR,hc⟩:=h.item hk;have k2:=hc 2 (by omega);simp only[au,zGB,zGC] at k2;rw[hid] at k2;have c1:=h.blk.cell 1;simp only[zGA,zGB,zGC] at c1;have hba:=(zR w).alloc (za _) (.cells #[av id] 61);have hN:=aj.new w 61 #[av id];have HW:=zH (Bz (h.below hba) (G1:=only w.heap.size) (A0:=some ⟨w.heap.size,0,none⟩) (c0:=1) (q:=[id])
  ⟨rfl,λ_=>⟨_,0,rfl,rfl,by simp,λj u hu=>by
   match j,hu with
   | 0,hu=>injection hu with hu;subst hu;exact hN.cell 0⟩⟩
  (λb hb=>⟨by rw[hb];simp,λe=>by have:=h.lt (.inl e);rw[hb] at this;omega⟩)
  (λn hn=>by rw[zq.1 hn];unfold Sp.dJ;rw[List.any_eq_true];exact⟨s.L[k],zw hk,by rw[hid];simp⟩)
  (by simp) ho.aL ho.dA)
 have H:=zH h;have HA:=zH hba;have HIK:=zH II;have hkc:(k:Int)<(s.L.length:Int):=by omega
 clear hr h hc hR hN hba ja II;go_enter func150,ntmps150;go_wp2_with fail;refine HW.out.mono ?_;rintro e w2 ⟨rfl,h2,dx⟩;have XG:=(aa.az HA.out (fR gr (.slice (some ⟨g,0,none⟩) s.L.length c) vD)).trans dx;clear HW c1 k2 dx;have Kn:s.drop id=if(s.write [id]).1≠0 then s.write [id] else(0,{(s.write [id]).2 with L:=Sp.jt (s.write [id]).2.L id}):=rfl
 rw[Kn] at HE;clear Kn;generalize s.write [id]=sw at*;obtain⟨n,s2⟩:=sw;dsimp only at h2 hlen HIK HE ⊢;by_cases hn:n=0
 ·subst hn;rw[zD (by decide)] at HE;have hk2:k<s2.L.length:=by omega
  have hdr:=Sp.oU h2.nd hk2;rw[HIK.out hk2] at hdr;rw[hdr] at HE;obtain⟨xs,hrow,oP⟩:=h2.L;have c1:=h2.blk.cell 1;simp only[zGA,zGB,zGC] at c1;have hcell:=hrow.cells (g:=g) rfl;have hone:=oP.one1;have hxl:=oP.1;have jb:=h2.few;have hcap:s2.L.length<=c:=by
   rcases hrow.2 with⟨h0,h1⟩ | ⟨g',cap,cur,h0,_,_,hnc,_⟩
   ·omega
   ·injection h0 with _ _ h3;omega
  have hBw:B<=w2.heap.size:=zl h2.lo (by have:=h2.blk.lt;omega);obtain⟨iI,T5,hy0,hy1,sP⟩:=info_parts pU;rw[<-hlen] at*;have H2:=zH h2;have UM:=zH oP;have HRW:=zH hrow;have Np:=zH hone;have Wl:=zH hcell;have HI:=zH T5;have GJ:=zH hy0;have GI:=zH hy1;have Cl:=zH sP;have HT02:=zH XG;clear h2 oP hrow hone hcell hdr XG T5 hy0 hy1 sP hA H HA;have d1:¬((c:Int)<(k:Int)):=by omega
  have d2:(k:Int)<=(c:Int):=by omega
  have d3:(k:Int)+1<=(s2.L.length:Int):=by omega
  go_wp2_with (at_builtin;refine aO _ rfl _ _ 57 rfl B 207 iI _ 9 72 underlying57 HI.out GJ.out GI.out Cl.out rfl (by decide) _ 0 [] rfl (World.ownsRow_nil _ _ _ _) ⟨g,0,none⟩ k c (xs.take (k*9)) rfl (by rw[zag];omega) (λj u hu=>Wl.out j u (tZ hu)) (λu hu=>Np.out u (zax hu)) (by unfold maxLen;omega) (by omega) hBw ?_);intro v3 w3 q1 q2 q3;replace q2:w2.grownBy w3 none:=q2;have c1:=(H2.out.blk.grown q2 (λe=>nomatch e)).cell 1;simp only[zGA,zGB,zGC] at c1;have hk3:∀b,b<w2.heap.size->w3.heap[b]? =w2.heap[b]? :=λb hb=>q2.block b hb (λe=>nomatch e);have kW:g<w2.heap.size:=H2.out.lt (.inl (.inr (.inl rfl)));have Qm:∀j u,xs[j]? =some u->w3.cell? ⟨g,j,none⟩=some u:=λj u hu=>by
   have:=Wl.out j u hu;rw[kq] at this;exact(World.cell?_of_block (w:=w2) (a:=⟨g,j,none⟩) (hk3 g kW)).trans this
  have Wo:=zH Qm;have HK3:=zH hk3;have hs3:w2.heap.size<=w3.heap.size:=q2.size;replace q1:w3.ownsRow B 207 9 v3 k (xs.take (k*9)):=by simpa using q1
  have Q1:=zH q1;have Q3:=zH (show ∀b,v3.ownBlock=some b->w2.heap.size<=b from λb hb=>(q3 b hb).resolve_left (λe=>nomatch e));have Q2:=zH q2;clear q1 q2 q3 hk3 Qm;have IJ:gr<w2.heap.size:=H2.out.blk.lt;have HF:Hid (∀v4 w4,w4.ownsRow B 207 9 v4 (k+(s2.L.length-(k+1))) (xs.take (k*9)++xs.drop ((k+1)*9))->w3.grownBy w4 v3.ownBlock->(∀k,v4.ownBlock=some k->v3.ownBlock=some k\/w3.heap.size<=k)->
   bG B G (w4.setCell ⟨gr,1,none⟩ v4) gr v4 vD {s2 with L:=s2.L.eraseIdx k}/\aa (fR gr (.slice (some ⟨g,0,none⟩) s2.L.length c) vD) (fR gr v4 vD) w (w4.setCell ⟨gr,1,none⟩ v4)):=by
   intro v4 w4 r1 r2 r3;have h2:=H2.out;have hsz:w3.heap.size<=w4.heap.size:=r2.size;have hkk:∀b,b<w2.heap.size->w4.heap[b]? =w2.heap[b]? :=λb hb=>(r2.block b (by omega) (λe=>by have:=Q3.out b e.symm;omega)).trans (HK3.out b hb);have hown:∀b,v4.ownBlock=some b->w2.heap.size<=b:=λb hb=>by
    rcases r3 b hb with e | e
    ·exact Q3.out b e
    ·omega
   have hlen':(s2.L.eraseIdx k).length=k+(s2.L.length-(k+1)):=by rw[List.length_eraseIdx_of_lt hk2];omega
   refine⟨h2.newL (by omega) (λb hb=>hkk b ?_) (by rw[hlen'];exact r1) ((UM.out.erase hk2).keep (by omega) (λb hb=>hkk b (h2.g b hb).1)) (λb hb=>.inr (hown b hb)) (by rw[hlen'];omega) (λx hx=>h2.ids x (List.mem_of_mem_eraseIdx hx)) (Sp.EU h2.nd k),?_⟩
   ·rcases hb with(e | e) | e
    ·rw[e];exact h2.blk.lt
    ·exact h2.lt (.inl (.inr (.inr e)))
    ·exact(h2.g b e).1
   ·have hT:=HT02.out;refine⟨r2.os.trans (Q2.out.os.trans hT.os),r2.tape.trans (Q2.out.tape.trans hT.tape),r2.output.trans (Q2.out.output.trans hT.output),?_,λb hb hn=>?_,λb hb=>?_⟩
    ·show w.heap.size<=(World.setCell _ _ _).heap.size;have:=hT.size;simp only[World.setCell,Array.size_modify];omega
    ·exact(Below.heap_setCell w4 ⟨gr,1,none⟩ v4 b (λe=>hn (.inl e))).trans ((hkk b (by have:=hT.size;omega)).trans (hT.block b hb hn))
    ·rcases hb with e | e | e
     ·exact .inl (.inl e)
     ·exact .inr (by have:=hown b e;have:=hT.size;omega)
     ·exact .inl (.inr (.inr e))
  have H3:=zH (H2.out.blk.grown Q2.out (λe=>nomatch e));by_cases hck:c=k+1
  ·go_wp2_with (at_builtin;refine aO _ rfl _ _ 57 rfl B 207 iI _ 9 72 underlying57 HI.out GJ.out GI.out Cl.out rfl (by decide) _ k (xs.take (k*9)) rfl Q1.out ⟨g,0,none⟩ (s2.L.length-(k+1)) _ (xs.drop ((k+1)*9)) rfl (by rw[za2];omega) (λj u hu=>by rw[List.drop_of_length_le (by omega)] at hu;cases hu) (λu hu=>Np.out u (List.mem_of_mem_drop hu)) (by unfold maxLen;omega) (by omega) (by omega) ?_);intro v4 w4 r1 r2 r3;have hf:=HF.out v4 w4 r1 r2 r3;obtain⟨A4,n4,c4,rfl⟩:=cU r1;have c1:=(H3.out.grown r2 (λe=>by have:=Q3.out gr e.symm;omega)).cell 1;have f1:=(H3.out.grown r2 (λe=>by have:=Q3.out gr e.symm;omega)).frozen 1;simp only[zGA,zGB,zGC] at c1;have GP:=zH hf;clear r1 r2 r3 hf;go_wp2_with fail;go_ret;rw[HE.out];exact⟨rfl,_,GP.out.1,GP.out.2⟩
  ·go_wp2_with (at_builtin;refine aO _ rfl _ _ 57 rfl B 207 iI _ 9 72 underlying57 HI.out GJ.out GI.out Cl.out rfl (by decide) _ k (xs.take (k*9)) rfl Q1.out ⟨g,(k+1)*9,none⟩ (s2.L.length-(k+1)) _ (xs.drop ((k+1)*9)) rfl (by rw[za2];omega) (λj u hu=>by rw[ko];rw[zaf] at hu;exact Wo.out _ u hu) (λu hu=>Np.out u (List.mem_of_mem_drop hu)) (by unfold maxLen;omega) (by omega) (by omega) ?_);intro v4 w4 r1 r2 r3;have hf:=HF.out v4 w4 r1 r2 r3;obtain⟨A4,n4,c4,rfl⟩:=cU r1;have c1:=(H3.out.grown r2 (λe=>by have:=Q3.out gr e.symm;omega)).cell 1;have f1:=(H3.out.grown r2 (λe=>by have:=Q3.out gr e.symm;omega)).frozen 1;simp only[zGA,zGB,zGC] at c1;have GP:=zH hf;clear r1 r2 r3 hf;go_wp2_with fail;go_ret;rw[HE.out];exact⟨rfl,_,GP.out.1,GP.out.2⟩
 ·have e1:r=(n,s2):=by rw[HE.out,zK hn]
  have hn1:decide ((n:Int)=0)=false:=by rw[ze];omega
  have hn2:((n:Int)==0)=false:=by rw[zv];omega
  have qN:¬(n:Int)=0:=by omega
  go_wp2_with fail;go_ret;rw[e1];exact⟨rfl,_,h2,XG⟩
end
section
open Go.Conc
section
variable {B gr:Nat} {G:af} {w:World} {vL vD:Value} {s:Sp.aF}
theorem EC (h:bG B G w gr vL vD s) (ho:s.Ok):
 Calls prog 142 #[ptr gr] w λe w'=>e=.returned (.int .i64 s.room.1)/\dg B G w gr vL vD s.room.2 w':=by
 obtain⟨r,hr⟩:=zE s.room;rw[<-hr];have HE:=zH hr;have H:=zH h;obtain⟨A,c,PC,hcell⟩:=h.slice;have c0:=h.blk.cell 0;have c1:=h.blk.cell 1;simp only[zGA,zGB,zGC] at c0 c1;rw[PC] at c1;have jb:=h.few;clear hr h hcell;go_enter func142,ntmps142;by_cases hlt:s.L.length<s.frames
 ·have e1:s.room=(0,s):=by unfold Sp.aF.room;rw[zK hlt]
  have d1:decide ((s.L.length:Int)<(s.frames:Int))=true:=by rw[zA];omega
  have d2:(s.L.length:Int)<(s.frames:Int):=by omega
  go_wp2_with fail;go_quiet (fail);go_wp2_with fail;go_ret;rw[HE.out,e1];exact⟨rfl,dg.same H.out (below_drewN' (zR _) _)⟩
 ·have d1:decide ((s.L.length:Int)<(s.frames:Int))=false:=by rw[ze];omega
  have d2:¬(s.L.length:Int)<(s.frames:Int):=by omega
  go_wp2_with fail;go_quiet (fail);clear d1 d2 c0 c1;go_wp2_with fail;go_loopw [3] (λv wr=>∃i:Nat,i<=s.L.length/\v=.int .i64 i/\(∀x∈s.L.take i,x.pins≠0)/\zB w wr) (λv _=>s.L.length-(intOf v).toNat)
  case atStart=>exact⟨0,by omega,rfl,by simp,(below_drewN' (zR _) _)⟩
  case round=>
   obtain⟨i,hi,rfl,hno,hbr⟩:=hrel;have h1:=H.out.below hbr;have c1:=h1.blk.cell 1;simp only[zGA,zGB,zGC] at c1;rw[PC] at c1;by_cases hil:i<s.L.length
   ·obtain⟨g,c',A',c2,e,hA,hR,hc⟩:=h1.item hil;rw[PC] at e;injection e with e _ _;subst e;have k6:=hc 6 (by omega);simp only[au,zGB,zGC] at k6;have hmeas:i+1<=s.L.length:=hil;have HD:=zH (ED h1 ho hil rfl);clear h1 hR hc hi;by_cases h0:s.L[i].pins=0
    ·have e1:s.room=s.drop s.L[i].page.id:=by
      have hf:s.L.find? (λx=>x.pins==0)=some s.L[i]:=by
       rw[List.find?_eq_some_iff_getElem];refine⟨by simpa using h0,i,hil,rfl,λj hj=>?_⟩;have:=hno s.L[j] (List.mem_take_iff_getElem.2 ⟨j,by omega,rfl⟩);simpa using this
      unfold Sp.aF.room;rw[zD hlt,hf]
     rw[h0] at k6;clear hno h0;go_wp2_with fail;refine HD.out.mono ?_;rintro e w2 ⟨rfl,v',h2,dx⟩;have HP:=zH (And.intro h2 ((aa.az hbr _).trans dx));clear h2 dx;go_wp2_with fail;go_ret;rw[HE.out,e1];exact⟨rfl,v',HP.out.1,HP.out.2⟩
    ·have IE:∀x∈s.L.take (i+1),x.pins≠0:=λx hx=>by
      rw[zg hil] at hx;rcases zz.1 hx with hx | hx
      ·exact hno x hx
      ·rw[zq.1 hx];exact h0
     have HN:=zH IE;have hq:((s.L[i].pins:Int)==0)=false:=by rw[zv];omega
     have hq2:¬(s.L[i].pins:Int)=0:=by omega
     clear hno IE HD;go_wp2_with fail;go_roundw
     case rel=>exact⟨i+1,hmeas,by go_num,HN.out,hbr⟩
     case measure=>simp[intOf];omega
   ·obtain rfl:i=s.L.length:=by omega
    have e1:s.room=(4,s):=by
     have hf:s.L.find? (λx=>x.pins==0)=none:=by
      rw[List.find?_eq_none];intro x hx;have:=hno x (by rw[zL];exact hx);simpa using this
     unfold Sp.aF.room;rw[zD hlt,hf]
    clear hno h1;go_wp2_with fail;go_ret;rw[HE.out,e1];exact⟨rfl,dg.same H.out hbr⟩
theorem LS (h:bG B G w gr vL vD s) (ho:s.Ok) (id:Nat):
 Calls prog 80 #[ptr gr,av id] w λe w'=>e=.returned (.int .i64 (s.dB id).1)/\dg B G w gr vL vD (s.dB id).2 w':=by
 have vZ:=zH (lX h id);have H:=zH h;obtain⟨r,hr⟩:=zE (s.dB id);rw[<-hr];have HE:=zH hr;clear hr h;go_enter func80,ntmps80;go_wp2_with fail;refine vZ.out.mono ?_;rintro e w1 ⟨rfl,hb1⟩;clear vZ;have h1:=H.out.below hb1;rcases Sp.gO s id with⟨hat,cQ,_⟩ | ⟨k,hk,hat,hid,cQ,_⟩
 ·have e1:s.dB id=(3,s):=by unfold Sp.aF.dB;rw[cQ]
  rw[hat];clear hat cQ h1;go_wp2_with fail;go_ret;rw[HE.out,e1];exact⟨rfl,dg.same H.out hb1⟩
 ·rw[hat];have HD:=zH (ED h1 ho hk hid);obtain⟨g,c,A,c',rfl,hA,hR,hc⟩:=h1.item hk;have c1:=h1.blk.cell 1;simp only[zGA,zGB,zGC] at c1;have k6:=hc 6 (by omega);simp only[au,zGB,zGC] at k6;have hds:decide ((k:Int)<0)=false:=by rw[ze];omega
  clear hat hc h1 hR;by_cases h0:0<s.L[k].pins
  ·have e1:s.dB id=(9,s):=by unfold Sp.aF.dB;rw[cQ];simp only;rw[zK h0]
   have hq:decide ((0:Int)<(s.L[k].pins:Int))=true:=by rw[zA];omega
   have hq2:(0:Int)<(s.L[k].pins:Int):=by omega
   go_wp2_with fail;go_ret;rw[HE.out,e1];exact⟨rfl,dg.same H.out hb1⟩
  ·have e1:s.dB id=s.drop id:=by unfold Sp.aF.dB;rw[cQ];simp only;rw[zD h0]
   have hq:s.L[k].pins=0:=by omega
   rw[hq] at k6;clear cQ h0 hq;go_wp2_with fail;refine HD.out.mono ?_;rintro e w2 ⟨rfl,v',h2,dx⟩;have HP:=zH (And.intro h2 ((aa.az hb1 _).trans dx));clear h2 dx;go_wp2_with fail;go_ret;rw[HE.out,e1];exact⟨rfl,v',HP.out.1,HP.out.2⟩
end
section
variable {B gr:Nat} {G:af} {w:World} {vL vD:Value} {s:Sp.aF}
theorem OC (h:bG B G w gr vL vD s) (ho:s.Ok) (hk:k<s.L.length) (hid:s.L[k].page.id=id):
 Calls prog 143 #[ptr gr,.int .i64 k] w λe w'=>e=.returned (.tuple #[])/\dg B G w gr vL vD {s with L:=Sp.nk s.L id} w':=by
 have hpr:Sp.nk s.L id=s.L.eraseIdx k++[{s.L[k] with pins:=s.L[k].pins+1}]:=by rw[<-hid];exact Sp.Hv h.nd hk
 rw[hpr];obtain⟨g,c,A,c',rfl,hA,hR,hc⟩:=h.item hk;obtain⟨x',hx'⟩:∃x':Sp.RI,x'={s.L[k] with pins:=s.L[k].pins+1}:=⟨_,rfl⟩;rw[<-hx'];have c1:=h.blk.cell 1;simp only[zGA,zGB,zGC] at c1;have k0:=hc 0 (by omega);have k1:=hc 1 (by omega);have k2:=hc 2 (by omega);have k3:=hc 3 (by omega);have k4:=hc 4 (by omega);have k5:=hc 5 (by omega);have k6:=hc 6 (by omega);have k7:=hc 7 (by omega);have k8:=hc 8 (by omega);simp only[au,zGB,zGC,Nat.add_zero] at k0 k1 k2 k3 k4 k5 k6 k7 k8;have hpk:=ho.pins s.L[k] (zw hk);obtain⟨xs,hrow,oP⟩:=h.L;have hcell:=hrow.cells (g:=g) rfl;have hone:=oP.one1;have hxl:=oP.1;have jb:=h.few;have hcap:s.L.length<=c:=by
  rcases hrow.2 with⟨h0,h1⟩ | ⟨g',cap,cur,h0,_,_,hnc,_⟩
  ·omega
  ·injection h0 with _ _ h3;omega
 have hBw:B<=w.heap.size:=zl h.lo (by have:=h.blk.lt;omega);have kW:g<w.heap.size:=h.lt (.inl (.inr (.inl rfl)));have IJ:gr<w.heap.size:=h.blk.lt;obtain⟨iI,T5,hy0,hy1,sP⟩:=info_parts pU;have H:=zH h;have UM:=zH oP;have Np:=zH hone;have Wl:=zH hcell;have HI:=zH T5;have GJ:=zH hy0;have GI:=zH hy1;have Cl:=zH sP;have HRK:Hid (aA G w A s.L[k].page.rows):=hR;have hkc:(k:Int)<(s.L.length:Int):=by omega
 have d1:¬((c:Int)<(k:Int)):=by omega
 have d2:(k:Int)<=(c:Int):=by omega
 have d3:(k:Int)+1<=(s.L.length:Int):=by omega
 have aM:=aj.new w 207 (au s.L[k] A c').toArray;have z6:=aM.cell 6;have f6:=aM.frozen 6;simp only[au,zGA,zGB,zGC] at z6 f6;clear h oP hone hcell T5 hy0 hy1 sP hR hc hrow hpr aM;go_enter func143,ntmps143;go_upto_region 3 with fail;have B2:(au x' A c').toArray=#[.int .u8 s.L[k].page.kind,.int .u8 s.L[k].page.level,.int .u32 id,.int .u64 s.L[k].page.aL,.int .u32 s.L[k].page.next,.slice A s.L[k].page.rows.length c',.int .i64 ((s.L[k].pins:Int)+1),.bool s.L[k].aK,.int .u64 s.L[k].from_]:=by rw[hx'];simp only[au,hid];rfl
 generalize hw1:World.alloc w _=w1;have hb1:zB w w1:=by rw[<-hw1];exact(zR _).alloc (za _) _
 have aM:aj w1 w.heap.size 207 (au x' A c').toArray:=by rw[B2,<-hw1];exact aj.new _ _ _
 have hgx:¬(fR gr (.slice (some ⟨g,0,none⟩) s.L.length c) vD w.heap.size\/G w.heap.size):=λe=>by have:=H.out.lt e;omega
 have h1:=H.out.below hb1;have hs1:=hb1.size;have hgx1:=aM.lt;have c1:=h1.blk.cell 1;simp only[zGA,zGB,zGC] at c1;have hce1:∀j u,xs[j]? =some u->w1.cell? ⟨g,j,none⟩=some u:=λj u hu=>by
  have:=Wl.out j u hu;rw[kq] at this;exact(World.cell?_of_block (w:=w) (a:=⟨g,j,none⟩) (hb1.block g kW)).trans this
 have Bl:=zH hce1;have H1:=zH h1;have cA:=zH aM;have jA:=zH hb1;have Cq:Hid (aA G w1 A x'.page.rows):=by rw[hx'];exact Reads.below HRK.out hb1
 obtain⟨gx,hgxe⟩:=zE w.heap.size;rw[<-hgxe] at cA hgx hgx1 ⊢;have hgx0:w.heap.size<=gx:=by omega
 clear z6 f6 k0 k1 k2 k3 k4 k5 k6 k7 k8 hw1 hgxe h1 hce1 aM hb1 Wl HRK;go_wp2_with (at_builtin;refine aO _ rfl _ _ 57 rfl B 207 iI _ 9 72 underlying57 HI.out GJ.out GI.out Cl.out rfl (by decide) _ 0 [] rfl (World.ownsRow_nil _ _ _ _) ⟨g,0,none⟩ k c (xs.take (k*9)) rfl (by rw[zag];omega) (λj u hu=>by rw[kq];exact Bl.out j u (tZ hu)) (λu hu=>Np.out u (zax hu)) (by unfold maxLen;omega) (by omega) (by omega) ?_);intro v3 w3 q1 q2 q3;replace q2:w1.grownBy w3 none:=q2;replace q1:w3.ownsRow B 207 9 v3 k (xs.take (k*9)):=by simpa using q1
 have c1:=(H1.out.blk.grown q2 (λe=>nomatch e)).cell 1;simp only[zGA,zGB,zGC] at c1;have hb3:zB w1 w3:=⟨q2.os,q2.tape,q2.output,q2.size,λb hb=>q2.block b hb (λe=>nomatch e)⟩;have qq:g<w1.heap.size:=by omega
 have Qm:∀j u,xs[j]? =some u->w3.cell? ⟨g,j,none⟩=some u:=λj u hu=>(World.cell?_of_block (w:=w1) (a:=⟨g,j,none⟩) (hb3.block g qq)).trans (Bl.out j u hu);have Wo:=zH Qm;have rY:=zH hb3;have hs3:w1.heap.size<=w3.heap.size:=q2.size;have Q1:=zH q1;have Q3:=zH (show ∀b,v3.ownBlock=some b->w1.heap.size<=b from λb hb=>(q3 b hb).resolve_left (λe=>nomatch e));clear q1 q2 q3 hb3 Qm;go_upto_region 4 with fail;go_cut [5] (λv wy=>wy.ownsRow B 207 9 v (s.L.eraseIdx k).length (xs.take (k*9)++xs.drop ((k+1)*9))/\zB w1 wy/\∀b,v.ownBlock=some b->w1.heap.size<=b)
 case first=>
  have HF:Hid (∀v4 w4,w4.ownsRow B 207 9 v4 (k+(s.L.length-(k+1))) (xs.take (k*9)++xs.drop ((k+1)*9))->w3.grownBy w4 v3.ownBlock->(∀k,v4.ownBlock=some k->v3.ownBlock=some k\/w3.heap.size<=k)->
   w4.ownsRow B 207 9 v4 (s.L.eraseIdx k).length (xs.take (k*9)++xs.drop ((k+1)*9))/\zB w1 w4/\∀b,v4.ownBlock=some b->w1.heap.size<=b):=by
   intro v4 w4 r1 r2 r3;have hb3:=rY.out;have hlen':(s.L.eraseIdx k).length=k+(s.L.length-(k+1)):=by rw[List.length_eraseIdx_of_lt hk];omega
   refine⟨by rw[hlen'];exact r1,⟨r2.os.trans hb3.os,r2.tape.trans hb3.tape,r2.output.trans hb3.output,zl hs3 r2.size,λb hb=>(r2.block b (by omega) (λe=>by have:=Q3.out b e.symm;omega)).trans (hb3.block b hb)⟩,λb hb=>?_⟩;rcases r3 b hb with e | e
   ·exact Q3.out b e
   ·omega
  by_cases hck:c=k+1
  ·go_wp2_with (at_builtin;refine aO _ rfl _ _ 57 rfl B 207 iI _ 9 72 underlying57 HI.out GJ.out GI.out Cl.out rfl (by decide) _ k (xs.take (k*9)) rfl Q1.out ⟨g,0,none⟩ (s.L.length-(k+1)) _ (xs.drop ((k+1)*9)) rfl (by rw[za2];omega) (λj u hu=>by rw[List.drop_of_length_le (by omega)] at hu;cases hu) (λu hu=>Np.out u (List.mem_of_mem_drop hu)) (by unfold maxLen;omega) (by omega) (by omega) ?_);intro v4 w4 r1 r2 r3;have GP:=zH (HF.out v4 w4 r1 r2 r3);clear r1 r2 r3;go_wp2_with fail;go_meet
   case rel=>exact GP.out
  ·go_wp2_with (at_builtin;refine aO _ rfl _ _ 57 rfl B 207 iI _ 9 72 underlying57 HI.out GJ.out GI.out Cl.out rfl (by decide) _ k (xs.take (k*9)) rfl Q1.out ⟨g,(k+1)*9,none⟩ (s.L.length-(k+1)) _ (xs.drop ((k+1)*9)) rfl (by rw[za2];omega) (λj u hu=>by rw[ko];rw[zaf] at hu;exact Wo.out _ u hu) (λu hu=>Np.out u (List.mem_of_mem_drop hu)) (by unfold maxLen;omega) (by omega) (by omega) ?_);intro v4 w4 r1 r2 r3;have GP:=zH (HF.out v4 w4 r1 r2 r3);clear r1 r2 r3;go_wp2_with fail;go_meet
   case rel=>exact GP.out
 case rest=>
  rename_i K9 aT;refine aT _ _ ?_;clear aT Q1 Q3 rY Wo Bl c1;obtain⟨r1,r2,r3⟩:=hcut;have QY:=cA.out.below r2 hgx1;rw[B2] at QY;have z0:=QY.cell 0;have z1:=QY.cell 1;have z2:=QY.cell 2;have z3:=QY.cell 3;have z4:=QY.cell 4;have z5:=QY.cell 5;have z6:=QY.cell 6;have z7:=QY.cell 7;have z8:=QY.cell 8;simp only[zGA,zGB,zGC] at z0 z1 z2 z3 z4 z5 z6 z7 z8;have hsc:=r2.size;have el:au x' A c'=[.int .u8 s.L[k].page.kind,.int .u8 s.L[k].page.level,.int .u32 id,.int .u64 s.L[k].page.aL,.int .u32 s.L[k].page.next,.slice A s.L[k].page.rows.length c',.int .i64 ((s.L[k].pins:Int)+1),.bool s.L[k].aK,.int .u64 s.L[k].from_]:=by rw[hx'];simp only[au,hid];rfl
  have R1:=zH r1;have R2:=zH r2;have R3:=zH r3;have EL:=zH el;clear r1 r2 r3 QY B2 el;have hle:(s.L.eraseIdx k).length+1=s.L.length:=by rw[List.length_eraseIdx_of_lt hk];omega
  go_wp2_with (at_builtin;refine aO _ rfl _ _ 57 rfl B 207 iI _ 9 72 underlying57 HI.out GJ.out GI.out Cl.out rfl (by decide) _ (s.L.eraseIdx k).length _ rfl (R1.out.alloc _) ⟨wc.heap.size,0,none⟩ 1 1 [.int .u8 s.L[k].page.kind,.int .u8 s.L[k].page.level,.int .u32 id,.int .u64 s.L[k].page.aL,.int .u32 s.L[k].page.next,.slice A s.L[k].page.rows.length c',.int .i64 ((s.L[k].pins:Int)+1),.bool s.L[k].aK,.int .u64 s.L[k].from_] rfl rfl (e8 (cs:=[.int .u8 s.L[k].page.kind,.int .u8 s.L[k].page.level,.int .u32 id,.int .u64 s.L[k].page.aL,.int .u32 s.L[k].page.next,.slice A s.L[k].page.rows.length c',.int .i64 ((s.L[k].pins:Int)+1),.bool s.L[k].aK,.int .u64 s.L[k].from_]) (aj.new wc 207 [.int .u8 s.L[k].page.kind,.int .u8 s.L[k].page.level,.int .u32 id,.int .u64 s.L[k].page.aL,.int .u32 s.L[k].page.next,.slice A s.L[k].page.rows.length c',.int .i64 ((s.L[k].pins:Int)+1),.bool s.L[k].aK,.int .u64 s.L[k].from_].toArray)) (λx hx=>by simp at hx;rcases hx with rfl | rfl | rfl | rfl | rfl | rfl | rfl | rfl | rfl<;>rfl) (by unfold maxLen;omega) (by omega) (by simp;omega) ?_);intro v5 w5 p1 p2 p3;clear z0 z1 z2 z3 z4 z5 z6 z7 z8;rw[<-EL.out] at p1;obtain⟨A5,n5,c5,rfl⟩:=cU p1;have hsa:wc.heap.size+1<=w5.heap.size:=by have:=p2.size;simp at this;omega
  have hkk:∀b,b<w1.heap.size->w5.heap[b]? =w1.heap[b]? :=λb hb=>
   (p2.block b (by simp;omega) (λe=>by have:=R3.out b e.symm;omega)).trans ((Below.heap_alloc wc _ b (by omega)).trans (R2.out.block b hb))
  have hown:∀b,(Value.slice A5 n5 c5).ownBlock=some b->w1.heap.size<=b:=λb hb=>by
   rcases p3 b hb with e | e
   ·exact R3.out b e
   ·omega
  have hkw:∀b,b<w.heap.size->w5.heap[b]? =w.heap[b]? :=λb hb=>(hkk b (by omega)).trans (jA.out.block b hb);have hF:bG B G (w5.setCell ⟨gr,1,none⟩ (.slice A5 n5 c5)) gr (.slice A5 n5 c5) vD {s with L:=s.L.eraseIdx k++[x']}:=by
   have hxid:x'.page.id=s.L[k].page.id:=by rw[hx']
   refine H1.out.newL (by omega) (λb hb=>hkk b ?_) (by rw[zo,show[x'].length=1 from rfl,hle,zh];exact p1) (((UM.out.erase hk).keep (by omega) (λb hb=>hkw b (H.out.g b hb).1)).append (fE.one hA (Cq.out.keep (by omega) (λb hb=>hkk b (H1.out.g b hb).1)))) (λb hb=>.inr (hown b hb)) (by rw[zo];show _+1<=64;omega) (λx hx=>?_) (Sp.Xm H.out.nd hk hxid)
   ·rcases hb with(e | e) | e
    ·rw[e];omega
    ·exact H1.out.lt (.inl (.inr (.inr e)))
    ·exact(H1.out.g b e).1
   ·rcases zz.1 hx with h | h
    ·exact H.out.ids x (List.mem_of_mem_eraseIdx h)
    ·rw[zq.1 h,hxid];exact H.out.ids _ (zw hk)
  have hT:aa (fR gr (.slice (some ⟨g,0,none⟩) s.L.length c) vD) (fR gr (.slice A5 n5 c5) vD) w (w5.setCell ⟨gr,1,none⟩ (.slice A5 n5 c5)):=by
   refine⟨p2.os.trans (R2.out.os.trans jA.out.os),p2.tape.trans (R2.out.tape.trans jA.out.tape),p2.output.trans (R2.out.output.trans jA.out.output),?_,λb hb hn=>?_,λb hb=>?_⟩
   ·show w.heap.size<=(World.setCell _ _ _).heap.size;simp only[World.setCell,Array.size_modify];omega
   ·exact(Below.heap_setCell w5 ⟨gr,1,none⟩ _ b (λe=>hn (.inl e))).trans (hkw b hb)
   ·rcases hb with e | e | e
    ·exact .inl (.inl e)
    ·exact .inr (by have:=hown b e;omega)
    ·exact .inl (.inr (.inr e))
  have Yi:aj w5 gr 60 _:=H1.out.blk.keep (hkk gr (by omega));have c1:=Yi.cell 1;have f1:=Yi.frozen 1;simp only[zGA,zGB,zGC] at c1;have GP:=zH (And.intro hF hT);clear hF hT p1 p2 p3 Yi hkk hkw hown;go_wp2_with fail;exact bodyPost_end (results_none (by kernel_rfl) _ _ _) rfl ⟨rfl,_,GP.out.1,GP.out.2⟩
end
end
open Go.RowKit Go.Conc
namespace Sp
theorem Xb {s:aF} (h:dJ s.L id=true):s.iQ id=(0,(cJ s.L id).map (·.page),{s with L:=nk s.L id}):=by
 unfold aF.iQ;rw[zK h]
theorem Tk {s:aF} (h:dJ s.L id=false) (ht:s.top<id):s.iQ id=(2,none,s):=by
 unfold aF.iQ;rw[zD (by rw[h];decide),zK ht]
theorem O0 {s:aF} (h:dJ s.L 0=false):s.iQ 0=(60,none,s):=by
 unfold aF.iQ;rw[zD (by rw[h];decide),zD (by omega),zK rfl]
theorem O5 {s:aF} (h:dJ s.L id=false) (ht:id<=s.top) (h0:id≠0) (hr:s.room.1≠0):s.iQ id=(s.room.1,none,s.room.2):=by
 unfold aF.iQ;rw[zD (by rw[h];decide),zD (by omega),zD h0];dsimp only;rw[zK hr]
def yV (s:aF) (id:Nat) (s1:aF):Prop:=s1.Ok/\dJ s1.L id=true/\∀x,cJ s1.L id=some x->s.iQ id=(0,some x.page,{s1 with L:=nk s1.L id})
theorem yV.of_in {s:aF} (ho:s.Ok) (h:dJ s.L id=true):yV s id s:=⟨ho,h,λx hx=>by rw[Xb h,hx];rfl⟩
theorem yV.Xf {s:aF} (ho:s.Ok) (h:dJ s.L id=false) (ht:id<=s.top) (h0:1<=id) (hr:s.room.1=0):yV s id {s.room.2 with L:=s.room.2.L++[⟨s.home id,0,false,0⟩]}:=by
 have hd:s.home id=s.cm id:=by unfold aF.home;rw[zD (by omega)]
 obtain⟨d1,d2⟩:=ho.cm id h0 ht;have hn:=EA h;refine⟨ho.room.snoc (by rw[hd,d1,(iE s).1];exact⟨h0,ht⟩) (by rw[hd];exact d2) (by show 0<_;omega) (by rw[hd,d1];exact hn) (by rw[(iE s).2.1];exact xo ho hr),?_,λx hx=>?_⟩
 ·unfold dJ;rw[List.any_append];simp[hd,d1]
 ·have hx2:cJ (s.room.2.L++[⟨s.home id,0,false,0⟩]) id=some ⟨s.home id,0,false,0⟩:=by
   unfold cJ;rw[List.find?_append];have:s.room.2.L.find? (λx=>x.page.id==id)=none:=by
    rw[List.find?_eq_none];unfold dJ at hn;rw[List.any_eq_false] at hn;exact hn
   rw[this];simp[hd,d1]
  rw[hx2] at hx;injection hx with hx;subst hx;unfold aF.iQ;rw[zD (by rw[h];decide),zD (by omega),zD (by omega)];dsimp only;rw[zD (by rw[hr];simp),hd]
end Sp
theorem bG.snoc {B gr:Nat} {G:af} {w w1:World} {vL vD:Value} {s:Sp.aF} (h:bG B G w gr vL vD s) {x:Sp.RI} (hA:NM A) (hR:aA G w A x.page.rows)
 (oP:fE G w s.L xs) (hb:zB w w1) (hrow:w'.ownsRow B 207 9 v (s.L.length+1) (xs++au x A c)) (hg:w1.grownBy w' vL.ownBlock) (hv:∀k,v.ownBlock=some k->vL.ownBlock=some k\/w1.heap.size<=k)
 (hf:s.L.length+1<=64) (hid:∀y∈s.L++[x],y.page.id<4294967296) (hn:((s.L++[x]).map (·.page.id)).Nodup):
 bG B G (w'.setCell ⟨gr,1,none⟩ v) gr v vD {s with L:=s.L++[x]}/\aa (fR gr vL vD) (fR gr v vD) w (w'.setCell ⟨gr,1,none⟩ v):=by
 have hs1:=hb.size;have hs2:=hg.size;have hk:∀b,b<w.heap.size->vL.ownBlock≠some b->w'.heap[b]? =w.heap[b]? :=λb hlt hne=>(hg.block b (by omega) (λe=>hne e.symm)).trans (hb.block b hlt);have hkG:∀b,G b->w'.heap[b]? =w.heap[b]? :=λb hb=>hk b (h.g b hb).1 (h.g b hb).2.2.1;refine⟨h.newL (by omega) (λb hb=>?_) (by rw[zo];exact hrow) ((oP.keep (by omega) hkG).append (fE.one hA (hR.keep (by omega) hkG))) (λb hb=>(hv b hb).imp id (λe=>by omega)) (by rw[zo];exact hf) hid hn,?_⟩
 ·rcases hb with(e | e) | e
  ·exact hk b (by rw[e];exact h.blk.lt) (by rw[e];exact h.Lr)
  ·exact hk b (h.lt (.inl (.inr (.inr e)))) (λe2=>h.LD b e2 e)
  ·exact hkG b e
 ·refine⟨hg.os.trans hb.os,hg.tape.trans hb.tape,hg.output.trans hb.output,?_,λb hlt hn=>?_,λb hb=>?_⟩
  ·show w.heap.size<=(World.setCell _ _ _).heap.size;simp only[World.setCell,Array.size_modify];omega
  ·exact(Below.heap_setCell w' ⟨gr,1,none⟩ v b (λe=>hn (.inl e))).trans (hk b hlt (λe=>hn (.inr (.inl e))))
  ·rcases hb with e | e | e
   ·exact .inl (.inl e)
   ·rcases hv b e with e | e
    ·exact .inl (.inr (.inl e))
    ·exact .inr (by omega)
   ·exact .inl (.inr (.inr e))
def PinRf (B:Nat) (G:af) (w:World) (gr:Nat) (vL vD:Value) (r:Nat×Option Sp.Pg×Sp.aF) (e:Ending) (w':World):Prop:=
 dg B G w gr vL vD r.2.2 w'/\((r.2.1=none/\r.1≠0/\e=.returned (.tuple #[eG,.int .i64 r.1]))\/
  ∃x A cc,r.2.1=some x/\r.1=0/\e=.returned (.tuple #[iR x A cc,.int .i64 0])/\NM A/\aA G w' A x.rows)
section
variable {B gr:Nat} {G:af} {w:World} {vL vD:Value} {s:Sp.aF}
theorem S8 (h:bG B G w gr vL vD s) (ho:s.Ok) (hid:id<4294967296):
 Calls prog 69 #[ptr gr,av id] w (PinRf B G w gr vL vD (s.iQ id)):=by
 obtain⟨r,hr⟩:=zE (s.iQ id);rw[<-hr];have HE:=zH hr;have H:=zH h;have hba:=(zR w).alloc (za _) (.cells #[.int .u8 0,.int .u8 0,.int .u32 0,.int .u64 0,.int .u32 0,.slice none 0 0] 64);have SJ:=aj.new w 64 #[.int .u8 0,.int .u8 0,.int .u32 0,.int .u64 0,.int .u32 0,.slice none 0 0];have h1:=h.below hba;have hgq:¬(fR gr vL vD w.heap.size\/G w.heap.size):=λe=>by have:=h.lt e;omega
 obtain⟨gq,hgqe⟩:=zE w.heap.size;have T6:w.heap.size<=gq:=by omega
 clear hr h;go_enter func69,ntmps69;go_upto_region 1 with fail;generalize hw1:World.alloc w _=w1 at*;rw[<-hgqe] at SJ hgq ⊢;clear hgqe hw1;have H1:=zH h1;have Gj:=zH hba;have HBQ:=zH SJ;have Wh:=zH hgq;have vZ:=zH (lX h1 id);clear h1 hba SJ hgq;go_wp2_with fail;refine vZ.out.mono ?_;rintro e w2 ⟨rfl,hb2⟩;have H2:=zH (H1.out.below hb2);have eo:=zH (HBQ.out.below hb2 HBQ.out.lt);have Ss:=zH (Gj.out.trans (hb2.mono Gj.out.size));have hgq2:gq<w2.heap.size:=eo.out.lt;clear vZ hb2 H1 HBQ Gj;go_upto_if 14 with fail;go_cut [5] (λv wy=>v=.int .i64 0/\∃vL1 s1,bG B G wy gr vL1 vD s1/\Sp.yV s id s1/\aa (fR gr vL vD) (fR gr vL1 vD) w2 wy)
 case first=>
  rcases Sp.gO s id with⟨hat,cQ,hno⟩ | ⟨k,hk,hat,II,cQ,Xr⟩
  ·rw[hat];clear hat cQ;by_cases qo:s.top<id
   ·have HHO:=zH (sA H2.out hid qo ho.top);have hpf:=Sp.Tk hno qo;rw[<-HE.out] at hpf;subst hpf;clear HE;go_wp2_with fail;refine HHO.out.mono ?_;rintro e w3 ⟨rfl,hb3⟩;have cg:=eo.out.below hb3 hgq2;have hba:=(zR w3).alloc (za _) (.cells #[.int .u8 0,.int .u8 0,.int .u32 0,.int .u64 0,.int .u32 0,.slice none 0 0] 64);have jh:=zH (cg.below hba cg.lt);have Cp:=zH ((H2.out.below hb3).below hba);have JE:=zH ((aa.az (Ss.out.trans (hb3.mono Ss.out.size)) (fR gr vL vD)).trans (aa.az hba _));clear HHO hb3 cg hba;go_wp2_with (refine cL rfl _ _ _ rfl gq 0 #[.int .u8 0,.int .u8 0,.int .u32 0,.int .u64 0,.int .u32 0,.slice none 0 0] rfl rfl _ _ jh.out eI (by show 0+6<=6;omega) (by simp[Value.oneCell']) ?_);generalize uh:World.setRow _ gq _=w9;have iZ:aj w9 gq 64 #[.int .u8 0,.int .u8 0,.int .u32 0,.int .u64 0,.int .u32 0,.slice none 0 0]:=by rw[<-uh];exact(jh.out).setRow _
    have Iw:bG B G w9 gr vL vD s:=by rw[<-uh];exact(Cp.out).Ds (g:=gq) (Wh.out) _
    have Iu:aa (fR gr vL vD) (fR gr vL vD) w w9:=by rw[<-uh];exact(JE.out).setRow (g:=gq) (.inr T6) _
    have y0:=iZ.cell 0;have y1:=iZ.cell 1;have y2:=iZ.cell 2;have y3:=iZ.cell 3;have y4:=iZ.cell 4;have y5:=iZ.cell 5;simp only[zGA,zGB,zGC] at y0 y1 y2 y3 y4 y5;clear uh;exact bodyPost_ret (v:=.tuple #[eG,.int .i64 2]) (by rw[results_cell_tmp rfl];go_simp) rfl ⟨⟨_,Iw,Iu⟩,.inl ⟨rfl,by simp,rfl⟩⟩
   ·rename_i J9 K9 MU aT;have yg:id<=s.top:=by omega
    have ZO:=zH (uO H2.out hid yg ho.top);go_wp2_with fail;refine ZO.out.mono ?_;rintro e w3 ⟨A,c,rfl,hA,hR,hb3⟩;have cg:=eo.out.below hb3 hgq2;have hba:=(zR w3).alloc (za _) (.cells (aG (s.home id) A c) 64);have jh:=zH (cg.below hba cg.lt);have Cp:=zH ((H2.out.below hb3).below hba);have JE:=zH ((aa.az (Ss.out.trans (hb3.mono Ss.out.size)) (fR gr vL vD)).trans (aa.az hba _));have HX:=zH (aj.new w3 64 (aG (s.home id) A c));have Ge:=zH (Reads.below hR hba);have HAA:=zH hA;have HT24:=zH ((aa.az hb3 (fR gr vL vD)).trans (aa.az hba _));have hgX:gq<w3.heap.size:=cg.lt;have hw23:w2.heap.size<=w3.heap.size:=hb3.size;clear ZO hb3 cg hba hR hA;by_cases h0:id=0
    ·subst h0;have hz:(s.home 0).id=1048576:=rfl;have hpf:=Sp.O0 hno;rw[<-HE.out] at hpf;subst hpf;clear HE;have z2:=HX.out.cell 2;simp only[aG,zGA,zGB,zGC] at z2;rw[hz] at z2;go_wp2_with (refine cL rfl _ _ _ rfl gq 0 #[.int .u8 0,.int .u8 0,.int .u32 0,.int .u64 0,.int .u32 0,.slice none 0 0] rfl rfl _ _ jh.out eI (by show 0+6<=6;omega) (by simp[Value.oneCell']) ?_);generalize uh:World.setRow _ gq _=w9;have iZ:aj w9 gq 64 #[.int .u8 0,.int .u8 0,.int .u32 0,.int .u64 0,.int .u32 0,.slice none 0 0]:=by rw[<-uh];exact(jh.out).setRow _
     have Iw:bG B G w9 gr vL vD s:=by rw[<-uh];exact(Cp.out).Ds (g:=gq) (Wh.out) _
     have Iu:aa (fR gr vL vD) (fR gr vL vD) w w9:=by rw[<-uh];exact(JE.out).setRow (g:=gq) (.inr T6) _
     have y0:=iZ.cell 0;have y1:=iZ.cell 1;have y2:=iZ.cell 2;have y3:=iZ.cell 3;have y4:=iZ.cell 4;have y5:=iZ.cell 5;simp only[zGA,zGB,zGC] at y0 y1 y2 y3 y4 y5;clear uh;exact bodyPost_ret (v:=.tuple #[eG,.int .i64 60]) (by rw[results_cell_tmp rfl];go_simp) rfl ⟨⟨_,Iw,Iu⟩,.inl ⟨rfl,by simp,rfl⟩⟩
    ·have hidd:=(ho.cm id (by omega) yg).1;have hh:(s.home id).id=id:=by
      unfold Sp.aF.home;rw[zD h0];exact hidd
     have z2:=HX.out.cell 2;simp only[aG,zGA,zGB,zGC] at z2;rw[hh] at z2;have B2:aG (s.home id) A c=#[.int .u8 (s.home id).kind,.int .u8 (s.home id).level,.int .u32 id,.int .u64 (s.home id).aL,.int .u32 (s.home id).next,.slice A (s.home id).rows.length c]:=by unfold aG;rw[hh]
     rw[B2] at Cp jh HX Ge JE HT24;have HRM:=zH (EC Cp.out ho);have HH:=zH hh;have nE:(((id:Int)==(id:Int)))=true:=by simp
     clear hidd;go_wp2_with fail;clear hh;refine HRM.out.mono ?_;rintro e w5 ⟨rfl,vL5,h5,iV⟩;have hgq4:gq<(w3.alloc (.cells #[.int .u8 (s.home id).kind,.int .u8 (s.home id).level,.int .u32 id,.int .u64 (s.home id).aL,.int .u32 (s.home id).next,.slice A (s.home id).rows.length c] 64)).heap.size:=jh.out.lt;have hgq5:¬(fR gr vL5 vD gq\/G gq):=λe=>by
      rcases e with e | e
      ·rcases iV.foot gq e with e | e
       ·exact Wh.out (.inl e)
       ·omega
      ·exact Wh.out (.inr e)
     have mj:=zH (jh.out.turns iV (λe=>Wh.out (.inl e)));have Bi:=zH (JE.out.trans iV);clear HRM;by_cases hr:s.room.1=0
     ·have HPI:=zH (Sp.yV.Xf ho hno yg (by omega) hr);have hrl:=Sp.xo ho hr;rw[hr];clear z2;go_wp2_with fail;obtain⟨A5,c5,rfl,hzz⟩:=h5.slice;clear hzz;obtain⟨xs,hrow,oP⟩:=h5.L;have Ab:=HX.out.turns iV (λe=>by have:=H2.out.lt (.inl e);omega);have QL:aA G w5 A (s.home id).rows:=Ge.out.turns iV (λb hb=>⟨(Cp.out.g b hb).1,λe=>by
       obtain⟨_,q2,q3,q4⟩:=Cp.out.g b hb;rcases e with e | e | e
       ·exact q2 e
       ·exact q3 e
       ·exact q4 e⟩)
      obtain⟨g6,qu⟩:=zE w3.heap.size;have hg6o:¬fR gr (.slice A5 s.room.2.L.length c5) vD g6:=λe=>by
       rcases iV.foot g6 e with e | e
       ·have:=H2.out.lt (.inl e);omega
       ·simp only[World.size_alloc] at e;omega
      rw[<-qu] at Ab ⊢;clear qu;have ez:∀(W:World),aj W gr 60 #[.int .i64 s.room.2.frames,.slice A5 s.room.2.L.length c5,vD,.int .u64 s.room.2.forced,.int .u64 s.room.2.next]->aj W g6 64 #[.int .u8 (s.home id).kind,.int .u8 (s.home id).level,.int .u32 id,.int .u64 (s.home id).aL,.int .u32 (s.home id).next,.slice A (s.home id).rows.length c]->W.cell? ⟨gr,1,none⟩=some (.slice A5 s.room.2.L.length c5)/\W.cell? ⟨g6,0,none⟩=some (.int .u8 (s.home id).kind)/\W.cell? ⟨g6,1,none⟩=some (.int .u8 (s.home id).level)/\W.cell? ⟨g6,2,none⟩=some (.int .u32 id)/\W.cell? ⟨g6,3,none⟩=some (.int .u64 (s.home id).aL)/\W.cell? ⟨g6,4,none⟩=some (.int .u32 (s.home id).next)/\W.cell? ⟨g6,5,none⟩=some (.slice A (s.home id).rows.length c):=λW h1 h2=>
       ⟨(h1.cell 1).trans rfl,(h2.cell 0).trans rfl,(h2.cell 1).trans rfl,(h2.cell 2).trans rfl,(h2.cell 3).trans rfl,(h2.cell 4).trans rfl,(h2.cell 5).trans rfl⟩
      have qd:=zH ez;have H5:=zH h5;have R5:=zH Ab;have rT:=zH hrow;have UM:=zH oP;have Zv:=zH QL;have HT25:=zH (HT24.out.trans iV);have hS:=zH (qd.out w5.drew H5.out.blk.drew R5.out.drew);obtain⟨iI,T5,hy0,hy1,sP⟩:=info_parts pU;have eC:B<=w5.heap.size:=zl h5.lo (by have:=h5.blk.lt;omega);have hfr:=(Sp.iE s).2.1;have hf64:=ho.frames;have lZ:s.room.2.L.length+1<=64:=by omega
      have hgro:gr≠g6:=λe=>hg6o (.inl e.symm);clear h5 iV Ab hrow oP QL ez Bi mj jh Cp JE HX Ge B2 hfr;refine fQ (fun(W:World)=>zC W gr 1 (.slice A5 s.room.2.L.length c5)/\zC W g6 0 (.int .u8 (s.home id).kind)/\zC W g6 1 (.int .u8 (s.home id).level)/\zC W g6 2 (.int .u32 id)/\zC W g6 3 (.int .u64 (s.home id).aL)/\zC W g6 4 (.int .u32 (s.home id).next)/\zC W g6 5 (.slice A (s.home id).rows.length c)) (λj=>decide (11<=j)) ?_
      repeat (refine bK hS.out ?_)
      have hba:=(zR w5).drew.alloc (za _) (.cells #[.int .u8 (s.home id).kind,.int .u8 (s.home id).level,.int .u32 id,.int .u64 (s.home id).aL,.int .u32 (s.home id).next,.slice A (s.home id).rows.length c,.int .i64 0,.bool false,.int .u64 0] 207);refine fe 7 42 (v:=.slice (some ⟨w5.heap.size,0,none⟩) 1 1) (w':=w5.drew.alloc (.cells #[.int .u8 (s.home id).kind,.int .u8 (s.home id).level,.int .u32 id,.int .u64 (s.home id).aL,.int .u32 (s.home id).next,.slice A (s.home id).rows.length c,.int .i64 0,.bool false,.int .u64 0] 207)) rfl ?_ (λ_=>qd.out _ (H5.out.blk.below hba H5.out.blk.lt) (R5.out.below hba R5.out.lt)) ?_
      ·first | (go_simp;done) | (go_simp;rfl)
      refine jf 8 rfl (by rfl) (by kernel_rfl) ?_;refine bX _ _ _ _ rfl B 207 iI _ 9 72 underlying57 T5 hy0 hy1 sP rfl (by decide) _ _ _ rfl (rT.out.drew.alloc _) ⟨w5.heap.size,0,none⟩ 1 1 [.int .u8 (s.home id).kind,.int .u8 (s.home id).level,.int .u32 id,.int .u64 (s.home id).aL,.int .u32 (s.home id).next,.slice A (s.home id).rows.length c,.int .i64 0,.bool false,.int .u64 0] rfl rfl (e8 (cs:=[.int .u8 (s.home id).kind,.int .u8 (s.home id).level,.int .u32 id,.int .u64 (s.home id).aL,.int .u32 (s.home id).next,.slice A (s.home id).rows.length c,.int .i64 0,.bool false,.int .u64 0]) (aj.new w5.drew 207 #[.int .u8 (s.home id).kind,.int .u8 (s.home id).level,.int .u32 id,.int .u64 (s.home id).aL,.int .u32 (s.home id).next,.slice A (s.home id).rows.length c,.int .i64 0,.bool false,.int .u64 0])) (λx hx=>by simp at hx;rcases hx with rfl | rfl | rfl | rfl | rfl | rfl | rfl | rfl | rfl<;>rfl) (by unfold maxLen;omega) (by omega) (by simp;omega) ?_;intro v6 w6 q1 q2 q3;obtain⟨A6,n6,c6,rfl⟩:=cU q1;have Yg:some gr≠(Value.slice A5 s.room.2.L.length c5).ownBlock:=λe=>H5.out.Lr e.symm;have Yl:some g6≠(Value.slice A5 s.room.2.L.length c5).ownBlock:=λe=>hg6o (.inr (.inl e.symm));have I3:aj w6 gr 60 _:=(H5.out.blk.below hba H5.out.blk.lt).grown q2 Yg;have vh:=(R5.out.below hba R5.out.lt).grown q2 Yl;refine⟨λ_=>qd.out w6 I3 vh,?_⟩;refine qZ 43 rfl ?_;simp only[zSA,zSB,zSC];refine fe 9 44 (v:=ptr gr) (w':=w6) rfl (by go_simp) (λ_=>qd.out w6 I3 vh) ?_;refine fe 10 45 (v:=.pointer (some ⟨gr,1,none⟩)) (w':=w6) rfl (by go_simp) (λ_=>qd.out w6 I3 vh) ?_;have c16:=I3.cell 1;have f16:=I3.frozen 1;simp only[zGA,zGB,zGC] at c16;refine jx 11 (w':=w6.setCell ⟨gr,1,none⟩ (.slice A6 n6 c6)) rfl (by go_simp) (λh=>nomatch h) ?_;have hnew:au ⟨s.home id,0,false,0⟩ A c=[.int .u8 (s.home id).kind,.int .u8 (s.home id).level,.int .u32 id,.int .u64 (s.home id).aL,.int .u32 (s.home id).next,.slice A (s.home id).rows.length c,.int .i64 0,.bool false,.int .u64 0]:=by simp only[au,HH.out];rfl
      rw[<-hnew] at q1;have oM:=H5.out.snoc (x:=⟨s.home id,0,false,0⟩) HAA.out Zv.out UM.out hba q1 q2 q3 lZ (λy hy=>by have:=HPI.out.1.dA y hy;have:=HPI.out.1.top;omega) HPI.out.1.nd;have qy:=zH oM;clear oM q1 q2 q3 I3 vh c16 f16 hS hba;refine aC (by kernel_rfl) ?_ _;refine aT _ _ ?_;clear aT;go_meet
      case rel=>exact⟨rfl,_,_,qy.out.1,HPI.out,HT25.out.trans qy.out.2⟩
     ·have hpf:=Sp.O5 hno yg h0 hr;rw[<-HE.out] at hpf;subst hpf;clear HE;generalize s.room=rm at*;obtain⟨n,s5⟩:=rm;dsimp only at hr h5 Bi iV ⊢;have hn1:decide ((n:Int)=0)=false:=by rw[ze];omega
      have hn2:((n:Int)==0)=false:=by rw[zv];omega
      have qN:¬(n:Int)=0:=by omega
      have H5:=zH h5;clear h5 iV z2;go_wp2_with (refine cL rfl _ _ _ rfl gq 0 #[.int .u8 0,.int .u8 0,.int .u32 0,.int .u64 0,.int .u32 0,.slice none 0 0] rfl rfl _ _ mj.out eI (by show 0+6<=6;omega) (by simp[Value.oneCell']) ?_);generalize uh:World.setRow _ gq _=w9;have iZ:aj w9 gq 64 #[.int .u8 0,.int .u8 0,.int .u32 0,.int .u64 0,.int .u32 0,.slice none 0 0]:=by rw[<-uh];exact(mj.out).setRow _
      have Iw:bG B G w9 gr vL5 vD s5:=by rw[<-uh];exact(H5.out).Ds (g:=gq) (hgq5) _
      have Iu:aa (fR gr vL vD) (fR gr vL5 vD) w w9:=by rw[<-uh];exact(Bi.out).setRow (g:=gq) (.inr T6) _
      have y0:=iZ.cell 0;have y1:=iZ.cell 1;have y2:=iZ.cell 2;have y3:=iZ.cell 3;have y4:=iZ.cell 4;have y5:=iZ.cell 5;simp only[zGA,zGB,zGC] at y0 y1 y2 y3 y4 y5;clear uh;exact bodyPost_ret (v:=.tuple #[eG,.int .i64 n]) (by rw[results_cell_tmp rfl];go_simp) rfl ⟨⟨_,Iw,Iu⟩,.inl ⟨rfl,hr,rfl⟩⟩
  ·rw[hat];have hds:decide ((k:Int)<0)=false:=by rw[ze];omega
   have hds2:¬(k:Int)<0:=by omega
   go_wp2_with fail;go_meet
   case rel=>exact⟨rfl,vL,s,H2.out,Sp.yV.of_in ho Xr,aa.refl _ _⟩
 case rest=>
  rename_i K9 aT;refine aT _ _ ?_;clear aT;obtain⟨rfl,vL1,s1,h3,hP,gA⟩:=hcut;rcases Sp.gO s1 id with⟨_,_,hno⟩ | ⟨k,hk,hat,II,cQ,_⟩
  ·rw[hP.2.1] at hno;cases hno
  ·have IB:=hP.2.2 _ cQ;rw[<-HE.out] at IB;subst IB;have vZ:=zH (lX h3 id);rw[hat] at vZ;have H3:=zH h3;have Zs:=zH ((aa.az Ss.out (fR gr vL vD)).trans gA);have Ns:=zH (eo.out.turns gA (λe=>Wh.out (.inl e)));have hgqv:¬(fR gr vL1 vD gq\/G gq):=λe=>by
    rcases e with e | e
    ·rcases gA.foot gq e with e | e
     ·exact Wh.out (.inl e)
     ·omega
    ·exact Wh.out (.inr e)
   have HO:=zH hP.1;have HGV:=zH hgqv;clear h3 gA HE hat hP eo hgqv;go_wp2_with fail;refine vZ.out.mono ?_;rintro e w5 ⟨rfl,cS⟩;have h5:=H3.out.below cS;obtain⟨g,c,A,c',rfl,hA,hR,hc⟩:=h5.item hk;obtain⟨x,hx⟩:=zE (s1.L[k]);rw[<-hx] at hR hc II;have HXX:=zH hx;clear hx;have c1:=h5.blk.cell 1;simp only[zGA,zGB,zGC] at c1;have k0:=hc 0 (by omega);have k1:=hc 1 (by omega);have k2:=hc 2 (by omega);have k3:=hc 3 (by omega);have k4:=hc 4 (by omega);have k5:=hc 5 (by omega);simp only[au,zGB,zGC,Nat.add_zero] at k0 k1 k2 k3 k4 k5;have hba:=(zR w5).alloc (za _) (.cells #[.int .u8 x.page.kind,.int .u8 x.page.level,.int .u32 id,.int .u64 x.page.aL,.int .u32 x.page.next,.slice A x.page.rows.length c'] 64);have qz:=zH (aj.new w5 64 #[.int .u8 x.page.kind,.int .u8 x.page.level,.int .u32 id,.int .u64 x.page.aL,.int .u32 x.page.next,.slice A x.page.rows.length c']);have HR6:=zH (Reads.below hR hba);have HPS:=zH (OC (h5.below hba) HO.out hk (id:=id) (by have:=II;rw[HXX.out] at this;exact this));have HBQ6:=zH ((Ns.out.below cS Ns.out.lt).below hba (Ns.out.below cS Ns.out.lt).lt);have HT6:=zH (Zs.out.trans ((aa.az cS _).trans (aa.az hba _)));have H6:=zH (h5.below hba);have jm:¬(fR gr (.slice (some ⟨g,0,none⟩) s1.L.length c) vD w5.heap.size):=λe=>by have:=h5.lt (.inl e);omega
   have hgq5:gq<w5.heap.size:=zf Ns.out.lt cS.size;clear hR hc h5 cS hba vZ H3 Zs Ns HO;go_wp2_with fail;clear k0 k1 k2 k3 k4 k5 c1;refine HPS.out.mono ?_;rintro e w7 ⟨rfl,v',h7,iU⟩;have fu:=qz.out.turns iU jm;have YP:aA G w7 A x.page.rows:=HR6.out.turns iU (λb hb=>⟨(H6.out.g b hb).1,λe=>by
    obtain⟨_,q2,q3,q4⟩:=H6.out.g b hb;rcases e with e | e | e
    ·exact q2 e
    ·exact q3 e
    ·exact q4 e⟩)
   have VB:¬(fR gr v' vD gq\/G gq):=λe=>by
    rcases e with e | e
    ·rcases iU.foot gq e with e | e
     ·exact HGV.out (.inl e)
     ·simp only[World.size_alloc] at e;omega
    ·exact HGV.out (.inr e)
   have HBQ7:=zH (HBQ6.out.turns iU (λe=>HGV.out (.inl e)));have Zr:=zH (HT6.out.trans iU);have H7:=zH h7;have HR7:=zH YP;have HV7:=zH VB;have z0:=fu.cell 0;have z1:=fu.cell 1;have z2:=fu.cell 2;have z3:=fu.cell 3;have z4:=fu.cell 4;have z5:=fu.cell 5;simp only[zGA,zGB,zGC] at z0 z1 z2 z3 z4 z5;clear h7 iU fu YP VB HPS qz HR6 HBQ6 HT6 H6;have B2:aG x.page A c'=#[.int .u8 x.page.kind,.int .u8 x.page.level,.int .u32 id,.int .u64 x.page.aL,.int .u32 x.page.next,.slice A x.page.rows.length c']:=by unfold aG;rw[II]
   go_wp2_with (refine cL rfl _ _ _ rfl gq 0 #[.int .u8 x.page.kind,.int .u8 x.page.level,.int .u32 id,.int .u64 x.page.aL,.int .u32 x.page.next,.slice A x.page.rows.length c'] rfl rfl _ _ HBQ7.out eI (by show 0+6<=6;omega) (by simp[Value.oneCell']) ?_);generalize uh:World.setRow _ gq _=w9;have iZ:aj w9 gq 64 #[.int .u8 x.page.kind,.int .u8 x.page.level,.int .u32 id,.int .u64 x.page.aL,.int .u32 x.page.next,.slice A x.page.rows.length c']:=by rw[<-uh];exact(HBQ7.out).setRow _
   have Iw:bG B G w9 gr v' vD {s1 with L:=Sp.nk s1.L id}:=by rw[<-uh];exact(H7.out).Ds (g:=gq) HV7.out _
   have Iu:aa (fR gr vL vD) (fR gr v' vD) w w9:=by rw[<-uh];exact(Zr.out).setRow (g:=gq) (.inr T6) _
   have hw9Q:aA G w9 A x.page.rows:=by rw[<-uh];exact HR7.out.keep (zbj (by simp[World.setRow])) (λb hb=>ak _ _ _ _ (λe=>HV7.out (.inr (by rw[<-e];exact hb))))
   have y0:=iZ.cell 0;have y1:=iZ.cell 1;have y2:=iZ.cell 2;have y3:=iZ.cell 3;have y4:=iZ.cell 4;have y5:=iZ.cell 5;simp only[zGA,zGB,zGC] at y0 y1 y2 y3 y4 y5;clear uh;have evg:iR x.page A c'=.agg #[.int .u8 x.page.kind,.int .u8 x.page.level,.int .u32 id,.int .u64 x.page.aL,.int .u32 x.page.next,.slice A x.page.rows.length c']:=by show Value.agg (aG x.page A c')=_;rw[B2]
   refine bodyPost_ret (v:=.tuple #[iR x.page A c',.int .i64 0]) (by rw[evg,results_cell_tmp rfl];go_simp) rfl ⟨⟨_,Iw,Iu⟩,.inr ⟨x.page,A,c',by rw[HXX.out],rfl,rfl,hA,hw9Q⟩⟩
end
section
open Go.Conc
section
variable {B gr:Nat} {G:af} {w:World} {vL vD:Value} {s:Sp.aF}
theorem LQ (h:bG B G w gr vL vD s) (ho:s.Ok) {x:Sp.Pg} (hwf:x.wf) {A0:Option Addr} {c0:Nat} (Ae:NM A0) (yB:aA G w A0 x.rows) (hn:x.rows.length<=1000000000) (ht:Sp.total x.rows<=1000000000000000000):
 Calls prog 82 #[ptr gr,iR x A0 c0] w λe w'=>e=.returned (.int .i64 (s.fresh x (bE x)).1)/\dg B G w gr vL vD (s.fresh x (bE x)).2 w':=by
 obtain⟨r,hr⟩:=zE (s.fresh x (bE x));rw[<-hr];have HE:=zH hr;have H:=zH h;have hba:=(zR w).alloc (za _) (.cells (aG x A0 c0) 64);have aM:=aj.new w 64 (aG x A0 c0);have lU:=zH (BA (w:=w.alloc (.cells (aG x A0 c0) 64)) (c:=c0) (Reads.below yB hba) hn ht);have JI:=zH yB;have HA0:=zH Ae;have HWF:=zH hwf;have VA:x.id<4294967296:=hwf.2.2.1;clear hr h yB Ae hwf;go_enter func82,ntmps82;go_wp2_with fail;obtain⟨w1,hw1⟩:=zE (w.alloc (.cells (aG x A0 c0) 64));rw[<-hw1] at aM lU hba ⊢;obtain⟨g3,hg3⟩:=zE w.heap.size;rw[<-hg3] at aM ⊢;have MF:w.heap.size<=g3:=by omega
 have hg3n:¬(fR gr vL vD g3\/G g3):=λe=>by have:=H.out.lt e;omega
 clear hw1 hg3;refine lU.out.mono ?_;rintro e w2 ⟨rfl,hb2⟩;have bB:=aM.below hb2 aM.lt;have dm:zB w w2:=hba.trans (hb2.mono hba.size);clear lU aM hb2 hba
 cases hm:bE x with
 | false=>
  have e1:s.fresh x false=(2,s):=by unfold Sp.aF.fresh;rw[zK rfl]
  rw[hm] at HE;clear bB;go_wp2_with fail;go_ret;rw[HE.out,e1];exact⟨rfl,dg.same H.out dm⟩
 | true=>
  rw[hm] at HE;have hmay:=(mF x).1 hm;have hx1:1<=x.id:=hmay.2.1;have z0:=bB.cell 0;have z1:=bB.cell 1;have z2:=bB.cell 2;have z3:=bB.cell 3;have z4:=bB.cell 4;have z5:=bB.cell 5;simp only[zGA,zGB,zGC] at z0 z1 z2 z3 z4 z5;have vZ:=zH (lX (H.out.below dm) x.id);have eo:=zH bB;have HM:=zH hmay;clear bB hmay;go_wp2_with fail;refine vZ.out.mono ?_;rintro e w3 ⟨rfl,hb3⟩;have dY:zB w w3:=dm.trans (hb3.mono dm.size);have cg:=eo.out.below hb3 eo.out.lt;clear vZ z0 z1 z2 z3 z4 z5 eo hb3 dm;have h3:=H.out.below dY;rcases Sp.gO s x.id with⟨hat,cQ,hno⟩ | ⟨k,hk,hat,hid,cQ,Xr⟩
  ·rw[hat];have z2:=cg.cell 2;simp only[zGA,zGB,zGC] at z2;have rY:=zH cg;have H3:=zH h3;have Nt:=zH dY;clear hat cQ cg h3 dY;by_cases qo:s.top<x.id
   ·have HHO:=zH (sA H3.out VA qo ho.top);have e1:s.fresh x true=(2,s):=by unfold Sp.aF.fresh;rw[zD (by decide),zD (by rw[hno];decide),zK qo]
    go_wp2_with fail;refine HHO.out.mono ?_;rintro e w4 ⟨rfl,hb4⟩;have jh:=zH (Nt.out.trans (hb4.mono Nt.out.size));clear HHO z2 hb4;go_wp2_with fail;go_ret;rw[HE.out,e1];exact⟨rfl,dg.same H.out (jh.out.alloc jh.out.size _)⟩
   ·have yg:x.id<=s.top:=by omega
    have ZO:=zH (uO H3.out VA yg ho.top);go_wp2_with fail;refine ZO.out.mono ?_;rintro e w4 ⟨A,c,rfl,hA,hR,hb4⟩;have qx:=Nt.out.trans (hb4.mono Nt.out.size);have hba:=(zR w4).alloc (za _) (.cells (aG (s.home x.id) A c) 64);have dn:=rY.out.below hb4 rY.out.lt;have mj:=zH (dn.below hba dn.lt);have H5:=zH (H.out.below (qx.trans (hba.mono qx.size)));have Z1:=zH (qx.trans (hba.mono qx.size));have HRM:=zH (EC H5.out ho);clear ZO z2 hb4 qx hba dn hA hR;go_wp2_with fail;refine HRM.out.mono ?_;rintro e w5 ⟨rfl,vL5,h5,iV⟩;clear HRM;have hfr:s.fresh x true=(if s.room.1≠0 then(s.room.1,s.room.2) else(0,{s.room.2 with L:=s.room.2.L++[⟨x,1,true,x.aL⟩]})):=by
     unfold Sp.aF.fresh;rw[zD (by decide),zD (by rw[hno];decide),zD qo]
    by_cases hr:s.room.1=0
    ·have hrl:=Sp.xo ho hr;rw[zD (by rw[hr];simp),<-HE.out] at hfr;have hnn:=Sp.EA hno;have hok:({s.room.2 with L:=s.room.2.L++[⟨x,1,true,x.aL⟩]}:Sp.aF).Ok:=ho.room.snoc (by rw[(Sp.iE s).1];exact⟨hx1,yg⟩) HWF.out.2.2.2.1 (by show 1<_;omega) hnn (by rw[(Sp.iE s).2.1];exact hrl);rw[hr];obtain⟨A5,c5,rfl,hzz⟩:=h5.slice;clear hzz;obtain⟨xs,hrow,oP⟩:=h5.L;have Ab:aj w5 g3 64 (aG x A0 c0):=mj.out.turns iV (λe=>hg3n (.inl e));have QL:aA G w5 A0 x.rows:=(Reads.below JI.out Z1.out).turns iV (λb hb=>⟨(H5.out.g b hb).1,λe=>by
      obtain⟨_,q2,q3,q4⟩:=H5.out.g b hb;rcases e with e | e | e
      ·exact q2 e
      ·exact q3 e
      ·exact q4 e⟩)
     have hg3o:¬fR gr (.slice A5 s.room.2.L.length c5) vD g3:=λe=>by
      rcases iV.foot g3 e with e | e
      ·exact hg3n (.inl e)
      ·have:=mj.out.lt;omega
     have ez:∀(W:World),aj W gr 60 #[.int .i64 s.room.2.frames,.slice A5 s.room.2.L.length c5,vD,.int .u64 s.room.2.forced,.int .u64 s.room.2.next]->aj W g3 64 (aG x A0 c0)->W.cell? ⟨gr,1,none⟩=some (.slice A5 s.room.2.L.length c5)/\W.cell? ⟨g3,0,none⟩=some (.int .u8 x.kind)/\W.cell? ⟨g3,1,none⟩=some (.int .u8 x.level)/\W.cell? ⟨g3,2,none⟩=some (.int .u32 x.id)/\W.cell? ⟨g3,3,none⟩=some (.int .u64 x.aL)/\W.cell? ⟨g3,4,none⟩=some (.int .u32 x.next)/\W.cell? ⟨g3,5,none⟩=some (.slice A0 x.rows.length c0):=λW h1 h2=>
      ⟨(h1.cell 1).trans rfl,(h2.cell 0).trans rfl,(h2.cell 1).trans rfl,(h2.cell 2).trans rfl,(h2.cell 3).trans rfl,(h2.cell 4).trans rfl,(h2.cell 5).trans rfl⟩
     have qd:=zH ez;have H6:=zH h5;have R5:=zH Ab;have rT:=zH hrow;have UM:=zH oP;have Zv:=zH QL;have Bi:=zH ((aa.az Z1.out (fR gr vL vD)).trans iV);have Bk:=zH hok;have hS:=zH (qd.out w5.drew H6.out.blk.drew R5.out.drew);obtain⟨iI,T5,hy0,hy1,sP⟩:=info_parts pU;have eC:B<=w5.heap.size:=zl h5.lo (by have:=h5.blk.lt;omega);have hf64:=ho.frames;have lZ:s.room.2.L.length+1<=64:=by omega
     have Gg:=zH hfr;clear h5 iV Ab hrow oP QL ez mj hfr hok HE hrl hf64;go_wp2_with fail;refine fQ (fun(W:World)=>zC W gr 1 (.slice A5 s.room.2.L.length c5)/\zC W g3 0 (.int .u8 x.kind)/\zC W g3 1 (.int .u8 x.level)/\zC W g3 2 (.int .u32 x.id)/\zC W g3 3 (.int .u64 x.aL)/\zC W g3 4 (.int .u32 x.next)/\zC W g3 5 (.slice A0 x.rows.length c0)) (λj=>decide (13<=j)) ?_
     repeat (refine bK hS.out ?_)
     have hba:=(zR w5).drew.alloc (za _) (.cells #[.int .u8 x.kind,.int .u8 x.level,.int .u32 x.id,.int .u64 x.aL,.int .u32 x.next,.slice A0 x.rows.length c0,.int .i64 1,.bool true,.int .u64 x.aL] 207);refine fe 9 39 (v:=.slice (some ⟨w5.heap.size,0,none⟩) 1 1) (w':=w5.drew.alloc (.cells #[.int .u8 x.kind,.int .u8 x.level,.int .u32 x.id,.int .u64 x.aL,.int .u32 x.next,.slice A0 x.rows.length c0,.int .i64 1,.bool true,.int .u64 x.aL] 207)) rfl ?_ (λ_=>qd.out _ (H6.out.blk.below hba H6.out.blk.lt) (R5.out.below hba R5.out.lt)) ?_
     ·first | (go_simp;done) | (go_simp;rfl)
     refine jf 10 rfl (by rfl) (by kernel_rfl) ?_;refine bX _ _ _ _ rfl B 207 iI _ 9 72 underlying57 T5 hy0 hy1 sP rfl (by decide) _ _ _ rfl (rT.out.drew.alloc _) ⟨w5.heap.size,0,none⟩ 1 1 [.int .u8 x.kind,.int .u8 x.level,.int .u32 x.id,.int .u64 x.aL,.int .u32 x.next,.slice A0 x.rows.length c0,.int .i64 1,.bool true,.int .u64 x.aL] rfl rfl (e8 (cs:=[.int .u8 x.kind,.int .u8 x.level,.int .u32 x.id,.int .u64 x.aL,.int .u32 x.next,.slice A0 x.rows.length c0,.int .i64 1,.bool true,.int .u64 x.aL]) (aj.new w5.drew 207 #[.int .u8 x.kind,.int .u8 x.level,.int .u32 x.id,.int .u64 x.aL,.int .u32 x.next,.slice A0 x.rows.length c0,.int .i64 1,.bool true,.int .u64 x.aL])) (λx hx=>by simp at hx;rcases hx with rfl | rfl | rfl | rfl | rfl | rfl | rfl | rfl | rfl<;>rfl) (by unfold maxLen;omega) (by omega) (by simp;omega) ?_;intro v6 w6 q1 q2 q3;obtain⟨A6,n6,c6,rfl⟩:=cU q1;have Yg:some gr≠(Value.slice A5 s.room.2.L.length c5).ownBlock:=λe=>H6.out.Lr e.symm;have Yl:some g3≠(Value.slice A5 s.room.2.L.length c5).ownBlock:=λe=>hg3o (.inr (.inl e.symm));have I3:aj w6 gr 60 _:=(H6.out.blk.below hba H6.out.blk.lt).grown q2 Yg;have vh:=(R5.out.below hba R5.out.lt).grown q2 Yl;refine⟨λ_=>qd.out w6 I3 vh,?_⟩;refine qZ 40 rfl ?_;simp only[zSA,zSB,zSC];refine fe 11 41 (v:=ptr gr) (w':=w6) rfl (by go_simp) (λ_=>qd.out w6 I3 vh) ?_;refine fe 12 42 (v:=.pointer (some ⟨gr,1,none⟩)) (w':=w6) rfl (by go_simp) (λ_=>qd.out w6 I3 vh) ?_;have c16:=I3.cell 1;have f16:=I3.frozen 1;simp only[zGA,zGB,zGC] at c16;refine jx 13 (w':=w6.setCell ⟨gr,1,none⟩ (.slice A6 n6 c6)) rfl (by go_simp) (λh=>nomatch h) ?_;have oM:=H6.out.snoc (x:=⟨x,1,true,x.aL⟩) HA0.out Zv.out UM.out hba q1 q2 q3 lZ (λy hy=>by have:=Bk.out.dA y hy;have:=Bk.out.top;omega) Bk.out.nd;have qy:=zH oM;clear oM q1 q2 q3 I3 vh c16 f16 hS hba;refine aC (by kernel_rfl) ?_ _;rename_i K9 aT;refine aT _ _ ?_;clear aT;go_wp2_with fail;go_ret;rw[Gg.out];exact⟨rfl,_,qy.out.1,Bi.out.trans qy.out.2⟩
    ·rw[zK hr,<-HE.out] at hfr;generalize s.room=rm at*;obtain⟨n,s5⟩:=rm;dsimp only at hr h5 iV hfr ⊢;have hn1:decide ((n:Int)=0)=false:=by rw[ze];omega
     have hn2:((n:Int)==0)=false:=by rw[zv];omega
     have qN:¬(n:Int)=0:=by omega
     have HP:=zH (And.intro h5 ((aa.az Z1.out (fR gr vL vD)).trans iV));have Gg:=zH hfr;clear h5 iV hfr HE;go_wp2_with fail;go_ret;rw[Gg.out];exact⟨rfl,_,HP.out.1,HP.out.2⟩
  ·have e1:s.fresh x true=(8,s):=by unfold Sp.aF.fresh;rw[zD (by decide),zK Xr]
   rw[hat];have hds:decide ((0:Int)<=(k:Int))=true:=by rw[zA];omega
   have hds2:(0:Int)<=(k:Int):=by omega
   clear hat cQ h3 cg;go_wp2_with fail;go_ret;rw[HE.out,e1];exact⟨rfl,dg.same H.out dY⟩
end
end
section
open Go.Shelf
def _root_.Go.Proofs.Tryz.qm:Go.Shelf.Ren:=⟨fun | 41=>147 | n=>n,fun | 22=>65 | 23=>61 | 4=>4 | n=>n,fun | n=>n⟩
theorem _root_.Go.Proofs.Tryz.nS:Go.Proofs.SlLaysE0.n41 prog Tryz.qm:={
 mixed:=by kernel_rfl
 f41:=⟨f147.name,by decide,func147.trans (congrArg some (by kernel_rfl))⟩
 t4:=underlying4
 a4:=Tryz.isAgg4
 z4:=sizeOf4
 v4:=zeroValue4
 t22:=underlying65
 a22:=Tryz.isAgg65
 z22:=sizeOf65
 v22:=zeroValue65}
open Go.RowKit Go.Lib in
theorem _root_.Go.Proofs.Tryz.r_ (i0:TypeInfo) (z:Value) (size bytes:Nat) (hi:prog.info? 61=some i0) (hz0:i0.zero=some z) (hz1:i0.size=size) (hz2:i0.bytes=bytes) (hzs:z.cells.size=size) (hsz:0<size) (z23:∀w,(Go.sizeOf 61).run prog w=.ok size w) (b off n c:Nat) (news:List Value) (w:World) (hl:news.length=n*size) (hn:n<=maxLen) (hbig:n*bytes<=140737488355328) (hc:∀j u,news[j]? =some u->w.cell? ⟨b,off+j,none⟩=some u) (h1:∀u∈news,u.oneCell'=true):
 Calls prog 147 #[.slice (some ⟨b,off,none⟩) n c] w λe w'=>∃v',e=.returned v'/\w'.ownsRow w.heap.size 61 size v' n news/\v'≠.slice none 0 0/\zB w w':=AnyE.slices_Clone Tryz.nS i0 z size bytes hi hz0 hz1 hz2 hzs hsz z23 b off n c news w hl hn hbig hc h1
open Go.RowKit Go.Lib in
theorem _root_.Go.Proofs.Tryz.n_ (n c:Nat) (w:World):
 Calls prog 147 #[.slice none n c] w λe w'=>e=.returned (.slice none 0 0)/\w'=w:=AnyE.slices_Clone_nil Tryz.nS n c w
end
open Go.RowKit Go.Conc Go.Maps
section
variable {P:Program} {k e t:TypeId} {w:World} {b n:Nat} {l:List Nat}
theorem jN.RA (z:DataW Unit) (l:List Nat) (h:p∈l):(setOf (H:=Unit) (.lit (.bool true)) (l.map fH)).atKey (fH p) z=.lit (.bool true):=by
 have key:∀r:List Nat,p∈r.reverse->(setOf (H:=Unit) (.lit (.bool true)) (r.reverse.map fH)).atKey (fH p) z=.lit (.bool true):=by
  intro r
  induction r with
  | nil=>intro h;cases h
  | cons q r ih=>
   intro h;rw[List.reverse_cons] at h ⊢;rw[zI,List.map_singleton,setOf_snoc];by_cases hq:p=q
   ·subst hq;exact atKey_put_same (tidy_setOf _ _ (λx hx=>by obtain⟨y,_,rfl⟩:=zn.1 hx;exact iC y)).isMap (iC p) _ _
   ·rw[atKey_put_other (λe=>hq (ou e))];refine ih ?_;rcases zz.1 h with h | h
    ·exact h
    ·exact absurd (zq.1 h) hq
 have:=key l.reverse (by simpa using h);simpa using this
theorem jN.gw (h:jN P k e w b n l) (hk:P.underlying k=some (.int .u32)) (he:P.underlying e=some .bool) (ht:P.underlying t=some (.map k e)) (hz:(zeroValue e).run P w=.ok (.bool false) w) (hp:p<4294967296) (hn:p∈l):
 (Instr.lookup t (.map (some b)) (.int .u32 (p:Int)) false).run P w=.ok (.bool true) w:=by
 obtain⟨v,ps,hrun,hv⟩:=World.ownsMap.lookup h (int_keyed hk) ht hz (plainElem_bool he false) (keyOf_int_mk hk (mX hp));rw[jN.RA _ l hn] at hv;rw[hrun,F4 he hv]
end
theorem Na {G:af} {w:World} (hR:Reads G w 1 A q.length (q.map av)) (hA:cO A) (hl:q.length<=1000000) (hpos:0<q.length):
 Calls prog 147 #[.slice A q.length c] w λe w'=>∃g c',e=.returned (.slice (some ⟨g,0,none⟩) q.length c')/\w.heap.size<=g/\w'.ownsRow w.heap.size 61 1 (.slice (some ⟨g,0,none⟩) q.length c') q.length (q.map av)/\zB w w':=by
 obtain⟨i0,hi,hz0,hz1,hz2⟩:=info_parts oz;have TF:∀w,(Go.sizeOf 61).run prog w=.ok 1 w:=λw=>by kernel_rfl
 obtain⟨b,o,rfl,_,_,hc⟩:=hR.2 hpos;refine(Tryz.r_ i0 _ 1 4 hi hz0 hz1 hz2 rfl (by decide) TF b o q.length c (q.map av) w (by simp) (by unfold maxLen;omega) (by omega) hc (λu hu=>by
  obtain⟨x,_,rfl⟩:=zn.1 hu;rfl)).mono ?_
 rintro e w1 ⟨v,rfl,hO,hnn,hb⟩;obtain⟨g,c',rfl⟩:=bP hO hpos;exact⟨g,c',rfl,(hO.lt g rfl).1,hO,hb⟩
namespace Sp
def aF.flush (s:aF) (q:List Nat):Nat×aF:=
 if ¬q.Nodup then(2,s)
 else if 8<(q.filter (aW s.L)).length then(2,s)
 else if q.all (dJ s.L)=false then(3,s)
 else s.write q
theorem xP {k:Nat} (hk:k<q.length) (h:q[k]! ∈q.take k):¬q.Nodup:=λhn=>by
 have e:q=q.take k++q[k]! ::q.drop (k+1):=by rw[zG _ k hk,<-zao hk,zS]
 rw[e,za3] at hn;exact hn.2.2 _ h _ zbe rfl
theorem vC {k:Nat} (hk:k<q.length) (hn:(q.take k).Nodup) (h:q[k]! ∉q.take k):(q.take (k+1)).Nodup:=by
 rw[zg hk,<-zG q k hk,za3];exact⟨hn,by simp,λa ha b hb e=>h (by rw[<-zq.1 hb,<-e];exact ha)⟩
end Sp
def Z3 (p:Sp.Pl) (q:List Nat) (c:Nat):Prop:=(c=2/\(¬q.Nodup\/8<(q.filter p.jR).length))\/(c=3/\q.Nodup/\(q.filter p.jR).length<=8/\q.all (λn=>(p.find n).isSome)=false)
theorem Hq {F R G:af} {w:World} {at_ base:Nat} {cs:Array Value} {p:Sp.Pl} (h:aH F R w gp gd gl at_ base fb cb mb v s r cs fl ids p)
 (hA:cO A) (Ae:q.length=0->A=none) (hR:Reads G w 1 A q.length (q.map av)) (hq:∀n∈q,n<4294967296) (hl:q.length<=100000) {X:Nat->World->Prop}
 (hX:q.Nodup->(q.filter p.jR).length<=8->(∀n∈q,∃it,p.find n=some it)->0<q.length->∀W,zB w W->∀g c',w.heap.size<=g->W.ownsRow w.heap.size 61 1 (.slice (some ⟨g,0,none⟩) q.length c') q.length (q.map av)->
  Calls prog 146 #[ptr gp,.slice (some ⟨g,0,none⟩) q.length c'] W λe w'=>∃c:Nat,e=.returned (.int .i64 c)/\X c w')
 (hX0:q.length=0->∀W,zB w W->Calls prog 146 #[ptr gp,.slice none 0 0] W λe w'=>∃c:Nat,e=.returned (.int .i64 c)/\X c w'):
 Calls prog 77 #[ptr gp,.slice A q.length c] w λe w'=>∃c:Nat,e=.returned (.int .i64 c)/\((Z3 p q c/\zB w w')\/X c w'):=by
 have HM:=zH (cF (w:=w) h.cells.2.2.2.2.2.2.1);have HH:=zH h;have Ge:=zH hR;have HQ:=zH hq;have HX:=zH hX;have z_:=@run_makeMap prog;have lZ:=h.wf.rV;clear h hR hq hX;go_enter func77,ntmps77;go_wp2_with fail;refine HM.out.mono ?_;rintro e w1 ⟨rfl,hw⟩;subst w1;go_wp2_with fail;have hU0:jN prog 61 4 (w.alloc (.map #[] 0)) w.heap.size 0 []:=jN.made w;have hb0:=(Below.refl _ w).alloc (za _) (.map #[] 0);have HU0:=zH hU0;clear hU0 z_ HM;generalize w.alloc (.map #[] 0)=w1 at*;have hmb:w.heap.size<w1.heap.size:=HU0.out.lt;obtain⟨mbs,hmbs⟩:=zE w.heap.size;rw[<-hmbs] at HU0 ⊢;have hmbl:w.heap.size<=mbs:=by omega
 clear hmbs;go_loopw [6,7,18] (λv6 v7 i wr=>∃k:Nat,k<=q.length/\v6=.int .i64 ((q.take k).filter p.jR).length/\v7=.bool ((q.take k).all (λn=>(p.find n).isSome))/\i=.int .i64 k/\jN prog 61 4 wr mbs k (q.take k)/\(q.take k).Nodup/\zB w wr) (λ_ _ i _=>q.length-(intOf i).toNat)
 case atStart=>exact⟨0,by omega,rfl,rfl,rfl,HU0.out,by simp,hb0⟩
 case round=>
  obtain⟨k,hk,rfl,rfl,rfl,hU,hnd,hbr⟩:=hrel;have hflen:((q.take k).filter p.jR).length<=k:=zl (zau _ _) (by simp;omega);by_cases hlt:k<q.length
  ·obtain⟨b,o,u,rfl,_,_,hu,hcell⟩:=(Reads.below Ge.out hbr).at_ hlt;have My:q[k]? =some q[k]! :=by rw[zG q k hlt];exact zk hlt
   rw[zN,My] at hu;injection hu with hu;subst hu;have hid:=HQ.out q[k]! (by rw[zG q k hlt];exact zw hlt);have MO:=zH (Sp.xP (q:=q) (k:=k) hlt);have BQ:=zH (Sp.vC (q:=q) (k:=k) hlt hnd);have kJ:Hid ((q.take (k+1)).filter p.jR=(q.take k).filter p.jR++(if p.jR q[k]! =true then[q[k]!] else[])):=by
    show _=_;rw[zg hlt,<-zG q k hlt,zba]
    congr 1
    by_cases h:p.jR q[k]! =true
    ·rw[zK h,zU h,List.filter_nil]
    ·rw[zD h,zQ h,List.filter_nil]
   have rX:Hid ((q.take (k+1)).all (λn=>(p.find n).isSome)=((q.take k).all (λn=>(p.find n).isSome)&&(p.find q[k]!).isSome)):=by
    show _=_;rw[zg hlt,<-zG q k hlt,List.all_append];simp
   have htk:Hid (q.take (k+1)=q.take k++[q[k]!]):=by
    show _=_;rw[zg hlt,<-zG q k hlt]
   have hmeas:k+1<=q.length:=hlt;clear My;generalize q[k]! =id at*;have hr:=HH.out.keep hbr.size (λb hb=>hbr.block b (HH.out.lt b hb));have c6:=hr.cells.2.2.2.2.2.2.1;by_cases hin:id∈q.take k
   ·have hlk:=hU.gw underlying61 underlying4 underlying241 (Tryz.zb _) hid hin;have HB:=zH hbr
    cases hf:p.find id with
    | none=>
     have hlo:=hr.gH hid hf;clear hU hr hbr;go_wp2_with fail;go_ret;exact⟨2,rfl,.inl ⟨.inl ⟨rfl,.inl (MO.out hin)⟩,HB.out⟩⟩
    | some it=>
     have hlo:=hr.gw hid hf;clear hU hr hbr;go_wp2_with fail;go_ret;exact⟨2,rfl,.inl ⟨.inl ⟨rfl,.inl (MO.out hin)⟩,HB.out⟩⟩
   ·have hlk:=hU.E4 underlying61 underlying4 underlying241 (Tryz.zb _) hid hin;obtain⟨w3,hrun3,YK,hg3⟩:=hU.put underlying61 underlying4 underlying241 (by unfold maxLen;omega) hid;rw[<-htk.out] at YK;have hb3:zB w w3:=hbr.grown hg3 hbr.size (λr e=>by injection e with e;omega);have h3:=HH.out.keep hb3.size (λb hb=>hb3.block b (HH.out.lt b hb));have Mz:=BQ.out hin;have V5:=zH YK;have rY:=zH hb3
    cases hf:p.find id with
    | none=>
     have hlo:=hr.gH hid hf;have hd:p.jR id=false:=by unfold Sp.Pl.jR;rw[hf]
     rw[hd,zD (by decide),za7] at kJ;rw[hf,Option.isSome_none,Bool.and_false] at rX;clear hU hr hbr h3 YK hb3 hg3;generalize hall:(q.take k).all (λn=>(p.find n).isSome)=bb
     cases bb with
     | true=>
      go_wp2_with fail;go_roundw
      case rel=>exact⟨k+1,hmeas,by rw[kJ.out],by rw[rX.out],by go_num,V5.out,Mz,rY.out⟩
      case measure=>simp[intOf];omega
     | false=>
      go_wp2_with fail;go_roundw
      case rel=>exact⟨k+1,hmeas,by rw[kJ.out],by rw[rX.out],by go_num,V5.out,Mz,rY.out⟩
      case measure=>simp[intOf];omega
    | some it=>
     have hlo:=hr.gw hid hf;have hit:=(Sp.Pl.bu hf).1;have hd:p.jR id=it.aK:=by unfold Sp.Pl.jR;rw[hf]
     rw[hf,Option.isSome_some,Bool.and_true] at rX;obtain⟨A0,c0',_,_,hc0⟩:=h3.fr.item it hit;have k7:=(h3.fr.blk.cell (it.idx*9+7)).trans (hc0 7 (by omega));simp only[aQ,zGB,zGC] at k7;have c4:=h3.cells.2.2.2.2.1;have vG:=h3.wf.fp hit;clear hU hr hbr h3 YK hb3 hg3 hc0;generalize hall:(q.take k).all (λn=>(p.find n).isSome)=bb at*
     cases hdd:it.aK with
     | false=>
      rw[hdd] at k7 hd;rw[hd,zD (by decide),za7] at kJ
      cases bb with
      | true=>
       go_wp2_with fail;go_roundw
       case rel=>exact⟨k+1,hmeas,by rw[kJ.out],by rw[rX.out],by go_num,V5.out,Mz,rY.out⟩
       case measure=>simp[intOf];omega
      | false=>
       go_wp2_with fail;go_roundw
       case rel=>exact⟨k+1,hmeas,by rw[kJ.out],by rw[rX.out],by go_num,V5.out,Mz,rY.out⟩
       case measure=>simp[intOf];omega
     | true=>
      rw[hdd] at k7 hd;rw[hd,zK rfl] at kJ
      cases bb with
      | true=>
       go_wp2_with fail;go_roundw
       case rel=>exact⟨k+1,hmeas,by rw[kJ.out,zo];go_num,by rw[rX.out],by go_num,V5.out,Mz,rY.out⟩
       case measure=>simp[intOf];omega
      | false=>
       go_wp2_with fail;go_roundw
       case rel=>exact⟨k+1,hmeas,by rw[kJ.out,zo];go_num,by rw[rX.out],by go_num,V5.out,Mz,rY.out⟩
       case measure=>simp[intOf];omega
  ·obtain rfl:k=q.length:=by omega
   rw[zL] at hnd hflen ⊢;have HB:=zH hbr;have hsz:=hbr.size;by_cases h8:8<(q.filter p.jR).length
   ·have d8:decide (8<(q.filter p.jR).length)=true:=by rw[zA];exact h8
    clear hU hbr;go_wp2_with fail;go_ret;exact⟨2,rfl,.inl ⟨.inl ⟨rfl,.inr h8⟩,HB.out⟩⟩
   ·have d8:decide (8<(q.filter p.jR).length)=false:=by rw[ze];exact h8
    generalize hall:q.all (λn=>(p.find n).isSome)=bb
    cases bb with
    | false=>
     clear hU hbr;go_wp2_with fail;go_ret;exact⟨3,rfl,.inl ⟨.inr ⟨rfl,hnd,by omega,hall⟩,HB.out⟩⟩
    | true=>
     have MZ:∀n∈q,∃it,p.find n=some it:=λn hn=>Option.isSome_iff_exists.1 (by simpa using List.all_eq_true.1 hall n hn);clear hU;rcases Nat.eq_zero_or_pos q.length with h0 | hpos
     ·obtain rfl:=Ae h0;have hcn:=zH (Tryz.n_ 0 c wr);have hw0:=zH (hX0 h0 wr hbr);clear hbr;go_wp2_with fail;refine hcn.out.mono ?_;rintro e w5 ⟨rfl,Gu⟩;subst w5;go_wp2_with fail;refine hw0.out.mono ?_;rintro e w5 ⟨cc,rfl,hx⟩;have hxh:=zH hx;clear hx;go_wp2_with fail;go_ret;exact⟨cc,rfl,.inr hxh.out⟩
     ·have hcn:=zH (Na (c:=c) (Reads.below Ge.out hbr) hA (by omega) hpos);go_wp2_with fail;refine hcn.out.mono ?_;rintro e w5 ⟨g,c',rfl,hg,hO,cS⟩;have ux:=hbr.trans (cS.mono hbr.size);have SG:w5.ownsRow w.heap.size 61 1 (.slice (some ⟨g,0,none⟩) q.length c') q.length (q.map av):=by
       refine⟨hO.1,?_⟩;rcases hO.2 with h | ⟨g',cap,cur,e,hb,rest⟩
       ·exact .inl h
       ·exact .inr ⟨g',cap,cur,e,zl hsz hb,rest⟩
      have hw0:=zH (HX.out hnd (by omega) MZ hpos w5 ux g c' (zl hsz hg) SG);clear hbr hO SG cS;go_wp2_with fail;refine hw0.out.mono ?_;rintro e w6 ⟨cc,rfl,hx⟩;have hxh:=zH hx;clear hx;go_wp2_with fail;go_ret;exact⟨cc,rfl,.inr hxh.out⟩
open Go.RowKit Go.Conc
namespace Sp
theorem M3 {s:aF} (h:¬q.Nodup):s.flush q=(2,s):=by unfold aF.flush;rw[zK h]
theorem M5 {L:List RI} (hi:i<q.length):((q.take (i+1)).filter (aW L)).length=((q.take i).filter (aW L)).length+(if aW L q[i]=true then 1 else 0):=by
 rw[zg hi,zba,zo]
 congr 1
 cases h:aW L q[i] with
 | true=>rw[zU h];rfl
 | false=>rw[zQ (by rw[h];decide)];rfl
theorem RJ {L:List RI} (hi:i<q.length):(q.take (i+1)).all (dJ L)=((q.take i).all (dJ L)&&dJ L q[i]):=by
 rw[zg hi,List.all_append];simp
end Sp
section
variable {B gr:Nat} {G:af} {w:World} {vL vD:Value} {s:Sp.aF}
theorem LR (h:bG B G w gr vL vD s) (ho:s.Ok) {G1:af} {A0:Option Addr} {c0:Nat} (yB:Reads G1 w 1 A0 q.length (q.map av)) (MV:rf w (fR gr vL vD) G1) (TV:q.length<=100000):
 Calls prog 78 #[ptr gr,.slice A0 q.length c0] w λe w'=>e=.returned (.int .i64 (s.flush q).1)/\dg B G w gr vL vD (s.flush q).2 w':=by
 obtain⟨r,hr⟩:=zE (s.flush q);rw[<-hr];have HE:=zH hr;have H:=zH h;have JI:=zH yB;have Wx:=zH MV;clear hr h yB MV;go_enter func78,ntmps78;go_wp2_with fail;go_loopw [5,6,7] (λv5 v6 v7 wr=>∃i:Nat,i<=q.length/\v5=.int .i64 (((q.take i).filter (Sp.aW s.L)).length:Nat)/\v6=.bool ((q.take i).all (Sp.dJ s.L))/\v7=.int .i64 i/\(q.take i).Nodup/\zB w wr) (λ_ _ v7 _=>q.length-(intOf v7).toNat)
 case atStart=>exact⟨0,by omega,rfl,rfl,rfl,by simp,Below.refl _ _⟩
 case round=>
  obtain⟨i,hi,rfl,rfl,rfl,hnd,hbr⟩:=hrel;have IX:((q.take i).filter (Sp.aW s.L)).length<=100000:=by
   have h1:=zau (Sp.aW s.L) (q.take i);rw[zag] at h1;omega
  by_cases hlt:i<q.length
  ·obtain⟨b,o,hA,I2,cH,hcell⟩:=JI.out.2 (by omega);subst hA;have hcw:∀j (hj:j<q.length) (W:World),zB w W->W.cell? ⟨b,o+j,none⟩=some (av q[j]):=λj hj W hb=>(hb.cell (p:=⟨b,o+j,none⟩) cH).trans (hcell j _ (by rw[zN,zk hj];rfl));have HC:=zH hcw;have hft:=Sp.M5 (L:=s.L) hlt;have hat2:=Sp.RJ (L:=s.L) hlt;have hmeas:i+1<=q.length:=hlt;have HND:=zH hnd;have HFT:=zH hft;have UY:=zH hat2;generalize((q.take i).filter (Sp.aW s.L)).length=n0 at*;generalize(q.take i).all (Sp.dJ s.L)=b0 at*;clear hcell hcw hnd hft hat2 I2;go_wp2_with fail;go_loopw [8] (λv8 wq=>∃k:Nat,k<=i/\v8=.int .i64 k/\(∀x∈q.take k,x≠q[i])/\zB w wq) (λv8 _=>i-(intOf v8).toNat)
   case atStart=>exact⟨0,by omega,rfl,by simp,hbr⟩
   case round=>
    obtain⟨k,hk,rfl,hno,qT⟩:=hrel;by_cases hki:k<i
    ·have ck:=HC.out k (by omega) _ qT;have ci:=HC.out i hlt _ qT;have hmk:k+1<=i:=hki;have hkq:(k:Int)<(q.length:Int):=by omega
     have hiq:(i:Int)<(q.length:Int):=by omega
     by_cases he:q[k]=q[i]
     ·have MO:¬q.Nodup:=λhn=>by
       have hp:=za8.1 hn k i (by omega) hlt hki;exact hp he
      have e1:=Sp.M3 (s:=s) MO;rw[he] at ck;clear hno he;go_wp2_with fail;go_quiet (fail);go_wp2_with fail;go_ret;rw[HE.out,e1];exact⟨rfl,dg.same H.out (below_drewN' qT _)⟩
     ·have IE:∀x∈q.take (k+1),x≠q[i]:=λx hx=>by
       rw[zg (by omega)] at hx;rcases zz.1 hx with hx | hx
       ·exact hno x hx
       ·rw[zq.1 hx];exact he
      have HNO:=zH IE;have hd:((q[k]:Int)==(q[i]:Int))=false:=by rw[zv];omega
      have hd2:¬(q[k]:Int)=(q[i]:Int):=by omega
      clear hno IE;generalize q[k]=qk at*;generalize hqi:q[i]=qi at*;go_wp2_with fail;go_quiet (fail);go_wp2_with fail;go_roundw
      case rel=>exact⟨k+1,hmk,by go_num,HNO.out,below_drewN' qT _⟩
      case measure=>simp[intOf];omega
    ·obtain rfl:k=i:=by omega
     have ci:=HC.out k hlt _ qT;have hiq:(k:Int)<(q.length:Int):=by omega
     have hnd':(q.take (k+1)).Nodup:=by
      rw[zg hlt,za3];refine⟨HND.out,by simp,λa ha b hb=>?_⟩;rw[zq.1 hb];exact hno a ha
     have Nr:=zH hnd';have vZ:=zH (lX (H.out.below qT) q[k]);clear hno hnd';go_wp2_with fail;refine vZ.out.mono ?_;rintro e w3 ⟨rfl,hb3⟩;have dY:=qT.trans (hb3.mono qT.size);clear vZ;have h3:=H.out.below dY;rcases Sp.gO s q[k] with⟨hat,cQ,nB⟩ | ⟨k2,hk2,hat,hid,cQ,nB⟩
     ·have e1:=HFT.out;have e2:=UY.out;rw[nB,Bool.and_false] at e2;have hdd:Sp.aW s.L q[k]=false:=by unfold Sp.aW;rw[cQ]
      rw[hdd,zD (by decide),Nat.add_zero] at e1;have E1:=zH e1;have E2:=zH e2;rw[hat];clear hat cQ nB h3 e1 e2 hdd HFT UY
      cases b0 with
      | true=>
       go_wp2_with fail;go_roundw
       case rel=>exact⟨k+1,hmeas,by rw[E1.out];rfl,by rw[E2.out],by go_num,Nr.out,dY⟩
       case measure=>simp[intOf];omega
      | false=>
       go_wp2_with fail;go_roundw
       case rel=>exact⟨k+1,hmeas,by rw[E1.out];rfl,by rw[E2.out],by go_num,Nr.out,dY⟩
       case measure=>simp[intOf];omega
     ·obtain⟨g,c,A,c',PC,hA,hR,hc⟩:=h3.item hk2;have c1:=h3.blk.cell 1;simp only[zGA,zGB,zGC] at c1;rw[PC] at c1;have k7:=hc 7 (by omega);simp only[au,zGB,zGC] at k7;have e1:=HFT.out;have e2:=UY.out;rw[nB,Bool.and_true] at e2;have hdd:Sp.aW s.L q[k]=s.L[k2].aK:=by unfold Sp.aW;rw[cQ]
      rw[hdd] at e1;rw[hat];have hds:decide ((0:Int)<=(k2:Int))=true:=by rw[zA];omega
      have hds2:(0:Int)<=(k2:Int):=by omega
      clear hat cQ nB h3 hdd HFT UY hid hA hR hc PC;generalize s.L[k2].aK=dd at*;have E1:=zH e1;have E2:=zH e2;clear e1 e2
      cases dd with
      | true=>
       cases b0 with
       | true=>
        go_wp2_with fail;go_roundw
        case rel=>exact⟨k+1,hmeas,by rw[E1.out];go_num,by rw[E2.out],by go_num,Nr.out,dY⟩
        case measure=>simp[intOf];omega
       | false=>
        go_wp2_with fail;go_roundw
        case rel=>exact⟨k+1,hmeas,by rw[E1.out];go_num,by rw[E2.out],by go_num,Nr.out,dY⟩
        case measure=>simp[intOf];omega
      | false=>
       cases b0 with
       | true=>
        go_wp2_with fail;go_roundw
        case rel=>exact⟨k+1,hmeas,by rw[E1.out];rfl,by rw[E2.out],by go_num,Nr.out,dY⟩
        case measure=>simp[intOf];omega
       | false=>
        go_wp2_with fail;go_roundw
        case rel=>exact⟨k+1,hmeas,by rw[E1.out];rfl,by rw[E2.out],by go_num,Nr.out,dY⟩
        case measure=>simp[intOf];omega
  ·obtain rfl:i=q.length:=by omega
   rw[zL] at hnd IX ⊢;have hfl:s.flush q=if 8<(q.filter (Sp.aW s.L)).length then(2,s) else if q.all (Sp.dJ s.L)=false then(3,s) else s.write q:=by
    unfold Sp.aF.flush;rw[zD (by simpa using hnd)]
   by_cases h8:8<(q.filter (Sp.aW s.L)).length
   ·rw[zK h8,<-HE.out] at hfl;have UW:=zH hfl;generalize(q.filter (Sp.aW s.L)).length=n0 at*;have d1:decide ((8:Int)<(n0:Int))=true:=by rw[zA];omega
    have d2:(8:Int)<(n0:Int):=by omega
    clear hnd hfl hlt hi HE;go_wp2_with fail;go_ret;rw[UW.out];exact⟨rfl,dg.same H.out hbr⟩
   ·rw[zD h8,<-HE.out] at hfl;have HNI:Hid (q.all (Sp.dJ s.L)=true->∀n∈q,Sp.dJ s.L n=true):=λh=>List.all_eq_true.1 h;generalize(q.filter (Sp.aW s.L)).length=n0 at*;have d1:decide ((8:Int)<(n0:Int))=false:=by rw[ze];omega
    have d2:¬(8:Int)<(n0:Int):=by omega
    cases rX:q.all (Sp.dJ s.L) with
    | false=>
     rw[rX,zK rfl] at hfl;have UW:=zH hfl;clear hnd hfl hlt hi HE HNI rX;go_wp2_with fail;go_ret;rw[UW.out];exact⟨rfl,dg.same H.out hbr⟩
    | true=>
     rw[rX,zD (by decide)] at hfl;have UW:=zH hfl;have HW:=zH (Bz (H.out.below hbr) (c0:=c0) (Reads.below JI.out hbr) (Wx.out.below hbr.size) (HNI.out rX) TV ho.aL ho.dA);clear hnd hfl hlt hi HE HNI rX;go_wp2_with fail;refine HW.out.mono ?_;rintro e w2 ⟨rfl,h2,dx⟩;have HP:=zH (And.intro h2 ((aa.az hbr (fR gr vL vD)).trans dx));clear h2 dx HW;go_wp2_with fail;go_ret;rw[UW.out];exact⟨rfl,_,HP.out.1,HP.out.2⟩
end
open Go.RowKit Go.Conc
namespace Sp
theorem Im (hl:l.Pairwise (· <= ·)) {a:Nat} (h1:∀x∈l.take a,x<n) (h2:a=l.length\/∃h:a<l.length,n<=l[a]):(l.take a++n::l.drop a).Pairwise (· <= ·):=by
 have hd:∀y∈l.drop a,n<=y:=λy hy=>by
  rcases h2 with e | ⟨h,e⟩
  ·rw[List.drop_of_length_le (by omega)] at hy;cases hy
  ·obtain⟨j,hj,rfl⟩:=List.mem_iff_getElem.1 hy;rw[List.getElem_drop];rcases Nat.eq_zero_or_pos j with rfl | hp
   ·exact e
   ·exact zl e (za8.1 hl a (a+j) h (by simp at hj;omega) (by omega))
 rw[List.pairwise_append,List.pairwise_cons];refine⟨hl.sublist (List.take_sublist a l),⟨hd,hl.sublist (List.drop_sublist a l)⟩,λx hx y hy=>?_⟩;have:=h1 x hx;rcases zW.1 hy with rfl | hy
 ·omega
 ·have:=hd y hy;omega
theorem Pu (l:List Nat) (a n:Nat):(l.take a++n::l.drop a).Perm (l++[n]):=by
 have h1:(l.take a++n::l.drop a).Perm (n::(l.take a++l.drop a)):=List.perm_middle;rw[zS] at h1;exact h1.trans (List.perm_append_comm (l₁:=[n]) (l₂:=l))
end Sp
theorem nr {w:World} {base e size:Nat} (h:w.ownsRow base e size (.slice A m c) n xs):Reads (λb=>base<=b) w size A n xs:=by
 rcases h.2 with⟨h0,h1⟩ | ⟨g,cap,cur,h0,_⟩
 ·injection h0 with h2 _ _;subst h2 h1;exact⟨h.1,λe=>by omega⟩
 ·injection h0 with h2 h3 h4;subst h2 h3 h4;exact eX h
section
variable {B gr:Nat} {G:af} {w:World} {vL vD:Value} {s:Sp.aF}
theorem LP (h:bG B G w gr vL vD s):
 Calls prog 118 #[ptr gr] w λe w'=>∃A c,e=.returned (.slice A s.pages.length c)/\Reads (λb=>w.heap.size<=b) w' 1 A s.pages.length (s.pages.map av)/\zB w w':=by
 have H:=zH h;obtain⟨A0,c0,PC,Ql⟩:=h.slice;have HCL:=zH Ql;have jb:=h.few;obtain⟨iu,P8,hz0,hz1,hz2⟩:=info_parts oz;have HI:=zH P8;have GJ:=zH hz0;have GI:=zH hz1;have Cl:=zH hz2;clear h Ql P8 hz0 hz1 hz2;go_enter func118,ntmps118;go_wp2_with fail;go_loopw [3,4] (λv3 v4 wr=>∃(i:Nat) (l:List Nat),i<=s.L.length/\v4=.int .i64 i/\l.length=i/\wr.ownsRow w.heap.size 61 1 v3 i (l.map av)/\l.Perm ((s.L.map (·.page.id)).take i)/\l.Pairwise (· <= ·)/\zB w wr) (λ_ v4 _=>s.L.length-(intOf v4).toNat)
 case atStart=>exact⟨0,[],by omega,rfl,rfl,World.ownsRow_nil _ _ _ _,by simp,by simp,Below.refl _ _⟩
 case round=>
  obtain⟨i,l,hi,rfl,AL,hown,XU,hpw,hbr⟩:=hrel;have h1:=H.out.below hbr;have c1:=h1.blk.cell 1;simp only[zGA,zGB,zGC] at c1;rw[PC] at c1;by_cases hlt:i<s.L.length
  ·obtain⟨gL,rfl,Fv⟩:=HCL.out (by omega);have GH:=Fv i _ (zk hlt);obtain⟨n,hn⟩:=zE (s.L[i].page.id);rw[<-hn] at GH;have hgLw:gL<w.heap.size:=World.block_lt_of_cell? w _ GH;have htk:(s.L.map (·.page.id)).take (i+1)=(s.L.map (·.page.id)).take i++[n]:=by
    rw[zg (by simpa using hlt),za6,hn]
   have hmeas:i+1<=s.L.length:=hlt;have Nl:=zH hown;have HPM:=zH XU;have HPW:=zH hpw;have uG:=zH htk;have HN:=zH hn;have HCI:=zH fun(W:World) (hb:zB w W)=>(hb.cell (p:=⟨gL,i*9+2,none⟩) hgLw).trans GH;have Bl:=zH fun(W:World) (hb:zB w W)=>show W.cell? ⟨gr,1,none⟩=some (.slice (some ⟨gL,0,none⟩) s.L.length c0) from((H.out.below hb).blk.cell 1).trans (by rw[PC];rfl);have cH:=hbr.size;obtain⟨A3,n3,c3,rfl⟩:=cU hown;have qN:n3=i:=by
    rcases hown.2 with⟨h0,h2⟩ | ⟨g,cap,cur,h0,_⟩
    ·injection h0 with _ h3 _;omega
    ·injection h0
   subst qN;have hsome:0<n3->∃g,A3=some ⟨g,0,none⟩/\n3<=c3/\w.heap.size<=g/\g<wr.heap.size:=λhp=>by
    rcases hown.2 with⟨h0,h2⟩ | ⟨g,cap,cur,h0,hbg,hg,hnc,_⟩
    ·omega
    ·injection h0 with h0 _ h3;exact⟨g,h0,by omega,hbg,(zm.1 hg).1⟩
   have hnone:n3=0->l=[]:=λh0=>zy (by omega);have GL:=zH hsome;have VF:∀j (hj:j<l.length) (W:World),zB wr W->∃g,A3=some ⟨g,0,none⟩/\W.cell? ⟨g,j,none⟩=some (av l[j]):=λj hj W hb=>by
    obtain⟨g,e,_,_,kW⟩:=hsome (by omega);subst e;have:=hown.cells (g:=g) rfl j (av l[j]) (by rw[zN,zk hj];rfl);rw[kq] at this;exact⟨g,rfl,(hb.cell (p:=⟨g,j,none⟩) kW).trans this⟩
   have HCJ:=zH VF;clear hown XU hpw h1 c1 GH Fv hi htk hn hsome VF
   rename World=>w0
   have c1:=Bl.out _ hbr;have nE:(n3:Int)<(s.L.length:Int):=by omega
   go_wp2_with fail;clear c1 nE;go_loopw [5] (λv5 wq=>∃a:Nat,a<=n3/\v5=.int .i64 a/\(∀x∈l.take a,x<n)/\zB w0 wq) (λv5 _=>n3-(intOf v5).toNat)
   case atStart=>exact⟨0,by omega,rfl,by simp,Below.refl _ _⟩
   case round=>
    obtain⟨a,ha,rfl,hlo,qT⟩:=hrel;have rL:=hbr.trans (qT.mono cH);by_cases Qk:∃h:a<l.length,l[a]<n
    ·obtain⟨rX,TZ⟩:=Qk;obtain⟨g,rfl,ca⟩:=HCJ.out a rX _ qT;have GH:=HCI.out _ rL;have c1:=Bl.out _ rL;have PY:∀x∈l.take (a+1),x<n:=λx hx=>by
      rw[zg rX] at hx;rcases zz.1 hx with hx | hx
      ·exact hlo x hx
      ·rw[zq.1 hx];exact TZ
     have HLO:=zH PY;have hma:a+1<=n3:=by omega
     have d1:decide ((a:Int)<(n3:Int))=true:=by rw[zA];omega
     have d2:(a:Int)<(n3:Int):=by omega
     have d3:decide ((l[a]:Int)<(n:Int))=true:=by rw[zA];omega
     have d4:(l[a]:Int)<(n:Int):=by omega
     have d5:(n3:Int)<(s.L.length:Int):=by omega
     generalize l[a]=la at*;clear hlo PY;go_wp2_with fail;go_quiet (fail);go_wp2_with fail;go_roundw
     case rel=>exact⟨a+1,hma,by go_num,HLO.out,below_drewN' qT _⟩
     case measure=>simp[intOf];omega
    ·have hst:a=l.length\/∃h:a<l.length,n<=l[a]:=by
      by_cases rX:a<l.length
      ·exact .inr ⟨rX,by
        have:¬l[a]<n:=λh=>Qk ⟨rX,h⟩;omega⟩
      ·exact .inl (by omega)
     have ym:=Sp.Im HPW.out hlo hst;have hinp:=(Sp.Pu l a n).trans ((HPM.out.append_right [n]).trans (by rw[<-uG.out]));have UU:=zH (And.intro ym hinp);clear ym hinp hlo Qk;have d5:(n3:Int)<(s.L.length:Int):=by omega
     have ha3:(a:Int)<=(n3:Int):=by omega
     go_upto_region 6 with fail;go_cut [35] from 16 to 37 (λv wy=>v=.bool false/\zB w0 wy)
     case first=>
      rename_i J9 K9 MU aT;rcases hst with he | ⟨rX,TZ⟩
      ·have d1:decide ((a:Int)<(n3:Int))=false:=by rw[ze];omega
       have d2:¬(a:Int)<(n3:Int):=by omega
       go_quiet (fail);refine aT _ _ ?_;clear aT;go_meet
       case rel=>exact⟨rfl,below_drewN' qT _⟩
      ·obtain⟨g,rfl,ca⟩:=HCJ.out a rX _ qT;have GH:=HCI.out _ rL;have c1:=Bl.out _ rL;have d1:decide ((a:Int)<(n3:Int))=true:=by rw[zA];omega
       have d2:(a:Int)<(n3:Int):=by omega
       have d3:decide ((l[a]:Int)<(n:Int))=false:=by rw[ze];omega
       have d4:¬(l[a]:Int)<(n:Int):=by omega
       generalize l[a]=la at*;go_quiet (fail);refine aT _ _ ?_;clear aT;go_meet
       case rel=>exact⟨rfl,below_drewN' qT _⟩
     case rest=>
      rename_i K9 aT;refine aT _ _ ?_;clear aT qT rL hst;obtain⟨rfl,qT⟩:=hcut;have rL:=hbr.trans (qT.mono cH);have hsz:=rL.size;rcases Nl.out.2 with⟨h0,h2⟩ | ⟨g,cap,cur,h0,hbg,hg,hnc,hcm,_⟩
      ·injection h0 with KD _ hc3;subst KD hc3 h2;obtain rfl:a=0:=by omega
       obtain rfl:l=[]:=zy AL;clear d5 ha3;have c1:=Bl.out _ rL;have GH:=HCI.out _ rL;have nE:(0:Int)<(s.L.length:Int):=by omega
       go_upto_region 10 with(at_builtin;refine wpList_append_own_none rfl _ _ 65 rfl w.heap.size 61 iu 1 underlying65 HI.out _ 0 [] rfl (World.ownsRow_nil _ _ _ _) rfl ?_);go_wp2_with (at_builtin;refine uK rfl _ _ 65 rfl w.heap.size 61 iu _ 4 underlying65 HI.out GJ.out GI.out Cl.out rfl _ _ _ rfl (World.ownsRow_nil wc w.heap.size 61 1) (av n) rfl rfl (by unfold maxLen;omega) (by omega) (by omega) ?_);intro v8 w8 r1 r2 r3;have qw:zB wc w8:=(zR _).grown r2 (za _) (λk e=>nomatch e);obtain⟨A8,n8,c8,rfl⟩:=cU r1;have R1:=zH r1;clear r1 r2 r3 c1 GH;go_wp2_with (at_builtin;refine wpList_append_own_none rfl _ _ 65 rfl w.heap.size 61 iu 1 underlying65 HI.out _ _ _ rfl R1.out rfl ?_);go_roundw
       case rel=>
        refine⟨1,[n],hmeas,rfl,rfl,by simpa using R1.out,?_,by simp,rL.trans (qw.mono rL.size)⟩;rw[uG.out];simp
       case measure=>simp[intOf];omega
      ·injection h0 with KD _ hc3;subst KD hc3;have hRow:=cq Nl.out qT;have hce:=hRow.cells (g:=g) rfl;have Wl:=zH hce;have d6:(a:Int)<=(c3:Int):=by omega
       have hkl:(l.map av).length=n3:=by rw[zM];exact AL
       clear hce hRow hg;go_wp2_with (at_builtin;refine aO _ rfl _ _ 65 rfl w.heap.size 61 iu _ 1 4 underlying65 HI.out GJ.out GI.out Cl.out rfl (by decide) _ 0 [] rfl (World.ownsRow_nil _ _ _ _) ⟨g,0,none⟩ a c3 ((l.map av).take a) rfl (by rw[zag];omega) (λj u hu=>Wl.out j u (tZ hu)) (λu hu=>by obtain⟨z,_,rfl⟩:=zn.1 (zax hu);rfl) (by unfold maxLen;omega) (by omega) (by omega) ?_);intro v7 w7 q1 q2 q3;replace q1:w7.ownsRow w.heap.size 61 1 v7 a ((l.map av).take a):=by simpa using q1
       replace q2:wc.grownBy w7 none:=q2;have jZ:zB wc w7:=(zR _).grown q2 (za _) (λk e=>nomatch e);have hb07:=rL.trans (jZ.mono rL.size);have hs7:=jZ.size;have c1:=Bl.out _ hb07;have GH:=HCI.out _ hb07;have P_:g<wc.heap.size:=(cq Nl.out qT).lt g rfl |>.2;have ur:∀j u,(l.map av)[j]? =some u->w7.cell? ⟨g,j,none⟩=some u:=λj u hu=>by
        have:=Wl.out j u hu;rw[kq] at this;exact(jZ.cell (p:=⟨g,j,none⟩) P_).trans this
       have Q1:=zH q1;have Q3:=zH (show ∀b,v7.ownBlock=some b->wc.heap.size<=b from λb hb=>(q3 b hb).resolve_left (λe=>nomatch e));have HC7:=zH ur;clear q1 q2 q3 ur;go_wp2_with (at_builtin;refine uK rfl _ _ 65 rfl w.heap.size 61 iu _ 4 underlying65 HI.out GJ.out GI.out Cl.out rfl _ _ _ rfl Q1.out (av n) rfl rfl (by unfold maxLen;omega) (by omega) (by omega) ?_);intro v8 w8 r1 r2 r3;have qw:zB wc w8:=jZ.grown r2 hs7 (λk e=>Q3.out k e);have sY:∀j u,(l.map av)[j]? =some u->w8.cell? ⟨g,j,none⟩=some u:=λj u hu=>
        (World.cell?_of_block (w:=w7) (a:=⟨g,j,none⟩) (r2.block g (by omega) (λe=>by have:=Q3.out g e.symm;omega))).trans (HC7.out j u hu)
       obtain⟨A8,n8,c8,rfl⟩:=cU r1;have R1:=zH r1;have R3:=zH (show ∀b,(Value.slice A8 n8 c8).ownBlock=some b->wc.heap.size<=b from λb hb=>(r3 b hb).elim (Q3.out b) (λh=>by omega));have HC8:=zH sY;have D4:=qw.size;have qy:Hid (∀v9 w9,w9.ownsRow w.heap.size 61 1 v9 (a+1+(n3-a)) ((l.map av).take a++av n::(l.map av).drop a)->w8.grownBy w9 (Value.slice A8 n8 c8).ownBlock->w9.ownsRow w.heap.size 61 1 v9 (n3+1) ((l.take a++n::l.drop a).map av)/\zB w w9):=λv9 w9 p1 p2=>
        ⟨by
         have e1:a+1+(n3-a)=n3+1:=by omega
         rw[e1] at p1;simpa[List.map_take,List.map_drop] using p1,rL.trans ((qw.grown p2 D4 (λk e=>R3.out k e)).mono rL.size)⟩
       clear r1 r2 r3 sY c1 GH;by_cases hca:c3=a
       ·go_wp2_with (at_builtin;refine aO _ rfl _ _ 65 rfl w.heap.size 61 iu _ 1 4 underlying65 HI.out GJ.out GI.out Cl.out rfl (by decide) _ _ _ rfl R1.out ⟨g,0,none⟩ (n3-a) _ ((l.map av).drop a) rfl (by rw[za2];omega) (λj u hu=>by rw[List.drop_of_length_le (by omega)] at hu;cases hu) (λu hu=>by obtain⟨z,_,rfl⟩:=zn.1 (List.mem_of_mem_drop hu);rfl) (by unfold maxLen;omega) (by omega) (by omega) ?_);intro v9 w9 p1 p2 p3;obtain⟨A9,n9,c9,rfl⟩:=cU p1;have HF:=zH (qy.out _ w9 p1 p2);clear p1 p2 p3;go_wp2_with fail;go_roundw
        case rel=>exact⟨n3+1,l.take a++n::l.drop a,hmeas,by go_num,by simp;omega,HF.out.1,UU.out.2,UU.out.1,HF.out.2⟩
        case measure=>simp[intOf];omega
       ·go_wp2_with (at_builtin;refine aO _ rfl _ _ 65 rfl w.heap.size 61 iu _ 1 4 underlying65 HI.out GJ.out GI.out Cl.out rfl (by decide) _ _ _ rfl R1.out ⟨g,a,none⟩ (n3-a) _ ((l.map av).drop a) rfl (by rw[za2];omega) (λj u hu=>by rw[ko];rw[zaf] at hu;exact HC8.out _ u hu) (λu hu=>by obtain⟨z,_,rfl⟩:=zn.1 (List.mem_of_mem_drop hu);rfl) (by unfold maxLen;omega) (by omega) (by omega) ?_);intro v9 w9 p1 p2 p3;obtain⟨A9,n9,c9,rfl⟩:=cU p1;have HF:=zH (qy.out _ w9 p1 p2);clear p1 p2 p3;go_wp2_with fail;go_roundw
        case rel=>exact⟨n3+1,l.take a++n::l.drop a,hmeas,by go_num,by simp;omega,HF.out.1,UU.out.2,UU.out.1,HF.out.2⟩
        case measure=>simp[intOf];omega
  ·obtain rfl:i=s.L.length:=by omega
   have rW:l=s.pages:=by
    rw[zX (by simp)] at XU;exact List.Perm.eq_of_pairwise (le:=λa b=>a<=b) (λ_ _ _ _ h1 h2=>Nat.le_antisymm h1 h2) hpw (Sp.aX _).2 (XU.trans (Sp.aX _).1.symm)
   subst rW;rw[<-AL] at hown;obtain⟨A3,n3,c3,rfl⟩:=cU hown;have hR:=nr hown;obtain rfl:n3=s.pages.length:=by
    rcases hown.2 with⟨h0,h2⟩ | ⟨g,cap,cur,h0,_⟩
    ·injection h0 with _ h3 _;omega
    ·injection h0
   have HR:=zH hR;clear hown XU hpw h1;go_wp2_with fail;go_ret;exact⟨A3,c3,rfl,HR.out,hbr⟩
end
end Go.Proofs.YtfpjlkdklgokiaaGreat
