/- A part of the proof of CheckTakes. -/
import Derived.Test.YtfpjlkdklgokiaaGreatZH
import Derived.Test.YtfpjlkdklgokiaaGreatZI
import Derived.Test.YtfpjlkdklgokiaaGreatZJ
namespace Go.Proofs.YtfpjlkdklgokiaaGreat
set_option maxRecDepth 100000
set_option maxHeartbeats 40000000
open Go.RowKit
open Go.Proofs.Tryz
variable {n g k gp gd c gl i id b s r cb mb fb cd h N m fuel j ct p B cap sz gr z gt x aL:Nat} {v c1 c2 c3 c0 c5 c4:Value} {w' W:World} {A D T:Option Addr} {a:Act} {ids q fl l rest:List Nat} {xs fs:List Value} {o oi:Oper} {listed:Array Bool} {P:Program} {e t:TypeId} {args cs' buf:Array Value} {tm:Bool}
section
open Go.Conc
theorem Sp.Lg.Jg (l:Sp.Lg) (h:l.forced=n):l={l with forced:=n}:=by subst h;rfl
theorem Ht {ly:Ly} {K:af} {w:World} {l:Sp.Lg} {s:Sp.aF} (h:cn ly K w gd gl gp l s) (h1:l.forced<=aL) (h2:aL<=l.next):
 Calls prog 53 #[ptr gl,.int .u64 aL] w λe w'=>Kept K w w'/\e=.returned (.int .i64 0)/\cn ly K w' gd gl gp {l with forced:=l.next} {s with forced:=l.next}:=by
 obtain⟨p,D,F,G,dk,hpl,hd,hg,mV,og,nX,bz,hK,j4⟩:=h;refine(BJ hg hd nX bz.dl h2).mono ?_;rintro e w' ⟨D',rfl,hd',hg',hDn,ht⟩;have hl':l.bA aL={l with forced:=l.next}:=by
  unfold Sp.Lg.bA;have:=bz.y_.fn
  split
  ·rename_i h3;have:l.forced=l.next:=by rcases h3 with h3 | h3<;>omega
   exact Sp.Lg.Jg l this
  ·rfl
 rw[hl'] at hg';obtain⟨f1,f2,f3,f4⟩:=Sp.Dk.j5 bz.dl.loose bz.dl.bk bz.y_ aL;have gW:aa (cj F D G) (cj F D' G) w w':=by
  refine⟨ht.os,ht.tape,ht.output,ht.size,λb hb hn=>ht.block b hb (λe=>hn (e.elim (λh=>.inr (.inr h)) (λh=>.inr (.inl h)))),λb hb=>?_⟩;rcases hb with hb | hb | hb
  ·exact .inl (.inl hb)
  ·exact(hDn b hb).imp (λh=>.inr (.inl h)) id
  ·exact .inl (.inr (.inr hb))
 have hwf:=Sp.Lg.rN bz.y_ aL;rw[hl'] at hwf;have hr':mi ly p (dk.bA l aL) {l with forced:=l.next} {s with forced:=l.next}:=by
  refine⟨bz.wf,hwf,bz.frames,bz.L,bz.top,rfl,bz.next,bz.ok,⟨by rw[f3];exact bz.B_.len,f1,f2,λq h1 h2=>?_⟩,⟨f1,f2,by rw[f3];exact bz.dl.fit,by rw[f3];exact bz.dl.bO,by rw[f3];exact bz.dl.homes,bz.dl.next⟩,bz.lo,bz.bO,bz.tight,?_,bz.dA,?_⟩
  ·rw[f4 _ (.inr (by have:=bz.lo;have:=bz.bO;omega))];exact bz.B_.page q h1 h2
  ·rw[f4 _ (.inr (by have:=bz.lo;have:=bz.bO;omega))];exact bz.zero
  ·rw[<-hl'];exact bz.tidy.force bz.y_ bz.dl.loose bz.dl.fit bz.lo _
 refine⟨Kept.gF gW (λb hk=>⟨j4 b hk,λhF=>hK b hF hk⟩),rfl,?_⟩;refine gT (hpl.keep ht.size (λb hb=>ht.block b (hpl.lt b hb) (λe=>e.elim (og b hb) (mV b hb)))) hd' hg' (λb h1 h2=>?_) og (λb h1 h2=>?_) hr' hK j4 gW (λb hb=>.inl hb)
 ·rcases hDn b h2 with e | e
  ·exact mV b h1 e
  ·have:=hpl.lt b h1;omega
 ·rcases hDn b h1 with e | e
  ·exact nX b e h2
  ·have:=hg.dA b h2;omega
theorem L9 {ly:Ly} {K:af} {w:World} {l:Sp.Lg} {s:Sp.aF} (h:cn ly K w gd gl gp l s) (hk:k∈l.starts\/k=l.next) (h1:l.first<=k) (h2:k<=l.forced) (hpos:0<l.bytes.length):
 Calls prog 57 #[ptr gl,.int .u64 k] w λe w'=>Kept K w w'/\e=.returned (.int .i64 0)/\cn ly K w' gd gl gp (l.keep k) s:=by
 obtain⟨p,D,F,G,dk,hpl,hd,hg,mV,og,nX,bz,hK,j4⟩:=h;refine(CX hg bz.dl.next hk h1 h2 hpos).mono ?_;rintro e w' ⟨G',rfl,hg',ht⟩;have hr':mi ly p dk (l.keep k) s:=
  ⟨bz.wf,Sp.Lg.C0 bz.y_ h1 h2,bz.frames,bz.L,bz.top,bz.forced,bz.next,bz.ok,bz.B_,⟨bz.dl.loose,bz.dl.bk,bz.dl.fit,bz.dl.bO,bz.dl.homes,bz.dl.next⟩,bz.lo,bz.bO,bz.tight,bz.zero,bz.dA,bz.tidy.keep bz.y_ h1⟩
 obtain⟨k1,k2⟩:=OV hpl hd mV og nX hK j4 hg' ht hr';exact⟨k1,rfl,k2⟩
theorem xL {s:List Sp.Bs} {a:Nat} {b:Sp.Bs} (h:k<a\/a+4<=k):Sp.cM (s.set k b) a=Sp.cM s a:=by
 unfold Sp.cM
 congr 1
 apply za9;intro i;rw[zT,zT]
 split
 ·rw[zaf,zaf,List.getElem?_set_ne (by omega)]
 ·rfl
def Sp.aF.store (s:Sp.aF) (k:Nat) (b:Sp.Bs):Sp.aF:={s with rest:=λi=>if i=k then b else s.rest i}
theorem OM {dk:Sp.Dk} (hlo:dk.loose=[]) (k:Nat) (b:Sp.Bs):(dk.put k b).synced.sure=dk.sure.set k b:=by
 show(dk.put k b).view=_;rw[Sp.Dk.OL];simp[Sp.Dk.view,hlo,Sp.lay]
theorem EK {dk:Sp.Dk} (h:dk.bk= -1) (k:Nat) (b:Sp.Bs):(dk.put k b).bk= -1/\(dk.put k b).synced.bk= -1:=by
 have e:Sp.tE (-1)= -1:=by decide
 constructor
 ·show Sp.tE dk.bk= -1;rw[h,e]
 ·show Sp.tE (Sp.tE dk.bk)= -1;rw[h,e,e]
theorem mi.stored {ly:Ly} {p:Sp.Pl} {dk:Sp.Dk} {l:Sp.Lg} {s:Sp.aF} (h:mi ly p dk l s) {b:Sp.Bs} (h1:ly.at_+33<=k) (h2:k<ly.base):mi ly p (dk.put k b).synced l (s.store k b):=by
 have hs:=OM h.dl.loose k b;have hl:(dk.put k b).synced.sure.length=dk.sure.length:=by rw[hs,zbp]
 have hf:=(EK h.dl.bk k b).2;have hlen:=h.B_.len;have hfit:=ly.fits;refine⟨h.wf,h.y_,h.frames,h.L,h.top,h.forced,h.next,h.ok,⟨by rw[hl];exact hlen,rfl,hf,λq q1 q2=>?_⟩,⟨rfl,hf,by rw[hl];exact h.dl.fit,by rw[hl];exact h.dl.bO,by rw[hl];exact h.dl.homes,h.dl.next⟩,h.lo,h.bO,h.tight,?_,h.dA,⟨λj hj j1 j2=>?_,λi i1 i2=>?_⟩⟩
 ·rw[hs,xL (.inl (by omega))];exact h.B_.page q q1 q2
 ·rw[hs,xL (.inl (by omega))];exact h.zero
 ·have:=Sp.Lg.kg h.y_ j;have:=h.lo;rw[hs,List.getElem?_set_ne (by omega)];exact h.tidy.secs j hj j1 j2
 ·rw[hs];show _=some (if i=k then b else s.rest i);by_cases e:i=k
  ·subst e;rw[List.getElem?_set_self (by omega),zK rfl]
  ·rw[List.getElem?_set_ne (λh=>e h.symm),zD e];exact h.tidy.rest i i1 i2
theorem OU {ly:Ly} {K:af} {w:World} {l:Sp.Lg} {s:Sp.aF} (h:cn ly K w gd gl gp l s) {at_:Nat} {m:Sp.Ms} (hm:m.Ok) (h1:ly.at_+33<=at_) (h2:at_+1<ly.base) (h3:ly.len<1000000):
 Calls prog 55 #[ptr gd,.int .i64 at_,kH m] w λe w'=>Kept K w w'/\e=.returned (.int .i64 0)/\cn ly K w' gd gl gp l (s.store (at_+m.count%2) m.bytes):=by
 obtain⟨p,D,F,G,dk,hpl,hd,hg,mV,og,nX,bz,hK,j4⟩:=h;have hlen:=bz.B_.len;have hfit:=ly.fits;have hk:=Nat.mod_lt m.count (show 0<2 by omega);refine(CU hd (by rw[bz.dl.bk];decide) (by rw[(EK bz.dl.bk _ _).1];decide) (by rw[bz.dl.loose];simp) (by show(dk.loose++_).length<=_;rw[bz.dl.loose];simp) (by omega) (by omega) hm).mono ?_;rintro e w' ⟨D',rfl,hd',-,ht⟩;have hr':=bz.stored (k:=at_+m.count%2) (b:=m.bytes) (by omega) (by omega);have gW:aa (cj F D G) (cj F D' G) w w':=ht.fw (λb hb=>.inr (.inl hb)) (λb hb=>by
  rcases hb with hb | hb | hb
  ·exact .inl (.inl hb)
  ·exact .inr hb
  ·exact .inl (.inr (.inr hb)))
 refine⟨Kept.gF gW (λb hk=>⟨j4 b hk,λhF=>hK b hF hk⟩),rfl,?_⟩;refine gT (hpl.keep ht.size (λb hb=>ht.block b (hpl.lt b hb) (mV b hb))) hd' (hg.keep (λb hb=>ht.block b (hg.dA b hb) (λe=>nX b e hb))) (λb h1 h2=>?_) og (λb h1 h2=>?_) hr' hK j4 gW (λb hb=>.inl hb)
 ·rcases ht.foot b h2 with e | e
  ·exact mV b h1 e
  ·have:=hpl.lt b h1;omega
 ·rcases ht.foot b h1 with e | e
  ·exact nX b e h2
  ·have:=hg.dA b h2;omega
theorem qW {ly:Ly} {K:af} {w:World} {gd gl gp:Nat} {l:Sp.Lg} {s:Sp.aF} (h:cn ly K w gd gl gp l s) {r:Sp.Rec} {D T:Option Addr} {cd ct:Nat} {t:Sp.Bs} (gX:1<=t.length) (dx:t.length<=4096) (hfit:14+t.length<=l.left) (hn:l.next<1000000000000) (hr:l.reserved<1000000000)
 (hE:∀W,zB w W->Calls prog 41 #[cE r D T cd ct] W λe w'=>e=.returned (.tuple #[str t,.int .i64 0])/\zB W w'):
 Calls prog 50 #[ptr gl,cE r D T cd ct] w λe w'=>e=.returned (.tuple #[.int .u64 l.next,.int .i64 0])/\Kept K w w'/\cn ly K w' gd gl gp (l.append t) {s with next:=l.next+(14+t.length)}:=by
 have hb1:=(zR w).alloc (za _) (.cells (ai r D T cd ct) 84);have hB:=aj.new w 84 (ai r D T cd ct);have HL:=zH (bY hB);have HE:=zH (hE _ hb1);have HP:=zH h;have cA:=zH hb1;clear h hE hb1 hB;go_enter func50,ntmps50;go_wp2_with (first
  | ((with_reducible refine aY (v:=cE r D T cd ct) (w':=w.alloc (.cells (ai r D T cd ct) 84)) 9 rfl rfl ?_ ?_);exact ay _ _ ⟨w.heap.size,0,none⟩ rfl rfl HL.out;simp only[zSA,zSB,zSC]))
 refine HE.out.mono ?_;rintro e w2 ⟨rfl,hb2⟩;have hb:=cA.out.trans (hb2.mono cA.out.size);have HA:=zH (ue (HP.out.below hb) hn hr t (by omega));have HK:=zH (Kept.az hb HP.out.lt);clear HL HE cA hb2 hb;go_wp2_with fail;refine HA.out.mono ?_;rintro e w3 ⟨hk,⟨-,-,-,rfl,hp⟩ | ⟨-,-,h4,-⟩ | ⟨h4,-⟩⟩
 ·have HX:=zH (HK.out.trans hk);have HY:=zH hp;clear hk hp HK HA;go_wp2_with fail
  go_ret2
  exact⟨rfl,HX.out,HY.out⟩
 ·omega
 ·omega
structure iM where
 d:Nat
 at_:Nat
 lg:Nat
 x:Nat
 nx:Nat
 en:Nat
structure cZ (ly:Ly) (B:iM) (G K:af) (gd gl gp at_:Nat) (x:Sp.bI) (D T:Option Addr) (cd ct:Nat) (l:Sp.Lg) (s:Sp.aF) (nx:Sp.Ms) (en:Nat) (w:World):Prop where
 d:aj w B.d 40 #[ptr gd]
 at_:aj w B.at_ 3 #[.int .i64 at_]
 lg:aj w B.lg 41 #[ptr gl]
 bx:aj w B.x 36 (bJ x D T cd ct)
 tab:bS G w x D T
 nx:aj w B.nx 26 (aJ nx)
 en:aj w B.en 24 #[.int .u64 en]
 pk:cn ly K w gd gl gp l s
structure iM.Ok (B:iM) (G K:af):Prop where
 kd:K B.d
 ka:K B.at_
 kl:K B.lg
 kx:K B.x
 kn:K B.nx
 ke:K B.en
 nd:B.nx≠B.d/\B.nx≠B.at_/\B.nx≠B.lg/\B.nx≠B.x/\B.nx≠B.en
 ed:B.en≠B.d/\B.en≠B.at_/\B.en≠B.lg/\B.en≠B.x
 g:∀b,G b->K b/\b≠B.nx/\b≠B.en
def iM.kept (B:iM) (K:af):af:=λb=>K b/\b≠B.nx/\b≠B.en
theorem ku {G:af} {w w':World} {x:Sp.bI} {D T:Option Addr} (h:bS G w x D T) (hs:w.heap.size<=w'.heap.size) (hk:∀b,G b->w'.heap[b]? =w.heap[b]?):bS G w' x D T:=⟨h.d.keep hs hk,h.t.keep hs hk⟩
section
variable {ly:Ly} {B:iM} {G K:af} {w w':World} {gd gl gp at_:Nat} {x:Sp.bI} {D T:Option Addr} {cd ct:Nat} {l:Sp.Lg} {s:Sp.aF} {nx:Sp.Ms} {en:Nat}
theorem cZ.turned (h:cZ ly B G K gd gl gp at_ x D T cd ct l s nx en w) (ok:B.Ok G K) {l':Sp.Lg} {s':Sp.aF} (hk:Kept K w w') (hp:cn ly K w' gd gl gp l' s'):cZ ly B G K gd gl gp at_ x D T cd ct l' s' nx en w':=
 ⟨h.d.kept hk ok.kd,h.at_.kept hk ok.ka,h.lg.kept hk ok.kl,h.bx.kept hk ok.kx,ku h.tab hk.size (λb hb=>hk.block b (ok.g b hb).1),h.nx.kept hk ok.kn,h.en.kept hk ok.ke,hp⟩
theorem cZ.kept (_:B.Ok G K) (hk:Kept K w w'):Kept (B.kept K) w w':=hk.mono λ_ hb=>hb.1
theorem cZ.U9 (h:cZ ly B G K gd gl gp at_ x D T cd ct l s nx en w) (ok:B.Ok G K) {nx':Sp.Ms} (e:(aJ nx).setIfInBounds i v=aJ nx'):cZ ly B G K gd gl gp at_ x D T cd ct l s nx' en (w.setCell ⟨B.nx,i,none⟩ v):=by
 obtain⟨n1,n2,n3,n4,n5⟩:=ok.nd;refine⟨h.d.far (Ne.symm n1) v,h.at_.far (Ne.symm n2) v,h.lg.far (Ne.symm n3) v,h.bx.far (Ne.symm n4) v,ku h.tab (by simp[World.setCell]) (λb hb=>Below.heap_setCell _ _ _ b (ok.g b hb).2.1),?_,h.en.far (Ne.symm n5) v,h.pk.turns ((aa.refl (only B.nx) w).setCell (p:=⟨B.nx,i,none⟩) (.inl rfl) v) (λb hb=>.inl (by rw[show b=B.nx from hb];exact ok.kn))⟩;rw[<-e];exact h.nx.a_ i v
theorem cZ.setEn (h:cZ ly B G K gd gl gp at_ x D T cd ct l s nx en w) (ok:B.Ok G K) (en':Nat):cZ ly B G K gd gl gp at_ x D T cd ct l s nx en' (w.setCell ⟨B.en,0,none⟩ (.int .u64 en')):=by
 obtain⟨n1,n2,n3,n4⟩:=ok.ed;refine⟨h.d.far (Ne.symm n1) _,h.at_.far (Ne.symm n2) _,h.lg.far (Ne.symm n3) _,h.bx.far (Ne.symm n4) _,ku h.tab (by simp[World.setCell]) (λb hb=>Below.heap_setCell _ _ _ b (ok.g b hb).2.2),h.nx.far ok.nd.2.2.2.2 _,?_,h.pk.turns ((aa.refl (only B.en) w).setCell (p:=⟨B.en,0,none⟩) (.inl rfl) _) (λb hb=>.inl (by rw[show b=B.en from hb];exact ok.ke))⟩;exact h.en.a_ 0 _
theorem iM.Kc {B:iM} {K:af} (i:Nat) (v:Value):Kept (B.kept K) w (w.setCell ⟨B.nx,i,none⟩ v):=⟨rfl,rfl,rfl,by simp[World.setCell],λb hb=>Below.heap_setCell _ _ _ b hb.2.1⟩
theorem iM.TE {B:iM} {K:af} (i:Nat) (v:Value):Kept (B.kept K) w (w.setCell ⟨B.en,i,none⟩ v):=⟨rfl,rfl,rfl,by simp[World.setCell],λb hb=>Below.heap_setCell _ _ _ b hb.2.2⟩
end
abbrev bC:Sp.Rec:=⟨7,0,0,0,0,0,0,[],0,0,0,0⟩
theorem eH:bC.bytes.length=17:=by
 show bC.head.length=17;simp[Sp.Rec.head]
theorem uQ (w:World):Calls prog 41 #[cE bC none none 0 0] w λe w'=>e=.returned (.tuple #[str bC.bytes,.int .i64 0])/\zB w w':=by
 refine(xy (r:=bC) (D:=none) (T:=none) (cd:=0) (ct:=0) ⟨by decide,by decide,by decide,by decide,by decide,by decide,by decide,by simp,by simp,by simp⟩ (by decide)).mono ?_;rintro e w' ⟨⟨v,rfl,⟨-,rfl⟩ | ⟨h,-⟩⟩,hb⟩
 ·exact⟨rfl,hb⟩
 ·exact absurd h (by decide)
theorem r7 {x:Sp.bI} {D T:Option Addr} {cd ct:Nat} (h:aj W g 36 (bJ x D T cd ct)):(loadVar 36 ⟨g,0,none⟩).run prog W=.ok (iz x D T cd ct) W:=
 run_loadVar_row W g _ _ _ _ _ h underlying36 rfl rfl
section
variable {ly:Ly} {B:iM} {G K:af} {w:World} {gd gl gp at_:Nat} {x:Sp.bI} {D T:Option Addr} {cd ct:Nat} {l:Sp.Lg} {s:Sp.aF} {nx:Sp.Ms} {en:Nat}
theorem WQ (h:cZ ly B G K gd gl gp at_ x D T cd ct l s nx en w) (ok:B.Ok G K) (hfit:31<=l.left) (hn:l.next<1000000000000) (hr:l.reserved<1000000000) (hd:x.d.length<=1000000) (ht:x.t.length<=1000000):
 Calls prog 49 #[ptr B.lg,ptr B.nx,ptr B.x] w λe w'=>e=.returned (.int .i64 0)/\Kept (B.kept K) w w'/\cZ ly B G K gd gl gp at_ x D T cd ct (l.append bC.bytes) {s with next:=l.next+31} {nx with check:=l.next,first:=Sp.bQ l.next x} en w':=by
 have HA:=zH (qW h.pk (r:=bC) (D:=none) (T:=none) (cd:=0) (ct:=0) (t:=bC.bytes) (by rw[eH];omega) (by rw[eH];omega) (by rw[eH];omega) hn hr (λW _=>uQ W));have h17:14+bC.bytes.length=31:=by rw[eH]
 rw[h17] at HA;have c0:=h.lg.cell 0;simp only[zGA,zGC] at c0;have H:=zH h;have OK:=zH ok;clear h ok h17;go_enter func49,ntmps49;go_wp2_with fail;refine HA.out.mono ?_;rintro e w2 ⟨rfl,hk,hp⟩;have h2:=H.out.turned OK.out hk hp;have h3:=h2.U9 OK.out (nx':={nx with check:=l.next}) (i:=2) (v:=.int .u64 l.next) rfl;have c2:=h2.nx.cell 2;have f2:=h2.nx.frozen 2;simp only[aJ,zGA,zGB,zGC] at c2;have K6:=zH ((cZ.kept OK.out hk).trans (iM.Kc 2 (.int .u64 (l.next:Int))));have H3:=zH h3;have HL3:=zH (r7 h3.bx);have Wb:=zH (Dz (b:=l.next) (cd:=cd) (ct:=ct) h3.tab hd ht);have d2:=h3.nx.cell 2;simp only[aJ,zGA,zGB,zGC] at d2;clear c0 hk hp h2 h3 HA H;go_wp2_with (first
  | ((with_reducible refine aY (v:=iz x D T cd ct) (w':=w2.setCell ⟨B.nx,2,none⟩ (.int .u64 l.next)) 13 rfl rfl ?_ ?_);exact ay _ _ ⟨B.x,0,none⟩ rfl rfl HL3.out;simp only[zSA,zSB,zSC]))
 refine Wb.out.mono ?_;rintro e w4 ⟨rfl,hb4⟩;have hk4:=Kept.az hb4 H3.out.pk.lt;have h4:=H3.out.turned OK.out hk4 (H3.out.pk.below hb4);have h5:=h4.U9 OK.out (nx':={nx with check:=l.next,first:=Sp.bQ l.next x}) (i:=3) (v:=.int .u64 (Sp.bQ l.next x)) rfl;have c3:=h4.nx.cell 3;have f3:=h4.nx.frozen 3;simp only[aJ,zGA,zGB,zGC] at c3;have UT:=zH ((K6.out.trans (cZ.kept OK.out hk4)).trans (iM.Kc 3 (.int .u64 (Sp.bQ l.next x:Nat))));have H5:=zH h5;clear hk4 h4 h5 Wb HL3 K6 H3 c2 f2 d2 hb4;go_wp2_with fail;go_ret;exact⟨rfl,UT.out,H5.out⟩
theorem WO (h:cZ ly B G K gd gl gp at_ x D T cd ct l s nx en w) (ok:B.Ok G K) (hF:x.Fits) (hfit:14+x.text.length<=l.left) (hl:x.text.length<=4096) (tP:1<=x.text.length) (hn:l.next<1000000000000) (hr:l.reserved<1000000000):
 Calls prog 51 #[ptr B.lg,ptr B.x,ptr B.en] w λe w'=>e=.returned (.int .i64 0)/\Kept (B.kept K) w w'/\cZ ly B G K gd gl gp at_ x D T cd ct (l.append x.text) {s with next:=l.next+(14+x.text.length)} nx l.next w':=by
 have HA:=zH (qW h.pk (r:=dy x) (D:=D) (T:=T) (cd:=cd) (ct:=ct) (t:=x.text) tP hl hfit hn hr (λW hb=>uP (h.tab.below hb) hF));have HL:=zH (r7 h.bx);have c0:=h.lg.cell 0;simp only[zGA,zGC] at c0;have H:=zH h;have OK:=zH ok;clear h ok;go_enter func51,ntmps51;go_wp2_with (first
  | ((with_reducible refine aY (v:=.agg #[.slice D x.d.length cd,.slice T x.t.length ct,.int .u64 x.tx,.int .u64 x.num]) (w':=w) 6 rfl rfl ?_ ?_);exact ay _ _ ⟨B.x,0,none⟩ rfl rfl HL.out;simp only[zSA,zSB,zSC]))
 refine HA.out.mono ?_;rintro e w2 ⟨rfl,hk,hp⟩;have h2:=H.out.turned OK.out hk hp;have h3:=h2.setEn OK.out l.next;have c2:=h2.en.cell 0;have f2:=h2.en.frozen 0;simp only[zGA,zGC] at c2;have K6:=zH ((cZ.kept OK.out hk).trans (iM.TE 0 (.int .u64 (l.next:Int))));have H3:=zH h3;clear c0 hk hp h2 h3 HA H HL;go_wp2_with fail;go_ret;exact⟨rfl,K6.out,H3.out⟩
theorem WN (h:cZ ly B G K gd gl gp at_ x D T cd ct l s nx en w) (ok:B.Ok G K) (h1:l.forced<=en) (h2:en<=l.next):
 Calls prog 52 #[ptr B.lg,ptr B.en] w λe w'=>e=.returned (.int .i64 0)/\Kept (B.kept K) w w'/\cZ ly B G K gd gl gp at_ x D T cd ct {l with forced:=l.next} {s with forced:=l.next} nx en w':=by
 have HA:=zH (Ht h.pk h1 h2);have c0:=h.lg.cell 0;have c1:=h.en.cell 0;simp only[zGA,zGC] at c0 c1;have H:=zH h;have OK:=zH ok;clear h ok;go_enter func52,ntmps52;go_wp2_with fail;refine HA.out.mono ?_;rintro e w2 ⟨hk,rfl,hp⟩;have H2:=zH (H.out.turned OK.out hk hp);have K6:=zH (cZ.kept (B:=B) OK.out hk);clear c0 c1 hk hp HA H;go_wp2_with fail;go_ret;exact⟨rfl,K6.out,H2.out⟩
theorem WM (h:cZ ly B G K gd gl gp at_ x D T cd ct l s nx en w) (ok:B.Ok G K) (hm:nx.Ok) (h1:ly.at_+33<=at_) (h2:at_+1<ly.base) (h3:ly.len<1000000):
 Calls prog 54 #[ptr B.d,ptr B.at_,ptr B.nx] w λe w'=>e=.returned (.int .i64 0)/\Kept (B.kept K) w w'/\cZ ly B G K gd gl gp at_ x D T cd ct l (s.store (at_+nx.count%2) nx.bytes) nx en w':=by
 have HA:=zH (OU h.pk hm h1 h2 h3);have HL:=zH (lK h.nx);have c0:=h.d.cell 0;have c1:=h.at_.cell 0;simp only[zGA,zGC] at c0 c1;have H:=zH h;have OK:=zH ok;clear h ok;go_enter func54,ntmps54;go_wp2_with (first
  | ((with_reducible refine aY (v:=kH nx) (w':=w) 6 rfl rfl ?_ ?_);exact ay _ _ ⟨B.nx,0,none⟩ rfl rfl HL.out;simp only[zSA,zSB,zSC]))
 refine HA.out.mono ?_;rintro e w2 ⟨hk,rfl,hp⟩;have H2:=zH (H.out.turned OK.out hk hp);have K6:=zH (cZ.kept (B:=B) OK.out hk);clear c0 c1 hk hp HA H HL;go_wp2_with fail;go_ret;exact⟨rfl,K6.out,H2.out⟩
theorem WL (h:cZ ly B G K gd gl gp at_ x D T cd ct l s nx en w) (ok:B.Ok G K) (hk:nx.first∈l.starts\/nx.first=l.next) (h1:l.first<=nx.first) (h2:nx.first<=l.forced) (hpos:0<l.bytes.length):
 Calls prog 56 #[ptr B.lg,ptr B.nx] w λe w'=>e=.returned (.int .i64 0)/\Kept (B.kept K) w w'/\cZ ly B G K gd gl gp at_ x D T cd ct (l.keep nx.first) s nx en w':=by
 have HA:=zH (L9 h.pk hk h1 h2 hpos);have c0:=h.lg.cell 0;have c1:=h.nx.cell 3;simp only[aJ,zGA,zGB,zGC] at c0 c1;have H:=zH h;have OK:=zH ok;clear h ok hk;go_enter func56,ntmps56;go_wp2_with fail;refine HA.out.mono ?_;rintro e w2 ⟨hk,rfl,hp⟩;have H2:=zH (H.out.turned OK.out hk hp);have K6:=zH (cZ.kept (B:=B) OK.out hk);clear c0 c1 hk hp HA H;go_wp2_with fail;go_ret;exact⟨rfl,K6.out,H2.out⟩
end
def lV (B:iM):Array Value:=#[.func (.func 49) #[] #[ptr B.lg,ptr B.nx,ptr B.x],.func (.func 51) #[] #[ptr B.lg,ptr B.x,ptr B.en],.func (.func 52) #[] #[ptr B.lg,ptr B.en],.func (.func 54) #[] #[ptr B.d,ptr B.at_,ptr B.nx],.func (.func 56) #[] #[ptr B.lg,ptr B.nx]]
theorem FZ {B:iM} {w:World} {KX:af} (hg:KX g) (hB:aj w g 134 (lV B)) {P1 P2 P3 P4 P5:World->Prop}
 (H1:Calls prog 49 #[ptr B.lg,ptr B.nx,ptr B.x] w λe w'=>e=.returned (.int .i64 0)/\Kept KX w w'/\P1 w')
 (H2:∀w,P1 w->Calls prog 51 #[ptr B.lg,ptr B.x,ptr B.en] w λe w'=>e=.returned (.int .i64 0)/\Kept KX w w'/\P2 w')
 (H3:∀w,P2 w->Calls prog 52 #[ptr B.lg,ptr B.en] w λe w'=>e=.returned (.int .i64 0)/\Kept KX w w'/\P3 w')
 (H4:∀w,P3 w->Calls prog 54 #[ptr B.d,ptr B.at_,ptr B.nx] w λe w'=>e=.returned (.int .i64 0)/\Kept KX w w'/\P4 w')
 (H5:∀w,P4 w->Calls prog 56 #[ptr B.lg,ptr B.nx] w λe w'=>e=.returned (.int .i64 0)/\Kept KX w w'/\P5 w'):
 Calls prog 48 #[.slice (some ⟨g,0,none⟩) 5 5] w λe w'=>e=.returned (.int .i64 0)/\Kept KX w w'/\P5 w':=by
 have uJ:=zH H1;have wL:=zH H2;have ZP:=zH H3;have HH4:=zH H4;have HH5:=zH H5;have HB:=zH hB;clear H1 H2 H3 H4 H5 hB;have c0:=HB.out.cell 0;simp only[lV,zGA,zGC] at c0;go_enter func48,ntmps48;go_wp2_with fail;refine wp_loop_rounds 6 ?_;rw[rounds_succ];go_wp2_with fail;refine uJ.out.mono ?_;rintro e w1 ⟨rfl,k1,p1⟩;have V9:=zH p1;have HK1:=zH k1;clear c0 p1 k1 uJ;have c1:=(HB.out.kept HK1.out hg).cell 1;simp only[lV,zGA,zGB,zGC] at c1;go_wp2_with fail;rw[rounds_succ];go_wp2_with fail;refine(wL.out w1 V9.out).mono ?_;rintro e w2 ⟨rfl,k2,p2⟩;have Sa:=zH p2;have K6:=zH (HK1.out.trans k2);clear c1 p2 k2 wL V9 HK1;have c2:=(HB.out.kept K6.out hg).cell 2;simp only[lV,zGA,zGB,zGC] at c2;go_wp2_with fail;rw[rounds_succ];go_wp2_with fail;refine(ZP.out w2 Sa.out).mono ?_;rintro e w3 ⟨rfl,k3,p3⟩;have UN:=zH p3;have HK3:=zH (K6.out.trans k3);clear c2 p3 k3 ZP Sa K6;have c3:=(HB.out.kept HK3.out hg).cell 3;simp only[lV,zGA,zGB,zGC] at c3;go_wp2_with fail;rw[rounds_succ];go_wp2_with fail;refine(HH4.out w3 UN.out).mono ?_;rintro e w4 ⟨rfl,k4,p4⟩;have HP4:=zH p4;have HK4:=zH (HK3.out.trans k4);clear c3 p4 k4 HH4 UN HK3;have c4:=(HB.out.kept HK4.out hg).cell 4;simp only[lV,zGA,zGB,zGC] at c4;go_wp2_with fail;rw[rounds_succ];go_wp2_with fail;refine(HH5.out w4 HP4.out).mono ?_;rintro e w5 ⟨rfl,k5,p5⟩;have HP5:=zH p5;have UT:=zH (HK4.out.trans k5);clear c4 p5 k5 HH5 HP4 HK4;go_wp2_with fail;rw[rounds_succ];go_wp2_with fail;go_ret;exact⟨rfl,UT.out,HP5.out⟩
end
open Go.RowKit Go.Conc Go.Maps
namespace Sp
def cK (f:Nat->Tx) (ids:List Nat):List Ac:=(ids.filter (λp=>decide (0<(f p).first))).map λp=>⟨(f p).tx,(f p).first,(f p).last,(f p).next⟩
theorem Cj {f:Nat->Tx} (h:k<ids.length):cK f (ids.take (k+1))=cK f (ids.take k)++(if 0<(f ids[k]).first then[⟨(f ids[k]).tx,(f ids[k]).first,(f ids[k]).last,(f ids[k]).next⟩] else[]):=by
 unfold cK;rw[zg h,zba,zI]
 congr 1
 by_cases h0:0<(f ids[k]).first
 ·rw[zK h0,zU (by simpa using h0)];rfl
 ·rw[zD h0,zQ (by simpa using h0)];rfl
end Sp
theorem yT:(prog.info? 113).map (λi=>(i.zero,i.size,i.bytes))=some (some (.agg #[.int .u64 0,.int .u64 0,.int .u64 0,.int .u64 0]),4,32):=by kernel_rfl
theorem JS {f:Nat->Sp.Tx} (hx:xs=ids.flatMap λp=>NA (f p)) (hk:k<ids.length):∀j,j<6->xs[k*6+j]? =(NA (f ids[k]))[j]? :=by
 subst hx
 induction ids generalizing k with
 | nil=>simp at hk
 | cons a t ih=>
  intro j hj;rw[List.flatMap_cons]
  cases k with
  | zero=>rw[zai (by simpa using hj)];simp
  | succ k=>
   rw[zO (by simp;omega)];have:=ih (k:=k) (by simpa using hk) j hj;rw[show(k+1)*6+j-(NA (f a)).length=k*6+j by simp;omega,this];rfl
theorem oC {G F F':af} {w:World} {size:Nat} (h:Reads G w size A n xs) (ht:aa F F' w w') (hG:∀b,G b->¬F b):Reads G w' size A n xs:=
 ⟨h.1,λhn=>by
  obtain⟨b,o,e,I2,hlt,hc⟩:=h.2 hn;exact⟨b,o,e,I2,zf hlt ht.size,λj u hu=>(World.cell?_of_block (w:=w) (a:=⟨b,o+j,none⟩) (ht.block b hlt (hG b I2))).trans (hc j u hu)⟩⟩
def nL (w:World) (x:Sp.bI) (e:Ending) (w':World):Prop:=
 ∃D T cd ct,e=.returned (iz x D T cd ct)/\bS (λb=>w.heap.size<=b) w' x D T/\zB w w'
theorem tC {ly:Ly} {K:af} {w:World} {l:Sp.Lg} {s:Sp.aF} (h:cn ly K w gd gl gp l s) (hfr:s.frames<=12) {tx num:Nat} {lk:Nat->Option Value} {f:Nat->Sp.Tx} (ht:j_ mb cb w gt n lk tx num)
 (hlk:∀p,lk p=if p∈ids then some (f p).val else none) (hs:ids.Pairwise (· < ·)) (h12:n<=12) (MB:ids.length<=1000) (I5:∀p∈ids,p<18446744073709551616):
 Calls prog 12 #[ptr gp,ptr gt] w (nL w ⟨s.aU,Sp.cK f ids,tx,num⟩):=by
 have hb1:=(zR w).alloc (za _) (.cells #[.slice none 0 0,.slice none 0 0,.int .u64 0,.int .u64 0] 36);have hB:=aj.new w 36 #[.slice none 0 0,.slice none 0 0,.int .u64 0,.int .u64 0];have h1:=h.below hb1;have gX:=ht.keep (w':=w.alloc (.cells #[.slice none 0 0,.slice none 0 0,.int .u64 0,.int .u64 0] 36)) (λb hb=>Below.heap_alloc _ _ _ (ht.lt b hb));have Gv:=ht.lt;go_enter func12,ntmps12;go_upto_region 1 with fail;change Code.wp _ _ _ _ (w.alloc (.cells #[.slice none 0 0,.slice none 0 0,.int .u64 0,.int .u64 0] 36));obtain⟨w1,hw1⟩:=zE (w.alloc (.cells #[.slice none 0 0,.slice none 0 0,.int .u64 0,.int .u64 0] 36));obtain⟨g4,hg4⟩:=zE w.heap.size;have jJ:w.heap.size<=g4:=by omega
 have htg:∀b,b=gt\/b=mb\/b=cb->b≠g4:=λb hb=>by have:=Gv b hb;omega
 rw[<-hw1] at hb1 h1 gX;rw[<-hw1,<-hg4] at hB;rw[<-hw1,<-hg4];have HP:=zH (OZ h1 hfr);have uH:=zH gX;have HTG:=zH htg;have Gf:=zH hlk;have Xy:w.heap.size<=w1.heap.size:=hb1.size;clear hw1 hg4 h h1 ht gX Gv htg hlk;go_wp2_with fail;refine HP.out.mono ?_;rintro e w2 ⟨A,c,rfl,pW,hb2⟩;have bB:=hB.below hb2 hB.lt;have f0:w2.cell? ⟨g4,0,none⟩=some (.slice none 0 0):=bB.cell 0;have fz0:=bB.frozen 0;have cg:=bB.a_ 0 (.slice A s.aU.length c);simp only[zSA,zSB] at cg;have dN:=(hb1.trans (hb2.mono hb1.size)).setCell (p:=⟨g4,0,none⟩) jJ (.slice A s.aU.length c);have gA:=uH.out.keep (w':=w2.setCell ⟨g4,0,none⟩ (.slice A s.aU.length c)) (λb hb=>(Below.heap_setCell w2 _ _ b (HTG.out b hb)).trans (hb2.block b (uH.out.lt b hb)));have hg1:=hB.lt;have HS12:=zH hb2.size;have vP:Reads (λb=>w1.heap.size<=b) (w2.setCell ⟨g4,0,none⟩ (.slice A s.aU.length c)) 2 A s.aU.length (tj s.aU):=pW.keep (by simp) (λb hb=>Below.heap_setCell w2 _ _ b (λe=>by have e:b=g4:=e;have hb:w1.heap.size<=b:=hb;omega));clear hB bB hb1 hb2 pW HP;go_wp2_with fail;have Sv:=zH (JT gA Gf.out hs h12 MB I5);have JH:=zH vP;have jA:=zH dN;have hsz:(w2.setCell ⟨g4,0,none⟩ (.slice A s.aU.length c)).heap.size=w2.heap.size:=by simp
 have h12s:w1.heap.size<=w2.heap.size:=HS12.out;clear vP dN;generalize w2.setCell ⟨g4,0,none⟩ (.slice A s.aU.length c)=w3 at*;refine Sv.out.mono ?_;rintro e w4 ⟨v,rfl,hrow,hb4⟩;obtain⟨Av,cv,rfl⟩:∃Av cv,v=.slice Av ids.length cv:=by
  rcases hrow.2 with⟨rfl,h0⟩ | ⟨g,cap,cur,rfl,_⟩
  ·exact⟨none,0,by rw[h0]⟩
  ·exact⟨_,_,rfl⟩
 have dn:=cg.below hb4 cg.lt;have hg4w:g4<w3.heap.size:=cg.lt;have Cp:=zH (Reads.below JH.out hb4);have rT:=zH hrow;have JM:=zH (jA.out.trans (hb4.mono (by have:=jA.out.size;omega)));have JE:=zH (gA.keep (λb hb=>hb4.block b (gA.lt b hb)));have TT:w3.heap.size<=w4.heap.size:=hb4.size;clear hrow hb4 cg Sv JH gA;have jh:=zH dn;clear dn;go_wp2_with fail;go_loopw [13] (λv13 wr=>∃(k:Nat) (A1:Option Addr) (n1 c1:Nat),k<=ids.length/\v13=.int .i64 k/\aj wr g4 36 #[.slice A s.aU.length c,.slice A1 n1 c1,.int .u64 0,.int .u64 0]/\n1=(Sp.cK f (ids.take k)).length/\wr.ownsRow w4.heap.size 113 4 (.slice A1 n1 c1) n1 (tG (Sp.cK f (ids.take k)))/\aa (only g4) (only g4) w4 wr) (λv13 _=>ids.length-(intOf v13).toNat)
 case atStart=>exact⟨0,none,0,0,by omega,rfl,jh.out,rfl,World.ownsRow_nil _ _ _ _,aa.refl _ _⟩
 case round=>
  clear jh;obtain⟨k,A1,n1,c1,hk,rfl,QX,hn1,ho,htk⟩:=hrel;by_cases hlt:k<ids.length
  ·obtain⟨g,rfl⟩:∃g,Av=some ⟨g,0,none⟩:=by
    rcases rT.out.2 with⟨h0,h1⟩ | ⟨g,cap,cur,h0,_⟩
    ·omega
    ·injection h0 with a1;exact⟨g,a1⟩
   have kW:=rT.out.lt g rfl;have hcx:∀j u,j<6->(NA (f ids[k]))[j]? =some u->wr.cell? ⟨g,k*6+j,none⟩=some u:=λj u hj hu=>by
    have h1:=rT.out.cells (g:=g) rfl (k*6+j) u ((JS rfl hlt j hj).trans hu);have e3:(⟨g,0,none⟩:Addr).add (k*6+j)=⟨g,k*6+j,none⟩:=by cases k*6+j<;>simp[Addr.add]
    rw[e3] at h1;exact(World.cell?_of_block (a:=⟨g,_,none⟩) (htk.block g kW.2 (λe=>by have e:g=g4:=e;omega))).trans h1
   have gJ:=Sp.Cj (f:=f) hlt;obtain⟨x,hx⟩:=zE (f ids[k]);rw[<-hx] at hcx gJ;have lS:=zH gJ;have e0:=hcx 0 _ (by omega) rfl;rw[Nat.add_zero] at e0;have e1:=hcx 1 _ (by omega) rfl;have e2:=hcx 2 _ (by omega) rfl;have e3:=hcx 3 _ (by omega) rfl;have e4:=hcx 4 _ (by omega) rfl;have e5:=hcx 5 _ (by omega) rfl;have hmeas:k+1<=ids.length:=hlt;have Ya:k<1000:=by omega
   have HO:=zH ho;have Gi:=zH QX;have uG:=zH htk;have DO:=zH hn1;clear hcx gJ hx ho QX htk hn1;have p1:wr.cell? ⟨g4,1,none⟩=some (.slice A1 n1 c1):=Gi.out.cell 1;have P_:g4<wr.heap.size:=Gi.out.lt;have hs4r:w4.heap.size<=wr.heap.size:=uG.out.size;have hn1k:n1<=1000:=by
    rw[DO.out];unfold Sp.cK;rw[zM];exact zl (zau _ _) (by rw[zag];omega)
   by_cases h0:0<x.first
   ·have q1:decide ((0:Int)<(x.first:Int))=true:=by rw[zx];omega
    obtain⟨ip,Km,oK,hp1,sU⟩:=info_parts yT;have hO:=aj.new (wr.alloc (.cells #[.int .u64 x.tx,.int .u64 x.first,.int .u64 x.last,.int .u64 x.next,.int .u32 x.page,.int .u16 x.slot] 123)) 113 ([.int .u64 x.tx,.int .u64 x.first,.int .u64 x.last,.int .u64 x.next]:List Value).toArray;rw[show(wr.alloc (.cells #[.int .u64 x.tx,.int .u64 x.first,.int .u64 x.last,.int .u64 x.next,.int .u32 x.page,.int .u16 x.slot] 123)).heap.size=wr.heap.size+1 by simp] at hO;have GN:=zH (e8 (cs:=[.int .u64 x.tx,.int .u64 x.first,.int .u64 x.last,.int .u64 x.next]) hO);have tU:=zH ((Gi.out.alloc (.cells #[.int .u64 x.tx,.int .u64 x.first,.int .u64 x.last,.int .u64 x.next,.int .u32 x.page,.int .u16 x.slot] 123)).alloc (.cells ([.int .u64 x.tx,.int .u64 x.first,.int .u64 x.last,.int .u64 x.next]:List Value).toArray 113));have Nj:=zH ((uG.out.alloc (.cells #[.int .u64 x.tx,.int .u64 x.first,.int .u64 x.last,.int .u64 x.next,.int .u32 x.page,.int .u16 x.slot] 123)).alloc (.cells ([.int .u64 x.tx,.int .u64 x.first,.int .u64 x.last,.int .u64 x.next]:List Value).toArray 113));clear hO;go_wp2_with (at_builtin;refine aO _ rfl _ _ 34 rfl w4.heap.size 113 ip (.agg #[.int .u64 0,.int .u64 0,.int .u64 0,.int .u64 0]) 4 32 underlying34 Km oK hp1 sU rfl (by decide) _ n1 _ rfl ((HO.out.alloc _).alloc _) ⟨wr.heap.size+1,0,none⟩ 1 1 [.int .u64 x.tx,.int .u64 x.first,.int .u64 x.last,.int .u64 x.next] rfl rfl GN.out (λx hx=>by simp at hx;rcases hx with rfl | rfl | rfl | rfl<;>rfl) (by unfold maxLen;omega) (by omega) (by simp;omega) ?_;intro v' w7 r1 r2 r3;obtain⟨g',c',rfl⟩:=bP r1 (by omega);have fu:=tU.out.grown r2 (λe=>by have:=(HO.out.lt g4 e.symm).1;omega);have f7:w7.cell? ⟨g4,1,none⟩=some (.slice A1 n1 c1):=fu.cell 1;have Y7:=fu.frozen 1);have hg'b:w4.heap.size<=g':=(r1.lt g' rfl).1;have iW:=fu.a_ 1 (.slice (some ⟨g',0,none⟩) (n1+1) c');simp only[zSA,zSB,zSC] at iW;have ID:=aN (w':=w7.setCell ⟨g4,1,none⟩ (.slice (some ⟨g',0,none⟩) (n1+1) c')) r1 (λb hb=>Below.heap_setCell w7 _ _ b (λe=>by have e:b=g4:=e;have hb:g'=b:=(by simpa[Value.ownBlock] using hb);omega));have ig:=(Nj.out.grown r2 (λb e=>.inr (HO.out.lt b e).1)).setCell (p:=⟨g4,1,none⟩) (.inl rfl) (.slice (some ⟨g',0,none⟩) (n1+1) c');have Fp:tG (Sp.cK f (ids.take k))++[.int .u64 x.tx,.int .u64 x.first,.int .u64 x.last,.int .u64 x.next]=tG (Sp.cK f (ids.take (k+1))):=by
     rw[lS.out,zK h0,KP];rfl
    have qO:n1+1=(Sp.cK f (ids.take (k+1))).length:=by rw[lS.out,zK h0,zo,<-DO.out];rfl
    rw[Fp] at ID;have H8:=zH (And.intro iW (And.intro qO (And.intro ID ig)));clear fu f7 Y7 iW ID ig Fp qO r1 r2 r3 GN tU Nj HO Gi uG DO lS p1;go_roundw
    case rel=>exact⟨k+1,_,_,_,hmeas,by go_num,H8.out.1,H8.out.2.1,H8.out.2.2.1,H8.out.2.2.2⟩
    case measure=>simp[intOf];omega
   ·have q1:decide ((0:Int)<(x.first:Int))=false:=by rw[ze];omega
    have iW:=Gi.out.alloc (.cells #[.int .u64 x.tx,.int .u64 x.first,.int .u64 x.last,.int .u64 x.next,.int .u32 x.page,.int .u16 x.slot] 123);have ID:=HO.out.alloc (.cells #[.int .u64 x.tx,.int .u64 x.first,.int .u64 x.last,.int .u64 x.next,.int .u32 x.page,.int .u16 x.slot] 123);have ig:=uG.out.alloc (.cells #[.int .u64 x.tx,.int .u64 x.first,.int .u64 x.last,.int .u64 x.next,.int .u32 x.page,.int .u16 x.slot] 123);have htk:Sp.cK f (ids.take (k+1))=Sp.cK f (ids.take k):=by rw[lS.out,zD h0,za7]
    have hn8:n1=(Sp.cK f (ids.take (k+1))).length:=by rw[htk];exact DO.out
    rw[<-htk] at ID;have H8:=zH (And.intro iW (And.intro hn8 (And.intro ID ig)));clear iW ID ig htk hn8 HO Gi uG DO lS p1;go_wp2_with fail;go_roundw
    case rel=>exact⟨k+1,_,_,_,hmeas,by go_num,H8.out.1,H8.out.2.1,H8.out.2.2.1,H8.out.2.2.2⟩
    case measure=>simp[intOf];omega
  ·obtain rfl:k=ids.length:=by omega
   rw[zL] at hn1 ho;subst hn1;have P_:g4<wr.heap.size:=QX.lt;have hbr:zB w wr:=JM.out.trans (htk.below JM.out.size (λb hb=>by have hb:b=g4:=hb;omega));have htr:=JE.out.keep (λb hb=>htk.block b (JE.out.lt b hb) (λe=>HTG.out b hb e));have YO:Reads (λb=>w1.heap.size<=b) wr 2 A s.aU.length (tj s.aU):=oC Cp.out htk (λb hb e=>by have e:b=g4:=e;have hb:w1.heap.size<=b:=hb;omega);have pH:=zH (El htr);have Ge:=zH YO;have jB:=zH hbr;have HO:=zH ho;have Gi:=zH QX;clear YO hbr ho QX htk htr hk hlt;go_wp2_with fail;refine pH.out.mono ?_;rintro e wn ⟨rfl,m,hwn⟩;have GG:aj wn g4 36 #[.slice A s.aU.length c,.slice A1 (Sp.cK f ids).length c1,.int .u64 0,.int .u64 0]:=by rw[hwn];exact Gi.out
   have Aa:zB w wn:=by rw[hwn];exact below_drewN' jB.out m
   have hRn:Reads (λb=>w1.heap.size<=b) wn 2 A s.aU.length (tj s.aU):=by rw[hwn];exact Ge.out
   have vF:wn.ownsRow w4.heap.size 113 4 (.slice A1 (Sp.cK f ids).length c1) (Sp.cK f ids).length (tG (Sp.cK f ids)):=by rw[hwn];exact HO.out
   clear hwn;have k0:wn.cell? ⟨g4,0,none⟩=some (.slice A s.aU.length c):=GG.cell 0;have k1:wn.cell? ⟨g4,1,none⟩=some (.slice A1 (Sp.cK f ids).length c1):=GG.cell 1;have k2:wn.cell? ⟨g4,2,none⟩=some (.int .u64 0):=GG.cell 2;have k3:wn.cell? ⟨g4,3,none⟩=some (.int .u64 0):=GG.cell 3;have z0:=GG.frozen 0;have z1:=GG.frozen 1;have z2:=GG.frozen 2;have z3:=GG.frozen 3;have hF:=(((((GG.a_ 2 (.int .u64 tx)).a_ 3 (.int .u64 num)).a_ 0 (.slice A s.aU.length c)).a_ 1 (.slice A1 (Sp.cK f ids).length c1)).a_ 2 (.int .u64 tx)).a_ 3 (.int .u64 num);simp only[zSA,zSB,zSC] at hF;have hbF:=(((((Aa.setCell (p:=⟨g4,2,none⟩) jJ (.int .u64 tx)).setCell (p:=⟨g4,3,none⟩) jJ (.int .u64 num)).setCell (p:=⟨g4,0,none⟩) jJ (.slice A s.aU.length c)).setCell (p:=⟨g4,1,none⟩) jJ (.slice A1 (Sp.cK f ids).length c1)).setCell (p:=⟨g4,2,none⟩) jJ (.int .u64 tx)).setCell (p:=⟨g4,3,none⟩) jJ (.int .u64 num);have XE:=((((((aa.refl (only g4) wn).setCell (p:=⟨g4,2,none⟩) (.inl rfl) (.int .u64 tx)).setCell (p:=⟨g4,3,none⟩) (.inl rfl) (.int .u64 num)).setCell (p:=⟨g4,0,none⟩) (.inl rfl) (.slice A s.aU.length c)).setCell (p:=⟨g4,1,none⟩) (.inl rfl) (.slice A1 (Sp.cK f ids).length c1)).setCell (p:=⟨g4,2,none⟩) (.inl rfl) (.int .u64 tx)).setCell (p:=⟨g4,3,none⟩) (.inl rfl) (.int .u64 num);have hRt:Reads (λb=>w4.heap.size<=b) wn 4 A1 (Sp.cK f ids).length (tG (Sp.cK f ids)):=by
    rcases vF.2 with⟨h0,hz⟩ | ⟨g',cap,cur,h0,_⟩
    ·exact⟨vF.1,λhn=>by omega⟩
    ·injection h0 with a1 a2 a3;subst a1;exact eX vF
   have YG:=JM.out.size;have De:bS (λb=>w.heap.size<=b) _ ⟨s.aU,Sp.cK f ids,tx,num⟩ A A1:=
    ⟨(oC hRn XE (λb hb e=>by have e:b=g4:=e;have hb:w1.heap.size<=b:=hb;omega)).mono (λb hb=>zl Xy hb),(oC hRt XE (λb hb e=>by have e:b=g4:=e;have hb:w4.heap.size<=b:=hb;omega)).mono (λb hb=>zl YG hb)⟩
   have HF:=zH (And.intro hF (And.intro hbF De));clear hF hbF XE hRt De;go_wp2_with fail;exact bodyPost_ret (v:=iz ⟨s.aU,Sp.cK f ids,tx,num⟩ A A1 c c1) (results_cell_row rfl _ _ g4 36 _ (0,0) _ rfl HF.out.1 underlying36 rfl rfl) rfl ⟨A,A1,c,c1,rfl,HF.out.2.2,HF.out.2.1⟩
section
open Go.Conc
theorem EI {G:af} {w:World} (h:Reads G w sz A n xs):Reads (λb=>G b/\b<w.heap.size) w sz A n xs:=
 ⟨h.1,λhn=>by
  obtain⟨b,o,e,hG,hl,hc⟩:=h.2 hn;exact⟨b,o,e,⟨hG,hl⟩,hl,hc⟩⟩
theorem Sp.pS (b:Nat) (x:Sp.bI):Sp.bQ b x<=b:=by
 have key:∀(l:List Nat) (c:Nat),l.foldl min c<=c:=λl=>by
  induction l with
  | nil=>exact λ_=>za _
  | cons y l ih=>exact λc=>zl (ih (min c y)) (Nat.min_le_left _ _)
 unfold Sp.bQ;exact zl (key _ _) (key _ _)
theorem J4 (w:World) (t1 t2 t3 t4 t5:TypeId) (c1 c2 c3 c4 c5:Array Value):
 aj (((((w.alloc (.cells c1 t1)).alloc (.cells c2 t2)).alloc (.cells c3 t3)).alloc (.cells c4 t4)).alloc (.cells c5 t5)) w.heap.size t1 c1/\aj (((((w.alloc (.cells c1 t1)).alloc (.cells c2 t2)).alloc (.cells c3 t3)).alloc (.cells c4 t4)).alloc (.cells c5 t5)) (w.heap.size+1) t2 c2/\
 aj (((((w.alloc (.cells c1 t1)).alloc (.cells c2 t2)).alloc (.cells c3 t3)).alloc (.cells c4 t4)).alloc (.cells c5 t5)) (w.heap.size+1+1) t3 c3/\aj (((((w.alloc (.cells c1 t1)).alloc (.cells c2 t2)).alloc (.cells c3 t3)).alloc (.cells c4 t4)).alloc (.cells c5 t5)) (w.heap.size+1+1+1) t4 c4/\
 aj (((((w.alloc (.cells c1 t1)).alloc (.cells c2 t2)).alloc (.cells c3 t3)).alloc (.cells c4 t4)).alloc (.cells c5 t5)) (w.heap.size+1+1+1+1) t5 c5/\zB w (((((w.alloc (.cells c1 t1)).alloc (.cells c2 t2)).alloc (.cells c3 t3)).alloc (.cells c4 t4)).alloc (.cells c5 t5)):=by
 have h2:=aj.new (w.alloc (.cells c1 t1)) t2 c2;have h3:=aj.new ((w.alloc (.cells c1 t1)).alloc (.cells c2 t2)) t3 c3;have h4:=aj.new (((w.alloc (.cells c1 t1)).alloc (.cells c2 t2)).alloc (.cells c3 t3)) t4 c4;have h5:=aj.new ((((w.alloc (.cells c1 t1)).alloc (.cells c2 t2)).alloc (.cells c3 t3)).alloc (.cells c4 t4)) t5 c5;rw[World.size_alloc] at h2;rw[World.size_alloc,World.size_alloc] at h3;rw[World.size_alloc,World.size_alloc,World.size_alloc] at h4;rw[World.size_alloc,World.size_alloc,World.size_alloc,World.size_alloc] at h5;refine⟨((((aj.new w t1 c1).alloc _).alloc _).alloc _).alloc _,((h2.alloc _).alloc _).alloc _,(h3.alloc _).alloc _,h4.alloc _,h5,?_⟩;exact(((((zR w).alloc (za _) _).alloc (by simp) _).alloc (by simp;omega) _).alloc (by simp;omega) _).alloc (by simp;omega) _
theorem t_ {x:Sp.bI} (h:aj W g 36 #[c0,c1,c2,c3]):
 (storeVar 36 ⟨g,0,none⟩ (iz x D T cd ct)).run prog W=.ok () (W.setRow g (bJ x D T cd ct)):=
 ax W g 0 _ _ _ _ h lq (by show 0+4<=4;omega) (by simp[bJ,Value.oneCell'])
abbrev jC:Sp.bI:=⟨[],[],0,0⟩
def Sp.Lg.took (l:Sp.Lg) (x:Sp.bI):Sp.Lg:=({(l.append bC.bytes).append x.text with forced:=((l.append bC.bytes).append x.text).next}:Sp.Lg).keep (Sp.bQ l.next x)
def Sp.Ms.took (m:Sp.Ms) (l:Sp.Lg) (x:Sp.bI) (clean:Bool):Sp.Ms:=⟨m.count+1,m.life,l.next,Sp.bQ l.next x,clean⟩
def Sp.aF.took (s:Sp.aF) (l:Sp.Lg) (x:Sp.bI) (n:Sp.Ms) (at_:Nat):Sp.aF:=({s with next:=(l.append bC.bytes).next+(14+x.text.length),forced:=((l.append bC.bytes).append x.text).next}:Sp.aF).store (at_+n.count%2) n.bytes
theorem Jq {ly:Ly} {K:af} {w:World} {l:Sp.Lg} {s:Sp.aF} (h:cn ly K w gd gl gp l s) (hfr:s.frames<=12) {tx num:Nat} {lk:Nat->Option Value} {f:Nat->Sp.Tx} (ht:j_ mb cb w gt n lk tx num)
 (hlk:∀p,lk p=if p∈ids then some (f p).val else none) (hs:ids.Pairwise (· < ·)) (h12:n<=12) (MB:ids.length<=1000) (I5:∀p∈ids,p<18446744073709551616)
 {x:Sp.bI} (hx:x=⟨s.aU,Sp.cK f ids,tx,num⟩) (hF:x.Fits) {m:Sp.Ms} {clean:Bool} {at_:Nat} (hm:(m.took l x clean).Ok) (hfit:31+(14+x.text.length)<=l.left) (hxl:x.text.length<=4096) (hx1:1<=x.text.length) (hn:l.next<100000000) (hr:l.reserved<1000000000)
 (h1:ly.at_+33<=at_) (h2:at_+1<ly.base) (h3:ly.len<1000000) (hst:Sp.bQ l.next x∈l.starts\/Sp.bQ l.next x=l.next) (ho:l.first<=Sp.bQ l.next x) (hfo:l.forced<=l.next):
 Calls prog 14 #[ptr gd,.int .i64 at_,kH m,ptr gl,ptr gp,ptr gt,.bool clean] w λe w'=>e=.returned (.tuple #[kH (m.took l x clean),.int .i64 0])/\Kept K w w'/\cn ly K w' gd gl gp (l.took x) (s.took l x (m.took l x clean) at_):=by
 obtain⟨nx,tO⟩:=zE (m.took l x clean);rw[<-tO] at hm ⊢;have Gz:=hF.dl;have Gv:=hF.tl;have Cm:Hid (∀W,zB w W->Calls prog 12 #[ptr gp,ptr gt] W (nL W x)):=zH fun(W:World) hb=>by
  rw[hx];exact tC (h.below hb) hfr (ht.keep (w':=W) (λb hb'=>hb.block b (ht.lt b hb'))) hlk hs h12 MB I5
 have H:=zH h;have j4:=h.lt;have hm1:m.count+1<18446744073709551616:=by have:=hm.Ry;rw[tO] at this;exact this
 have HM:=zH hm;have HF:=zH hF;have HST:=zH hst;replace hx:=zH hx;clear h ht hlk hs I5 hF hm hst;obtain⟨w1,hw1⟩:=zE (((((w.alloc (.cells #[ptr gd] 40)).alloc (.cells #[.int .i64 at_] 3)).alloc (.cells (aJ m) 26)).alloc (.cells #[ptr gl] 41)).alloc (.cells (aJ Sp.jE) 26));obtain⟨a7,a8,a9,qc,vn,hb1⟩:=J4 w 40 3 26 41 26 #[ptr gd] #[.int .i64 at_] (aJ m) #[ptr gl] (aJ Sp.jE);rw[<-hw1] at a7 a8 a9 qc vn hb1;have c7:=a7.cell 0;have c10:=qc.cell 0;simp only[zGA,zGC] at c7 c10;have uH:=zH (Cm.out w1 hb1);obtain⟨g7,mS⟩:=zE w.heap.size;obtain⟨g8,u_⟩:=zE (w.heap.size+1);obtain⟨g9,nC⟩:=zE (w.heap.size+1+1);obtain⟨g10,MH⟩:=zE (w.heap.size+1+1+1);obtain⟨g14,MG⟩:=zE (w.heap.size+1+1+1+1);rw[<-MG] at vn;rw[<-MH] at qc c10;rw[<-nC] at a9;rw[<-u_] at a8;rw[<-mS] at a7 c7;go_enter func14,ntmps14;go_upto_region 1 with fail;change Code.wp _ _ _ _ (((((w.alloc (.cells #[ptr gd] 40)).alloc (.cells #[.int .i64 at_] 3)).alloc (.cells (aJ m) 26)).alloc (.cells #[ptr gl] 41)).alloc (.cells (aJ Sp.jE) 26));rw[<-hw1,<-MG,<-MH,<-nC,<-u_,<-mS];have Qa:w.heap.size<=g7/\g7<g8/\g8<g9/\g9<g10/\g10<g14/\g14<w1.heap.size:=⟨by omega,by omega,by omega,by omega,by omega,by have:=vn.lt;omega⟩;clear hw1 mS u_ nC MH MG Cm;go_wp2_with fail;refine uH.out.mono ?_;rintro e w2 ⟨D,T,cd,ct,rfl,VO,hb2⟩;have cG:=hb1.trans (hb2.mono hb1.size);have hs2:=hb2.size;replace VO:bS (λb=>w1.heap.size<=b/\b<w2.heap.size) w2 x D T:=⟨EI VO.d,EI VO.t⟩;replace a7:=a7.below hb2 a7.lt;replace a8:=a8.below hb2 a8.lt;replace a9:=a9.below hb2 a9.lt;replace qc:=qc.below hb2 qc.lt;replace vn:=vn.below hb2 vn.lt;clear uH c7 c10 hb1 hb2;have z16:=aj.new w2 36 (bJ jC none none 0 0);have HS16:=zH (t_ (x:=x) (D:=D) (T:=T) (cd:=cd) (ct:=ct) z16);have KQ:=z16.setRow (bJ x D T cd ct);have hb3:zB w2 ((w2.alloc (.cells (bJ jC none none 0 0) 36)).setRow w2.heap.size (bJ x D T cd ct)):=below_setRow ((zR w2).alloc (za _) _) (za _) _;clear z16;go_upto_region 4 with(first
  | ((with_reducible refine wpList_skip (w':=(w2.alloc (.cells (bJ jC none none 0 0) 36)).setRow w2.heap.size (bJ x D T cd ct)) rfl rfl ?_ ?_);exact aq _ _ _ ⟨w2.heap.size,0,none⟩ (iz x D T cd ct) rfl rfl rfl HS16.out))
 generalize(w2.alloc (.cells (bJ jC none none 0 0) 36)).setRow w2.heap.size (bJ x D T cd ct)=w3 at KQ hb3 ⊢;obtain⟨g16,hg16⟩:=zE w2.heap.size;rw[<-hg16] at KQ ⊢;have hge16:w2.heap.size<=g16:=by omega
 clear hg16;have hs3:=hb3.size;have YM:=VO.below hb3;replace a7:=a7.below hb3 a7.lt;replace a8:=a8.below hb3 a8.lt;replace a9:=a9.below hb3 a9.lt;replace qc:=qc.below hb3 qc.lt;replace vn:=vn.below hb3 vn.lt;have dN:=cG.trans (hb3.mono cG.size);have hg16l:=KQ.lt;clear HS16 hb3 VO cG;have e0:=a9.cell 0;have e1:=a9.cell 1;simp only[aJ,zGA,zGC,zGB] at e0 e1;have a17:=aj.new w3 26 (aJ ⟨m.count+1,m.life,0,0,clean⟩);have hb4:zB w3 (w3.alloc (.cells (aJ ⟨m.count+1,m.life,0,0,clean⟩) 26)):=(zR w3).alloc (za _) _;go_upto_region 5 with fail;change Code.wp _ _ _ _ (w3.alloc (.cells (aJ ⟨m.count+1,m.life,0,0,clean⟩) 26));generalize w3.alloc (.cells (aJ ⟨m.count+1,m.life,0,0,clean⟩) 26)=w4 at a17 hb4 ⊢;obtain⟨g17,hg17⟩:=zE w3.heap.size;rw[<-hg17] at a17 ⊢;have hge17:w3.heap.size<=g17:=by omega
 clear hg17;have Gx:=hb4.size;have Ui:=YM.below hb4;replace a7:=a7.below hb4 a7.lt;replace a8:=a8.below hb4 a8.lt;replace qc:=qc.below hb4 qc.lt;replace vn:=vn.below hb4 vn.lt;replace KQ:=KQ.below hb4 KQ.lt;have fC:=dN.trans (hb4.mono dN.size);have hg17l:=a17.lt;clear hb4 YM dN a9 e0 e1;have V0:=aj.new w4 24 #[.int .u64 0];have cS:zB w4 (w4.alloc (.cells #[.int .u64 0] 24)):=(zR w4).alloc (za _) _;go_upto_region 6 with fail;change Code.wp _ _ _ _ (w4.alloc (.cells #[.int .u64 0] 24));generalize w4.alloc (.cells #[.int .u64 0] 24)=w5 at V0 cS ⊢;obtain⟨g18,hg18⟩:=zE w4.heap.size;rw[<-hg18] at V0 ⊢;have hge18:w4.heap.size<=g18:=by omega
 clear hg18;have hs5:=cS.size;have SE:=Ui.below cS;replace a7:=a7.below cS a7.lt;replace a8:=a8.below cS a8.lt;replace qc:=qc.below cS qc.lt;replace vn:=vn.below cS vn.lt;replace KQ:=KQ.below cS KQ.lt;replace a17:=a17.below cS a17.lt;have gK:=fC.trans (cS.mono fC.size);have hg18l:=V0.lt;clear cS Ui fC;have hs2w:=gK.size;have gM:zB w5 (w5.alloc (.cells (lV ⟨g7,g8,g10,g16,g17,g18⟩) 134)):=(zR w5).alloc (za _) _;have aS:=aj.new w5 134 (lV ⟨g7,g8,g10,g16,g17,g18⟩);go_wp2_with fail;change Calls _ _ _ (w5.alloc (.cells (lV ⟨g7,g8,g10,g16,g17,g18⟩) 134)) _;generalize w5.alloc (.cells (lV ⟨g7,g8,g10,g16,g17,g18⟩) 134)=w6 at aS gM ⊢;obtain⟨g5,jm⟩:=zE w5.heap.size;rw[<-jm] at aS ⊢;have hgeS:w5.heap.size<=g5:=by omega
 clear jm;have hT6:=SE.below gM;replace a7:=a7.below gM a7.lt;replace a8:=a8.below gM a8.lt;replace qc:=qc.below gM qc.lt;replace vn:=vn.below gM vn.lt;replace KQ:=KQ.below gM KQ.lt;replace a17:=a17.below gM a17.lt;replace V0:=V0.below gM V0.lt;have sZ:=gK.trans (gM.mono gK.size);have hs6:=gM.size;have hgSl:=aS.lt;clear gM SE gK;have hp6:cn ly (λb=>K b\/(w.heap.size<=b/\b<w6.heap.size)) w6 gd gl gp l s:=H.out.more sZ (λ_ hb=>hb);obtain⟨hg1,hg2,hg3,hg4,jm,qu⟩:=Qa;have hok:iM.Ok ⟨g7,g8,g10,g16,g17,g18⟩ (λb=>w1.heap.size<=b/\b<w2.heap.size) (λb=>K b\/(w.heap.size<=b/\b<w6.heap.size)):=
  ⟨.inr ⟨by show w.heap.size<=g7;omega,by show g7<_;omega⟩,.inr ⟨by show w.heap.size<=g8;omega,by show g8<_;omega⟩,.inr ⟨by show w.heap.size<=g10;omega,by show g10<_;omega⟩,.inr ⟨by show w.heap.size<=g16;omega,by show g16<_;omega⟩,.inr ⟨by show w.heap.size<=g17;omega,by show g17<_;omega⟩,.inr ⟨by show w.heap.size<=g18;omega,by show g18<_;omega⟩,
   ⟨by show g17≠g7;omega,by show g17≠g8;omega,by show g17≠g10;omega,by show g17≠g16;omega,by show g17≠g18;omega⟩,⟨by show g18≠g7;omega,by show g18≠g8;omega,by show g18≠g10;omega,by show g18≠g16;omega⟩,λb hb=>⟨.inr ⟨by omega,by omega⟩,by show b≠g17;omega,by show b≠g18;omega⟩⟩
 have hT:=cZ.mk (ly:=ly) (B:=⟨g7,g8,g10,g16,g17,g18⟩) a7 a8 qc KQ hT6 a17 V0 hp6;have hl31:l.next+31+(14+x.text.length)<1000000000:=by omega
 have h7l:(l.append bC.bytes).next=l.next+31:=by show l.next+(14+bC.bytes.length)=_;rw[eH]
 have hleft:(l.append bC.bytes).left=l.left-31:=by
  show l.n*110-(l.bytes++Sp.frame l.next bC.bytes).length-l.reserved=_;rw[zo,Sp.bR,eH];unfold Sp.Lg.left;omega
 have C3:nx=⟨m.count+1,m.life,l.next,Sp.bQ l.next x,clean⟩:=tO;have hbl:0<((l.append bC.bytes).append x.text).bytes.length:=by
  show 0<(_++Sp.frame (l.append bC.bytes).next x.text).length;rw[zo,Sp.bR];omega
 have HSt:=zH (FZ (B:=⟨g7,g8,g10,g16,g17,g18⟩) (g:=g5) (KX:=iM.kept ⟨g7,g8,g10,g16,g17,g18⟩ (λb=>K b\/(w.heap.size<=b/\b<w6.heap.size))) ⟨.inr ⟨by omega,by omega⟩,by show g5≠g17;omega,by show g5≠g18;omega⟩ aS
  (WQ hT hok (by omega) (by omega) hr (by omega) (by omega))
  (λW hW=>WO hW hok HF.out (by rw[hleft];omega) hxl hx1 (by rw[h7l];omega) hr)
  (λW hW=>WN hW hok (by show l.forced<=(l.append bC.bytes).next;omega) (by show(l.append bC.bytes).next<=(l.append bC.bytes).next+(14+x.text.length);omega))
  (λW hW=>WM hW hok (by rw[<-C3];exact HM.out) h1 h2 h3)
  (λW hW=>WL hW hok (by
   show Sp.bQ l.next x∈(l.starts++[l.next])++[(l.append bC.bytes).next]\/_;rcases HST.out with h | h
   ·exact .inl (List.mem_append_left _ (List.mem_append_left _ h))
   ·exact .inl (List.mem_append_left _ (by rw[h];simp))) ho (by
   show Sp.bQ l.next x<=(l.append bC.bytes).next+(14+x.text.length)
   rw[h7l];have:Sp.bQ l.next x<=l.next:=Sp.pS _ _;omega) hbl))
 have Z2:=zH vn;have hKw:∀b,K b->b<w.heap.size:=j4;have qz:=zH sZ;clear hT hok a7 a8 qc vn KQ a17 V0 aS hT6 hp6 sZ;refine HSt.out.mono ?_;rintro e w7 ⟨rfl,rJ,YL⟩;have hk14:iM.kept ⟨g7,g8,g10,g16,g17,g18⟩ (λb=>K b\/(w.heap.size<=b/\b<w6.heap.size)) g14:=⟨.inr ⟨by omega,by omega⟩,by show g14≠g17;omega,by show g14≠g18;omega⟩;have h14:=Z2.out.kept rJ hk14;rw[<-C3] at YL;have HL17:=zH (lK YL.nx);have HS14:=zH (fB (m:=nx) h14);have h148:=h14.setRow (aJ nx);have HP8:=zH ((YL.pk.turns ((aa.refl (only g14) w7).setRow (.inl rfl) (aJ nx)) (λb hb=>.inl (by rw[show b=g14 from hb];exact hk14.1))).mono (K':=K) (λb hb=>.inl hb));have HK8:=zH (((Kept.az qz.out hKw).trans (rJ.mono (K':=K) (λb hb=>⟨.inl hb,by have:=hKw b hb;show b≠g17;omega,by have:=hKw b hb;show b≠g18;omega⟩))).trans (show Kept K w7 (w7.setRow g14 (aJ nx)) from⟨rfl,rfl,rfl,by simp,λb hb=>ak _ _ _ _ (λe=>by have:=hKw b hb;omega)⟩));clear HSt YL h14 rJ Z2;go_wp2_with (first
  | ((with_reducible refine aY (v:=kH nx) (w':=w7) 56 rfl rfl ?_ ?_);exact ay _ _ ⟨g17,0,none⟩ rfl rfl HL17.out;simp only[zSA,zSB,zSC])
  | ((with_reducible refine wpList_skip (w':=w7.setRow g14 (aJ nx)) rfl rfl ?_ ?_);exact aq _ _ _ ⟨g14,0,none⟩ (kH nx) rfl rfl rfl HS14.out))
 have ZL:=lK h148;exact bodyPost_ret (v:=.tuple #[kH nx,.int .i64 0]) (by
  rw[results_cell_tmp rfl];have ea:(asAddr (ptr g14)).run prog (w7.setRow g14 (aJ nx))=.ok ⟨g14,0,none⟩ (w7.setRow g14 (aJ nx)):=by go_simp
  refine(congrArg (λr=>Result.andThen r _) ea).trans ?_;simp only[Result.andThen_ok];rw[ZL];rfl) rfl ⟨rfl,HK8.out,by
   have hf:nx.first=Sp.bQ l.next x:=by rw[C3]
   have h9:=HP8.out;rw[hf] at h9;exact h9⟩
end
open Go.RowKit Go.Conc
namespace Sp
def aF.Fr (s:aF) (N:Nat):Prop:=∀x∈s.L,x.aK=true->x.from_=N
theorem Jp {y:RI} (h:y.aK=true->y.from_=N):(bw ids y).aK=true->(bw ids y).from_=N:=by
 unfold bw
 split
 ·exact λe=>by cases e
 ·exact h
theorem U7 {L:List RI} (h:∀x∈L,x.aK=true->x.from_=N) {f:RI->RI} (hf:∀x,(x.aK=true->x.from_=N)->(f x).aK=true->(f x).from_=N):∀x∈Gq L id f,x.aK=true->x.from_=N:=λx hx=>by
 obtain⟨y,hy,rfl⟩:=zn.1 hx
 split
 ·exact hf y (h y hy)
 ·exact h y hy
theorem wP {s:aF} (h:s.Fr N) (q:List Nat):(s.write q).2.Fr N:=by
 unfold aF.write
 split
 ·exact h
 ·split
  ·exact h
  ·intro x hx;obtain⟨y,hy,rfl⟩:=zn.1 hx;exact Jp (h y hy)
theorem KH {s:aF} (h:s.Fr N) (id:Nat):(s.drop id).2.Fr N:=by
 unfold aF.drop;dsimp only
 split
 ·exact wP h [id]
 ·exact λx hx=>wP h [id] x (zam.1 hx).1
theorem wD {s:aF} (h:s.Fr N):s.room.2.Fr N:=by
 unfold aF.room
 split
 ·exact h
 ·split
  ·exact KH h _
  ·exact h
theorem J0 {L:List RI} (h:∀x∈L,x.aK=true->x.from_=N):∀x∈nk L id,x.aK=true->x.from_=N:=λx hx=>by
 rcases zz.1 hx with hx | hx
 ·exact h x (zam.1 hx).1
 ·obtain⟨y,hy,rfl⟩:=zn.1 hx;exact h y (zam.1 hy).1
theorem Xc {s:aF} (h:s.Fr N) (id:Nat):(s.iQ id).2.2.Fr N:=by
 unfold aF.iQ
 split
 ·exact J0 h
 ·split
  ·exact h
  ·split
   ·exact h
   ·dsimp only
    split
    ·exact wD h
    ·refine J0 (λx hx=>?_);rcases zz.1 hx with hx | hx
     ·exact wD h x hx
     ·rw[zq.1 hx];exact λe=>by cases e
theorem WZ {s:aF} (h:s.Fr N) (x:Pg) (hx:x.aL=N) (b:Bool):(s.put x b).2.Fr N:=by
 unfold aF.put
 split
 ·exact h
 ·split
  ·exact h
  ·split
   ·exact h
   ·exact U7 h (λy hy=>by
     split
     ·exact hy
     ·exact λ_=>hx)
theorem N9 {s:aF} (h:s.Fr N) (id:Nat):(s.dW id).2.Fr N:=by
 unfold aF.dW
 split
 ·exact h
 ·split
  ·exact h
  ·exact U7 h (λy hy=>hy)
theorem Rg {s:aF} (h:s.Fr N) (q:List Nat):(s.flush q).2.Fr N:=by
 unfold aF.flush
 split
 ·exact h
 ·split
  ·exact h
  ·split
   ·exact h
   ·exact wP h q
theorem Rk {s:aF} (h:s.Fr N) (id:Nat):(s.dB id).2.Fr N:=by
 unfold aF.dB
 split
 ·exact h
 ·split
  ·exact h
  ·exact KH h id
theorem Re {s:aF} (h:s.Fr N) (x:Pg) (hx:x.aL=N) (b:Bool):(s.fresh x b).2.Fr N:=by
 unfold aF.fresh
 split
 ·exact h
 ·split
  ·exact h
  ·split
   ·exact h
   ·dsimp only
    split
    ·exact wD h
    ·intro y hy;rcases zz.1 hy with hy | hy
     ·exact wD h y hy
     ·rw[zq.1 hy];exact λ_=>hx
theorem rj (s:aF) (q:List Nat):(s.write q).2.rest=s.rest:=by
 unfold aF.write
 split
 ·rfl
 ·split<;>rfl
theorem B7 (s:aF) (id:Nat):(s.drop id).2.rest=s.rest:=by
 unfold aF.drop;dsimp only
 split
 ·exact rj s [id]
 ·exact rj s [id]
theorem pP (s:aF):s.room.2.rest=s.rest:=by
 unfold aF.room
 split
 ·rfl
 ·split
  ·exact B7 s _
  ·rfl
theorem O1 (s:aF) (id:Nat):(s.iQ id).2.2.rest=s.rest:=by
 unfold aF.iQ
 split
 ·rfl
 ·split
  ·rfl
  ·split
   ·rfl
   ·dsimp only
    split
    ·exact pP s
    ·exact pP s
theorem OO (s:aF) (x:Pg) (b:Bool):(s.put x b).2.rest=s.rest:=by
 unfold aF.put
 split
 ·rfl
 ·split
  ·rfl
  ·split<;>rfl
theorem GU (s:aF) (id:Nat):(s.dW id).2.rest=s.rest:=by
 unfold aF.dW
 split
 ·rfl
 ·split<;>rfl
theorem Je (s:aF) (q:List Nat):(s.flush q).2.rest=s.rest:=by
 unfold aF.flush
 split
 ·rfl
 ·split
  ·rfl
  ·split
   ·rfl
   ·exact rj s q
theorem Jf (s:aF) (id:Nat):(s.dB id).2.rest=s.rest:=by
 unfold aF.dB
 split
 ·rfl
 ·split
  ·rfl
  ·exact B7 s id
theorem I8 (s:aF) (x:Pg) (b:Bool):(s.fresh x b).2.rest=s.rest:=by
 unfold aF.fresh
 split
 ·rfl
 ·split
  ·rfl
  ·split
   ·rfl
   ·dsimp only
    split
    ·exact pP s
    ·exact pP s
theorem Nx.keeps {d:Nat} {l l':Lg} {s s':aF} (h:Nx d n l s l' s') (hd:d%7≠6):(∃f,l'={l with forced:=f})/\s'.rest=s.rest/\(s.Fr n->s'.Fr n):=by
 cases h with
 | iQ id=>exact⟨⟨_,rfl⟩,O1 s id,λh=>Xc h id⟩
 | put x hx=>exact⟨⟨_,rfl⟩,OO s x _,λh=>WZ h x hx _⟩
 | dW id=>exact⟨⟨_,rfl⟩,GU s id,λh=>N9 h id⟩
 | flush q=>exact⟨⟨_,rfl⟩,Je s q,λh=>Rg h q⟩
 | dB id=>exact⟨⟨_,rfl⟩,Jf s id,λh=>Rk h id⟩
 | fresh x hx=>exact⟨⟨_,rfl⟩,I8 s x _,λh=>Re h x hx _⟩
 | append l2 h=>exact absurd h hd
end Sp
section
open Go.Conc Go.Maps
theorem Il {G:af} {vL vD:Value} {w:World} {gP:Nat} {s:Sp.aF} (hP:w.cell? ⟨gP,3,none⟩=some (ptr gr)) (hPl:gP<w.heap.size) (h:bG B G w gr vL vD s) {tx num:Nat} {lk:Nat->Option Value} {f:Nat->Sp.Tx} (ht:j_ mb cb w gt n lk tx num)
 (hlk:∀p,lk p=if p∈ids then some (f p).val else none) (hs:ids.Pairwise (· < ·)) (h12:n<=12) (MB:ids.length<=1000) (I5:∀p∈ids,p<18446744073709551616):
 Calls prog 10 #[ptr gP,ptr gt] w (nL w ⟨s.aU,Sp.cK f ids,tx,num⟩):=by
 have hb1:=(zR w).alloc (za _) (.cells #[.slice none 0 0,.slice none 0 0,.int .u64 0,.int .u64 0] 36);have hB:=aj.new w 36 #[.slice none 0 0,.slice none 0 0,.int .u64 0,.int .u64 0];have h1:=h.below hb1;have hP1:=hb1.cell (p:=⟨gP,3,none⟩) hPl;rw[hP] at hP1;have gX:=ht.keep (w':=w.alloc (.cells #[.slice none 0 0,.slice none 0 0,.int .u64 0,.int .u64 0] 36)) (λb hb=>Below.heap_alloc _ _ _ (ht.lt b hb));have Gv:=ht.lt;go_enter func10,ntmps10;go_upto_region 1 with fail;change Code.wp _ _ _ _ (w.alloc (.cells #[.slice none 0 0,.slice none 0 0,.int .u64 0,.int .u64 0] 36));obtain⟨w1,hw1⟩:=zE (w.alloc (.cells #[.slice none 0 0,.slice none 0 0,.int .u64 0,.int .u64 0] 36));obtain⟨g0,hg0⟩:=zE w.heap.size;have T7:w.heap.size<=g0:=by omega
 have htg0:∀b,b=gt\/b=mb\/b=cb->b≠g0:=λb hb=>by have:=Gv b hb;omega
 rw[<-hw1] at hb1 h1 gX hP1;rw[<-hw1,<-hg0] at hB;rw[<-hw1,<-hg0];have HP:=zH (LU h1);have uH:=zH gX;have HTG:=zH htg0;have Gf:=zH hlk;have Xy:w.heap.size<=w1.heap.size:=hb1.size;clear hw1 hg0 h h1 ht gX Gv htg0 hlk hP;go_wp2_with fail;refine HP.out.mono ?_;rintro e w2 ⟨A,c,rfl,pW,hb2⟩;have hg0l1:=hB.lt;have hB0:=(hB.below hb2 hB.lt).alloc (.cells #[.slice A s.aU.length c,.slice none 0 0,.int .u64 0,.int .u64 0] 36);have cg:=aj.new w2 36 #[.slice A s.aU.length c,.slice none 0 0,.int .u64 0,.int .u64 0];have cG:=hb1.trans (hb2.mono hb1.size);have dN:=cG.alloc cG.size (.cells #[.slice A s.aU.length c,.slice none 0 0,.int .u64 0,.int .u64 0] 36);have dx:=uH.out.keep (λb hb=>hb2.block b (uH.out.lt b hb));have gA:=dx.keep (w':=w2.alloc (.cells #[.slice A s.aU.length c,.slice none 0 0,.int .u64 0,.int .u64 0] 36)) (λb hb=>Below.heap_alloc w2 _ b (dx.lt b hb));have vP:=Reads.below pW ((zR w2).alloc (za _) (.cells #[.slice A s.aU.length c,.slice none 0 0,.int .u64 0,.int .u64 0] 36));have hs12:=hb2.size;have hsz:(w2.alloc (.cells #[.slice A s.aU.length c,.slice none 0 0,.int .u64 0,.int .u64 0] 36)).heap.size=w2.heap.size+1:=by simp
 obtain⟨g4,hg4⟩:=zE w2.heap.size;have FH:Reads (λb=>w1.heap.size<=b/\b<g4) (w2.alloc (.cells #[.slice A s.aU.length c,.slice none 0 0,.int .u64 0,.int .u64 0] 36)) 2 A s.aU.length (tj s.aU):=by
  refine⟨pW.1,λhn=>?_⟩;obtain⟨b,o,e,I2,hlt,hc⟩:=pW.2 hn;obtain⟨b',o',e',hGb',hlt',hc'⟩:=vP.2 hn;obtain rfl:b=b':=by rw[e] at e';simpa using congrArg (λx:Option Addr=>x.map Addr.block) e'
  exact⟨b,o',e',⟨I2,by omega⟩,hlt',hc'⟩
 rw[<-hg4] at cg;go_upto_region 2 with fail;change Code.wp _ _ _ _ (w2.alloc (.cells #[.slice A s.aU.length c,.slice none 0 0,.int .u64 0,.int .u64 0] 36));rw[<-hg4] at hsz ⊢;have Yx:g0≠g4:=by omega
 have jJ:w.heap.size<=g4:=by omega
 have htg4:∀b,b=gt\/b=mb\/b=cb->b≠g4:=λb hb=>by have h1:=dx.lt b hb;omega
 have HTG4:=zH htg4;replace hg4:=zH hg4;have Sv:=zH (JT gA Gf.out hs h12 MB I5);have JH:=zH FH;have jA:=zH dN;have Cr:=zH hB0;have R8:=zH hsz;clear vP dN cG pW hb2 FH dx hB hb1 HP hP1 hB0 htg4 hsz;generalize w2.alloc (.cells #[.slice A s.aU.length c,.slice none 0 0,.int .u64 0,.int .u64 0] 36)=w3 at*;go_wp2_with fail;refine Sv.out.mono ?_;rintro e w4 ⟨v,rfl,hrow,hb4⟩;obtain⟨Av,cv,rfl⟩:∃Av cv,v=.slice Av ids.length cv:=by
  rcases hrow.2 with⟨rfl,h0⟩ | ⟨g,cap,cur,rfl,_⟩
  ·exact⟨none,0,by rw[h0]⟩
  ·exact⟨_,_,rfl⟩
 have dn:=cg.below hb4 cg.lt;have hg4w:g4<w3.heap.size:=cg.lt;have HB04:=zH (Cr.out.below hb4 Cr.out.lt);have Cp:=zH (Reads.below JH.out hb4);have rT:=zH hrow;have JM:=zH (jA.out.trans (hb4.mono (by have:=jA.out.size;omega)));have JE:=zH (gA.keep (λb hb=>hb4.block b (gA.lt b hb)));have TT:w3.heap.size<=w4.heap.size:=hb4.size;clear hrow hb4 cg Sv JH gA Cr;have jh:=zH dn;clear dn;go_wp2_with fail;go_loopw [7] (λv7 wr=>∃(k:Nat) (A1:Option Addr) (n1 c1:Nat),k<=ids.length/\v7=.int .i64 k/\aj wr g4 36 #[.slice A s.aU.length c,.slice A1 n1 c1,.int .u64 0,.int .u64 0]/\n1=(Sp.cK f (ids.take k)).length/\wr.ownsRow w4.heap.size 113 4 (.slice A1 n1 c1) n1 (tG (Sp.cK f (ids.take k)))/\aa (only g4) (only g4) w4 wr) (λv7 _=>ids.length-(intOf v7).toNat)
 case atStart=>exact⟨0,none,0,0,by omega,rfl,jh.out,rfl,World.ownsRow_nil _ _ _ _,aa.refl _ _⟩
 case round=>
  clear jh;obtain⟨k,A1,n1,c1,hk,rfl,QX,hn1,ho,htk⟩:=hrel;by_cases hlt:k<ids.length
  ·obtain⟨g,rfl⟩:∃g,Av=some ⟨g,0,none⟩:=by
    rcases rT.out.2 with⟨h0,h1⟩ | ⟨g,cap,cur,h0,_⟩
    ·omega
    ·injection h0 with a1;exact⟨g,a1⟩
   have kW:=rT.out.lt g rfl;have hcx:∀j u,j<6->(NA (f ids[k]))[j]? =some u->wr.cell? ⟨g,k*6+j,none⟩=some u:=λj u hj hu=>by
    have h1:=rT.out.cells (g:=g) rfl (k*6+j) u ((JS rfl hlt j hj).trans hu);have e3:(⟨g,0,none⟩:Addr).add (k*6+j)=⟨g,k*6+j,none⟩:=by cases k*6+j<;>simp[Addr.add]
    rw[e3] at h1;exact(World.cell?_of_block (a:=⟨g,_,none⟩) (htk.block g kW.2 (λe=>by have e:g=g4:=e;omega))).trans h1
   have gJ:=Sp.Cj (f:=f) hlt;obtain⟨x,hx⟩:=zE (f ids[k]);rw[<-hx] at hcx gJ;have lS:=zH gJ;have e0:=hcx 0 _ (by omega) rfl;rw[Nat.add_zero] at e0;have e1:=hcx 1 _ (by omega) rfl;have e2:=hcx 2 _ (by omega) rfl;have e3:=hcx 3 _ (by omega) rfl;have hmeas:k+1<=ids.length:=hlt;have Ya:k<1000:=by omega
   have hki:(k:Int)<(ids.length:Int):=by omega
   have q9:decide ((k:Int)<(ids.length:Int))=true:=by rw[zx];omega
   have HO:=zH ho;have Gi:=zH QX;have uG:=zH htk;have DO:=zH hn1;clear hcx gJ hx ho QX htk hn1;have p1:wr.cell? ⟨g4,1,none⟩=some (.slice A1 n1 c1):=Gi.out.cell 1;have P_:g4<wr.heap.size:=Gi.out.lt;have hs4r:w4.heap.size<=wr.heap.size:=uG.out.size;have hn1k:n1<=1000:=by
    rw[DO.out];unfold Sp.cK;rw[zM];exact zl (zau _ _) (by rw[zag];omega)
   by_cases h0:0<x.first
   ·have q1:decide ((0:Int)<(x.first:Int))=true:=by rw[zx];omega
    obtain⟨ip,Km,oK,hp1,sU⟩:=info_parts yT;go_upto_region 7 with fail;have hS:=zH (show wr.drew.cell? ⟨g4,1,none⟩=some (.slice A1 n1 c1)/\wr.drew.cell? ⟨g,k*6,none⟩=some (.int .u64 x.tx)/\wr.drew.cell? ⟨g,k*6+1,none⟩=some (.int .u64 x.first)/\wr.drew.cell? ⟨g,k*6+2,none⟩=some (.int .u64 x.last)/\wr.drew.cell? ⟨g,k*6+3,none⟩=some (.int .u64 x.next) from⟨p1,e0,e1,e2,e3⟩);refine fQ (λW=>zC W g4 1 (.slice A1 n1 c1)/\zC W g (k*6) (.int .u64 x.tx)/\zC W g (k*6+1) (.int .u64 x.first)/\zC W g (k*6+2) (.int .u64 x.last)/\zC W g (k*6+3) (.int .u64 x.next)) (λi=>decide (26<=i)) ?_
    repeat (refine bK hS.out ?_)
    have hO:=aj.new wr.drew 113 ([.int .u64 x.tx,.int .u64 x.first,.int .u64 x.last,.int .u64 x.next]:List Value).toArray;have GN:=zH (e8 (cs:=[.int .u64 x.tx,.int .u64 x.first,.int .u64 x.last,.int .u64 x.next]) hO);have hBB:=Gi.out.drew.alloc (.cells ([.int .u64 x.tx,.int .u64 x.first,.int .u64 x.last,.int .u64 x.next]:List Value).toArray 113);have Kq:=uG.out.drew.alloc (.cells ([.int .u64 x.tx,.int .u64 x.first,.int .u64 x.last,.int .u64 x.next]:List Value).toArray 113);have hOO:=cq HO.out (((zR wr).drew).alloc (za _) (.cells ([.int .u64 x.tx,.int .u64 x.first,.int .u64 x.last,.int .u64 x.next]:List Value).toArray 113));refine fe 23 53 (v:=.slice (some ⟨wr.drew.heap.size,0,none⟩) 1 1) (w':=wr.drew.alloc (.cells ([.int .u64 x.tx,.int .u64 x.first,.int .u64 x.last,.int .u64 x.next]:List Value).toArray 113)) rfl (by go_simp) (λ_=>?_) ?_
    ·have AV:=((zR wr).drew).alloc (za _) (.cells ([.int .u64 x.tx,.int .u64 x.first,.int .u64 x.last,.int .u64 x.next]:List Value).toArray 113);have nC:g<wr.heap.size:=by omega
     exact⟨(AV.cell (p:=⟨g4,1,none⟩) P_).trans p1,(AV.cell (p:=⟨g,k*6,none⟩) nC).trans e0,(AV.cell (p:=⟨g,k*6+1,none⟩) nC).trans e1,(AV.cell (p:=⟨g,k*6+2,none⟩) nC).trans e2,(AV.cell (p:=⟨g,k*6+3,none⟩) nC).trans e3⟩
    have hs2:wr.heap.size<(wr.drew.alloc (.cells ([.int .u64 x.tx,.int .u64 x.first,.int .u64 x.last,.int .u64 x.next]:List Value).toArray 113)).heap.size:=by rw[World.size_alloc];exact Nat.lt_succ_self _
    have hWg:(wr.drew.alloc (.cells ([.int .u64 x.tx,.int .u64 x.first,.int .u64 x.last,.int .u64 x.next]:List Value).toArray 113)).heap[g]? =wr.heap[g]? :=Below.heap_alloc wr.drew _ g (show g<wr.heap.size by omega);have Qc:wr.drew.heap.size=wr.heap.size:=rfl;rw[Qc] at GN ⊢;generalize hW2:World.alloc wr.drew _=W2 at GN hBB Kq hOO hs2 hWg ⊢;clear hW2 hO hS HO Gi uG Qc;refine jf 24 rfl (by rfl) (by kernel_rfl) ?_;refine bX _ _ _ _ rfl w4.heap.size 113 ip (.agg #[.int .u64 0,.int .u64 0,.int .u64 0,.int .u64 0]) 4 32 underlying34 Km oK hp1 sU rfl (by decide) _ n1 _ rfl hOO ⟨wr.heap.size,0,none⟩ 1 1 [.int .u64 x.tx,.int .u64 x.first,.int .u64 x.last,.int .u64 x.next] rfl rfl GN.out (λx hx=>by simp at hx;rcases hx with rfl | rfl | rfl | rfl<;>rfl) (by unfold maxLen;omega) (by omega) (by omega) ?_;intro v' w7 r1 r2 r3;obtain⟨g',c',rfl⟩:=bP r1 (by omega);have fu:=hBB.grown r2 (λe=>by have:=(hOO.lt g4 e.symm).1;omega);have nC:g<W2.heap.size:=by omega
    have hgne:∀b,(Value.slice A1 n1 c1).ownBlock=some b->w4.heap.size<=b:=λb hb=>(hOO.lt b hb).1;have f7:w7.cell? ⟨g4,1,none⟩=some (.slice A1 n1 c1):=fu.cell 1;have Y7:=fu.frozen 1;have hg'b:w4.heap.size<=g':=(r1.lt g' rfl).1;have iW:=fu.a_ 1 (.slice (some ⟨g',0,none⟩) (n1+1) c');simp only[zSA,zSB,zSC] at iW;have ID:=aN (w':=w7.setCell ⟨g4,1,none⟩ (.slice (some ⟨g',0,none⟩) (n1+1) c')) r1 (λb hb=>Below.heap_setCell w7 _ _ b (λe=>by have e:b=g4:=e;have hb:g'=b:=(by simpa[Value.ownBlock] using hb);omega));have ig:=(Kq.grown r2 (λb e=>.inr (hgne b e))).setCell (p:=⟨g4,1,none⟩) (.inl rfl) (.slice (some ⟨g',0,none⟩) (n1+1) c');have Fp:tG (Sp.cK f (ids.take k))++[.int .u64 x.tx,.int .u64 x.first,.int .u64 x.last,.int .u64 x.next]=tG (Sp.cK f (ids.take (k+1))):=by
     rw[lS.out,zK h0,KP];rfl
    have qO:n1+1=(Sp.cK f (ids.take (k+1))).length:=by rw[lS.out,zK h0,zo,<-DO.out];rfl
    rw[Fp] at ID;have H8:=zH (And.intro iW (And.intro qO (And.intro ID ig)));have rJ:∀i,w7.cell? ⟨g,i,none⟩=wr.cell? ⟨g,i,none⟩:=λi=>World.cell?_of_block ((r2.block g nC (λe=>by have:=hgne g e.symm;omega)).trans hWg);have FE:w7.cell? ⟨g4,1,none⟩=some (.slice A1 n1 c1)/\w7.cell? ⟨g,k*6,none⟩=some (.int .u64 x.tx)/\w7.cell? ⟨g,k*6+1,none⟩=some (.int .u64 x.first)/\w7.cell? ⟨g,k*6+2,none⟩=some (.int .u64 x.last)/\w7.cell? ⟨g,k*6+3,none⟩=some (.int .u64 x.next):=⟨f7,(rJ _).trans e0,(rJ _).trans e1,(rJ _).trans e2,(rJ _).trans e3⟩;have V7:=zH FE;clear FE rJ hWg;refine⟨λ_=>V7.out,qZ 54 rfl ?_⟩;simp only[zSA,zSB,zSC];clear iW ID ig Fp qO r1 r3 GN hBB Kq hOO DO lS p1;refine fe 25 55 (v:=.pointer (some ⟨g4,1,none⟩)) (w':=w7) rfl (by go_simp) (λ_=>V7.out) ?_;refine jx 26 (w':=w7.setCell ⟨g4,1,none⟩ (.slice (some ⟨g',0,none⟩) (n1+1) c')) rfl (by go_simp) (λh=>nomatch h) ?_;refine aC (by kernel_rfl) ?_ _;rename_i K9 aT;refine aT _ _ ?_;clear aT fu f7 Y7 r2;go_wp2_with fail;go_roundw
    case rel=>exact⟨k+1,_,_,_,hmeas,by go_num,H8.out.1,H8.out.2.1,H8.out.2.2.1,H8.out.2.2.2⟩
    case measure=>simp[intOf];omega
   ·have q1:decide ((0:Int)<(x.first:Int))=false:=by rw[ze];omega
    have htk:Sp.cK f (ids.take (k+1))=Sp.cK f (ids.take k):=by rw[lS.out,zD h0,za7]
    have hn8:n1=(Sp.cK f (ids.take (k+1))).length:=by rw[htk];exact DO.out
    have ID:=HO.out;rw[<-htk] at ID;have H8:=zH (And.intro Gi.out (And.intro hn8 (And.intro ID uG.out)));clear ID htk hn8 HO Gi uG DO lS p1;go_wp2_with fail;go_roundw
    case rel=>exact⟨k+1,_,_,_,hmeas,by go_num,H8.out.1,H8.out.2.1,H8.out.2.2.1,H8.out.2.2.2⟩
    case measure=>simp[intOf];omega
  ·obtain rfl:k=ids.length:=by omega
   rw[zL] at hn1 ho;subst hn1;have P_:g4<wr.heap.size:=QX.lt;have hbr:zB w wr:=JM.out.trans (htk.below JM.out.size (λb hb=>by have hb:b=g4:=hb;omega));have htr:=JE.out.keep (λb hb=>htk.block b (JE.out.lt b hb) (λe=>HTG4.out b hb e));have hB0r:=HB04.out.keep (htk.block g0 HB04.out.lt (λe=>Yx e));have YO:Reads (λb=>w1.heap.size<=b/\b<g4) wr 2 A s.aU.length (tj s.aU):=oC Cp.out htk (λb hb e=>by have e:b=g4:=e;have hb:w1.heap.size<=b/\b<g4:=hb;omega);have pH:=zH (El htr);have Ge:=zH YO;have jB:=zH hbr;have HO:=zH ho;have Gi:=zH QX;have HB0R:=zH hB0r;have q9:decide ((ids.length:Int)<(ids.length:Int))=false:=by rw[ze];omega
   clear YO hbr ho QX htk htr hk hlt hB0r;go_wp2_with fail;refine pH.out.mono ?_;rintro e wn ⟨rfl,m,hwn⟩;have GG:aj wn g4 36 #[.slice A s.aU.length c,.slice A1 (Sp.cK f ids).length c1,.int .u64 0,.int .u64 0]:=by rw[hwn];exact Gi.out
   have Dh:aj wn g0 36 #[.slice none 0 0,.slice none 0 0,.int .u64 0,.int .u64 0]:=by rw[hwn];exact HB0R.out
   have Aa:zB w wn:=by rw[hwn];exact below_drewN' jB.out m
   have hRn:Reads (λb=>w1.heap.size<=b/\b<g4) wn 2 A s.aU.length (tj s.aU):=by rw[hwn];exact Ge.out
   have vF:wn.ownsRow w4.heap.size 113 4 (.slice A1 (Sp.cK f ids).length c1) (Sp.cK f ids).length (tG (Sp.cK f ids)):=by rw[hwn];exact HO.out
   clear hwn;have k0:wn.cell? ⟨g4,0,none⟩=some (.slice A s.aU.length c):=GG.cell 0;have k1:wn.cell? ⟨g4,1,none⟩=some (.slice A1 (Sp.cK f ids).length c1):=GG.cell 1;have k2:wn.cell? ⟨g4,2,none⟩=some (.int .u64 0):=GG.cell 2;have k3:wn.cell? ⟨g4,3,none⟩=some (.int .u64 0):=GG.cell 3;have z2:=GG.frozen 2;have z3:=GG.frozen 3;have y0:wn.cell? ⟨g0,0,none⟩=some (.slice none 0 0):=Dh.cell 0;have y1:wn.cell? ⟨g0,1,none⟩=some (.slice none 0 0):=Dh.cell 1;have y2:wn.cell? ⟨g0,2,none⟩=some (.int .u64 0):=Dh.cell 2;have y3:wn.cell? ⟨g0,3,none⟩=some (.int .u64 0):=Dh.cell 3;have x0:=Dh.frozen 0;have x1:=Dh.frozen 1;have x2:=Dh.frozen 2;have x3:=Dh.frozen 3;have hF:=(((((Dh.far (p:=⟨g4,2,none⟩) Yx (.int .u64 tx)).far (p:=⟨g4,3,none⟩) Yx (.int .u64 num)).a_ 0 (.slice A s.aU.length c)).a_ 1 (.slice A1 (Sp.cK f ids).length c1)).a_ 2 (.int .u64 tx)).a_ 3 (.int .u64 num);simp only[zSA,zSB,zSC] at hF;have hbF:=(((((Aa.setCell (p:=⟨g4,2,none⟩) jJ (.int .u64 tx)).setCell (p:=⟨g4,3,none⟩) jJ (.int .u64 num)).setCell (p:=⟨g0,0,none⟩) T7 (.slice A s.aU.length c)).setCell (p:=⟨g0,1,none⟩) T7 (.slice A1 (Sp.cK f ids).length c1)).setCell (p:=⟨g0,2,none⟩) T7 (.int .u64 tx)).setCell (p:=⟨g0,3,none⟩) T7 (.int .u64 num);have XE:=((((((aa.refl (λb=>b=g4\/b=g0) wn).setCell (p:=⟨g4,2,none⟩) (.inl (.inl rfl)) (.int .u64 tx)).setCell (p:=⟨g4,3,none⟩) (.inl (.inl rfl)) (.int .u64 num)).setCell (p:=⟨g0,0,none⟩) (.inl (.inr rfl)) (.slice A s.aU.length c)).setCell (p:=⟨g0,1,none⟩) (.inl (.inr rfl)) (.slice A1 (Sp.cK f ids).length c1)).setCell (p:=⟨g0,2,none⟩) (.inl (.inr rfl)) (.int .u64 tx)).setCell (p:=⟨g0,3,none⟩) (.inl (.inr rfl)) (.int .u64 num);have hRt:Reads (λb=>w4.heap.size<=b) wn 4 A1 (Sp.cK f ids).length (tG (Sp.cK f ids)):=by
    rcases vF.2 with⟨h0,hz⟩ | ⟨g',cap,cur,h0,_⟩
    ·exact⟨vF.1,λhn=>by omega⟩
    ·injection h0 with a1 a2 a3;subst a1;exact eX vF
   have YG:=JM.out.size;have De:bS (λb=>w.heap.size<=b) _ ⟨s.aU,Sp.cK f ids,tx,num⟩ A A1:=
    ⟨(oC hRn XE (λb hb e=>by have e:b=g4\/b=g0:=e;have hb:w1.heap.size<=b/\b<g4:=hb;omega)).mono (λb hb=>zl Xy hb.1),(oC hRt XE (λb hb e=>by have e:b=g4\/b=g0:=e;have hb:w4.heap.size<=b:=hb;have h9:=hg4.out;omega)).mono (λb hb=>zl YG hb)⟩
   have HF:=zH (And.intro hF (And.intro hbF De));clear hF hbF XE hRt De;go_wp2_with fail;exact bodyPost_ret (v:=iz ⟨s.aU,Sp.cK f ids,tx,num⟩ A A1 c c1) (results_cell_row rfl _ _ g0 36 _ (0,0) _ rfl HF.out.1 underlying36 rfl rfl) rfl ⟨A,A1,c,c1,rfl,HF.out.2.2,HF.out.2.1⟩
end
section
open Go.Conc
structure Bh where
 row:ByteArray
 np:Nat
 rows:List ByteArray
def sizes (l:List ByteArray):Nat:=(l.map ByteArray.size).sum
def Bh.w (a:Bh):Nat:=a.row.size+a.np+4*a.rows.length+sizes (a.rows.take 50)
def iT (l:List Bh):Nat:=(l.map Bh.w).sum
def hvB (l:List Bh):Bool:=decide (60<l.length)||decide (4000<iT (l.take 100))
def Bh.ok (a:Bh):Prop:=a.row.size<=140737488355328/\a.np<=140737488355328/\a.rows.length<=140737488355328/\∀s∈a.rows,s.size<=140737488355328
theorem He (l:List ByteArray) (s:ByteArray):sizes (l++[s])=sizes l+s.size:=by simp[sizes]
theorem Iy (l:List Bh) (a:Bh):iT (l++[a])=iT l+a.w:=by simp[iT]
theorem xh:∀(l:List ByteArray),(∀s∈l,s.size<=140737488355328)->sizes l<=l.length*140737488355328
 | [],_=>by simp[sizes]
 | s::l,h=>by
  have h1:=h s zbe;have h2:=xh l (λx hx=>h x (zbf _ hx));unfold sizes at h2 ⊢;simp only[zF,List.sum_cons,zP];omega
theorem Bh.w_le {a:Bh} (h:a.ok):a.w<=56*140737488355328:=by
 obtain⟨h1,h2,h3,h4⟩:=h;have:=xh (a.rows.take 50) (λs hs=>h4 s (zax hs));have hl:(a.rows.take 50).length<=50:=by simp;omega
 unfold Bh.w;omega
theorem Fk:∀(l:List Bh),(∀a∈l,a.ok)->iT l<=l.length*(56*140737488355328)
 | [],_=>by simp[iT]
 | s::l,h=>by
  have h1:=Bh.w_le (h s zbe);have h2:=Fk l (λx hx=>h x (zbf _ hx));unfold iT at h2 ⊢;simp only[zF,List.sum_cons,zP];omega
def HvAt (w:World) (A:Option Addr) (l:List Bh):Prop:=
 0<l.length->∃b o,A=some ⟨b,o,none⟩/\b<w.heap.size/\∀i a,l[i]? =some a->w.cell? ⟨b,o+i*11+9,none⟩=some (.string a.row)/\(∃P c,w.cell? ⟨b,o+i*11+10,none⟩=some (.slice P a.np c))/\
  ∃R c,w.cell? ⟨b,o+i*11+7,none⟩=some (.slice R a.rows.length c)/\Reads (λb=>b<w.heap.size) w 1 R a.rows.length (a.rows.map Value.string)
theorem mH {w1:World} (hb:zB W w1) {o:Nat} (hl:b<W.heap.size) (h:W.cell? ⟨b,o,none⟩=some v):w1.cell? ⟨b,o,none⟩=some v:=(hb.cell (p:=⟨b,o,none⟩) hl).trans h
theorem Mn (A:Option Addr) (cap:Nat) (l:List Bh) (hl:l.length<=140737488355328) (hok:∀a∈l,a.ok) (w:World) (h:HvAt w A l):
 Calls prog 7 #[.slice A l.length cap] w λe w'=>e=.returned (.bool (hvB l))/\zB w w':=by
 have H:=zH h;have Bk:=zH hok;clear h hok;go_enter func7,ntmps7;go_wp2_with fail;go_loopw [3,4] (λn i wr=>∃k:Nat,k<=l.length/\k<=100/\i=.int .i64 k/\n=.int .i64 (iT (l.take k):Nat)/\zB w wr) (λ_ i _=>100-(intOf i).toNat)
 case atStart=>exact⟨0,by omega,by omega,rfl,rfl,Below.refl _ _⟩
 case round=>
  obtain⟨k,hk,hk1,rfl,rfl,hbk⟩:=hrel;have XJ:=Fk (l.take k) (λa ha=>Bk.out a (zax ha));have hlk:(l.take k).length<=100:=by simp;omega
  have hs63:iT (l.take k)<=100*(56*140737488355328):=zl XJ (Nat.mul_le_mul_right _ hlk);by_cases hc:k<l.length/\k<100
  ·obtain⟨hlt,Ra⟩:=hc;obtain⟨a,ha⟩:∃a,l[k]? =some a:=⟨l[k],zk hlt⟩;have hao:=Bk.out a (zbl ha);have haw:=Bh.w_le hao;obtain⟨b,o,rfl,hb,hcells⟩:=H.out (by omega);obtain⟨c9,⟨Pp,cp,c10⟩,R,cr,c7,hR⟩:=hcells k a ha;have c9:=mH hbk hb c9;have c10:=mH hbk hb c10;have c7:=mH hbk hb c7;have HR:=zH hR;have hts:l.take (k+1)=l.take k++[a]:=by
    rw[zg hlt];have:l[k]=a:=by rw[zk hlt] at ha;injection ha
    rw[this]
   have HS:=zH (show iT (l.take (k+1))=iT (l.take k)+a.w by rw[hts,Iy]);clear hts hcells ha XJ hlk hR;generalize iT (l.take k)=n0 at*;obtain⟨h1,h2,h3,h4⟩:=hao;have FH:=zH h4;clear h4;have haw':a.row.size+a.np+4*a.rows.length<=56*140737488355328:=by unfold Bh.w at haw;omega
   go_wp2_with fail;go_quiet (fail);go_wp2_with fail;obtain⟨wq,hwq⟩:=zE (wr.drewN nq);have qT:zB w wq:=by rw[hwq];exact⟨hbk.os,hbk.tape,hbk.output,hbk.size,hbk.block⟩
   have c7q:wq.cell? ⟨b,o+k*11+7,none⟩=some (.slice R a.rows.length cr):=by rw[hwq];exact c7
   rw[<-hwq];obtain⟨m,hm⟩:=zE (n0+a.row.size+a.np+4*a.rows.length);have em:(n0:Int)+a.row.size+a.np+4*a.rows.length=(m:Int):=by omega
   rw[em];have hm2:m<=100*(56*140737488355328)+56*140737488355328:=by omega
   have HM:=zH hm;have hbwq:wr.heap.size=wq.heap.size:=by rw[hwq];rfl
   have c7q':Below wq.heap.size wr wq:=by rw[hwq];exact⟨rfl,rfl,rfl,za _,λ_ _=>rfl⟩
   clear hm em c9 c10 c7 hwq haw' hbk hbwq c7q';go_loopw [3,5] (λn i wz=>∃j:Nat,j<=a.rows.length/\j<=50/\i=.int .i64 j/\n=.int .i64 (m+sizes (a.rows.take j):Nat)/\zB wq wz) (λ_ i _=>50-(intOf i).toNat)
   case atStart=>exact⟨0,by omega,by omega,rfl,rfl,Below.refl _ _⟩
   case round=>
    obtain⟨j,hj,hj1,rfl,rfl,hbj⟩:=hrel;have hbl:b<wq.heap.size:=zf hb qT.size;have c7z:=mH hbj hbl c7q;have hsz:=xh (a.rows.take j) (λs hs=>FH.out s (zax hs));have X7:(a.rows.take j).length<=50:=by simp;omega
    have Mx:sizes (a.rows.take j)<=50*140737488355328:=zl hsz (Nat.mul_le_mul_right _ X7);by_cases hc2:j<a.rows.length/\j<50
    ·obtain⟨hlt2,h50⟩:=hc2;obtain⟨b3,o3,u,rfl,hb3,hb3l,hu,hc3⟩:=HR.out.at_ hlt2;obtain⟨s,hs⟩:∃s,a.rows[j]? =some s:=⟨a.rows[j],zk hlt2⟩;have Vh:u=.string s:=by
      have:(a.rows.map Value.string)[j]? =some (.string s):=by rw[zN,hs];rfl
      rw[hu] at this;injection this
     rw[Vh] at hc3;have hc3':=mH hbj (zf hb3 qT.size) (mH qT hb3 hc3);have hss:=FH.out s (zbl hs);have hts:a.rows.take (j+1)=a.rows.take j++[s]:=by
      rw[zg hlt2];have:a.rows[j]=s:=by rw[zk hlt2] at hs;injection hs
      rw[this]
     have HS2:=zH (show sizes (a.rows.take (j+1))=sizes (a.rows.take j)+s.size by rw[hts,He]);clear hu Vh hc3 hs hts hsz X7 hb3;generalize sizes (a.rows.take j)=n1 at*;go_wp2_with fail;go_roundw
     case rel=>exact⟨j+1,hlt2,h50,by go_num,by rw[HS2.out];go_num,hbj⟩
     case measure=>simp[intOf];omega
    ·have e50:a.rows.take j=a.rows.take 50:=by
      by_cases h50:j=50
      ·rw[h50]
      ·rw[zX (by omega),zX (by omega)]
     have HE:Hid (iT (l.take (k+1))=m+sizes (a.rows.take j)):=zH (by rw[HS.out,HM.out,e50];unfold Bh.w;omega);clear e50 hsz X7;generalize sizes (a.rows.take j)=n1 at*;by_cases hlt2:j<a.rows.length
     ·have h50:¬j<50:=λh=>hc2 ⟨hlt2,h⟩;clear hc2;go_wp2_with fail;go_roundw
      case rel=>exact⟨k+1,hlt,Ra,by go_num,by rw[HE.out],qT.trans (hbj.mono qT.size)⟩
      case measure=>simp[intOf];omega
     ·clear hc2;go_wp2_with fail;go_roundw
      case rel=>exact⟨k+1,hlt,Ra,by go_num,by rw[HE.out],qT.trans (hbj.mono qT.size)⟩
      case measure=>simp[intOf];omega
  ·have e100:l.take k=l.take 100:=by
    by_cases Ra:k=100
    ·rw[Ra]
    ·rw[zX (by omega),zX (by omega)]
   have HB:Hid (hvB l=(decide (60<l.length)||decide (4000<iT (l.take k)))):=zH (by rw[e100];rfl);clear e100 XJ hlk;generalize iT (l.take k)=n0 at*;by_cases hlt:k<l.length
   ·have Ra:¬k<100:=λh=>hc ⟨hlt,h⟩;have Y5:60<l.length:=by omega
    clear hc;go_wp2_with fail;go_ret;exact⟨by rw[HB.out];simp[Y5],hbk⟩
   ·clear hc;by_cases Y5:60<l.length
    ·go_wp2_with fail;go_ret;exact⟨by rw[HB.out];simp[Y5],hbk⟩
    ·go_wp2_with fail;go_ret;refine⟨?_,hbk⟩;rw[HB.out];simp only[Y5,decide_false,Bool.false_or];have e1:decide (60<(l.length:Int))=false:=by rw[ze];omega
     rw[e1,Bool.false_or];have e2:decide (4000<(n0:Int))=decide (4000<n0):=decide_eq_decide.2 (by omega);rw[e2];rfl
def F5 (b:Sp.Bs):ByteArray:=⟨b.toArray⟩
def dZ.hv (a:dZ):Bh:=⟨F5 a.row,a.pages.length,a.x.rows.map F5⟩
def pG (w:World) (A:Option Addr) (ls:List dZ):Prop:=
 0<ls.length->∃b o,A=some ⟨b,o,none⟩/\b<w.heap.size/\∀i a,ls[i]? =some a->∃AX cX AP cP,kU AX cX a.x.rows.length/\aA (λb=>b<w.heap.size) w AX a.x.rows/\kU AP cP a.pages.length/\Reads (λb=>b<w.heap.size) w 1 AP a.pages.length (a.pages.map av)/\∀j,j<11->w.cell? ⟨b,o+i*11+j,none⟩=(a.cs AX cX AP cP)[j]?
structure dZ.Ok (a:dZ):Prop where
 mK:a.mK<256
 page:a.page<4294967296
 x:a.x.wf
 pages:∀n∈a.pages,n<4294967296
 rows:∀r∈a.x.rows,r.length<=140737488355328
end
section
open Go.Conc Go.Maps
def rA (n:Nat):Sp.Rec:=⟨1,n,0,0,0,0,0,[],0,0,0,0⟩
theorem uR (n:Nat):(rA n).bytes.length=17:=by
 show(rA n).head.length=17;simp[Sp.Rec.head]
theorem EF (h1:1<=n) (h2:n<18446744073709551616) (w:World):Calls prog 41 #[cE (rA n) none none 0 0] w λe w'=>e=.returned (.tuple #[str (rA n).bytes,.int .i64 0])/\zB w w':=by
 refine(xy (r:=rA n) (D:=none) (T:=none) (cd:=0) (ct:=0) ⟨by show 1<256;omega,h2,by show 0<_;omega,by show 0<_;omega,by show 0<_;omega,by show 0<_;omega,by show 0<_;omega,by simp[rA],by simp[rA],by simp[rA]⟩ (by show(1:Nat)≠8;omega)).mono ?_;rintro e w' ⟨⟨v,rfl,⟨-,rfl⟩ | ⟨h,-⟩⟩,hb⟩
 ·exact⟨rfl,hb⟩
 ·refine absurd h ?_;have e1:(n==0)=false:=by rw[zv];omega
  have e2:(rA n).has=rA n:=rfl;unfold Sp.Rec.may;rw[e2,zbg rfl,Bool.and_true];simp[Sp.Rec.fits,Sp.Rec.early,Sp.Rec.check,Sp.Rec.nobody,rA,e1]
section
variable {B gP gd gl gp gr:Nat} {O G:af} {l:Sp.Lg} {sp sr:Sp.aF} {w:World}
theorem CH (h:eA B gP gd gl gp gr O G l sp sr w) (hn:l.next<1000000000000) (hr0:l.reserved<1000000000) (t:Sp.Bs) (h1:1<=t.length) (h2:t.length<=4096) (h3:14+t.length<=l.left):
 Calls prog 42 #[ptr gl,str t] w λe w'=>e=.returned (.tuple #[.int .u64 l.next,.int .i64 0])/\eA B gP gd gl gp gr O G (l.append t) {sp with next:=l.next+(14+t.length)} sr w'/\Kept (mC gP O G) w w':=by
 obtain⟨K,vL,vD,hpk,hrf,hK,hO,nV,hP⟩:=h;refine(ue hpk hn hr0 t (by omega)).mono ?_;rintro e w' ⟨hk,hh⟩;rcases hh with⟨_,_,_,rfl,hp⟩ | ⟨_,_,h4,_⟩ | ⟨h4,_⟩
 ·obtain⟨q1,q2⟩:=eA.EP hrf hK hO nV hP hk hp (λb hb=>hb);exact⟨rfl,q1,q2⟩
 ·omega
 ·omega
end
structure jy (i:Nat) (f:Nat->Sp.Tx) (l:Sp.Lg) (rs:List (Nat×Sp.Bs)):Prop where
 is:l.Is rs
 wf:l.wf
 at_:l.at_=0
 n:l.n=8
 life:l.life=1
 res:l.reserved=0
 first:l.first=110
 next:l.next=110+31*rs.length
 few:rs.length<=i
 i9:i<=9
 tx:∀p,1<=p->p<=i->(f p).tx=p/\(f p).last=(f p).first/\(f p).next=(f p).first/\((f p).first=0\/(f p).first∈l.starts)
 ac:(Sp.cK f (List.range' 1 i)).length=rs.length
theorem jy.new:jy 0 (λ_=>⟨0,0,0,0,0,0⟩) (Sp.sI 0 8 1) []:=
 ⟨.new 0 8 1,Sp.xQ (by omega) (by omega) (by omega) (by omega),rfl,rfl,rfl,rfl,rfl,rfl,za _,by omega,λp h1 h2=>by omega,rfl⟩
theorem jy.left {f:Nat->Sp.Tx} {l:Sp.Lg} {rs:List (Nat×Sp.Bs)} (h:jy i f l rs):l.left=880-31*rs.length:=by
 have h1:=h.wf.len;have h2:=h.next;have e:Sp.bg l.first=110:=by rw[h.first];rfl
 unfold Sp.Lg.left;rw[h.n,h.res];omega
theorem jy.forced {f:Nat->Sp.Tx} {l:Sp.Lg} {rs:List (Nat×Sp.Bs)} (h:jy i f l rs) {F:Nat} (hw:({l with forced:=F}:Sp.Lg).wf):jy i f {l with forced:=F} rs:=
 ⟨h.is.uL F,hw,h.at_,h.n,h.life,h.res,h.first,h.next,h.few,h.i9,h.tx,h.ac⟩
def GV (f:Nat->Sp.Tx) (i n:Nat):Nat->Sp.Tx:=λp=>if p=i+1 then⟨i+1,n,n,n,0,0⟩ else f p
theorem F9 (f:Nat->Sp.Tx) (i n:Nat):Sp.cK (GV f i n) (List.range' 1 (i+1))=Sp.cK f (List.range' 1 i)++(if 0<n then[⟨i+1,n,n,n⟩] else[]):=by
 have e:List.range' 1 (i+1)=List.range' 1 i++[i+1]:=by rw[List.range'_1_concat,Nat.add_comm]
 have h1:∀p∈List.range' 1 i,GV f i n p=f p:=λp hp=>by
  have:=(List.mem_range'_1.1 hp);unfold GV;rw[zD (by omega)]
 unfold Sp.cK;rw[e,zba,zI]
 congr 1
 ·rw[List.filter_congr (λp hp=>by rw[h1 p hp])];exact zY (λp hp=>by rw[h1 p (zam.1 hp).1])
 ·have e2:GV f i n (i+1)=⟨i+1,n,n,n,0,0⟩:=by unfold GV;rw[zK rfl]
  by_cases h0:0<n
  ·rw[zK h0,zU (by rw[e2];simpa using h0)];simp[e2]
  ·rw[zD h0,zQ (by rw[e2];simpa using h0)];rfl
theorem jy.off {f:Nat->Sp.Tx} {l:Sp.Lg} {rs:List (Nat×Sp.Bs)} (h:jy i f l rs) (hi:i<9):jy (i+1) (GV f i 0) l rs:=by
 refine⟨h.is,h.wf,h.at_,h.n,h.life,h.res,h.first,h.next,Nat.le_succ_of_le h.few,hi,λp h1 h2=>?_,?_⟩
 ·unfold GV;by_cases hp:p=i+1
  ·rw[zK hp];exact⟨hp.symm,rfl,rfl,.inl rfl⟩
  ·rw[zD hp];exact h.tx p h1 (by omega)
 ·rw[F9,zD (by omega),za7];exact h.ac
theorem jy.on {f:Nat->Sp.Tx} {l:Sp.Lg} {rs:List (Nat×Sp.Bs)} (h:jy i f l rs) (hi:i<9):jy (i+1) (GV f i l.next) (l.append (rA (i+1)).bytes) (rs++[(l.next,(rA (i+1)).bytes)]):=by
 have hl:=uR (i+1);have hx:=h.left;have hn:=h.next;have h0:=h.few;have hw:(l.append (rA (i+1)).bytes).wf:=Sp.Lg.mM h.wf (by omega);refine⟨h.is.append h.wf (by omega) (by omega),hw,h.at_,h.n,h.life,h.res,h.first,?_,by simp;omega,hi,λp h1 h2=>?_,?_⟩
 ·show l.next+(14+_)=_;rw[hl,zo];simp;omega
 ·show _/\_/\_/\(_\/_∈l.starts++[l.next]);unfold GV;by_cases hp:p=i+1
  ·rw[zK hp];exact⟨hp.symm,rfl,rfl,.inr (by simp)⟩
  ·rw[zD hp];obtain⟨a1,a2,a3,a4⟩:=h.tx p h1 (by omega);exact⟨a1,a2,a3,a4.imp id (λh=>List.mem_append_left _ h)⟩
 ·rw[F9,zK (by omega),zo,h.ac,zo];rfl
theorem dG:p∈List.range' 1 i↔1<=p/\p<=i:=by rw[List.mem_range'_1];omega
theorem GS (lk:Nat->Option Value) (n:Nat) (a b:Value):qg (qg lk n a) n b=qg lk n b:=by
 funext p;unfold qg
 split<;>rfl
theorem E8 {lk:Nat->Option Value} {f:Nat->Sp.Tx} (h:∀p,lk p=if p∈List.range' 1 i then some (f p).val else none) (n:Nat):∀p,qg lk (i+1) (⟨i+1,n,n,n,0,0⟩:Sp.Tx).val p=if p∈List.range' 1 (i+1) then some (GV f i n p).val else none:=λp=>by
 unfold qg GV;by_cases hp:p=i+1
 ·rw[zK hp,zK (dG.2 (by omega)),zK hp]
 ·rw[zD hp,zD hp,h p];by_cases h2:p∈List.range' 1 i
  ·rw[zK h2,zK (dG.2 (by have:=dG.1 h2;omega))]
  ·rw[zD h2,zD (λh3=>h2 (dG.2 (by have:=dG.1 h3;omega)))]
def UA (n m gt mb cb:Nat):af:=λb=>(b=gt\/b=mb\/b=cb)\/(n<=b/\b<m)
theorem wI {gP:Nat} {G:af} (hG:∀b,b<n->G b):∀b,b<m->mC gP (UA n m gt mb cb) G b:=λb hb=>by
 by_cases h:b<n
 ·exact .inr (.inl (hG b h))
 ·exact .inl (.inr ⟨by omega,hb⟩)
def CkJ (n:Nat) (w:World) (gP gd gl gp gr gt mb cb:Nat) (i:Nat) (l:Sp.Lg) (f:Nat->Sp.Tx) (rs:List (Nat×Sp.Bs)) (wr:World):Prop:=
 ∃(G:af) (lk:Nat->Option Value),eA w.heap.size gP gd gl gp gr (UA n w.heap.size gt mb cb) G l {Sp.Bd 4 with next:=l.next} {Sp.Bd 4 with next:=l.next} wr/\(∀b,b<n->G b)/\j_ mb cb wr gt i lk (i+1) 1/\(∀p,lk p=if p∈List.range' 1 i then some (f p).val else none)/\jy i f l rs/\zB w wr
def Z8 (n:Nat) (w:World) (gP gd gl gp gr gt mb cb i:Nat) (lk:Nat->Option Value) (l0:Sp.Lg) (j:Nat) (l:Sp.Lg) (s:Sp.aF) (wr:World):Prop:=
 ∃G:af,eA w.heap.size gP gd gl gp gr (UA n w.heap.size gt mb cb) G l s s wr/\(∀b,b<n->G b)/\j_ mb cb wr gt i lk (i+1) 1/\(∃F,l={l0 with forced:=F})/\s.Fr l0.next/\s.rest=Sp.xq/\s.frames=4/\s.le j/\zB w wr
def DW (n:Nat) (w:World) (e:Ending) (w':World):Prop:=
 ∃(gP gd gl gp gr gt mb cb i:Nat) (lk:Nat->Option Value) (f:Nat->Sp.Tx) (rs:List (Nat×Sp.Bs)) (l:Sp.Lg) (s:Sp.aF) (G:af),e=.returned (.tuple #[ptr gP,ptr gt])/\eA w.heap.size gP gd gl gp gr (UA n w.heap.size gt mb cb) G l s s w'/\j_ mb cb w' gt i lk (i+1) 1/\(∀p,lk p=if p∈List.range' 1 i then some (f p).val else none)/\jy i f l rs/\s.Fr l.next/\s.rest=Sp.xq/\s.frames=4/\s.le 100/\(∀b,b<n->G b)/\zB w w'
theorem tY:∀(l:List Sp.Bs) (M:Nat),(∀r∈l,r.length<=M)->Sp.total l<=l.length*M
 | [],_,_=>by simp[Sp.total]
 | r::l,M,h=>by
  have h1:=h r zbe;have h2:=tY l M (λx hx=>h x (zbf _ hx));have e:Sp.total (r::l)=r.length+Sp.total l:=by simp[Sp.total]
  rw[e,zP,Nat.succ_mul];omega
theorem Fc (Ao:Option Addr) (co:Nat) (bs:List Bool) (A:Option Addr) (cap:Nat) (ls:List dZ) (w0 w:World) (hb0:zB w0 w) (vF:Reads (λb=>b<w.heap.size) w 1 Ao bs.length (bs.map .bool)) (hlb:bs.length<=20) (hb:∀a∈ls,a.Ok) (Y5:ls.length<=60) (jb:∀a∈ls,a.row.length<=4000/\a.x.rows.length<=1000/\a.pages.length<=4000) (ha:pG w0 A ls):
 Calls prog 9 #[.slice A ls.length cap,.slice Ao bs.length co] w (DW w0.heap.size w):=by
 have HA:=zH ha;have hs0:=hb0.size;have Cr:=zH hb0;clear hb0;have Bk:=zH hb;have Sc:=zH jb;clear ha hb jb;have HB:=zH (xZ 4 (by omega) (by omega) w);have Np:=zH vF;clear vF;go_enter func9,ntmps9;go_wp2_with fail;refine HB.out.mono ?_;rintro e w1 hpost;obtain⟨gP,gr,gd,gl,gp,G,rfl,hb1,nV,hG,tN⟩:=L6 hpost hs0;have hs1:=hb1.size;have HT:=zH (SZ w1);have K5:=zH tN;have cA:=zH hb1;have HG:=zH hG;clear hpost HB tN hb1 hG;go_wp2_with fail;refine HT.out.mono ?_;rintro e w2 ⟨mb,cb,gt,rfl,htb,hb2,hm2,hc2,hg2⟩;have hpy2:=(K5.out.below hb2).less (O':=UA w0.heap.size w.heap.size gt mb cb) (λb hb=>hb.elim (λhb=>.inr ⟨by omega,htb.lt b hb⟩) .inl);have HJ:Hid (CkJ w0.heap.size w gP gd gl gp gr gt mb cb 0 (Sp.sI 0 8 1) (λ_=>⟨0,0,0,0,0,0⟩) [] w2):=⟨G,λ_=>none,hpy2,HG.out,htb,λp=>by simp,jy.new,cA.out.trans (hb2.mono hs1)⟩;have hge:w.heap.size<=gt/\w.heap.size<=mb/\w.heap.size<=cb:=⟨by omega,by omega,by omega⟩;have HGE:=zH hge;clear hpy2 htb hb2 HT K5 cA HG hge hm2 hc2 hg2;go_wp2_with fail;rename_i K0 hK0;have ZN:=zH hK0;clear hK0;go_loopw [9] (λv9 wr=>∃(i:Nat) (l:Sp.Lg) (f:Nat->Sp.Tx) (rs:List (Nat×Sp.Bs)),v9=.int .i64 i/\i<=bs.length/\CkJ w0.heap.size w gP gd gl gp gr gt mb cb i l f rs wr) (λv9 _=>20-(intOf v9).toNat)
 case atStart=>exact⟨0,_,_,_,rfl,by omega,HJ.out⟩
 case round=>
  clear HJ;obtain⟨i,l,f,rs,rfl,hi,hj⟩:=hrel;by_cases hlt:i<bs.length/\i<9
  ·obtain⟨tP,hl2⟩:=hlt;obtain⟨G,lk,tN,hG,htb,hlk,hT,hbr⟩:=hj;have q1:decide ((i:Int)<(bs.length:Int))=true:=by rw[zA];omega
   have q2:decide ((i:Int)<9)=true:=by rw[zA];omega
   have q3:(i:Int)<(bs.length:Int):=by omega
   obtain⟨bo,oo,u,rfl,YE,-,hu,hcell⟩:=(Np.out).at_ tP;rw[zN,zk tP] at hu;injection hu with hu;subst hu;obtain⟨o,ho⟩:=zE (bs[i]);rw[<-ho] at hcell;obtain⟨n,hn⟩:=zE (i+1);have Cm:=zH (Lm htb (by omega) (by omega) (by rw[hlk,zD (λh=>by have:=dG.1 h;omega)]));rw[<-hn] at Cm;have hn1:1<=n:=by omega
   have hn9:n<=9:=by omega
   replace hn:=zH hn;have K5:=zH tN;have HG:=zH hG;have Gf:=zH hlk;have HT:=zH hT;have jB:=zH hbr;clear tN hG htb hlk hT hbr ho;go_wp2_with fail;refine Cm.out.mono ?_;rintro e w3 ⟨rfl,htb3,gA⟩;have hpy3:=K5.out.own gA (λb hb=>.inl hb);have hb3:zB w w3:=jB.out.trans (gA.below jB.out.size (λb hb=>by have h9:=HGE.out;rcases hb with e | e | e<;>omega));have X6:=E8 Gf.out 0;rw[<-hn.out] at X6;have hcell3:=(hb3.cell (p:=⟨bo,oo+i,none⟩) YE).trans hcell;have rY:=zH hb3;have UN:=zH hpy3;have UJ:=zH htb3;have ZJ:=zH X6;clear hb3 hpy3 htb3 X6 Cm K5 jB gA hcell
   cases o with
   | false=>
    have HJ:Hid (CkJ w0.heap.size w gP gd gl gp gr gt mb cb n l (GV f i 0) rs w3):=⟨G,_,UN.out,HG.out,UJ.out,ZJ.out,by rw[hn.out];exact HT.out.off hl2,rY.out⟩;go_wp2_with fail;go_roundw
    case rel=>exact⟨n,l,_,rs,by rw[hn.out];go_num,by have:=hn.out;omega,HJ.out⟩
    case measure=>simp[intOf];omega
   | true=>
    obtain⟨t,ht⟩:=zE ((rA n).bytes);have ZT:Hid (∀W:World,Calls prog 41 #[.agg #[.int .u8 1,.int .u64 (n:Nat),.int .u64 0,.int .u32 0,.int .u16 0,.int .u64 0,.int .u64 0,.string ⟨#[]⟩,.slice none 0 0,.slice none 0 0,.int .u64 0,.int .u64 0]] W λe w'=>e=.returned (.tuple #[str t,.int .i64 0])/\zB W w'):=λW=>by
     rw[ht];exact EF (n:=n) (by omega) (by omega) W
    have hrl:=uR n;rw[<-ht] at hrl;replace ht:=zH ht;go_wp2_with fail;refine(ZT.out w3).mono ?_;rintro e w4 ⟨rfl,hb4⟩;have hfw:=HT.out.few;have hle:31<=l.left:=by have h9:=HT.out.left;omega
    have tO:l.next<=1000:=by have h9:=HT.out.next;omega
    have um:=(UN.out.below hb4).less (O':=UA w0.heap.size w.heap.size gt mb cb) (λb hb=>.inl hb);have HAP:=zH (CH um (by omega) (by rw[HT.out.res];omega) t (by omega) (by omega) (by omega));have k1:=um.dH.cell 1;have AH:=UJ.out.keep (λb hb=>hb4.block b (UJ.out.lt b hb));have s4:=rY.out.trans (hb4.mono rY.out.size);simp only[zGA,zGB,zGC] at k1;have Ga:=zH AH;have jh:=zH s4;clear um AH s4 hb4 UJ UN rY;go_wp2_with fail;refine HAP.out.mono ?_;rintro e w5 ⟨rfl,uk,C6⟩;have htb5:=Ga.out.keep (λb hb=>C6.block b (.inl (.inl hb)));have cS:zB w w5:=jh.out.trans (C6.below (wI HG.out));have HST:=zH (SY (x:=⟨n,l.next,l.next,l.next,0,0⟩) (y:=⟨n,0,0,0,0,0⟩) htb5 (by show n<_;omega) (by refine(ZJ.out n).trans ?_;rw[zK (dG.2 (by omega))];unfold GV;rw[zK hn.out,hn.out]) (by omega));have HP5:=zH uk;have mj:=zH cS;clear uk cS htb5 C6 Ga jh HAP k1;go_wp2_with fail;refine HST.out.mono ?_;rintro e w6 ⟨rfl,XD,iA⟩;have PM:=HP5.out.own iA (λb hb=>.inl hb);have fI:zB w w6:=mj.out.trans (iA.below mj.out.size (λb hb=>by have h9:=HGE.out;rcases hb with e | e | e<;>omega));have hlk6:=ZJ.out;rw[show qg (qg lk n (.agg #[.int .u64 n,.int .u64 0,.int .u64 0,.int .u64 0,.int .u32 0,.int .u16 0])) n (⟨n,l.next,l.next,l.next,0,0⟩:Sp.Tx).val=qg lk n (⟨n,l.next,l.next,l.next,0,0⟩:Sp.Tx).val from GS _ _ _ _] at XD;have MA:=E8 Gf.out l.next;rw[<-hn.out] at MA;have hpl:=PM.dH;obtain⟨vL,vD,Yh⟩:=PM.cells;have k1:=hpl.cell 1;have k3:=hpl.cell 3;have k4:=Yh.cell 4;have f4:=Yh.frozen 4;simp only[zGA,zGB,zGC] at k1 k3 k4;have pH:=zH (pQ PM.drew);obtain⟨hpy7,rJ⟩:=PM.drew.wA (l.append t).next
    have C1:=XD.keep (w':=w6.drew.setCell ⟨gr,4,none⟩ (.int .u64 (l.append t).next)) (λb hb=>rJ.block b (.inl (.inl hb)));have jZ:zB w (w6.drew.setCell ⟨gr,4,none⟩ (.int .u64 (l.append t).next)):=fI.drew.trans (rJ.below (wI HG.out));have YL:jy n (GV f i l.next) (l.append t) (rs++[(l.next,t)]):=by rw[hn.out,ht.out,hn.out];exact HT.out.on hl2
    have HJ:Hid (CkJ w0.heap.size w gP gd gl gp gr gt mb cb n (l.append t) (GV f i l.next) (rs++[(l.next,t)]) (w6.drew.setCell ⟨gr,4,none⟩ (.int .u64 (l.append t).next))):=⟨G,_,hpy7,HG.out,C1,MA,YL,jZ⟩;clear hlk6 MA hpl hpy7 rJ C1 jZ YL PM XD fI iA Yh HST HP5 mj;go_upto_region 16 with fail;have hS:=zH (show w6.drew.cell? ⟨gP,3,none⟩=some (ptr gr)/\w6.drew.cell? ⟨gP,1,none⟩=some (ptr gl) from⟨k3,k1⟩);refine fQ (λW=>zC W gP 3 (ptr gr)/\zC W gP 1 (ptr gl)) (λi=>decide (11<=i)) ?_
    repeat (refine bK hS.out ?_)
    refine aI 8 94 (w':=w6.drew) rfl rfl (by rfl) (by kernel_rfl) ?_ pH.out ?_
    ·go_simp
    rintro e w7 ⟨rfl,TJ⟩;subst w7;refine⟨_,rfl,λ_=>hS.out,?_⟩;simp only[zSA,zSB,zSC];refine fe 9 95 (v:=ptr gr) (w':=w6.drew) rfl (xl (.tmp 89) (ptr gr) rfl (λρ hρ=>by go_simp)) (λ_=>hS.out) ?_;refine fe 10 96 (v:=.pointer (some ⟨gr,4,none⟩)) (w':=w6.drew) rfl (xl (.tmp 95) (ptr gr) rfl (λρ hρ=>by go_simp)) (λ_=>hS.out) ?_;refine jx 11 (w':=w6.drew.setCell ⟨gr,4,none⟩ (.int .u64 (l.append t).next)) rfl (S5 (.tmp 96) (.pointer (some ⟨gr,4,none⟩)) (.tmp 94) (.int .u64 (l.append t).next) rfl rfl (λρ h1 h2=>by go_simp)) (λh=>nomatch h) ?_;refine aC (by kernel_rfl) ?_ _;rename_i K9 aT;refine aT _ _ ?_;clear aT;go_wp2_with fail;go_roundw
    case rel=>exact⟨n,_,_,_,by rw[hn.out];go_num,by have:=hn.out;omega,HJ.out⟩
    case measure=>simp[intOf];omega
  ·have hq:¬i<bs.length\/(i<bs.length/\9<=(i:Int)):=by omega
   obtain⟨G,lk,tN,hG,htb,hlk,hT,hbr⟩:=hj;obtain⟨N,hN⟩:=zE l.next;have hL:Z8 w0.heap.size w gP gd gl gp gr gt mb cb i lk l 0 l {Sp.Bd 4 with next:=l.next} wr:=⟨G,tN,hG,htb,⟨l.forced,rfl⟩,λx hx=>by simp[Sp.Bd] at hx,rfl,rfl,λx hx=>by simp[Sp.Bd] at hx,hbr⟩;have HL:=zH hL;have Gf:=zH hlk;have HT:=zH hT;clear tN hG htb hlk hT hbr hL hN N Np hlt;rcases hq with q1 | ⟨q1,q2⟩
   ·go_wp2_with fail;refine ZN.out _ _ ?_;clear ZN;go_wp2_with fail;go_loopw [16] (λv16 wq=>∃(j:Nat) (l2:Sp.Lg) (s:Sp.aF),v16=.int .i64 j/\j<=ls.length/\Z8 w0.heap.size w gP gd gl gp gr gt mb cb i lk l j l2 s wq) (λv16 _=>ls.length-(intOf v16).toNat)
    case atStart=>exact⟨0,_,_,rfl,by omega,HL.out⟩
    case round=>
     clear HL;obtain⟨j,l2,s,rfl,hj,G,tN,hG,htb,hl2,hfr,hrs,IQ,hle,hbr⟩:=hrel;by_cases hjl:j<ls.length
     ·obtain⟨b,o,rfl,cH,hcs⟩:=HA.out (by omega);obtain⟨AX,cX,AP,cP,MT,MS,I1,GF,hc⟩:=hcs j _ (zk hjl);have hao:=Bk.out ls[j] (zw hjl);have haf:=Sc.out ls[j] (zw hjl);have hmeas:j+1<=ls.length:=hjl;generalize ls[j]=a at*;have htot:Sp.total a.x.rows<=1000000000000000000:=by
       have h1:=tY a.x.rows 140737488355328 hao.rows;have h2:=Nat.mul_le_mul_right 140737488355328 haf.2.1;omega
      have hkc:∀m,m<11->wr.cell? ⟨b,o+j*11+m,none⟩=(a.cs AX cX AP cP)[m]? :=λm hm=>((Cr.out.trans (hbr.mono hs0)).cell (p:=⟨b,o+j*11+m,none⟩) cH).trans (hc m hm);have k0:=hkc 0 (by omega);have k1:=hkc 1 (by omega);have k2:=hkc 2 (by omega);have k3:=hkc 3 (by omega);have k4:=hkc 4 (by omega);have k5:=hkc 5 (by omega);have k6:=hkc 6 (by omega);have k7:=hkc 7 (by omega);have k8:=hkc 8 (by omega);have k9:=hkc 9 (by omega);have Ve:=hkc 10 (by omega);simp only[dZ.cs,zGA,zGB,zGC,Nat.add_zero] at k0 k1 k2 k3 k4 k5 k6 k7 k8 k9 Ve;have K5:=zH tN;have HG:=zH hG;have Cm:=zH htb;have vp:=zH hl2;have Gg:=zH hfr;have V8:=zH hrs;have UR:=zH hle;have jB:=zH hbr;have K7:=zH IQ;have HX:=zH (And.intro MT (And.intro MS (And.intro I1 GF)));have Su:=zH hao;have Zq:=zH htot;clear tN hG htb hl2 hfr hrs hle hbr IQ MT MS I1 GF hc hkc hcs hao htot;go_upto_region 21 with fail;change Code.wp _ _ _ _ (wr.alloc (.cells (a.cs AX cX AP cP) 67));have hA:=aj.new wr 67 (a.cs AX cX AP cP);have f8:=hA.frozen 8;have c8:(wr.alloc (.cells (a.cs AX cX AP cP) 67)).cell? ⟨wr.heap.size,8,none⟩=some (.bool a.own):=hA.cell 8;have oq:=hA.a_ 8 (.bool true);have Fy:=((zR wr).alloc (za _) (.cells (a.cs AX cX AP cP) 67)).setCell (p:=⟨wr.heap.size,8,none⟩) (za _) (.bool true);obtain⟨ga,NJ⟩:=zE wr.heap.size;rw[<-NJ] at f8 c8 oq Fy ⊢;replace NJ:=zH NJ;generalize hw3:World.alloc wr _=w3 at f8 c8 oq Fy ⊢;clear hw3 hA;have Gk:=zH oq;have Gj:=zH Fy;clear oq Fy;go_upto_region 22 with fail;replace Gj:Hid (zB wr (w3.setCell ⟨ga,8,none⟩ (.bool true))):=by
       have h:=Gj.out;have e:=NJ.out;unfold zB;rw[show wr.heap.size=ga from e.symm];exact h
      have hb4:zB w (w3.setCell ⟨ga,8,none⟩ (.bool true)):=jB.out.trans (Gj.out.mono jB.out.size);have um:=(K5.out.below Gj.out).less (O':=UA w0.heap.size w.heap.size gt mb cb) (λb hb=>.inl hb);have AH:=Cm.out.keep (w':=w3.setCell ⟨ga,8,none⟩ (.bool true)) (λb hb=>Gj.out.block b (Cm.out.lt b hb));obtain⟨a2,ha2⟩:∃a2:dZ,a2={a with own:=true}:=⟨_,rfl⟩;have om:aj (w3.setCell ⟨ga,8,none⟩ (.bool true)) ga 67 (a2.cs AX cX AP cP):=by rw[ha2];exact Gk.out
      clear c8 f8 Gk Gj K5 Cm jB k0 k1 k2 k3 k4 k5 k6 k7 k8 k9 Ve;generalize hw4:World.setCell w3 _ _=w4 at hb4 um AH om ⊢;clear hw4;have p0:=om.cell 0;have p1:=om.cell 1;have p2:=om.cell 2;have p3:=om.cell 3;have p4:=om.cell 4;have p5:=om.cell 5;have p6:=om.cell 6;have p7:=om.cell 7;have p8:=om.cell 8;have p9:=om.cell 9;have p10:=om.cell 10;simp only[dZ.cs,zGA,zGB,zGC] at p0 p1 p2 p3 p4 p5 p6 p7 p8 p9 p10;have hn:l2.next=l.next/\l2.reserved=0:=by
       obtain⟨F,e⟩:=vp.out;rw[e];exact⟨rfl,HT.out.res⟩
      have hnn:l2.next<100000000000:=by have h9:=HT.out.next;have h8:=HT.out.few;have h7:=HT.out.i9;have h6:=hn.1;omega
      have hrr:l2.reserved<1000000000:=by have h6:=hn.2;omega
      replace hn:=zH hn;have hGw:∀b,b<w0.heap.size->G b:=HG.out;have Qw:zB w0 w4:=Cr.out.trans (hb4.mono hs0);have e2:a2.mK=a.mK/\a2.page=a.page/\a2.x=a.x/\a2.row=a.row/\a2.pages=a.pages/\a2.own=true:=by rw[ha2];exact⟨rfl,rfl,rfl,rfl,rfl,rfl⟩
      obtain⟨MT,MS,I1,GF⟩:=HX.out;obtain⟨Za,e21,Rl,e23,Uy,e25⟩:=e2;rw[<-Rl] at MT MS;rw[<-Uy] at I1 GF;have X8:(a2.pg l2.next).aL=l.next:=by unfold dZ.pg;rw[zK e25];exact hn.out.1
      have ZU:=zH (ya um (m:=j) UR.out (by omega) (by rw[K7.out];omega) hnn hrr (by rw[Za];exact Su.out.mK) (by rw[e21];exact Su.out.page) (by rw[Rl];exact Su.out.x) (by rw[e23];omega) (by rw[Rl];omega) (by rw[Rl];exact Zq.out) (by rw[Uy];omega) (by rw[Uy];exact Su.out.pages) MT ((Reads.below MS Qw).mono hGw) I1 ((Reads.below GF Qw).mono hGw) (cX:=cX) (cP:=cP));have SN:Hid (∀l' s',Sp.Nx a2.mK (a2.pg l2.next).aL l2 s l' s'->a2.mK%7≠6->(∃F,l'={l with forced:=F})/\s'.Fr l.next/\s'.rest=Sp.xq):=λl' s' hd h6=>by
       obtain⟨⟨F,e⟩,q2,q3⟩:=hd.keeps h6;rw[X8] at q3;obtain⟨F2,e3⟩:=vp.out;exact⟨⟨F,by rw[e,e3]⟩,q3 Gg.out,q2.trans V8.out⟩
      have HHD:Hid (∀v,v=Value.agg (a2.cs AX cX AP cP)->v=Value.agg (a2.cs AX cX AP cP)):=λv h=>h;have Zy:=zH um;have Ga:=zH AH;have jh:=zH hb4;have ha7:a2.mK<256:=by rw[Za];exact Su.out.mK
      replace ha2:=zH ha2;clear um AH hb4 MT MS I1 GF X8 Za e21 Rl e23 Uy e25 om HHD;by_cases h6:a2.mK%7=6
      ·have d6:(a2.mK:Int)%7=6:=by omega
       have HJ:Hid (Z8 w0.heap.size w gP gd gl gp gr gt mb cb i lk l (j+1) l2 s w4):=⟨G,Zy.out,HG.out,Ga.out,vp.out,Gg.out,V8.out,K7.out,UR.out.up (by omega),jh.out⟩;clear ZU SN;go_wp2_with fail;go_roundw
       case rel=>exact⟨j+1,l2,s,by go_num,hmeas,HJ.out⟩
       case measure=>simp[intOf];omega
      ·have d6:¬(a2.mK:Int)%7=6:=by omega
       go_wp2_with fail;refine ZU.out.mono ?_;rintro e w5 ⟨rfl,G5,l5,s5,VS,uk,P0,vM,uZ,hr5,SA,C6,Qh⟩;obtain⟨Fs,Qf,PG⟩:=SN.out l5 s5 Qh h6;have PZ:s5.le (j+1):=P0;have HJ:Hid (Z8 w0.heap.size w gP gd gl gp gr gt mb cb i lk l (j+1) l5 s5 w5):=⟨G5,uk,λb hb=>VS b (HG.out b hb),Ga.out.keep (λb hb=>C6.block b (.inl (.inl hb))),Fs,Qf,PG,by rw[vM];exact K7.out,PZ,jh.out.trans (C6.below (wI HG.out))⟩;clear ZU SN uk VS P0 vM uZ hr5 SA C6 Qh Fs Qf PG PZ;go_wp2_with fail;go_roundw
       case rel=>exact⟨j+1,l5,s5,by go_num,hmeas,HJ.out⟩
       case measure=>simp[intOf];omega
     ·obtain rfl:j=ls.length:=by omega
      obtain⟨F,rfl⟩:=hl2;have hwf:({l with forced:=F}:Sp.Lg).wf:=by
       obtain⟨p,dk,hr⟩:=tN.rep;exact hr.y_
      have X7:s.le 100:=hle.up (by omega);have HE:Hid (DW w0.heap.size w (.returned (.tuple #[ptr gP,ptr gt])) wr):=⟨gP,gd,gl,gp,gr,gt,mb,cb,i,lk,f,rs,{l with forced:=F},s,G,rfl,tN,htb,Gf.out,HT.out.forced hwf,hfr,hrs,IQ,X7,hG,hbr⟩;clear tN hG htb hfr hrs IQ hle hbr;go_wp2_with fail
      go_ret2
      exact HE.out
   ·go_wp2_with fail;refine ZN.out _ _ ?_;clear ZN;go_wp2_with fail;go_loopw [16] (λv16 wq=>∃(j:Nat) (l2:Sp.Lg) (s:Sp.aF),v16=.int .i64 j/\j<=ls.length/\Z8 w0.heap.size w gP gd gl gp gr gt mb cb i lk l j l2 s wq) (λv16 _=>ls.length-(intOf v16).toNat)
    case atStart=>exact⟨0,_,_,rfl,by omega,HL.out⟩
    case round=>
     clear HL;obtain⟨j,l2,s,rfl,hj,G,tN,hG,htb,hl2,hfr,hrs,IQ,hle,hbr⟩:=hrel;by_cases hjl:j<ls.length
     ·obtain⟨b,o,rfl,cH,hcs⟩:=HA.out (by omega);obtain⟨AX,cX,AP,cP,MT,MS,I1,GF,hc⟩:=hcs j _ (zk hjl);have hao:=Bk.out ls[j] (zw hjl);have haf:=Sc.out ls[j] (zw hjl);have hmeas:j+1<=ls.length:=hjl;generalize ls[j]=a at*;have htot:Sp.total a.x.rows<=1000000000000000000:=by
       have h1:=tY a.x.rows 140737488355328 hao.rows;have h2:=Nat.mul_le_mul_right 140737488355328 haf.2.1;omega
      have hkc:∀m,m<11->wr.cell? ⟨b,o+j*11+m,none⟩=(a.cs AX cX AP cP)[m]? :=λm hm=>((Cr.out.trans (hbr.mono hs0)).cell (p:=⟨b,o+j*11+m,none⟩) cH).trans (hc m hm);have k0:=hkc 0 (by omega);have k1:=hkc 1 (by omega);have k2:=hkc 2 (by omega);have k3:=hkc 3 (by omega);have k4:=hkc 4 (by omega);have k5:=hkc 5 (by omega);have k6:=hkc 6 (by omega);have k7:=hkc 7 (by omega);have k8:=hkc 8 (by omega);have k9:=hkc 9 (by omega);have Ve:=hkc 10 (by omega);simp only[dZ.cs,zGA,zGB,zGC,Nat.add_zero] at k0 k1 k2 k3 k4 k5 k6 k7 k8 k9 Ve;have K5:=zH tN;have HG:=zH hG;have Cm:=zH htb;have vp:=zH hl2;have Gg:=zH hfr;have V8:=zH hrs;have UR:=zH hle;have jB:=zH hbr;have K7:=zH IQ;have HX:=zH (And.intro MT (And.intro MS (And.intro I1 GF)));have Su:=zH hao;have Zq:=zH htot;clear tN hG htb hl2 hfr hrs hle hbr IQ MT MS I1 GF hc hkc hcs hao htot;go_upto_region 21 with fail;change Code.wp _ _ _ _ (wr.alloc (.cells (a.cs AX cX AP cP) 67));have hA:=aj.new wr 67 (a.cs AX cX AP cP);have f8:=hA.frozen 8;have c8:(wr.alloc (.cells (a.cs AX cX AP cP) 67)).cell? ⟨wr.heap.size,8,none⟩=some (.bool a.own):=hA.cell 8;have oq:=hA.a_ 8 (.bool true);have Fy:=((zR wr).alloc (za _) (.cells (a.cs AX cX AP cP) 67)).setCell (p:=⟨wr.heap.size,8,none⟩) (za _) (.bool true);obtain⟨ga,NJ⟩:=zE wr.heap.size;rw[<-NJ] at f8 c8 oq Fy ⊢;replace NJ:=zH NJ;generalize hw3:World.alloc wr _=w3 at f8 c8 oq Fy ⊢;clear hw3 hA;have Gk:=zH oq;have Gj:=zH Fy;clear oq Fy;go_upto_region 22 with fail;replace Gj:Hid (zB wr (w3.setCell ⟨ga,8,none⟩ (.bool true))):=by
       have h:=Gj.out;have e:=NJ.out;unfold zB;rw[show wr.heap.size=ga from e.symm];exact h
      have hb4:zB w (w3.setCell ⟨ga,8,none⟩ (.bool true)):=jB.out.trans (Gj.out.mono jB.out.size);have um:=(K5.out.below Gj.out).less (O':=UA w0.heap.size w.heap.size gt mb cb) (λb hb=>.inl hb);have AH:=Cm.out.keep (w':=w3.setCell ⟨ga,8,none⟩ (.bool true)) (λb hb=>Gj.out.block b (Cm.out.lt b hb));obtain⟨a2,ha2⟩:∃a2:dZ,a2={a with own:=true}:=⟨_,rfl⟩;have om:aj (w3.setCell ⟨ga,8,none⟩ (.bool true)) ga 67 (a2.cs AX cX AP cP):=by rw[ha2];exact Gk.out
      clear c8 f8 Gk Gj K5 Cm jB k0 k1 k2 k3 k4 k5 k6 k7 k8 k9 Ve;generalize hw4:World.setCell w3 _ _=w4 at hb4 um AH om ⊢;clear hw4;have p0:=om.cell 0;have p1:=om.cell 1;have p2:=om.cell 2;have p3:=om.cell 3;have p4:=om.cell 4;have p5:=om.cell 5;have p6:=om.cell 6;have p7:=om.cell 7;have p8:=om.cell 8;have p9:=om.cell 9;have p10:=om.cell 10;simp only[dZ.cs,zGA,zGB,zGC] at p0 p1 p2 p3 p4 p5 p6 p7 p8 p9 p10;have hn:l2.next=l.next/\l2.reserved=0:=by
       obtain⟨F,e⟩:=vp.out;rw[e];exact⟨rfl,HT.out.res⟩
      have hnn:l2.next<100000000000:=by have h9:=HT.out.next;have h8:=HT.out.few;have h7:=HT.out.i9;have h6:=hn.1;omega
      have hrr:l2.reserved<1000000000:=by have h6:=hn.2;omega
      replace hn:=zH hn;have hGw:∀b,b<w0.heap.size->G b:=HG.out;have Qw:zB w0 w4:=Cr.out.trans (hb4.mono hs0);have e2:a2.mK=a.mK/\a2.page=a.page/\a2.x=a.x/\a2.row=a.row/\a2.pages=a.pages/\a2.own=true:=by rw[ha2];exact⟨rfl,rfl,rfl,rfl,rfl,rfl⟩
      obtain⟨MT,MS,I1,GF⟩:=HX.out;obtain⟨Za,e21,Rl,e23,Uy,e25⟩:=e2;rw[<-Rl] at MT MS;rw[<-Uy] at I1 GF;have X8:(a2.pg l2.next).aL=l.next:=by unfold dZ.pg;rw[zK e25];exact hn.out.1
      have ZU:=zH (ya um (m:=j) UR.out (by omega) (by rw[K7.out];omega) hnn hrr (by rw[Za];exact Su.out.mK) (by rw[e21];exact Su.out.page) (by rw[Rl];exact Su.out.x) (by rw[e23];omega) (by rw[Rl];omega) (by rw[Rl];exact Zq.out) (by rw[Uy];omega) (by rw[Uy];exact Su.out.pages) MT ((Reads.below MS Qw).mono hGw) I1 ((Reads.below GF Qw).mono hGw) (cX:=cX) (cP:=cP));have SN:Hid (∀l' s',Sp.Nx a2.mK (a2.pg l2.next).aL l2 s l' s'->a2.mK%7≠6->(∃F,l'={l with forced:=F})/\s'.Fr l.next/\s'.rest=Sp.xq):=λl' s' hd h6=>by
       obtain⟨⟨F,e⟩,q2,q3⟩:=hd.keeps h6;rw[X8] at q3;obtain⟨F2,e3⟩:=vp.out;exact⟨⟨F,by rw[e,e3]⟩,q3 Gg.out,q2.trans V8.out⟩
      have HHD:Hid (∀v,v=Value.agg (a2.cs AX cX AP cP)->v=Value.agg (a2.cs AX cX AP cP)):=λv h=>h;have Zy:=zH um;have Ga:=zH AH;have jh:=zH hb4;have ha7:a2.mK<256:=by rw[Za];exact Su.out.mK
      replace ha2:=zH ha2;clear um AH hb4 MT MS I1 GF X8 Za e21 Rl e23 Uy e25 om HHD;by_cases h6:a2.mK%7=6
      ·have d6:(a2.mK:Int)%7=6:=by omega
       have HJ:Hid (Z8 w0.heap.size w gP gd gl gp gr gt mb cb i lk l (j+1) l2 s w4):=⟨G,Zy.out,HG.out,Ga.out,vp.out,Gg.out,V8.out,K7.out,UR.out.up (by omega),jh.out⟩;clear ZU SN;go_wp2_with fail;go_roundw
       case rel=>exact⟨j+1,l2,s,by go_num,hmeas,HJ.out⟩
       case measure=>simp[intOf];omega
      ·have d6:¬(a2.mK:Int)%7=6:=by omega
       go_wp2_with fail;refine ZU.out.mono ?_;rintro e w5 ⟨rfl,G5,l5,s5,VS,uk,P0,vM,uZ,hr5,SA,C6,Qh⟩;obtain⟨Fs,Qf,PG⟩:=SN.out l5 s5 Qh h6;have PZ:s5.le (j+1):=P0;have HJ:Hid (Z8 w0.heap.size w gP gd gl gp gr gt mb cb i lk l (j+1) l5 s5 w5):=⟨G5,uk,λb hb=>VS b (HG.out b hb),Ga.out.keep (λb hb=>C6.block b (.inl (.inl hb))),Fs,Qf,PG,by rw[vM];exact K7.out,PZ,jh.out.trans (C6.below (wI HG.out))⟩;clear ZU SN uk VS P0 vM uZ hr5 SA C6 Qh Fs Qf PG PZ;go_wp2_with fail;go_roundw
       case rel=>exact⟨j+1,l5,s5,by go_num,hmeas,HJ.out⟩
       case measure=>simp[intOf];omega
     ·obtain rfl:j=ls.length:=by omega
      obtain⟨F,rfl⟩:=hl2;have hwf:({l with forced:=F}:Sp.Lg).wf:=by
       obtain⟨p,dk,hr⟩:=tN.rep;exact hr.y_
      have X7:s.le 100:=hle.up (by omega);have HE:Hid (DW w0.heap.size w (.returned (.tuple #[ptr gP,ptr gt])) wr):=⟨gP,gd,gl,gp,gr,gt,mb,cb,i,lk,f,rs,{l with forced:=F},s,G,rfl,tN,htb,Gf.out,HT.out.forced hwf,hfr,hrs,IQ,X7,hG,hbr⟩;clear tN hG htb hfr hrs IQ hle hbr;go_wp2_with fail
      go_ret2
      exact HE.out
end
section
open Go.Conc
structure tI (g1 g4 g5:Nat) (s:Sp.Bs) (a:Nat) (w:World):Prop where
 s:aj w g1 9 #[str s]
 at_:aj w g4 3 #[.int .i64 a]
 all:aj w g5 4 #[.bool true]
 n14:g1≠g4
 n15:g1≠g5
 n45:g4≠g5
theorem tI.below {g1 g4 g5 a:Nat} {s:Sp.Bs} {w:World} (h:tI g1 g4 g5 s a w) (hb:zB w w'):tI g1 g4 g5 s a w':=⟨h.s.below hb h.s.lt,h.at_.below hb h.at_.lt,h.all.below hb h.all.lt,h.n14,h.n15,h.n45⟩
theorem tI.keep {g1 g4 g5 a:Nat} {s:Sp.Bs} {w:World} (h:tI g1 g4 g5 s a w) (hk:∀b,b=g1\/b=g4\/b=g5->w'.heap[b]? =w.heap[b]?):tI g1 g4 g5 s a w':=⟨h.s.keep (hk _ (.inl rfl)),h.at_.keep (hk _ (.inr (.inl rfl))),h.all.keep (hk _ (.inr (.inr rfl))),h.n14,h.n15,h.n45⟩
abbrev nxF (g4 g5:Nat):af:=λb=>b=g4\/b=g5
theorem dL {g1 g4 g5 a size:Nat} {s:Sp.Bs} {w:World} (h:tI g1 g4 g5 s a w) (hs:a+size<=s.length) (h1:1<=size) (h8:size<=8) (hl:s.length<=1000000000):
 Calls prog 101 #[.int .i64 size,ptr g1,ptr g4,ptr g5] w λe w'=>e=.returned (.int .u64 (Sp.num ((s.drop a).take size)))/\tI g1 g4 g5 s (a+size) w'/\aa (nxF g4 g5) (nxF g4 g5) w w':=by
 have H:=zH h;have c1:=h.s.cell 0;have c4:=h.at_.cell 0;simp only[zGA,zGC] at c1 c4;have HG:=zH (ee s a size w hs h1 h8 hl);clear h;go_enter func101,ntmps101;go_wp2_with fail;refine HG.out.mono ?_;rintro e w2 ⟨rfl,hb⟩;have h2:=H.out.below hb;have d4:=h2.at_.cell 0;have d5:=h2.all.cell 0;have f4:=h2.at_.frozen 0;have f5:=h2.all.frozen 0;simp only[zGA,zGC] at d4 d5;have X0:=h2.n45;have hn54:g5≠g4:=λe=>X0 e.symm;have a5:=h2.all.a_ 0 (.bool true);have a4:=h2.at_.far (p:=⟨g5,0,none⟩) X0 (.bool true);have a1:=h2.s.far (p:=⟨g5,0,none⟩) h2.n15 (.bool true);have x4:=a4.cell 0;have y4:=a4.frozen 0;simp only[zGA,zGC] at x4;have NR:=zH (a4.a_ 0 (.int .i64 ((a+size:Nat):Int)));have La:=zH (a5.far (p:=⟨g4,0,none⟩) hn54 (.int .i64 ((a+size:Nat):Int)));have Wx:=zH (a1.far (p:=⟨g4,0,none⟩) h2.n14 (.int .i64 ((a+size:Nat):Int)));have HT:=zH ((((aa.az hb (nxF g4 g5)).setCell (p:=⟨g5,0,none⟩) (.inl (.inr rfl)) (.bool true))).setCell (p:=⟨g4,0,none⟩) (.inl (.inl rfl)) (.int .i64 ((a+size:Nat):Int)));have hw:IntKind.i64.wrap ((a:Int)+(size:Nat))=((a+size:Nat):Int):=by
  rw[IntWalk.i64_in _ (by omega)];omega
 have HN:=zH (And.intro h2.n14 (And.intro h2.n15 X0));clear h2 a1 a4 a5 c1 c4 HG H hb;go_wp2_with fail;go_ret;exact⟨rfl,⟨Wx.out,NR.out,La.out,HN.out.1,HN.out.2.1,HN.out.2.2⟩,HT.out⟩
theorem J3 (w:World) (t1 t2 t3 t4:TypeId) (c1 c2 c3 c4:Array Value):
 aj ((((w.alloc (.cells c1 t1)).alloc (.cells c2 t2)).alloc (.cells c3 t3)).alloc (.cells c4 t4)) w.heap.size t1 c1/\aj ((((w.alloc (.cells c1 t1)).alloc (.cells c2 t2)).alloc (.cells c3 t3)).alloc (.cells c4 t4)) (w.heap.size+1) t2 c2/\
 aj ((((w.alloc (.cells c1 t1)).alloc (.cells c2 t2)).alloc (.cells c3 t3)).alloc (.cells c4 t4)) (w.heap.size+1+1) t3 c3/\aj ((((w.alloc (.cells c1 t1)).alloc (.cells c2 t2)).alloc (.cells c3 t3)).alloc (.cells c4 t4)) (w.heap.size+1+1+1) t4 c4/\
 zB w ((((w.alloc (.cells c1 t1)).alloc (.cells c2 t2)).alloc (.cells c3 t3)).alloc (.cells c4 t4)):=by
 have h2:=aj.new (w.alloc (.cells c1 t1)) t2 c2;have h3:=aj.new ((w.alloc (.cells c1 t1)).alloc (.cells c2 t2)) t3 c3;have h4:=aj.new (((w.alloc (.cells c1 t1)).alloc (.cells c2 t2)).alloc (.cells c3 t3)) t4 c4;rw[World.size_alloc] at h2;rw[World.size_alloc,World.size_alloc] at h3;rw[World.size_alloc,World.size_alloc,World.size_alloc] at h4;refine⟨(((aj.new w t1 c1).alloc _).alloc _).alloc _,(h2.alloc _).alloc _,h3.alloc _,h4,?_⟩;exact((((zR w).alloc (za _) _).alloc (by simp) _).alloc (by simp;omega) _).alloc (by simp;omega) _
theorem EH (w:World):
 Calls prog 35 #[str bC.bytes] w λe w'=>e=.returned (.tuple #[cE bC none none 0 0,.int .i64 0])/\zB w w':=by
 have hlen:=eH;have hk0:Sp.num ((bC.bytes.drop 0).take 1)=7:=by kernel_rfl
 have hk1:Sp.num ((bC.bytes.drop 1).take 8)=0:=by kernel_rfl
 have hk2:Sp.num ((bC.bytes.drop 9).take 8)=0:=by kernel_rfl
 have ZT:=zH fun(W:World)=>uQ W;generalize bC.bytes=s at*;obtain⟨w1,hw1⟩:=zE ((((w.alloc (.cells #[str s] 9)).alloc (.cells (ai cC none none 0 0) 84)).alloc (.cells #[.int .i64 0] 3)).alloc (.cells #[.bool true] 4));obtain⟨a1,a2,a4,a5,hb1⟩:=J3 w 9 84 3 4 #[str s] (ai cC none none 0 0) #[.int .i64 0] #[.bool true];rw[<-hw1] at a1 a2 a4 a5 hb1;go_enter func35,ntmps35;go_upto_region 3 with fail;change Code.wp _ _ _ _ ((((w.alloc (.cells #[str s] 9)).alloc (.cells (ai cC none none 0 0) 84)).alloc (.cells #[.int .i64 0] 3)).alloc (.cells #[.bool true] 4));rw[<-hw1];obtain⟨g1,hg1⟩:=zE w.heap.size;obtain⟨g2,hg2⟩:=zE (w.heap.size+1);obtain⟨g4,hg4⟩:=zE (w.heap.size+1+1);obtain⟨g5,jm⟩:=zE (w.heap.size+1+1+1);rw[<-jm] at a5 ⊢;rw[<-hg4] at a4 ⊢;rw[<-hg2] at a2 ⊢;rw[<-hg1] at a1 ⊢;have Qa:w.heap.size<=g1/\g1<g2/\g2<g4/\g4<g5:=⟨by omega,by omega,by omega,by omega⟩;have pH:=zH (show tI g1 g4 g5 s 0 w1 from⟨a1,a4,a5,by omega,by omega,by omega⟩);clear hw1 hg1 hg2 hg4 jm a1 a4 a5;have ZI:=zH (dL pH.out (size:=1) (by omega) (by omega) (by omega) (by omega));rw[hk0] at ZI;go_wp2_with fail;refine ZI.out.mono ?_;rintro e w2 ⟨rfl,hn2,dx⟩;have DO:=zH (dL hn2 (size:=8) (by omega) (by omega) (by omega) (by omega));rw[show 0+1=1 from rfl,hk1] at DO;clear ZI pH hn2;go_wp2_with fail;refine DO.out.mono ?_;rintro e w3 ⟨rfl,qN,gA⟩;have ZG:=zH (dL qN (size:=8) (by omega) (by omega) (by omega) (by omega));rw[show 1+8=9 from rfl,hk2] at ZG;clear DO qN;go_wp2_with fail;refine ZG.out.mono ?_;rintro e w4 ⟨rfl,sW,pV⟩;clear ZG;have gW:=(dx.trans gA).trans pV;have Gx:=gW.size;have hs1:=hb1.size;have fC:=hb1.trans (gW.below hb1.size (λb hb=>by rcases hb with rfl | rfl<;>omega));have Zg:=a2.turns gW (λhb=>by rcases hb with e | e<;>omega);have ha2:=a2.lt;have cS:zB w4 (w4.alloc (.cells (ai bC none none 0 0) 84)):=(zR w4).alloc (za _) _;have a7:=aj.new w4 84 (ai bC none none 0 0);have uZ:=sW.below cS;have a25:=Zg.below cS Zg.lt;have gK:=fC.trans (cS.mono fC.size);clear dx gA pV gW a2 Zg hb1;go_upto_region 4 with fail;change Code.wp _ _ _ _ (w4.alloc (.cells (ai bC none none 0 0) 84));generalize w4.alloc (.cells (ai bC none none 0 0) 84)=w5 at cS a7 uZ a25 gK ⊢;obtain⟨g7,mS⟩:=zE w4.heap.size;rw[<-mS] at a7 ⊢;clear mS;have c0:=a7.cell 0;have c5:=uZ.all.cell 0;have c1:=uZ.s.cell 0;simp only[ai,zGA,zGC] at c0 c5 c1;have HL7:=zH (bY a7);have HE:=zH (ZT.out w5);go_wp2_with (first
  | ((with_reducible refine aY (v:=cE bC none none 0 0) (w':=w5) 113 rfl rfl ?_ ?_);exact ay _ _ ⟨g7,0,none⟩ rfl rfl HL7.out;simp only[zSA,zSB,zSC]))
 refine HE.out.mono ?_;rintro e w6 ⟨rfl,fI⟩;have d1:=(uZ.s.below fI uZ.s.lt).cell 0;simp only[zGA,zGC] at d1;have a76:=a7.below fI a7.lt;have a26:=a25.below fI a25.lt;have sZ:=gK.trans (fI.mono gK.size);have ZK:=zH (bY a76);have HS2:=zH (eB (r:=bC) (D:=none) (T:=none) (cd:=0) (ct:=0) a26);have h2:=a26.setRow (ai bC none none 0 0);have jA:=zH (below_setRow sZ (show w.heap.size<=g2 by omega) (ai bC none none 0 0));have q1:(s != s)=false:=by simp
 clear c0 c5 c1 a7 uZ a25 cS fI HE HL7 ZT sW;go_wp2_with (first
  | ((with_reducible refine aY (v:=cE bC none none 0 0) (w':=w6) 125 rfl rfl ?_ ?_);exact ay _ _ ⟨g7,0,none⟩ rfl rfl ZK.out;simp only[zSA,zSB,zSC])
  | ((with_reducible refine wpList_skip (w':=w6.setRow g2 (ai bC none none 0 0)) rfl rfl ?_ ?_);exact aq _ _ _ ⟨g2,0,none⟩ (cE bC none none 0 0) rfl rfl rfl HS2.out))
 have vp:=bY h2;exact bodyPost_ret (v:=.tuple #[cE bC none none 0 0,.int .i64 0]) (by
  rw[results_cell_tmp rfl];have ea:(asAddr (ptr g2)).run prog (w6.setRow g2 (ai bC none none 0 0))=.ok ⟨g2,0,none⟩ (w6.setRow g2 (ai bC none none 0 0)):=by go_simp
  refine(congrArg (λr=>Result.andThen r _) ea).trans ?_;simp only[Result.andThen_ok];rw[vp];rfl) rfl ⟨rfl,jA.out⟩
end
end Go.Proofs.YtfpjlkdklgokiaaGreat
