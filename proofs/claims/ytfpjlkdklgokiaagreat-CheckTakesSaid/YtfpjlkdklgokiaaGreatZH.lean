/- A part of the proof of CheckTakes. -/
import Derived.Test.YtfpjlkdklgokiaaGreatZG
namespace Go.Proofs.YtfpjlkdklgokiaaGreat
set_option maxRecDepth 100000
set_option maxHeartbeats 40000000
open Go.RowKit
open Go.Proofs.Tryz
variable {n g k gp gd c gl i id b s r cb mb fb cd h N m fuel j ct p B cap sz gr z gt x aL:Nat} {v c1 c2 c3 c0 c5 c4:Value} {w' W:World} {A D T:Option Addr} {a:Act} {ids q fl l rest:List Nat} {xs fs:List Value} {o oi:Oper} {listed:Array Bool} {P:Program} {e t:TypeId} {args cs' buf:Array Value} {tm:Bool}
section
open Go.Conc
def Sp.Bd (n:Nat):Sp.aF:=⟨n,[],Sp.first,110,110,6,Sp.xq⟩
theorem L6 {w:World} {e:Ending} (h:Ct w n e w') {n0:Nat} (hn0:n0<=w.heap.size):
 ∃(gP gr gd gl gp:Nat) (G:af),e=.returned (ptr gP)/\zB w w'/\w.heap.size<=gP/\(∀b,b<n0->G b)/\eA w.heap.size gP gd gl gp gr (λb=>n0<=b/\b<w.heap.size) G (Sp.sI 0 8 1) (Sp.Bd n) (Sp.Bd n) w':=by
 obtain⟨gP,gr,gd,gl,gp,v,xs,D,F,dk,rfl,hP,hr,hrow,hl,hd,hlk,hpl,hDF,hb0,hb,kW,nV,hvg,hgr,IJ,TK,Gs,Uk,NL⟩:=h;have hs:=hb.size;have hg:=hP.lt;have X8:=Mj (by omega) (by omega) (by omega) (by omega) hl;have C_:gl<w'.heap.size:=by omega
 refine⟨gP,gr,gd,gl,gp,λb=>b<n0\/Gs b,rfl,hb,by omega,λb hb=>.inl hb,λb=>b<w.heap.size\/b=gP\/b=gr\/v.ownBlock=some b\/Gs b,.slice none 0 0,v,?_,?_,λb hb=>?_,λb hb=>⟨λe=>?_,λe=>?_,by omega⟩,λe=>?_,hP⟩
 ·refine⟨_,D,F,_,dk,hpl,hd,X8,λb h1 h2=>hDF b h2 h1,λb h1 h2=>(hb0 b (.inr h1)).2.2.2 h2,λb h1 h2=>(hb0 b (.inl h1)).2.2.2 h2,?_,λb h hk=>?_,λb hk=>?_⟩
  ·exact{
    wf:=hpl.wf
    y_:=Sp.xQ (by omega) (by omega) (by omega) (by omega)
    frames:=rfl
    L:=rfl
    top:=rfl
    forced:=rfl
    next:=rfl
    ok:=λq h1 h2=>⟨(Sp.yH h1 (zl h2 (by decide))).1,(Sp.yH h1 (zl h2 (by decide))).2,rfl⟩
    B_:=⟨hlk.len,hlk.loose,hlk.bk,λq h1 h2=>hlk.page q h1 (Nat.lt_succ_of_le h2)⟩
    dl:=⟨hlk.loose,hlk.bk,by rw[hlk.len];decide,by rw[hlk.len];decide,by rw[hlk.len];decide,by decide⟩
    lo:=by decide
    bO:=by decide
    tight:=by decide
    zero:=hlk.zero
    tidy:=Tidy.new (λi h1 h2=>hlk.rest i h1 h2)
    dA:=λit h=>absurd h (by simp)}
  ·rcases h with h | h | h
   ·have h0:=hb0 b (.inr h);rcases hk with e | e | e | e | e
    ·omega
    ·exact h0.2.1 e
    ·exact h0.2.2.1 e
    ·exact(TK b e).2.2.2 h
    ·exact(NL b e).2.2.2.2.2 h
   ·have h0:=hb0 b (.inl h);rcases hk with e | e | e | e | e
    ·omega
    ·exact h0.2.1 e
    ·exact h0.2.2.1 e
    ·exact(TK b e).2.2.1 h
    ·exact(NL b e).2.2.2.2.1 h
   ·obtain rfl:b=gl:=h;rcases hk with e | e | e | e | e
    ·omega
    ·omega
    ·omega
    ·have:=(TK b e).2.1;omega
    ·have:=(NL b e).2.1;omega
  ·rcases hk with e | e | e | e | e
   ·omega
   ·omega
   ·omega
   ·have:=(TK b e).2.1;omega
   ·have:=(NL b e).2.1;omega
 ·exact{
   blk:=hr
   L:=⟨[],World.ownsRow_nil _ _ _ _,rfl,λi x hx=>by simp[Sp.Bd] at hx⟩
   D:=⟨xs,hrow,hrow.1,λq hq=>by
    obtain⟨A,c,h1,h2⟩:=Uk q (Nat.lt_succ_of_le hq);have e:(Sp.Bd n).home q=pgK q:=rfl;rw[e];exact⟨A,c,trivial,h1.mono (λb hb=>.inr hb),h2⟩⟩
   few:=za0 _
   ids:=λx hx=>absurd hx (by simp[Sp.Bd])
   nd:=List.nodup_nil
   Lr:=λe=>nomatch e
   Dr:=hvg
   LD:=λb hb=>nomatch hb
   lo:=hgr
   g:=λb hb=>by
    rcases hb with hb | hb
    ·exact⟨by omega,by omega,(λe=>nomatch e),λe=>by have:=(TK b e).1;omega⟩
    ·obtain⟨g1,g2,g3,g4,_⟩:=NL b hb;exact⟨by omega,g3,(λe=>nomatch e),g4⟩}
 ·rcases hb with e | (e | e) | (e | e | e) | e
  ·exact .inl e.2
  ·exact .inl (by omega)
  ·exact .inr (.inr (.inr (.inr e)))
  ·exact .inr (.inr (.inl e))
  ·cases e
  ·exact .inr (.inr (.inr (.inl e)))
  ·exact .inr (.inl e)
 ·rcases e with e | e | e
  ·omega
  ·cases e
  ·have:=(TK b e).1;omega
 ·rcases e with e | e
  ·omega
  ·have:=(NL b e).1;omega
 ·rcases e with e | e | e
  ·omega
  ·cases e
  ·have:=(TK gP e).2.1;omega
end
end Go.Proofs.YtfpjlkdklgokiaaGreat
