/- Lemmas of this claim. -/
import Derived.Deep.DeepFit
import Derived.Test.YthflghdaejbdkaaGreatXbCyStar
namespace Go.Proofs.YthflghdaejbdkaaGreat
open _root_.Go.Proofs.Tryz (prog)
open Go.RowKit Go.Maps
set_option maxHeartbeats 1600000
set_option maxRecDepth 100000
set_option linter.unusedVariables false
theorem nI {cs:List Value} {l:List Int} (z:l.length<=cs.length) (h:∀ m,m<l.length->cs[m]?=some (.int .i64 (gI l m))):cs.take l.length=l.map (.int .i64):=by
 apply List.ext_getElem?;intro i;rw [List.getElem?_take]
 by_cases y:i<l.length
 ·rw [if_pos y,h i y];simp [gI,y]
 rw [if_neg y];simp [y]
theorem aBu {cs:List Value} {l:List Int} (z:cs.take l.length=l.map (.int .i64)) {m:Nat} (y:m<l.length):cs[m]?=some (.int .i64 (gI l m)):=by
 have:(cs.take l.length)[m]?=cs[m]?:=by rw [List.getElem?_take,if_pos y]
 rw [<-this,z];simp [gI,y]
theorem Row.setCells' {w:World} {b T:Nat} {cs:List Value} (h:Row w b T cs):∀ (z:List Value) (o:Nat),∃ y,Row (w.setCells b o z) b T y/\y.length=cs.length/\∀ m,m<o->y[m]?=cs[m]?:=by
 intro z
 induction z generalizing w cs with
 | nil=>intro o;exact ⟨cs,h,rfl,fun _ _=>rfl⟩
 | cons v r ih=>
  intro o;obtain ⟨y,d,e,h3⟩:=ih (h.set o v) (o+1);refine ⟨y,d,by rw [e,List.length_set],fun m hm=>?_⟩;rw [h3 m (by omega),List.getElem?_set,if_neg (by omega)]
theorem vZ (w:World) (c:Value):Calls prog 220 #[.slice none 0 0,c] w (aO w (.int .i64 (-1))):=by
 refine aF fun R y=>?_;go_in;go_wp2;go_loop [5,8] (fun _ i=>i=.int .i64 0) (fun _ i=>0)
 case atStart=>rfl
 case round=>
  obtain rfl:=hrel;go_wp2;exact y.o _ _ ⟨rfl,rfl⟩
def dZ (q:Int->Bool) (x:Int):Bool:=!q x
theorem wV {q:Int->Bool} {x:Int} (h:q x=true):dZ q x=false:=by unfold dZ;rw [h];rfl
theorem lN {q:Int->Bool} {x:Int} (h:q x=false):dZ q x=true:=by unfold dZ;rw [h];rfl
theorem bY {l:List Int} {q:Int->Bool} {j:Nat} (y:j<l.length):(l.take (j+1)).filter q=(l.take j).filter q ++ if q (gI l j) then [gI l j] else []:=by
 rw [List.take_succ_eq_append_getElem y,List.filter_append];have:gI l j=l[j]:=by unfold gI;rw [List.getElem?_eq_getElem y];rfl
 rw [this];congr 1
 by_cases h:q l[j]=true<;>simp [h]
theorem iI {l:List Int} {q:Int->Bool} {k:Nat} (h:∀ i,i<k->q (gI l i)=true) (z:k<=l.length):(l.take k).filter q=l.take k:=by
 rw [List.filter_eq_self];intro x hx;obtain ⟨i,y,rfl⟩:=List.getElem_of_mem hx;rw [List.length_take] at y;have:=h i (by omega);rw [List.getElem_take];unfold gI at this;rw [List.getElem?_eq_getElem (by omega)] at this;exact this
theorem aAz (w:World) (cb g cap:Nat) (q:Int->Bool) (l:List Int) (hd:∀ wr,Only [g] w wr->∀ i,i<l.length->Calls prog 256 #[.int .i64 (gI l i),.pointer (some ⟨cb,0,none⟩)] wr (aO wr (.bool (q (gI l i))))) (hl:l.length<=1000000) (hc:∀ i,i<l.length->w.cell? ⟨g,i,none⟩=some (.int .i64 (gI l i))) :
  Calls prog 220 #[.slice (some ⟨g,0,none⟩) l.length cap,.func (.func 256) #[] #[.pointer (some ⟨cb,0,none⟩)]] w fun e w'=>w=w'/\
   ((e=.returned (.int .i64 (-1))/\∀ i,i<l.length->q (gI l i)=false)\/∃ k:Nat,k<l.length/\e=.returned (.int .i64 k)/\q (gI l k)=true/\∀ i,i<k->q (gI l i)=false):=by
 refine aF fun R hR=>?_;have HC:=aA hc;have HD:Hid (∀ i,i<l.length->Calls prog 256 #[.int .i64 (gI l i),.pointer (some ⟨cb,0,none⟩)] w (aO w (.bool (q (gI l i))))):=fun i hi=>hd w (Only.refl _ _) i hi;obtain ⟨d,h0⟩:∃ n,n=l.length:=⟨_,rfl⟩;rw [<-h0] at HC HD hR hl ⊢;clear hc hd h0;go_in;go_wp2;go_loop [5,8] (fun _ i=>∃ k:Nat,k<=d/\i=.int .i64 k/\Hid (∀ j,j<k->q (gI l j)=false)) (fun _ i=>d - (intOf i).toNat)
 case atStart=>exact ⟨0,by omega,rfl,fun j hj=>by omega⟩
 case round=>
  obtain ⟨k,hk,rfl,hf⟩:=hrel
  by_cases h1:k<d
  ·have z:=HC.o k h1;have y:=HD.o k h1
   cases hq:q (gI l k)
   ·rw [hq] at y;have HQ:=aA hq;clear hq;generalize gI l k=x at z y;go_wp2_with fail;go_fit y;rintro e _ ⟨rfl,rfl⟩;go_wp2_with fail;go_round
    case rel=>exact ⟨k+1,by omega,by go_num,fun j hj=>by
     by_cases e:j=k
     ·rw [e];exact HQ.o
     exact hf.o j (by omega)⟩
    case measure=>simp [intOf];omega
   rw [hq] at y;have HQ:=aA hq;clear hq;generalize gI l k=x at z y;go_wp2_with fail;go_fit y;rintro e _ ⟨rfl,rfl⟩;go_wp2;exact hR.o _ _ ⟨rfl,.inr ⟨k,h1,rfl,HQ.o,hf.o⟩⟩
  obtain rfl:k=d:=by omega
  go_wp2;exact hR.o _ _ ⟨rfl,.inl ⟨rfl,hf.o⟩⟩
theorem aHX (w:World) (cb base:Nat) (q:Int->Bool) (v:Value) (l:List Int) (hI:aN w base v l) (hl:l.length<=1000000)
  (x6:∀ g,v.ownBlock=some g->∀ wr,Only [g] w wr->∀ i,i<l.length->Calls prog 256 #[.int .i64 (gI l i),.pointer (some ⟨cb,0,none⟩)] wr (aO wr (.bool (q (gI l i))))) :
  Calls prog 255 #[v,.func (.func 256) #[] #[.pointer (some ⟨cb,0,none⟩)]] w fun e w'=>
   ∃ v',e=.returned v'/\aN w' base v' (l.filter (dZ q))/\v'.ownBlock=v.ownBlock/\Only v.ownBlock.toList w w':=by
 refine aF fun R hR=>?_;have HI:=aA hI;rcases hI.form with ⟨rfl,rfl⟩|⟨g,cap,rfl,y8,y9,x8,hc⟩
 ·go_in;go_wp2_with fail;refine (vZ _ _).mono ?_;rintro e _ ⟨rfl,rfl⟩;go_wp2;exact hR.o _ _ ⟨_,rfl,HI.o,rfl,Only.refl _ _⟩
 obtain ⟨_,_,y7,h7,x4,y1,x8,x5⟩:=hI.row;have hd:=x6 g rfl;have x1:=aAz w cb g cap q l hd hl hc;have HD:=aA hd;have qR:=aA h7;have y3:=aA x4;have h8:=aA y1;clear hI hc h7 y1 y9 hd x6;have z2:cap<=9223372036854775807:=x5;obtain ⟨h2,h3⟩:∃ n,n=l.length:=⟨_,rfl⟩;have z:=aA h3;rw [<-h3] at x1 hl x8 h8 HD HI hR ⊢;clear h3 x4;go_in;go_wp2_with fail;go_fit x1;clear x1;rintro e _ ⟨rfl,⟨rfl,y⟩|⟨k,hk,rfl,hq,y⟩⟩
 ·have HA:Hid (l.filter (dZ q)=l):=by
   show _=_;have:=iI (q:=dZ q) (k:=l.length) (fun i hi=>lN (y i (by have:=z.o;omega))) (Nat.le_refl _);rwa [List.take_length] at this
  clear y;go_wp2;exact hR.o _ _ ⟨_,rfl,by rw [HA.o];exact HI.o,rfl,Only.refl _ _⟩
 have HK:Hid ((l.take k).filter (dZ q)=l.take k):=iI (fun i hi=>lN (y i hi)) (by have:=z.o;omega);have y5:Hid (dZ q (gI l k)=false):=wV hq;clear y hq;have z1:((k:Int) == -1)=false:=by rw [beq_eq_false_iff_ne];omega
 go_wp2_with fail;clear z1;go_loopw [5,6,7] (fun iv jv _ wr=>∃ (i j:Nat) (cs:List Value),iv=.int .i64 i/\jv=.int .i64 j/\j<=h2/\i<j/\Hid (i=((l.take j).filter (dZ q)).length)/\Row wr g 3 cs/\Hid (cs.length=cap)/\
   Hid (∀ m,m<i->cs[m]?=some (.int .i64 (gI ((l.take j).filter (dZ q)) m)))/\Hid (∀ m,j<=m->m<h2->cs[m]?=some (.int .i64 (gI l m)))/\Only [g] w wr) (fun _ jv _ _=>h2 - (intOf jv).toNat)
 case atStart=>
  have hs:(l.take (k+1)).filter (dZ q)=l.take k:=by rw [bY (by have:=z.o;omega),y5.o,HK.o];simp
  have x9:=z.o;refine ⟨k,k+1,y7,rfl,by go_num,by omega,by omega,?_,qR.o,y3.o,fun m hm=>?_,fun m hm h6=>aBu (l:=l) (by rw [<-x9];exact h8.o) (by omega),Only.refl _ _⟩
  ·show k=_;rw [hs,List.length_take];omega
  rw [hs,aBu (l:=l) (by rw [<-x9];exact h8.o) (by omega)];unfold gI;rw [List.getElem?_take,if_pos hm]
 case round=>
  obtain ⟨i,j,cs,rfl,rfl,hj,z6,hi,hr,d,x2,h9,ho⟩:=hrel;have h1:=aA hr;have HO:=aA ho
  by_cases y0:j<h2
  ·have h4:=hr.cell j (h9.o j (Nat.le_refl _) y0);have x7:i<cs.length:=by rw [d.o];omega
   have y6:∃ x,wr.cell? ⟨g,i,none⟩=some x:=⟨_,hr.cell i (List.getElem?_eq_getElem x7)⟩;obtain ⟨x0,z7⟩:=y6;have z4:=hr.free i;have h0:=HD.o wr ho j y0;clear hr ho
   cases hq:q (gI l j)
   ·rw [hq] at h0;have HQ:Hid (dZ q (gI l j)=true):=lN hq;clear hq;obtain ⟨x,hx⟩:∃ x,x=gI l j:=⟨_,rfl⟩;rw [<-hx] at h4 h0 HQ;have HX:=aA hx;clear hx;go_wp2_with fail;go_fit h0;rintro e _ ⟨rfl,rfl⟩;go_wp2_with fail;have hs:Hid ((l.take (j+1)).filter (dZ q)=(l.take j).filter (dZ q) ++ [x]):=by
     show _=_;rw [bY (by have:=z.o;omega),<-HX.o,HQ.o];simp
    refine ⟨⟨i+1,j+1,_,by go_num,by go_num,by omega,by omega,?_,h1.o.set i _,?_,?_,?_,HO.o.set (by simp) _⟩,by simp [intOf];omega⟩
    ·show i+1=_;rw [hs.o,List.length_append,<-hi.o];rfl
    ·show List.length _=_;rw [List.length_set];exact d.o
    ·intro m hm;rw [hs.o,List.getElem?_set];have h5:=hi.o
     by_cases e:i=m
     ·subst e;rw [if_pos rfl,if_pos x7];unfold gI;rw [List.getElem?_append_right (by omega)];simp [<-h5]
     rw [if_neg e,x2.o m (by omega)];unfold gI;rw [List.getElem?_append_left (by omega)]
    intro m hm h6;rw [List.getElem?_set,if_neg (by omega)];exact h9.o m (by omega) h6
   rw [hq] at h0;have HQ:Hid (dZ q (gI l j)=false):=wV hq;clear hq;obtain ⟨x,hx⟩:∃ x,x=gI l j:=⟨_,rfl⟩;rw [<-hx] at h4 h0 HQ;have HX:=aA hx;clear hx;go_wp2_with fail;go_fit h0;rintro e _ ⟨rfl,rfl⟩;go_wp2_with fail;have hs:Hid ((l.take (j+1)).filter (dZ q)=(l.take j).filter (dZ q)):=by
    show _=_;rw [bY (by have:=z.o;omega),<-HX.o,HQ.o];simp
   refine ⟨⟨i,j+1,cs,rfl,by go_num,by omega,by omega,?_,h1.o,d,?_,fun m hm h6=>h9.o m (by omega) h6,HO.o⟩,by simp [intOf];omega⟩
   ·show i=_;rw [hs.o];exact hi.o
   rw [hs.o];exact x2.o
  obtain rfl:j=h2:=by omega
  clear hr ho;have z0:0<j - i:=by omega
  have z5:(0:Int)<=i:=by omega
  have y2:Hid (∀ m,m<j - i->(wr.cell? ⟨g,i+m,none⟩).isSome=true):=fun m hm=>by
   rw [h1.o.cell (i+m) (List.getElem?_eq_getElem (show i+m<cs.length by rw [d.o];omega))];rfl
  have y4:Hid (∀ m,m<j - i->wr.frozen? ⟨g,i+m,none⟩=false):=fun m hm=>h1.o.free _;go_wp2_with (with_reducible refine jF rfl (.tmp 38) 23 3 rfl (.int .i64 0) Tryz.underlying23 aBw rfl rfl g i (j - i) (cap - i) rfl z0 y2.o y4.o ?_);obtain ⟨z3,q1,q2,q3⟩:=h1.o.setCells' (List.replicate (j - i) (.int .i64 0)) i;have Q1:=aA q1;have Q2:=aA q2;have Q3:=aA q3;have QO:Hid (Only [g] w (wr.setCells g i (List.replicate (j - i) (.int .i64 0)))):=HO.o.setCells (.inl (by simp)) _ _;clear q1 q2 q3;generalize wr.setCells g i (List.replicate (j - i) (.int .i64 0))=w2 at*;go_wp2_with fail;have y:(l.take j).filter (dZ q)=l.filter (dZ q):=by
   have:=z.o;rw [List.take_of_length_le (by omega)]
  have h5:=hi.o;rw [y] at h5;have x3:=x2.o;rw [y] at x3;refine hR.o _ _ ⟨_,rfl,?_,rfl,by simpa [Value.ownBlock] using QO.o⟩;rw [h5];exact aN.ofRow y8 Q1.o (by rw [Q2.o];exact d.o) (nI (by rw [Q2.o,d.o];omega) (fun m hm=>by rw [Q3.o m (by omega)];exact x3 m (by omega))) (by omega) x5
theorem wG (w:World) (cb g cap:Nat) (q:Int->Bool) (l:List Int) (hd:∀ wr,Only [g] w wr->∀ i,i<l.length->Calls prog 305 #[.int .i64 (gI l i),.pointer (some ⟨cb,0,none⟩)] wr (aO wr (.bool (q (gI l i))))) (hl:l.length<=1000000) (hc:∀ i,i<l.length->w.cell? ⟨g,i,none⟩=some (.int .i64 (gI l i))) :
  Calls prog 220 #[.slice (some ⟨g,0,none⟩) l.length cap,.func (.func 305) #[] #[.pointer (some ⟨cb,0,none⟩)]] w fun e w'=>w=w'/\
   ((e=.returned (.int .i64 (-1))/\∀ i,i<l.length->q (gI l i)=false)\/∃ k:Nat,k<l.length/\e=.returned (.int .i64 k)/\q (gI l k)=true/\∀ i,i<k->q (gI l i)=false):=by
 refine aF fun R hR=>?_;have HC:=aA hc;have HD:Hid (∀ i,i<l.length->Calls prog 305 #[.int .i64 (gI l i),.pointer (some ⟨cb,0,none⟩)] w (aO w (.bool (q (gI l i))))):=fun i hi=>hd w (Only.refl _ _) i hi;obtain ⟨d,h0⟩:∃ n,n=l.length:=⟨_,rfl⟩;rw [<-h0] at HC HD hR hl ⊢;clear hc hd h0;go_in;go_wp2;go_loop [5,8] (fun _ i=>∃ k:Nat,k<=d/\i=.int .i64 k/\Hid (∀ j,j<k->q (gI l j)=false)) (fun _ i=>d - (intOf i).toNat)
 case atStart=>exact ⟨0,by omega,rfl,fun j hj=>by omega⟩
 case round=>
  obtain ⟨k,hk,rfl,hf⟩:=hrel
  by_cases h1:k<d
  ·have z:=HC.o k h1;have y:=HD.o k h1
   cases hq:q (gI l k)
   ·rw [hq] at y;have HQ:=aA hq;clear hq;generalize gI l k=x at z y;go_wp2_with fail;go_fit y;rintro e _ ⟨rfl,rfl⟩;go_wp2_with fail;go_round
    case rel=>exact ⟨k+1,by omega,by go_num,fun j hj=>by
     by_cases e:j=k
     ·rw [e];exact HQ.o
     exact hf.o j (by omega)⟩
    case measure=>simp [intOf];omega
   rw [hq] at y;have HQ:=aA hq;clear hq;generalize gI l k=x at z y;go_wp2_with fail;go_fit y;rintro e _ ⟨rfl,rfl⟩;go_wp2;exact hR.o _ _ ⟨rfl,.inr ⟨k,h1,rfl,HQ.o,hf.o⟩⟩
  obtain rfl:k=d:=by omega
  go_wp2;exact hR.o _ _ ⟨rfl,.inl ⟨rfl,hf.o⟩⟩
theorem aDS (w:World) (cb base:Nat) (q:Int->Bool) (v:Value) (l:List Int) (hI:aN w base v l) (hl:l.length<=1000000)
  (x6:∀ g,v.ownBlock=some g->∀ wr,Only [g] w wr->∀ i,i<l.length->Calls prog 305 #[.int .i64 (gI l i),.pointer (some ⟨cb,0,none⟩)] wr (aO wr (.bool (q (gI l i))))) :
  Calls prog 255 #[v,.func (.func 305) #[] #[.pointer (some ⟨cb,0,none⟩)]] w fun e w'=>
   ∃ v',e=.returned v'/\aN w' base v' (l.filter (dZ q))/\v'.ownBlock=v.ownBlock/\Only v.ownBlock.toList w w':=by
 refine aF fun R hR=>?_;have HI:=aA hI;rcases hI.form with ⟨rfl,rfl⟩|⟨g,cap,rfl,y8,y9,x8,hc⟩
 ·go_in;go_wp2_with fail;refine (vZ _ _).mono ?_;rintro e _ ⟨rfl,rfl⟩;go_wp2;exact hR.o _ _ ⟨_,rfl,HI.o,rfl,Only.refl _ _⟩
 obtain ⟨_,_,y7,h7,x4,y1,x8,x5⟩:=hI.row;have hd:=x6 g rfl;have x1:=wG w cb g cap q l hd hl hc;have HD:=aA hd;have qR:=aA h7;have y3:=aA x4;have h8:=aA y1;clear hI hc h7 y1 y9 hd x6;have z2:cap<=9223372036854775807:=x5;obtain ⟨h2,h3⟩:∃ n,n=l.length:=⟨_,rfl⟩;have z:=aA h3;rw [<-h3] at x1 hl x8 h8 HD HI hR ⊢;clear h3 x4;go_in;go_wp2_with fail;go_fit x1;clear x1;rintro e _ ⟨rfl,⟨rfl,y⟩|⟨k,hk,rfl,hq,y⟩⟩
 ·have HA:Hid (l.filter (dZ q)=l):=by
   show _=_;have:=iI (q:=dZ q) (k:=l.length) (fun i hi=>lN (y i (by have:=z.o;omega))) (Nat.le_refl _);rwa [List.take_length] at this
  clear y;go_wp2;exact hR.o _ _ ⟨_,rfl,by rw [HA.o];exact HI.o,rfl,Only.refl _ _⟩
 have HK:Hid ((l.take k).filter (dZ q)=l.take k):=iI (fun i hi=>lN (y i hi)) (by have:=z.o;omega);have y5:Hid (dZ q (gI l k)=false):=wV hq;clear y hq;have z1:((k:Int) == -1)=false:=by rw [beq_eq_false_iff_ne];omega
 go_wp2_with fail;clear z1;go_loopw [5,6,7] (fun iv jv _ wr=>∃ (i j:Nat) (cs:List Value),iv=.int .i64 i/\jv=.int .i64 j/\j<=h2/\i<j/\Hid (i=((l.take j).filter (dZ q)).length)/\Row wr g 3 cs/\Hid (cs.length=cap)/\
   Hid (∀ m,m<i->cs[m]?=some (.int .i64 (gI ((l.take j).filter (dZ q)) m)))/\Hid (∀ m,j<=m->m<h2->cs[m]?=some (.int .i64 (gI l m)))/\Only [g] w wr) (fun _ jv _ _=>h2 - (intOf jv).toNat)
 case atStart=>
  have hs:(l.take (k+1)).filter (dZ q)=l.take k:=by rw [bY (by have:=z.o;omega),y5.o,HK.o];simp
  have x9:=z.o;refine ⟨k,k+1,y7,rfl,by go_num,by omega,by omega,?_,qR.o,y3.o,fun m hm=>?_,fun m hm h6=>aBu (l:=l) (by rw [<-x9];exact h8.o) (by omega),Only.refl _ _⟩
  ·show k=_;rw [hs,List.length_take];omega
  rw [hs,aBu (l:=l) (by rw [<-x9];exact h8.o) (by omega)];unfold gI;rw [List.getElem?_take,if_pos hm]
 case round=>
  obtain ⟨i,j,cs,rfl,rfl,hj,z6,hi,hr,d,x2,h9,ho⟩:=hrel;have h1:=aA hr;have HO:=aA ho
  by_cases y0:j<h2
  ·have h4:=hr.cell j (h9.o j (Nat.le_refl _) y0);have x7:i<cs.length:=by rw [d.o];omega
   have y6:∃ x,wr.cell? ⟨g,i,none⟩=some x:=⟨_,hr.cell i (List.getElem?_eq_getElem x7)⟩;obtain ⟨x0,z7⟩:=y6;have z4:=hr.free i;have h0:=HD.o wr ho j y0;clear hr ho
   cases hq:q (gI l j)
   ·rw [hq] at h0;have HQ:Hid (dZ q (gI l j)=true):=lN hq;clear hq;obtain ⟨x,hx⟩:∃ x,x=gI l j:=⟨_,rfl⟩;rw [<-hx] at h4 h0 HQ;have HX:=aA hx;clear hx;go_wp2_with fail;go_fit h0;rintro e _ ⟨rfl,rfl⟩;go_wp2_with fail;have hs:Hid ((l.take (j+1)).filter (dZ q)=(l.take j).filter (dZ q) ++ [x]):=by
     show _=_;rw [bY (by have:=z.o;omega),<-HX.o,HQ.o];simp
    refine ⟨⟨i+1,j+1,_,by go_num,by go_num,by omega,by omega,?_,h1.o.set i _,?_,?_,?_,HO.o.set (by simp) _⟩,by simp [intOf];omega⟩
    ·show i+1=_;rw [hs.o,List.length_append,<-hi.o];rfl
    ·show List.length _=_;rw [List.length_set];exact d.o
    ·intro m hm;rw [hs.o,List.getElem?_set];have h5:=hi.o
     by_cases e:i=m
     ·subst e;rw [if_pos rfl,if_pos x7];unfold gI;rw [List.getElem?_append_right (by omega)];simp [<-h5]
     rw [if_neg e,x2.o m (by omega)];unfold gI;rw [List.getElem?_append_left (by omega)]
    intro m hm h6;rw [List.getElem?_set,if_neg (by omega)];exact h9.o m (by omega) h6
   rw [hq] at h0;have HQ:Hid (dZ q (gI l j)=false):=wV hq;clear hq;obtain ⟨x,hx⟩:∃ x,x=gI l j:=⟨_,rfl⟩;rw [<-hx] at h4 h0 HQ;have HX:=aA hx;clear hx;go_wp2_with fail;go_fit h0;rintro e _ ⟨rfl,rfl⟩;go_wp2_with fail;have hs:Hid ((l.take (j+1)).filter (dZ q)=(l.take j).filter (dZ q)):=by
    show _=_;rw [bY (by have:=z.o;omega),<-HX.o,HQ.o];simp
   refine ⟨⟨i,j+1,cs,rfl,by go_num,by omega,by omega,?_,h1.o,d,?_,fun m hm h6=>h9.o m (by omega) h6,HO.o⟩,by simp [intOf];omega⟩
   ·show i=_;rw [hs.o];exact hi.o
   rw [hs.o];exact x2.o
  obtain rfl:j=h2:=by omega
  clear hr ho;have z0:0<j - i:=by omega
  have z5:(0:Int)<=i:=by omega
  have y2:Hid (∀ m,m<j - i->(wr.cell? ⟨g,i+m,none⟩).isSome=true):=fun m hm=>by
   rw [h1.o.cell (i+m) (List.getElem?_eq_getElem (show i+m<cs.length by rw [d.o];omega))];rfl
  have y4:Hid (∀ m,m<j - i->wr.frozen? ⟨g,i+m,none⟩=false):=fun m hm=>h1.o.free _;go_wp2_with (with_reducible refine jF rfl (.tmp 38) 23 3 rfl (.int .i64 0) Tryz.underlying23 aBw rfl rfl g i (j - i) (cap - i) rfl z0 y2.o y4.o ?_);obtain ⟨z3,q1,q2,q3⟩:=h1.o.setCells' (List.replicate (j - i) (.int .i64 0)) i;have Q1:=aA q1;have Q2:=aA q2;have Q3:=aA q3;have QO:Hid (Only [g] w (wr.setCells g i (List.replicate (j - i) (.int .i64 0)))):=HO.o.setCells (.inl (by simp)) _ _;clear q1 q2 q3;generalize wr.setCells g i (List.replicate (j - i) (.int .i64 0))=w2 at*;go_wp2_with fail;have y:(l.take j).filter (dZ q)=l.filter (dZ q):=by
   have:=z.o;rw [List.take_of_length_le (by omega)]
  have h5:=hi.o;rw [y] at h5;have x3:=x2.o;rw [y] at x3;refine hR.o _ _ ⟨_,rfl,?_,rfl,by simpa [Value.ownBlock] using QO.o⟩;rw [h5];exact aN.ofRow y8 Q1.o (by rw [Q2.o];exact d.o) (nI (by rw [Q2.o,d.o];omega) (fun m hm=>by rw [Q3.o m (by omega)];exact x3 m (by omega))) (by omega) x5
set_option maxHeartbeats 6400000
theorem aFz (M:Hp) (x:Int):(M.type x).2.2.2=if (M.ob x).isSome then 0 else 3:=by
 unfold Hp.type
 cases M.ob x<;>rfl
theorem fF (w:World) {p hb:Nat} (h:w.cell? ⟨p,0,none⟩=some (.pointer (some ⟨hb,0,none⟩))):Calls prog 78 #[.pointer (some ⟨p,0,none⟩)] w (aO w (.bool false)):=by
 refine aF fun R y=>?_;go_in;go_wp2;exact y.o _ _ ⟨rfl,rfl⟩
theorem yR (w:World) {L:Nat->Option Lb} {hb:Nat} {M:Hp} {X:HX} (h:dO w L hb M X) (x:Int) (hx:wfI x):Calls prog 79 #[.pointer (some ⟨hb,0,none⟩),.int .i64 x] w (Same w (.bool (M.ob x).isSome)):=by
 refine aF fun R y=>?_;have c:=aBz w h x hx;have he:=aFz M x;clear h hx;generalize (M.type x).1=z at*;generalize (M.type x).2.1=d at*;generalize (M.type x).2.2.1=a3 at*;rw [he] at c;clear he
 cases hs:(M.ob x).isSome with
 | true=>
  rw [hs] at c y;replace c:Calls prog _ _ _ (Same w (.tuple #[.int .i64 z,.int .i64 d,.int .i64 a3,.int .i64 0])):=c;go_in;go_wp2_with fail;go_fit c;rintro e _ ⟨rfl,n,rfl⟩;clear c;go_wp2;exact y.o _ _ ⟨rfl,n,rfl⟩
 | false=>
  rw [hs] at c y;replace c:Calls prog _ _ _ (Same w (.tuple #[.int .i64 z,.int .i64 d,.int .i64 a3,.int .i64 3])):=c;go_in;go_wp2_with fail;go_fit c;rintro e _ ⟨rfl,n,rfl⟩;clear c;go_wp2;exact y.o _ _ ⟨rfl,n,rfl⟩
theorem aAs.rO {w w':World} {z:Nat} {y:Int->Int} {F:List Nat} (h:aAs w z y) (e:Only F w w') (d:z∉F):aAs w' z y:=h.only (e.toP (S:=fun k=>k∈F) (fun x hx=>.inl hx)) d
section
variable {w0 w:World} {l:List Asn} {i j hb p:Nat} {m:Mk}
theorem ML.ph (y:gZ l i j) (z:Fam w0 w (ML l i j hb p m)):m.M.Ok/\∃ L X,dO w L hb m.M X:=z.ph i (ML.heap y)
theorem ML.aPT (z:gZ l i j) (y:Fam w0 w (ML l i j hb p m)) (x:Int) (hx:wfI x):Calls prog 79 #[.pointer (some ⟨hb,0,none⟩),.int .i64 x] w (fun e w'=>e=.returned (.bool (m.M.ob x).isSome)/\Fam w0 w' (ML l i j hb p m)):=by
 obtain ⟨hk,L,X,hg⟩:=ML.ph z y;exact (yR w hg x hx).mono fun e w' ⟨d,n,h2⟩=>⟨d,by rw [h2];exact y.drewN n⟩
theorem aFv.cells {e:Nat} {v:Value} {d:Int->Int} {y:List Int} (h:aFv w p hb e v d y):w.cell? ⟨p,0,none⟩=some (.pointer (some ⟨hb,0,none⟩))/\w.cell? ⟨p,1,none⟩=some (.map (some e))/\w.cell? ⟨p,2,none⟩=some v/\∀ k,w.frozen? ⟨p,k,none⟩=false:=by
 obtain ⟨U,z⟩:=h.row;exact ⟨z.cell 0 rfl,z.cell 1 rfl,z.cell 2 rfl,fun k=>z.free k⟩
theorem uT (w:World) (T2:gZ l i j) (hf:Fam w0 w (ML l i j hb p m)) (hm:m.Ok) (x:Int) (hx:wfI x):Calls prog 156 #[.pointer (some ⟨p,0,none⟩),.int .i64 x] w (fun e w'=>e=.returned (.tuple #[])/\Fam w0 w' (ML l i j hb p (m.bG x))):=by
 refine aF fun R hR=>?_;obtain ⟨mb,v,hg⟩:=ML.mk T2 hf;obtain ⟨z0,_,_,_⟩:=hg.cells;have HF:=aA hf;have HM:=aA hm;have y9:=aA hx
 by_cases h8:x=0
 ·have h0:m.bG x=m:=by unfold Mk.bG;rw [if_neg (fun h=>(Mk.jV.1 h).1 h8)]
  rw [h0] at hR;subst h8;clear hf hm hg h0 hx;go_in;go_wp2_with fail;go_end0;exact hR.o _ _ ⟨rfl,HF.o⟩
 have z6:(x != 0)=true:=by simpa using h8
 have c:=ML.aPT T2 hf x hx;clear hf hm hg hx;go_in;go_wp2_with fail;go_fit c;rintro e w1 ⟨rfl,hf⟩;have x7:=aA hf;obtain ⟨mb,v,hg,ht⟩:=ML.mkT T2 hf;have HT:=aA ht;have HG:=aA hg;obtain ⟨z0,z1,z2,zf⟩:=hg.cells;clear c hf hg HF ht
 cases hs:(m.M.ob x).isSome with
 | false=>
  have h0:m.bG x=m:=by unfold Mk.bG;rw [if_neg (fun h=>by have:=(Mk.jV.1 h).2.1;rw [hs] at this;cases this)]
  rw [h0] at hR;clear h0 hs;go_wp2_with fail;go_end0;exact hR.o _ _ ⟨rfl,x7.o⟩
 | true=>
  have x2:=HM.o.hf.ok.inR hs;have x6:=HG.o.map.look y9.o
  by_cases hc:m.col x=0
  ·have h0:m.bG x=⟨m.M,jS m.col x 1,m.list ++ [x]⟩:=by unfold Mk.bG;rw [if_pos (Mk.jV.2 ⟨h8,hs,hc⟩)]
   rw [h0] at hR;rw [hc] at x6;obtain ⟨w2,z5,x1,y2⟩:=HG.o.map.store x2 (show wfI 1 by decide);have x9:=aA x1;have h1:Hid (Only [mb] w1 w2):=(Only.refl [mb] w1).grown y2 (fun k hk=>.inl (by cases hk;simp));have h3:=HG.o.ne;have x8:=aA h3;have z8:w2.cell? ⟨p,2,none⟩=some v:=h1.o.cell z2 (by simpa using h3);have z7:w2.cell? ⟨p,0,none⟩=some (.pointer (some ⟨hb,0,none⟩)):=h1.o.cell z0 (by simpa using h3);have y5:Hid (aN w2 0 v m.list):=HG.o.ints.only h1.o (fun k hk=>by have:=(HG.o.ne2 k hk).2;simpa using this);have y8:Hid (∃ U,Row w2 p U [.pointer (some ⟨hb,0,none⟩),.map (some mb),v]):=HG.o.row.imp fun U x=>h1.o.row x (by simpa using h3);have y6:=aA HM.o.len;have h4:=aA HG.o.ne2;have y3:p<w1.heap.size:=by obtain ⟨U,hr⟩:=HG.o.row;exact hr.lt
   have y7:=aA y3;clear h0 hs hc x2 x1 y2 h3 y3;go_wp2_with (at_builtin;refine bH rfl _ _ rfl 0 _ _ rfl (y5.o.alloc _) w2.heap.size x rfl ?c1 ?c2 ?c3 ?c4)
   case c1=>exact (Row.new w2 _ [_]).cell 0 rfl
   case c2=>have:=y6.o;omega
   case c3=>simp
   case c4=>
    intro v' w3 x3 h7 y1;obtain ⟨va,vc,rfl⟩:=x3.len;have h9:p∉v.ownBlock.toList:=fun d=>by
     cases e:v.ownBlock with
     | none=>rw [e] at d;simp at d
     | some g=>rw [e] at d;simp at d;exact (h4.o g e).1 d.symm
    have y0:mb∉v.ownBlock.toList:=fun d=>by
     cases e:v.ownBlock with
     | none=>rw [e] at d;simp at d
     | some g=>rw [e] at d;simp at d;exact (h4.o g e).2 d.symm
    have h2:∃ U,Row w3 p U [.pointer (some ⟨hb,0,none⟩),.map (some mb),v]:=y8.o.imp fun U x=>h7.row (x.alloc _) h9;have x5:w3.cell? ⟨p,2,none⟩=some v/\w3.frozen? ⟨p,2,none⟩=false:=by
     obtain ⟨U,x⟩:=h2;exact ⟨x.cell 2 rfl,x.free 2⟩
    obtain ⟨z3,z9⟩:=x5;have h6:∀ g,(Value.slice va (m.list ++ [x]).length vc).ownBlock=some g->v.ownBlock=some g\/w2.heap.size<=g:=fun g hg=>by
     rcases y1 with e|e
     ·exact .inl (e.symm.trans hg)
     right;rw [e] at hg;simp at hg;omega
    have h5:∀ g,(Value.slice va (m.list ++ [x]).length vc).ownBlock=some g->g≠p/\g≠mb:=fun g hg=>by
     rcases h6 g hg with e|e
     ·exact h4.o g e
     have q1:=h1.o.size;have q2:=y7.o;have q3:=x9.o.lt;exact ⟨by omega,by omega⟩
    have x4:Only [p] w3 (w3.setCell ⟨p,2,none⟩ (Value.slice va (m.list ++ [x]).length vc)):=(Only.refl [p] w3).set (.inl (by simp)) _;have hP:aI (fun k=>k=p\/k=mb\/v.ownBlock=some k) w1 (w3.setCell ⟨p,2,none⟩ (Value.slice va (m.list ++ [x]).length vc)):=by
     have p1:aI (fun k=>k=p\/k=mb\/v.ownBlock=some k) w1 (w2.alloc (.cells #[.int .i64 x] 3)):=(h1.o.toP (fun z hz=>.inl (.inr (.inl (by simpa using hz))))).alloc _;refine (p1.trans (h7.toP (S:=fun k=>v.ownBlock=some k) (fun z hz=>.inl (by
      cases e:v.ownBlock with
      | none=>rw [e] at hz;simp at hz
      | some g=>rw [e] at hz;simp at hz;rw [hz]))) (fun z hz=>.inl (.inr (.inr hz)))).set (.inl (.inl rfl)) _
    have y4:Hid (Fam w0 (w3.setCell ⟨p,2,none⟩ (Value.slice va (m.list ++ [x]).length vc)) (ML l i j hb p ⟨m.M,jS m.col x 1,m.list ++ [x]⟩)):=
     HT.o _ mb _ _ _ ⟨h2.imp fun U y=>y.set 2 _,((x9.o.rO ((Only.refl [] w2).alloc _) (by simp)).rO h7 y0).rO x4 (by simpa using Ne.symm x8.o),x3.only x4 (fun k hk=>by have:=(h5 k hk).1;simpa using this),x8.o,h5⟩ (.inl rfl)
      (fun g hg=>(h6 g hg).imp id (fun y=>Nat.le_trans h1.o.size y)) hP
    generalize (m.list ++ [x]).length=qn at*;clear x3 h7 y1 h9 y0 h2 h6 h5 x4 hP;go_wp2_with fail;go_end0;exact hR.o _ _ ⟨rfl,y4.o⟩
  have h0:m.bG x=m:=by unfold Mk.bG;rw [if_neg (fun h=>hc (Mk.jV.1 h).2.2)]
  rw [h0] at hR;have z4:(m.col x == 0)=false:=by simpa using hc
  clear h0 hs x2;go_wp2_with fail;go_end0;exact hR.o _ _ ⟨rfl,x7.o⟩
end
theorem mY.at {w:World} {a:Option Addr} {n c:Nat} {y:List Int} (h:mY w (.slice a n c) y) {k:Nat} (z:k<y.length):∃ b o,a=some ⟨b,o,none⟩/\w.cell? ⟨b,o+k,none⟩=some (.int .i64 (gI y k)):=by
 rcases h with ⟨b,o,c,e,hc⟩|⟨oa,c,e,d⟩
 ·cases e;exact ⟨b,o,rfl,hc k z⟩
 rw [d] at z;simp at z
theorem lY {m:Mk} {y:List Int} {k:Nat} (z:k<y.length):m.aY (y.take (k+1))=(m.aY (y.take k)).bG (gI y k):=by
 unfold Mk.aY;rw [List.take_succ_eq_append_getElem z,List.foldl_append];have:gI y k=y[k]:=by unfold gI;rw [List.getElem?_eq_getElem z];rfl
 rw [this];rfl
theorem jM {v:Value} {z:Nat} (h:z∈v.ownBlock.toList):v.ownBlock=some z:=by
 cases e:v.ownBlock with
 | none=>rw [e] at h;simp at h
 | some g=>rw [e] at h;simp at h;rw [h]
theorem aJA {v:Value} {z:Nat} (h:∀ g,v.ownBlock=some g->g≠z):z∉v.ownBlock.toList:=fun hm=>h z (jM hm) rfl
theorem aFv.aK {w w':World} {p hb z:Nat} {v:Value} {c:Int->Int} {t:List Int} (h:aFv w p hb z v c t) (y:Only [] w w'):aFv w' p hb z v c t:=
 ⟨h.row.imp fun U x=>y.row x (by simp),h.map.rO y (by simp),h.ints.only y (by simp),h.ne,h.ne2⟩
section
variable {w0 w:World} {l:List Asn} {i j hb p:Nat} {m:Mk}
theorem aCd (w:World) (T2:gZ l i j) (d:Fam w0 w (ML l i j hb p m)) (hm:m.Ok) (a:Option Addr) (n c:Nat) (y:List Int) (hl:y.length=n) (hn:n<=1000000) (hr:∀ w' m',Fam w0 w' (ML l i j hb p m')->mY w' (.slice a n c) y) (hw:∀ x∈y,wfI x) :
  Calls prog 155 #[.slice a n c,.func (.func 156) #[.pointer (some ⟨p,0,none⟩)] #[]] w (fun e w'=>e=.returned (.tuple #[])/\Fam w0 w' (ML l i j hb p (m.aY y))):=by
 refine aF fun R hR=>?_;have HF:=aA d;have HM:=aA hm;have h3:=aA hr;have HW:=aA hw;have HL:=aA hl;clear d hm hr hw hl;go_in;go_wp2;go_loopw [8] (fun iv wr=>∃ k:Nat,k<=n/\iv=.int .i64 k/\Fam w0 wr (ML l i j hb p (m.aY (y.take k)))) (fun iv _=>n - (intOf iv).toNat)
 case atStart=>exact ⟨0,by omega,rfl,HF.o⟩
 case round=>
  clear HF;obtain ⟨k,hk,rfl,d⟩:=hrel;have HF:=aA d;have HK:Hid ((m.aY (y.take k)).Ok):=Mk.Ok.aY _ _ HM.o;clear d
  by_cases h4:k<n
  ·have h1:(k:Int)<n:=by omega
   have h5:(0:Int)<=k:=by omega
   have z:k<y.length:=by rw [HL.o];exact h4
   obtain ⟨b,o,rfl,hc⟩:=(h3.o wr _ HF.o).at z;have h0:=HW.o (gI y k) (dX.2 ⟨k,z,rfl⟩);have cs:=uT wr T2 HF.o HK.o (gI y k) h0;have HN:Hid (m.aY (y.take (k+1))=(m.aY (y.take k)).bG (gI y k)):=lY z;rw [<-HN.o] at cs;clear HN h0 z;generalize gI y k=x at*;go_wp2_with fail;go_fit cs;rintro e w1 ⟨rfl,d⟩;have h2:=aA d;clear cs d hc HF;go_wp2;exact ⟨⟨k+1,by omega,by go_num,h2.o⟩,by simp [intOf];omega⟩
  obtain rfl:k=n:=by omega
  have h1:¬ (k:Int)<(k:Int):=by omega
  have HE:Hid (m.aY (y.take k)=m.aY y):=by show _=_;rw [List.take_of_length_le (by have:=HL.o;omega)]
  go_wp2_with fail;go_end0;exact hR.o _ _ ⟨rfl,by rw [<-HE.o];exact HF.o⟩
theorem aMq (w:World) (z:Nat) (x y:Int) (h:w.cell? ⟨z,0,none⟩=some (.int .i64 x)):Calls prog 256 #[.int .i64 y,.pointer (some ⟨z,0,none⟩)] w (aO w (.bool (decide (y=x)))):=by
 refine aF fun R d=>?_
 by_cases e:y=x
 ·subst e;go_in;go_wp2;exact d.o _ _ ⟨by simp,rfl⟩
 have e2:(y == x)=false:=by simpa using e
 go_in;go_wp2;exact d.o _ _ ⟨by simp [e],rfl⟩
theorem aBV (l:List Int) (x:Int):l.filter (dZ (fun y=>decide (y=x)))=bU l x:=by
 unfold bU dZ;congr 1;funext y
 by_cases e:y=x<;>simp [e]
theorem aOB (w:World) (T2:gZ l i j) (hf:Fam w0 w (ML l i j hb p m)) (h7:m.list.length<=1000000) (x:Int):Calls prog 232 #[.pointer (some ⟨p,0,none⟩),.int .i64 x] w (fun e w'=>e=.returned (.tuple #[])/\Fam w0 w' (ML l i j hb p ⟨m.M,m.col,bU m.list x⟩)):=by
 refine aF fun R hR=>?_;obtain ⟨mb,v,hg,ht⟩:=ML.mkT T2 hf;have HT:=aA ht;have HG:=aA hg;have h8:Hid (Row (w.alloc (.cells #[.int .i64 x] 3)) w.heap.size 3 [.int .i64 x]):=Row.new w 3 [_];have h6:∀ g,v.ownBlock=some g->g<w.heap.size:=fun g hv=>(hg.ints.own g hv).2;have cd:=aHX (w.alloc (.cells #[.int .i64 x] 3)) w.heap.size 0 (fun y=>decide (y=x)) v m.list (hg.ints.alloc _) h7 (fun g hv wr ho k hk=>aMq wr _ x _ (by
  have:=(ho.row h8.o (by have:=h6 g hv;simp;omega)).cell 0 rfl;exact this))
 rw [aBV] at cd;have h5:aFv (w.alloc (.cells #[.int .i64 x] 3)) p hb mb v m.col m.list:=hg.aK ((Only.refl [] w).alloc _);obtain ⟨z0,z1,z2,zf⟩:=h5.cells;clear hf hg ht h5 h6;go_in;go_wp2_with fail;go_fit cd;rintro e w2 ⟨v',rfl,hi,h0,ho⟩;have x1:=aA ho;have h2:p∉v.ownBlock.toList:=aJA (fun g hv=>(HG.o.ne2 g hv).1);have h4:mb∉v.ownBlock.toList:=aJA (fun g hv=>(HG.o.ne2 g hv).2);have h1:∃ U,Row w2 p U [.pointer (some ⟨hb,0,none⟩),.map (some mb),v]:=HG.o.row.imp fun U x=>ho.row (x.alloc _) h2;have hz:w2.cell? ⟨p,2,none⟩=some v/\w2.frozen? ⟨p,2,none⟩=false:=by
  obtain ⟨U,x⟩:=h1;exact ⟨x.cell 2 rfl,x.free 2⟩
 obtain ⟨z3,x2⟩:=hz;obtain ⟨va,vc,rfl⟩:=hi.len;have d:∀ g,(Value.slice va (bU m.list x).length vc).ownBlock=some g->g≠p/\g≠mb:=fun g hg=>HG.o.ne2 g (by rw [<-h0];exact hg);have h3:Only [p] w2 (w2.setCell ⟨p,2,none⟩ (Value.slice va (bU m.list x).length vc)):=(Only.refl [p] w2).set (.inl (by simp)) _;have hP:aI (fun k=>k=p\/k=mb\/v.ownBlock=some k) w (w2.setCell ⟨p,2,none⟩ (Value.slice va (bU m.list x).length vc)):=
  (((aI.refl _ w).alloc _).trans (ho.toP (S:=fun k=>v.ownBlock=some k) (fun z hz=>.inl (jM hz))) (fun z hz=>.inl (.inr (.inr hz)))).set (.inl (.inl rfl)) _
 have h9:Hid (Fam w0 (w2.setCell ⟨p,2,none⟩ (Value.slice va (bU m.list x).length vc)) (ML l i j hb p ⟨m.M,m.col,bU m.list x⟩)):=
  HT.o _ mb _ _ _ ⟨h1.imp fun U y=>y.set 2 _,((HG.o.map.rO ((Only.refl [] w).alloc _) (by simp)).rO ho h4).rO h3 (by simpa using Ne.symm HG.o.ne),hi.only h3 (fun k hk=>by have:=(d k hk).1;simpa using this),HG.o.ne,d⟩ (.inl rfl)
   (fun g hg=>.inl (by rw [<-h0];exact hg)) hP
 generalize (bU m.list x).length=qn at*;clear hi h0 ho h2 h4 h1 d h3 hP cd;go_wp2_with fail;go_end0;exact hR.o _ _ ⟨rfl,h9.o⟩
end
section
variable {w0 w:World} {l:List Asn} {i j hb p:Nat} {m:Mk}
theorem yV (w:World) (T2:gZ l i j) (hf:Fam w0 w (ML l i j hb p m)):Calls prog 113 #[.pointer (some ⟨p,0,none⟩)] w (aO w (.tuple #[.int .i64 m.next.1,.int .i64 m.next.2])):=by
 refine aF fun R z=>?_;obtain ⟨mb,v,hg⟩:=ML.mk T2 hf;obtain ⟨z0,z1,d,_⟩:=hg.cells;have hn:=fF w z0;have y:=hg.ints;clear hf hg;unfold Mk.next at z
 cases e:m.list with
 | nil=>
  rw [e] at y z;obtain ⟨a,c,rfl⟩:=y.len;clear y;replace d:w.cell? ⟨p,2,none⟩=some (.slice a 0 c):=d;go_in;go_wp2_with fail;go_fit hn;rintro e _ ⟨rfl,rfl⟩;go_wp2;exact z.o _ _ ⟨rfl,rfl⟩
 | cons x t=>
  rw [e] at y z;obtain ⟨a,c,rfl⟩:=y.len;obtain ⟨b,o,rfl,hc⟩:=y.read.at (k:=0) (by simp);rw [Nat.add_zero] at hc;replace hc:w.cell? ⟨b,o,none⟩=some (.int .i64 x):=hc;replace d:w.cell? ⟨p,2,none⟩=some (.slice (some ⟨b,o,none⟩) (t.length+1) c):=d;generalize t.length=n at*;clear y;have h0:((n:Int)+1 == 0)=false:=by rw [beq_eq_false_iff_ne];omega
  have h1:(0:Int)<(n:Int)+1:=by omega
  go_in;go_wp2_with fail;go_fit hn;rintro e _ ⟨rfl,rfl⟩;go_wp2;exact z.o _ _ ⟨rfl,rfl⟩
theorem yZ (w:World) (T2:gZ l i j) (hf:Fam w0 w (ML l i j hb p m)):Calls prog 28 #[.pointer (some ⟨p,0,none⟩)] w (aO w (.bool (decide (m.list=[])))):=by
 refine aF fun R y=>?_;obtain ⟨mb,v,hg⟩:=ML.mk T2 hf;obtain ⟨z0,z1,d,_⟩:=hg.cells;have hn:=fF w z0;have z:=hg.ints;clear hf hg
 cases e:m.list with
 | nil=>
  rw [e] at z y;obtain ⟨a,c,rfl⟩:=z.len;clear z;replace d:w.cell? ⟨p,2,none⟩=some (.slice a 0 c):=d;go_in;go_wp2_with fail;go_fit hn;rintro e _ ⟨rfl,rfl⟩;go_wp2;exact y.o _ _ ⟨rfl,rfl⟩
 | cons x t=>
  rw [e] at z y;obtain ⟨a,c,rfl⟩:=z.len;clear z;replace d:w.cell? ⟨p,2,none⟩=some (.slice a (t.length+1) c):=d;replace y:Hid (∀ e w',aO w (.bool false) e w'->R e w'):=y;generalize t.length=n at*;have h0:((n:Int)+1 == 0)=false:=by rw [beq_eq_false_iff_ne];omega
  go_in;go_wp2_with fail;go_fit hn;rintro e _ ⟨rfl,rfl⟩;go_wp2;exact y.o _ _ ⟨rfl,rfl⟩
theorem jK (w:World) (d:gZ l i j) (y:Fam w0 w (ML l i j hb p m)):Calls prog 74 #[.pointer (some ⟨p,0,none⟩)] w (aO w (.pointer (some ⟨hb,0,none⟩))):=by
 refine aF fun R hR=>?_;obtain ⟨mb,v,z⟩:=ML.mk d y;obtain ⟨z0,z1,z2,_⟩:=z.cells;have hn:=fF w z0;clear y z;go_in;go_wp2_with fail;go_fit hn;rintro e _ ⟨rfl,rfl⟩;go_wp2;exact hR.o _ _ ⟨rfl,rfl⟩
theorem uI (w:World) (T2:gZ l i j) (d:Fam w0 w (ML l i j hb p m)) (x:Int) (hx:wfI x):Calls prog 25 #[.pointer (some ⟨p,0,none⟩),.int .i64 x] w (Same w (.tuple #[.int .i64 (m.color x).1,.int .i64 (m.color x).2])):=by
 refine aF fun R z=>?_;obtain ⟨mb,v,hg⟩:=ML.mk T2 d;obtain ⟨z0,z1,z2,_⟩:=hg.cells;have hn:=fF w z0;obtain ⟨hk,L,X,hp⟩:=ML.ph T2 d;have y:=yR w hp x hx;have h0:Hid (∀ n,(Instr.lookup 127 (.map (some mb)) (.int .i64 x) false).run prog (w.drewN n)=.ok (.int .i64 (m.col x)) (w.drewN n)):=fun n=>(hg.map.rO ((Only.refl [] w).drewN n) (by simp)).look hx;have h3:Hid (∀ n,(w.drewN n).cell? ⟨p,1,none⟩=some (.map (some mb))):=fun n=>z1;unfold Mk.color at z;clear d hg hp hk
 cases hs:(m.M.ob x).isSome with
 | true=>
  rw [hs] at y z;go_in;go_wp2_with fail;go_fit hn;rintro e _ ⟨rfl,rfl⟩;go_wp2_with fail;go_fit y;rintro e _ ⟨rfl,n,rfl⟩;have h1:=h0.o n;have h2:=h3.o n;clear y;go_wp2;exact z.o _ _ ⟨rfl,n,rfl⟩
 | false=>
  rw [hs] at y z;go_in;go_wp2_with fail;go_fit hn;rintro e _ ⟨rfl,rfl⟩;go_wp2_with fail;go_fit y;rintro e _ ⟨rfl,n,rfl⟩;clear y;go_wp2;exact z.o _ _ ⟨rfl,n,rfl⟩
theorem aAS (w:World) (T2:gZ l i j) (y:Fam w0 w (ML l i j hb p m)) (hm:m.Ok) (x:Int) (hx:wfI x):Calls prog 123 #[.pointer (some ⟨p,0,none⟩),.int .i64 x] w (fun e w'=>e=.returned (.int .i64 (m.jX x))/\Fam w0 w' (ML l i j hb p (m.bG x))):=by
 refine aF fun R hR=>?_;obtain ⟨mb,v,hg⟩:=ML.mk T2 y;obtain ⟨z0,z1,z2,_⟩:=hg.cells;have hn:=fF w z0;have HF:=aA y;have HM:=aA hm;have h1:=aA hx
 by_cases d:x=0
 ·have he:m.jX x=0:=by unfold Mk.jX;rw [if_neg (fun h=>h.1 d)]
  rw [he] at hR;have cs:=uT w T2 y hm x hx;clear y hg hm hx he;subst d;go_in;go_wp2_with fail;go_fit hn;rintro e _ ⟨rfl,rfl⟩;go_wp2_with fail;go_fit cs;rintro e w1 ⟨rfl,y⟩;have z:=aA y;clear y cs;go_wp2;exact hR.o _ _ ⟨rfl,z.o⟩
 have h2:(x != 0)=true:=by simpa using d
 have hu:=ML.aPT T2 y x hx
 cases hs:(m.M.ob x).isSome with
 | true=>
  have he:m.jX x=0:=by unfold Mk.jX;rw [if_neg (fun h=>by have:=h.2;rw [hs] at this;cases this)]
  rw [he] at hR;rw [hs] at hu;clear y hg hm hx he;go_in;go_wp2_with fail;go_fit hn;rintro e _ ⟨rfl,rfl⟩;go_wp2_with fail;go_fit hu;rintro e w1 ⟨rfl,y⟩;have cs:=uT w1 T2 y HM.o x h1.o;clear y hu;go_wp2_with fail;go_fit cs;rintro e w2 ⟨rfl,y⟩;have z:=aA y;clear y cs;go_wp2;exact hR.o _ _ ⟨rfl,z.o⟩
 | false=>
  have he:m.jX x=3:=by unfold Mk.jX;rw [if_pos ⟨d,hs⟩]
  have h0:m.bG x=m:=by unfold Mk.bG;rw [if_neg (fun h=>by have:=(Mk.jV.1 h).2.1;rw [hs] at this;cases this)]
  rw [he,h0] at hR;rw [hs] at hu;clear y hg hm hx he h0;go_in;go_wp2_with fail;go_fit hn;rintro e _ ⟨rfl,rfl⟩;go_wp2_with fail;go_fit hu;rintro e w1 ⟨rfl,y⟩;have z:=aA y;clear y hu;go_wp2;exact hR.o _ _ ⟨rfl,z.o⟩
end
theorem aAi (w:World) (b of n c:Nat) (l:List Int) (hl:l.length=n) (y:n<=17592186044416) (hc:∀ i,i<n->w.cell? ⟨b,of+i,none⟩=some (.int .i64 (gI l i))) :
  Calls prog 80 #[.slice (some ⟨b,of,none⟩) n c] w fun e w'=>∃ v,e=.returned v/\aN w' w.heap.size v l/\Only [] w w'/\v≠.slice none 0 0:=by
 have hq:=fun (wx:World)=>Lib.run_eql_slice_nil (P:=prog) wx 23 3 (some ⟨b,of,none⟩) n c 0 0 Tryz.underlying23;have z:=aA hl;have HC:=aA hc;clear hl hc;refine aF fun R hR=>?_;go_in;go_wp2_with (at_builtin;refine gW rfl _ _ rfl w.heap.size _ _ rfl (aN.made w) ⟨b,of,none⟩ n c l rfl ?_ ?_ ?_ ?_ ?_)
 ·exact z.o
 ·intro j u hu;have hj:j<n:=by have:=(List.getElem?_eq_some_iff.1 hu).1;have:=z.o;omega
  have d:=HC.o j hj;rw [show (⟨b,of,none⟩:Addr).add j=⟨b,of+j,none⟩ by unfold Addr.add;split<;>simp_all]
  rw [World.cell?_alloc_past _ _ _ (World.block_lt_of_cell? w _ d),d,gI,hu];rfl
 ·simp;omega
 ·simp
 intro v w1 hv ho y h0;have HN:Hid (v≠.slice none 0 0):=by intro e;simp [e] at y
 clear y;go_wp2;exact hR.o _ _ ⟨v,rfl,hv,((Only.refl _ _).alloc _).trans ho (fun x hx=>.inr (by simp [Value.ownBlock] at hx;omega)),HN.o⟩
theorem Mk.Ok.rest {m:Mk} (h:m.Ok) {x:Int} {t:List Int} (e:m.list=x :: t):(⟨m.M,jS m.col x 2,t⟩:Mk).Ok/\(⟨m.M,jS m.col x 2,t⟩:Mk).aY (m.M.refs x).1=m.dR x:=by
 have y:m.list.drop 1=t:=by rw [e];rfl
 have z:=vW e h.nd;rw [y] at z;refine ⟨by rw [z];exact h.black (h.aCy (by rw [e];simp)),by unfold Mk.dR;rw [y]⟩
theorem ML.app {l:List Asn} {i j hb p:Nat} {m:Mk} (h:gZ l i j) (A:Asn):ML (l ++ [A]) i j hb p m=ML l i j hb p m ++ [A]:=by
 unfold ML;rw [List.set_append_left _ _ h.hi,List.set_append_left _ _ (by rw [List.length_set];exact h.hj)]
theorem gZ.app {l:List Asn} {i j:Nat} (h:gZ l i j) (A:Asn):gZ (l ++ [A]) i j:=⟨by have:=h.hi;simp;omega,by have:=h.hj;simp;omega,h.ne⟩
theorem ML.at {l:List Asn} {i j hb p:Nat} {m:Mk} {A:Asn} (h:gZ l i j):(ML (l ++ [A]) i j hb p m)[l.length]?=some A:=by
 rw [ML.app h];have:(ML l i j hb p m).length=l.length:=by unfold ML;simp
 rw [<-this];simp
theorem aOw {M:Hp} (z:M.Ok) {x y:Int} (d:y∈(M.refs x).1):wfI y:=by
 obtain ⟨_,h⟩:=aFK z d;exact z.wfH h
theorem rF {M:Hp} (y:M.Ok) (x:Int):(M.refs x).1.length<=48:=by
 unfold Hp.refs
 cases e:M.ob x with
 | none=>simp
 | some o=>
  have z:=o.jY o.slots.length;have d:=(y.th x o e).le;show (o.fE o.slots.length).length<=48;omega
section
variable {w0 w:World} {l:List Asn} {i j hb p:Nat} {m:Mk}
theorem aDg (w:World) (T2:gZ l i j) (hf:Fam w0 w (ML l i j hb p m)) (hm:m.Ok):Calls prog 70 #[.pointer (some ⟨p,0,none⟩)] w (fun e w'=>e=.returned (.tuple #[.int .i64 m.step.1,.int .i64 m.step.2.1])/\Fam w0 w' (ML l i j hb p m.step.2.2)):=by
 refine aF fun R hR=>?_;have cn:=yV w T2 hf;have x9:m.next=(m.step.1,m.step.2.1):=by unfold Mk.next Mk.step;cases m.list<;>rfl
 rw [x9] at cn
 cases e:m.list with
 | nil=>
  have hs:m.step=(0,3,m):=by unfold Mk.step;rw [e]
  rw [hs] at cn hR;have HF:=aA hf;clear hf hm x9 hs e;go_in;go_wp2_with fail;go_fit cn;rintro e _ ⟨rfl,rfl⟩;go_wp2;exact hR.o _ _ ⟨rfl,HF.o⟩
 | cons x t=>
  have hs:m.step=(x,0,m.dR x):=by unfold Mk.step;rw [e]
  rw [hs] at cn hR;obtain ⟨mb,v,hg,ht⟩:=ML.mkT T2 hf;have HT:=aA ht;have HG:=aA hg;have HF:=aA hf;have HM:=aA hm;have HE:=aA e;obtain ⟨z0,z1,z2,zf⟩:=hg.cells;have hi:=hg.ints;rw [e] at hi;have HI:=aA hi;obtain ⟨a,c,rfl⟩:=hi.len;obtain ⟨b,o,rfl,hc⟩:=hi.read.at (k:=0) (by simp);replace z2:w.cell? ⟨p,2,none⟩=some (.slice (some ⟨b,o,none⟩) (t.length+1) c):=z2;have a8:t.length+1<=c:=by
   rcases hi.form with ⟨h1,_⟩|⟨g,cap,h1,_,_,h3,_⟩
   ·cases h1
   simp only [Value.slice.injEq] at h1;obtain ⟨_,_,rfl⟩:=h1;exact h3
  have CL:Hid (∀ o' cc,(o'=o+1\/t.length=0)->Calls prog 80 #[.slice (some ⟨b,o',none⟩) t.length cc] w (fun e w'=>∃ v,e=.returned v/\aN w' w.heap.size v t/\Only [] w w')):=fun o' cc ho=>by
   refine (aAi w b o' t.length cc t rfl (by have:=hm.len;rw [e] at this;simp at this;omega) (fun k hk=>?_)).mono (fun e w' ⟨v,h1,h2,h3,_⟩=>⟨v,h1,h2,h3⟩);rcases ho with rfl|h0
   ·obtain ⟨b2,o2,e2,h4⟩:=HI.o.read.at (k:=k+1) (by simp;omega)
    cases e2
    rw [show o+1+k=o+(k+1) by omega,h4];simp [gI]
   omega
  obtain ⟨x3,x4⟩:=hm.rest e;have a1:=aA x3;have a5:=aA x4;have y6:=hm.inR (x:=x) (by rw [e];simp);have a6:=aA y6;have z8:wfI x:=dI (by omega);have a3:=aA z8;have y4:Hid (p<w.heap.size):=by obtain ⟨U,hr⟩:=hg.row;exact hr.lt
  have a4:Hid (∃ U,Row w p U [.pointer (some ⟨hb,0,none⟩),.map (some mb),.slice (some ⟨b,o,none⟩) (t.length+1) c]):=hg.row;have b3:Hid (b≠p/\b≠mb):=hg.ne2 b rfl;have a2:Hid (∀ (w':World) (v':Value) (c:Int->Int) (t:List Int),aFv w' p hb mb v' c t->(∀ g,v'.ownBlock=some g->w.heap.size<=g)->aI (fun k=>k=p\/k=mb\/some b=some k) w w'->Fam w0 w' (ML l i j hb p ⟨m.M,c,t⟩)):=fun w' v' c t h1 h2 h3=>ht w' mb v' c t h1 (.inl rfl) (fun g hg=>.inr (h2 g hg)) h3;have y8:=aA hg.map;have x5:=aA hg.ne;clear hf hm x9 hs e hg ht hi hc x3 x4 y6 z8 HG HT;generalize t.length=n at*;go_in;go_wp2_with fail;go_fit cn;rintro e _ ⟨rfl,rfl⟩;go_wp2_with fail
  all_goals (
   refine (CL.o _ _ (by first|exact .inl rfl|(right;omega))).mono ?_;rintro e w1 ⟨v1,rfl,h6,h8⟩;have b0:=aA h6;have b1:=aA h8;have d:∃ U,Row w1 p U [.pointer (some ⟨hb,0,none⟩),.map (some mb),.slice (some ⟨b,o,none⟩) (n+1) c]:=a4.o.imp fun U x=>h8.row x (by simp);have b4:=aA d;have hz:w1.cell? ⟨p,2,none⟩=some (.slice (some ⟨b,o,none⟩) (n+1) c)/\w1.frozen? ⟨p,2,none⟩=false/\w1.cell? ⟨p,0,none⟩=some (.pointer (some ⟨hb,0,none⟩))/\w1.cell? ⟨p,1,none⟩=some (.map (some mb)):=by
    obtain ⟨U,x⟩:=d;exact ⟨x.cell 2 rfl,x.free 2,x.cell 0 rfl,x.cell 1 rfl⟩
   obtain ⟨y2,yf,y0,y1⟩:=hz;have h9:Hid (∀ g,v1.ownBlock=some g->w.heap.size<=g/\g<w1.heap.size):=fun g hg=>h6.own g hg;have x1:Only [p] w1 (w1.setCell ⟨p,2,none⟩ v1):=(Only.refl [p] w1).set (.inl (by simp)) _;have h5:∃ U,Row (w1.setCell ⟨p,2,none⟩ v1) p U [.pointer (some ⟨hb,0,none⟩),.map (some mb),v1]:=d.imp fun U y=>y.set 2 _;have z5:aAs (w1.setCell ⟨p,2,none⟩ v1) mb m.col:=(y8.o.rO h8 (by simp)).rO x1 (by simpa using Ne.symm x5.o);have z3:aN (w1.setCell ⟨p,2,none⟩ v1) 0 v1 t:=(h6.base (Nat.zero_le _)).only x1 (fun k hk=>by have:=h9.o k hk;have:=y4.o;simp;omega);obtain ⟨w3,a9,y5,y7⟩:=z5.store a6.o (v:=2) (by decide);have x2:Only [mb] (w1.setCell ⟨p,2,none⟩ v1) w3:=(Only.refl [mb] _).grown y7 (fun k hk=>.inl (by cases hk;simp));have a7:mb<w.heap.size:=y8.o.lt;have x6:aFv w3 p hb mb v1 (jS m.col x 2) t:=⟨h5.imp fun U y=>x2.row y (by simpa using x5.o),y5,z3.only x2 (fun k hk=>by have:=h9.o k hk;simp;omega),x5.o,fun g hg=>by have:=h9.o g hg;have:=y4.o;exact ⟨by omega,by omega⟩⟩;have hP:aI (fun k=>k=p\/k=mb\/some b=some k) w w3:=((h8.vU (S:=fun k=>k=p\/k=mb\/some b=some k)).trans (x1.toP (S:=fun k=>k=p) (fun z hz=>.inl (by simpa using hz))) (fun z hz=>.inl (.inl hz))).trans (x2.toP (S:=fun k=>k=mb) (fun z hz=>.inl (by simpa using hz))) (fun z hz=>.inl (.inr (.inl hz)));have x7:=a2.o w3 v1 _ _ x6 (fun g hg=>(h9.o g hg).1) hP;have z9:=aA x7;obtain ⟨q0,q1,q2,qf⟩:=x6.cells;obtain ⟨z4,L3,X3,z7⟩:=ML.ph T2 x7;have cr:=aMj w3 z7 z4 x a3.o;have b5:(w1.setCell ⟨p,2,none⟩ v1).cell? ⟨p,1,none⟩=some (.map (some mb)):=by
    obtain ⟨U,x⟩:=h5;exact x.cell 1 rfl
   obtain ⟨va,vc,rfl⟩:=h6.len;clear d x1 h5 z5 z3 y5 y7 x2 a7 x6 hP x7 z7 z4 h6 h8;generalize t.length=n1 at*;go_wp2_with fail;go_fit cr;rintro e w4 ⟨vr,rfl,x8,z6⟩;have y3:Hid (Fam w0 w4 (ML (l ++ [bT vr (m.M.refs x).1]) i j hb p ⟨m.M,jS m.col x 2,t⟩)):=by
    show Fam _ _ _;rw [ML.app T2];exact z9.o.gY z6 x8
   obtain ⟨ra,rc,rfl⟩:=x8.len;have ce:=aCd w4 (T2.app _) y3.o a1.o ra _ rc (m.M.refs x).1 rfl (by have:=rF HM.o.hf.ok x;omega) (fun w' m' h7=>(h7.ints l.length (ML.at T2)).read) (fun y hy=>aOw HM.o.hf.ok hy);replace ce:Calls prog 155 #[.slice ra (m.M.refs x).1.length rc,.func (.func 156) #[.pointer (some ⟨p,0,none⟩)] #[]] w4 (fun e w'=>e=.returned (.tuple #[])/\Fam w0 w' (ML l i j hb p (m.dR x))):=ce.mono (fun e w' ⟨h1,h2⟩=>⟨h1,by
    rw [a5.o,ML.app T2] at h2;exact h2.pop⟩)
   clear cr x8 z6 y3;go_wp2_with fail;go_fit ce;rintro e w5 ⟨rfl,y9⟩;have a0:=aA y9;clear ce y9;go_wp2;exact hR.o _ _ ⟨rfl,a0.o⟩)
end
theorem aQN {M:Hp} (z:M.Ok) (a s:Int):wfI (M.get a s).1:=by
 unfold Hp.get
 cases e:M.ob a with
 | none=>exact dI (by show (-9223372036854775808:Int)<=0/\(0:Int)<=9223372036854775807;omega)
 | some o=>
  simp only;split
  ·exact dI (by show (-9223372036854775808:Int)<=0/\(0:Int)<=9223372036854775807;omega)
  rename_i h;show wfI (gI o.slots s.toNat);have y:=z.sl a o e s.toNat (by omega);unfold Hp.fits at y;split at y
  ·simp only [Bool.or_eq_true,decide_eq_true_eq] at y;rcases y with y|y
   ·rw [y];decide
   exact z.wfH y
  unfold iY at y;have:=of_decide_eq_true y;exact dI (by omega)
section
variable {w0 w:World} {l:List Asn} {i j hb p:Nat} {m:Mk}
theorem ML.aQa (w:World) (T2:gZ l i j) (hf:Fam w0 w (ML l i j hb p m)) {x:Int} (hx:1<=x/\x<=192) {v:Int} (hv:wfI v):∃ e,w.cell? ⟨p,1,none⟩=some (.map (some e))/\∃ w',(Instr.mapUpdate 127 (.map (some e)) (.int .i64 x) (.int .i64 v)).run prog w=.ok () w'/\Fam w0 w' (ML l i j hb p ⟨m.M,jS m.col x v,m.list⟩):=by
 obtain ⟨e,vv,d,ht⟩:=ML.mkT T2 hf;obtain ⟨z0,z1,z2,zf⟩:=d.cells;obtain ⟨w',h1,h2,h3⟩:=d.map.store hx hv;have ho:Only [e] w w':=(Only.refl [e] _).grown h3 (fun k hk=>.inl (by cases hk;simp));refine ⟨e,z1,w',h1,ht w' e vv _ _ ⟨d.row.imp fun U y=>ho.row y (by simpa using d.ne),h2,d.ints.only ho (fun k hk=>by have:=(d.ne2 k hk).2;simpa using this),d.ne,d.ne2⟩ (.inl rfl) (fun g d=>.inl d) (ho.toP (fun z hz=>.inl (.inr (.inl (by simpa using hz)))))⟩
theorem aDi (w:World) (T2:gZ l i j) (y:Fam w0 w (ML l i j hb p m)) (h0:m.list.length<=1000000) (x z:Int) (hx:z=0->1<=x/\x<=192):Calls prog 192 #[.pointer (some ⟨p,0,none⟩),.int .i64 x,.int .i64 z] w (fun e w'=>e=.returned (.tuple #[.int .i64 x,.int .i64 z])/\Fam w0 w' (ML l i j hb p (if z=0 then m.black x else m))):=by
 refine aF fun R hR=>?_;have HF:=aA y
 by_cases he:z=0
 ·subst he;rw [if_pos rfl] at hR;have co:=aOB w T2 y h0 x;have HX:=aA (hx rfl);clear y hx;go_in;go_wp2_with fail;go_fit co;rintro e w1 ⟨rfl,y⟩;obtain ⟨mb,z1,w2,h3,d⟩:=ML.aQa w1 T2 y HX.o (show wfI 2 by decide);have h1:Hid (Fam w0 w2 (ML l i j hb p (m.black x))):=d;clear co y d HF;go_wp2;exact hR.o _ _ ⟨rfl,h1.o⟩
 rw [if_neg he] at hR;have h2:(z == 0)=false:=by simpa using he
 clear y hx;go_in;go_wp2;exact hR.o _ _ ⟨rfl,HF.o⟩
theorem aAx (w:World) (T2:gZ l i j) (d:Fam w0 w (ML l i j hb p m)) (hm:m.Ok) (c:Int) (v:Value) (y:List Bool) (hv:aBt w v y) (hl:y.length<=1000000):Calls prog 118 #[.pointer (some ⟨p,0,none⟩),.int .i64 c,v] w (fun e w'=>e=.returned (.tuple #[.int .i64 (m.aH c y).1,.int .i64 (m.aH c y).2.1])/\Fam w0 w' (ML l i j hb p (m.aH c y).2.2)):=by
 refine aF fun R hR=>?_;obtain ⟨mb,vv,hg⟩:=ML.mk T2 d;obtain ⟨z0,z1,z2,_⟩:=hg.cells;have hn:=fF w z0;have c1:=d.aCU i (ML.heap T2) (M':=(m.M.aH c y).2.2) (fun hk=>hk.aH c y) (fun L X hr hk=>rU w hr hk c v y hv hl);rw [ML.put T2] at c1;have HM:=aA hm;have z:=m.M.iJ c y;have HX:Hid ((m.M.aH c y).2.1=0->1<=(m.M.aH c y).1/\(m.M.aH c y).1<=192):=fun h0=>by
  obtain ⟨_,_,o,ho,_⟩:=z.yes h0;exact (z.ok hm.hf).ok.hr _ o ho
 unfold Mk.aH Mk.made at hR;simp only at hR;clear d hg hm z hv hl;generalize m.M.aH c y=r at*;obtain ⟨r1,r2,M2⟩:=r;go_in;go_wp2_with fail;go_fit hn;rintro e _ ⟨rfl,rfl⟩;go_wp2_with fail;go_fit c1;rintro e w1 ⟨rfl,d⟩;have c2:=aDi w1 T2 d (by have:=HM.o.len;show m.list.length<=1000000;omega) r1 r2 HX.o;clear c1 d hn;go_wp2_with fail;go_fit c2;rintro e w2 ⟨rfl,d⟩;have h1:=aA d;clear c2 d;go_wp2;exact hR.o _ _ ⟨rfl,h1.o⟩
theorem jQ (w:World) (d:gZ l i j) (z:Fam w0 w (ML l i j hb p m)) (hm:m.Ok) (k c n:Int):Calls prog 119 #[.pointer (some ⟨p,0,none⟩),.int .i64 k,.int .i64 c,.int .i64 n] w (fun e w'=>e=.returned (.tuple #[.int .i64 (m.aG k c n).1,.int .i64 (m.aG k c n).2.1])/\Fam w0 w' (ML l i j hb p (m.aG k c n).2.2)):=by
 refine aF fun R hR=>?_;obtain ⟨mb,vv,hg⟩:=ML.mk d z;obtain ⟨z0,z1,z2,_⟩:=hg.cells;have hn:=fF w z0;have c1:=z.aCU i (ML.heap d) (M':=(m.M.aG k c n).2.2) (fun hk=>hk.aG k c n) (fun L X hr hk=>vY w hr hk k c n);rw [ML.put d] at c1;have HM:=aA hm;have y:=m.M.jJ k c n;have HX:Hid ((m.M.aG k c n).2.1=0->1<=(m.M.aG k c n).1/\(m.M.aG k c n).1<=192):=fun h0=>by
  obtain ⟨_,_,o,ho,_⟩:=y.yes h0;exact (y.ok hm.hf).ok.hr _ o ho
 unfold Mk.aG Mk.made at hR;simp only at hR;clear z hg hm y;generalize m.M.aG k c n=r at*;obtain ⟨r1,r2,M2⟩:=r;go_in;go_wp2_with fail;go_fit hn;rintro e _ ⟨rfl,rfl⟩;go_wp2_with fail;go_fit c1;rintro e w1 ⟨rfl,z⟩;have c2:=aDi w1 d z (by have:=HM.o.len;show m.list.length<=1000000;omega) r1 r2 HX.o;clear c1 z hn;go_wp2_with fail;go_fit c2;rintro e w2 ⟨rfl,z⟩;have h1:=aA z;clear c2 z;go_wp2;exact hR.o _ _ ⟨rfl,h1.o⟩
theorem aHi (w:World) (T2:gZ l i j) (hf:Fam w0 w (ML l i j hb p m)) (hm:m.Ok) (a s y:Int) (ha:wfI a) (hy:wfI y):Calls prog 126 #[.pointer (some ⟨p,0,none⟩),.int .i64 a,.int .i64 s,.int .i64 y] w (fun e w'=>e=.returned (.int .i64 (m.store a s y).1)/\Fam w0 w' (ML l i j hb p (m.store a s y).2)):=by
 refine aF fun R hR=>?_;obtain ⟨mb,vv,hg⟩:=ML.mk T2 hf;obtain ⟨z0,z1,z2,_⟩:=hg.cells;have hn:=fF w z0;obtain ⟨d,L,X,hp⟩:=ML.ph T2 hf;have c1:=sG w hp d a s ha;have c2:=aKz w hp d a s ha;have h4:Hid (∀ n,Calls prog 127 #[.pointer (some ⟨hb,0,none⟩),.int .i64 a,.int .i64 s,.int .i64 y] (w.drewN n) (fun e w'=>e=.returned (.int .i64 (m.M.set a s y).1)/\Fam w0 w' (ML l i j hb p (m.put (m.M.set a s y).2)))):=fun n=>by
  have c3:=(hf.drewN n).aCU i (ML.heap T2) (M':=(m.M.set a s y).2) (fun d=>d.set a s y) (fun L X hr d=>aJg (w.drewN n) hr d a s y ha hy);rw [ML.put T2] at c3;exact c3
 have h5:Hid (∀ n,(w.drewN n).cell? ⟨p,0,none⟩=some (.pointer (some ⟨hb,0,none⟩))):=fun n=>z0;have h9:Hid ((m.put (m.M.set a s y).2).Ok):=hm.put (hm.hf.set a s y) (fun k d=>by rw [Hp.oP];exact d);have h6:=aA (aQN d a s);have x1:=aA hy;unfold Mk.store at hR;simp only at hR;clear hf hg hm hp d ha hy;generalize (m.M.isRef a s).1=rf at*;generalize (m.M.isRef a s).2=re at*;generalize (m.M.get a s).1=h0 at*;generalize (m.M.get a s).2=oe at*;generalize (m.M.set a s y).1=se at*;generalize m.put (m.M.set a s y).2=m2 at*;go_in;go_wp2_with fail;go_fit hn;rintro e _ ⟨rfl,rfl⟩;go_wp2_with fail;go_fit c1;rintro e _ ⟨rfl,rfl⟩;go_wp2_with fail;go_fit c2;rintro e _ ⟨rfl,n,rfl⟩;have c3:=h4.o n;have x3:=h5.o n;clear c1 c2 hn h4 h5 z0 z1 z2;go_wp2_with fail;go_fit c3;rintro e w1 ⟨rfl,hf⟩;have HF:=aA hf;clear c3 hf x3;generalize w.drewN n=wn at *
 by_cases hc:se=0/\rf=true
 ·obtain ⟨rfl,rfl⟩:=hc;rw [if_pos ⟨rfl,rfl⟩] at hR;have h3:=HF.o.addRow 3 [.int .i64 h0,.int .i64 y];rw [<-ML.app T2] at h3;have ce:=aCd _ (T2.app _) h3 h9.o (some ⟨w1.heap.size,0,none⟩) 2 2 [h0,y] rfl (by omega) (fun w' m' h7=>by
   have hr:=h7.row l.length (ML.at T2);refine .inl ⟨w1.heap.size,0,2,rfl,fun k d=>?_⟩
   match k,d with
   | 0,_=>exact hr.cell 0 rfl
   | 1,_=>exact hr.cell 1 rfl) (fun z hz=>by
    rcases List.mem_cons.1 hz with e|e
    ·rw [e];exact h6.o
    simp at e;rw [e];exact x1.o)
  replace ce:Calls prog 155 #[.slice (some ⟨w1.heap.size,0,none⟩) 2 2,.func (.func 156) #[.pointer (some ⟨p,0,none⟩)] #[]] (w1.alloc (.cells #[.int .i64 h0,.int .i64 y] 3)) (fun e w'=>e=.returned (.tuple #[])/\Fam w0 w' (ML l i j hb p ((m2.bG h0).bG y))):=ce.mono (fun e w' ⟨h1,h2⟩=>⟨h1,by
   rw [ML.app T2] at h2;exact h2.pop⟩)
  clear h3;go_wp2_with fail;go_fit ce;rintro e w2 ⟨rfl,hf⟩;have h8:=aA hf;clear hf ce;go_wp2;exact hR.o _ _ ⟨rfl,h8.o⟩
 rw [if_neg hc] at hR
 by_cases hs:se=0
 ·subst hs;have x2:rf=false:=by cases rf;rfl;exact absurd ⟨rfl,rfl⟩ hc
  subst x2;clear hc;go_wp2;exact hR.o _ _ ⟨rfl,HF.o⟩
 have x4:(se == 0)=false:=by simpa using hs
 clear hc;go_wp2;exact hR.o _ _ ⟨rfl,HF.o⟩
end
theorem aGz (w:World) (d p mb:Nat) (y:Int->Int) (x:Int) (hx:wfI x) (h1:w.cell? ⟨d,0,none⟩=some (.pointer (some ⟨p,0,none⟩))) (h2:w.cell? ⟨p,1,none⟩=some (.map (some mb))) (h3:aAs w mb y):Calls prog 305 #[.int .i64 x,.pointer (some ⟨d,0,none⟩)] w (aO w (.bool (decide (y x≠0)))):=by
 refine aF fun R z=>?_;have hl:=h3.look hx;clear h3 hx
 by_cases e:y x=0
 ·have hd:decide (y x≠0)=false:=by simp [e]
  rw [hd] at z;rw [e] at hl;clear hd e;go_in;go_wp2;exact z.o _ _ ⟨rfl,rfl⟩
 have hd:decide (y x≠0)=true:=by simp [e]
 have hb:(y x != 0)=true:=by simpa using e
 rw [hd] at z;generalize y x=c at*;clear hd;go_in;go_wp2;exact z.o _ _ ⟨rfl,rfl⟩
section
variable {w0 w:World} {l:List Asn} {i j hb p:Nat} {m:Mk}
theorem aHh (w:World) (T2:gZ l i j) (hf:Fam w0 w (ML l i j hb p m)):Calls prog 303 #[.pointer (some ⟨p,0,none⟩)] w (aOb w m.white):=by
 refine aF fun R hR=>?_;obtain ⟨mb,vv,d⟩:=ML.mk T2 hf;have h8:=d.aK ((Only.refl [] w).alloc (.cells #[.pointer (some ⟨p,0,none⟩)] 32));obtain ⟨z0,z1,z2,_⟩:=h8.cells;have hn:=fF _ z0;have h6:=hf.alloc (.cells #[.pointer (some ⟨p,0,none⟩)] 32);obtain ⟨hk,L,X,hp⟩:=ML.ph T2 h6;have ch:=qJ _ hp hk;have HG:=aA d;have HK:=aA hk;have h2:Hid (Row (w.alloc (.cells #[.pointer (some ⟨p,0,none⟩)] 32)) w.heap.size 32 [.pointer (some ⟨p,0,none⟩)]):=Row.new w 32 [_];have h3:Hid (Only [] w (w.alloc (.cells #[.pointer (some ⟨p,0,none⟩)] 32))):=(Only.refl [] w).alloc _;have cb:=h2.o.cell 0 rfl;have h4:Hid (w.heap.size<(w.alloc (.cells #[.pointer (some ⟨p,0,none⟩)] 32)).heap.size):=by show _<_;simp
 have x3:Hid (p<w.heap.size/\mb<w.heap.size):=⟨by obtain ⟨U,hr⟩:=d.row;exact hr.lt,d.map.lt⟩;clear hf d h8 h6 hp hk;go_in;go_wp2_with fail;generalize w.alloc (.cells #[.pointer (some ⟨p,0,none⟩)] 32)=w1 at*;go_fit hn;rintro e _ ⟨rfl,rfl⟩;go_wp2_with fail;go_fit ch;rintro e w2 ⟨v,rfl,hi,ho⟩;have x5:m.M.handles.length<=192:=Hp.oH m.M 192;have h5:Hid (∀ k,k<m.M.handles.length->wfI (gI m.M.handles k)):=fun k hk=>HK.o.wfH (Hp.zJ hk);have z:=ho.row h2.o (by simp);have h0:=HG.o.aK (h3.o.trans ho (by simp));have h1:∀ g,v.ownBlock=some g->w1.heap.size<=g:=fun g d=>(hi.own g d).1;have x9:=h4.o;have x8:=x3.o;have cd:=aDS w2 w.heap.size w1.heap.size (fun y=>decide (m.col y≠0)) v m.M.handles hi (by omega) (fun g d wr hwr k hk=>by
  have x7:=h1 g d;exact aGz wr w.heap.size p mb m.col _ (h5.o k hk) ((hwr.row z (by simp;omega)).cell 0 rfl) (by
   obtain ⟨U,hr⟩:=h0.row;exact (hwr.row hr (by simp;omega)).cell 1 rfl) (h0.map.rO hwr (by simp;omega)))
 have h7:m.M.handles.filter (dZ (fun y=>decide (m.col y≠0)))=m.white:=by
  unfold Mk.white dZ;congr 1;funext y
  by_cases e:m.col y=0<;>simp [e]
 rw [h7] at cd;have x1:Hid (Only [] w w2):=h3.o.trans ho (by simp);have x4:Hid (∀ g,v.ownBlock=some g->w.heap.size<=g):=fun g d=>by have:=h1 g d;omega
 have x6:=z.cell 0 rfl;obtain ⟨va,vc,rfl⟩:=hi.len;generalize m.M.handles.length=n at*;clear hi ho z h0 h1 h7 ch hn h5;go_wp2_with fail;go_fit cd;rintro e w3 ⟨v',rfl,hi,h9,ho⟩;have HI:Hid (aN w3 w.heap.size v' m.white):=hi.base (by have:=h4.o;omega);have x2:Hid (Only [] w w3):=x1.o.trans ho (fun x hx=>.inr (x4.o x (jM hx)));obtain ⟨a',c',rfl⟩:=hi.len;generalize m.white.length=n2 at*;clear hi ho h9 cd;go_wp2;exact hR.o _ _ ⟨_,rfl,HI.o,x2.o⟩
theorem aIs (w:World) (cb:Nat) {L:Nat->Option Lb} {hb:Nat} {M:Hp} {X:HX} (h:dO w L hb M X) (x:Int) (hx:wfI x) (hc:w.cell? ⟨cb,0,none⟩=some (.pointer (some ⟨hb,0,none⟩))):Calls prog 167 #[.int .i64 x,.pointer (some ⟨cb,0,none⟩)] w (Same w (.bool (decide (x≠0/\(M.ob x).isSome=false)))):=by
 refine aF fun R z=>?_;have d:=yR w h x hx;clear h hx
 by_cases y:x=0
 ·have hd:decide (x≠0/\(M.ob x).isSome=false)=false:=decide_eq_false (fun h=>h.1 y);rw [hd] at z;subst y;clear hd d;go_in;go_wp2;exact z.o _ _ ⟨rfl,0,rfl⟩
 have h0:(x != 0)=true:=by simpa using y
 cases hs:(M.ob x).isSome with
 | true=>
  have hd:decide (x≠0/\(M.ob x).isSome=false)=false:=decide_eq_false (fun h=>by have:=h.2;rw [hs] at this;cases this)
  rw [hd] at z;rw [hs] at d;clear hd hs;go_in;go_wp2_with fail;go_fit d;rintro e _ ⟨rfl,n,rfl⟩;go_wp2;exact z.o _ _ ⟨rfl,n,rfl⟩
 | false=>
  have hd:decide (x≠0/\(M.ob x).isSome=false)=true:=decide_eq_true ⟨y,hs⟩;rw [hd] at z;rw [hs] at d;clear hd hs;go_in;go_wp2_with fail;go_fit d;rintro e _ ⟨rfl,n,rfl⟩;go_wp2;exact z.o _ _ ⟨rfl,n,rfl⟩
theorem aDq (w:World) (cb:Nat) {L:Nat->Option Lb} {hb:Nat} {M:Hp} {X:HX} (h:dO w L hb M X) (a:Option Addr) (n c:Nat) (y:List Int) (hl:y.length=n) (hn:n<=1000000) (hr:mY w (.slice a n c) y) (hw:∀ x∈y,wfI x) (d:w.cell? ⟨cb,0,none⟩=some (.pointer (some ⟨hb,0,none⟩))) :
  Calls prog 220 #[.slice a n c,.func (.func 167) #[] #[.pointer (some ⟨cb,0,none⟩)]] w fun e w'=>∃ r:Int,e=.returned (.int .i64 r)/\(0<=r↔M.bZ y)/\lX w w':=by
 refine aF fun R hR=>?_;have HH:=aA h;have x1:=aA hr;have HW:=aA hw;have HL:=aA hl;have HC:=aA d;clear h hr hw hl d;go_in;go_wp2;go_loopw [8] (fun iv wr=>∃ k q:Nat,k<=n/\iv=.int .i64 k/\wr=w.drewN q/\Hid (∀ j,j<k->¬ (gI y j≠0/\(M.ob (gI y j)).isSome=false))) (fun iv _=>n - (intOf iv).toNat)
 case atStart=>exact ⟨0,0,by omega,rfl,rfl,fun j hj=>by omega⟩
 case round=>
  obtain ⟨k,q,hk,rfl,rfl,HB⟩:=hrel
  by_cases x2:k<n
  ·have h6:(k:Int)<n:=by omega
   have x3:(0:Int)<=k:=by omega
   have z:k<y.length:=by rw [HL.o];exact x2
   obtain ⟨b,o,rfl,d⟩:=(x1.o.only ((Only.refl [] w).drewN q) (by simp)).at z;have h5:=HW.o (gI y k) (dX.2 ⟨k,z,rfl⟩);have cs:=aIs (w.drewN q) cb (HH.o.drewN q) (gI y k) h5 HC.o;have h0:Hid (gI y k≠0/\(M.ob (gI y k)).isSome=false->M.bZ y):=fun h=>⟨gI y k,dX.2 ⟨k,z,rfl⟩,h.1,by cases e:M.ob (gI y k);rfl;rw [e] at h;simp at h⟩;clear h5 z
   by_cases hd:gI y k≠0/\(M.ob (gI y k)).isSome=false
   ·rw [decide_eq_true hd] at cs;have h8:=aA (h0.o hd);clear hd;generalize gI y k=x at*;go_wp2_with fail;go_fit cs;rintro e _ ⟨rfl,q2,rfl⟩;go_wp2;exact hR.o _ _ ⟨k,rfl,⟨fun _=>h8.o,fun _=>by omega⟩,lX.of w (q+q2)⟩
   rw [decide_eq_false hd] at cs;have h7:Hid (∀ j,j<k+1->¬ (gI y j≠0/\(M.ob (gI y j)).isSome=false)):=fun j hj=>by
    by_cases e:j=k
    ·rw [e];exact hd
    exact HB.o j (by omega)
   clear hd h0;generalize gI y k=x at d cs;go_wp2_with fail;go_fit cs;rintro e _ ⟨rfl,q2,rfl⟩;obtain ⟨q3,h4⟩:=(lX.of w q).more q2;rw [h4];clear cs d h4;go_wp2;exact ⟨⟨k+1,q3,by omega,by go_num,rfl,h7⟩,by simp [intOf];omega⟩
  obtain rfl:k=n:=by omega
  have h6:¬ (k:Int)<(k:Int):=by omega
  have h9:Hid (¬ M.bZ y):=fun ⟨x,h1,h2,h3⟩=>by
   obtain ⟨j,hj,rfl⟩:=dX.1 h1;exact HB.o j (by have:=HL.o;omega) ⟨h2,by rw [h3];rfl⟩
  go_wp2;exact hR.o _ _ ⟨-1,rfl,⟨fun h=>by omega,fun h=>absurd h h9.o⟩,lX.of w q⟩
theorem aDV (w:World) (d:Nat) {L:Nat->Option Lb} {hb:Nat} {M:Hp} {X:HX} (h:dO w L hb M X) (a:Option Addr) (n c:Nat) (z:List Int) (hl:z.length=n) (hn:n<=1000000) (hr:mY w (.slice a n c) z) (hw:∀ x∈z,wfI x) (hc:w.cell? ⟨d,0,none⟩=some (.pointer (some ⟨hb,0,none⟩))) :
  Calls prog 166 #[.slice a n c,.func (.func 167) #[] #[.pointer (some ⟨d,0,none⟩)]] w fun e w'=>∃ r:Bool,e=.returned (.bool r)/\(r=true↔M.bZ z)/\lX w w':=by
 refine aF fun R hR=>?_;have c1:=aDq w d h a n c z hl hn hr hw hc;clear h hr hw hl hc;go_in;go_wp2_with fail;go_fit c1;rintro e w1 ⟨r,rfl,h1,h2⟩;have H1:=aA h1;have H2:=aA h2;clear h1 h2 c1
 by_cases y:0<=r
 ·have h0:decide (0<=r)=true:=decide_eq_true y;go_wp2;exact hR.o _ _ ⟨true,by first|rfl|simp [y],⟨fun _=>H1.o.1 y,fun _=>rfl⟩,H2.o⟩
 have h0:decide (0<=r)=false:=decide_eq_false y;go_wp2;exact hR.o _ _ ⟨false,by first|rfl|simp [y],⟨fun h=>(by cases h),fun h=>by have:=H1.o.2 h;omega⟩,H2.o⟩
theorem aGg {M:Hp} (y:M.Ok):M.ob 0=none:=by
 cases e:M.ob 0 with
 | none=>rfl
 | some o=>have:=y.hr 0 o e;omega
theorem xW {l:List Asn} {i:Nat} {A:Asn} (h:l[i]?=some A):l.set i A=l:=aJT h
theorem ML.born {M:Hp} (z:l[i]?=some (PH hb M)):ML (l ++ [MkA p hb (fun _=>0) []]) i l.length hb p (Mk.start M)=l ++ [MkA p hb (fun _=>0) []]:=by
 have y:i<l.length:=(List.getElem?_eq_some_iff.1 z).1;unfold ML;rw [List.set_append_left _ _ y,show (Mk.start M).M=M from rfl,xW z,List.set_append_right _ _ (by omega),Nat.sub_self];rfl
theorem gZ.born {A B:Asn} (y:l[i]?=some A):gZ (l ++ [B]) i l.length:=by
 have z:i<l.length:=(List.getElem?_eq_some_iff.1 y).1;exact ⟨by simp;omega,by simp,by omega⟩
theorem aAV (w:World) {M:Hp} (hf:Fam w0 w l) (hi:l[i]?=some (PH hb M)) (a:Option Addr) (n c:Nat) (y:List Int) (hl:y.length=n) (hn:n<=1000000) (hw:∀ x∈y,wfI x) (x5:mY w (.slice a n c) y)
  (hr:∀ p w' m',Fam w0 w' (ML (l ++ [MkA p hb (fun _=>0) []]) i l.length hb p m')->mY w' (.slice a n c) y) :
  Calls prog 83 #[.pointer (some ⟨hb,0,none⟩),.slice a n c] w (fun e w'=>(M.bZ y/\e=.returned (.tuple #[.pointer none,.int .i64 3])/\Fam w0 w' l)\/(¬ M.bZ y/\∃ p,e=.returned (.tuple #[.pointer (some ⟨p,0,none⟩),.int .i64 0])/\Fam w0 w' (ML (l ++ [MkA p hb (fun _=>0) []]) i l.length hb p ((Mk.start M).aY y)))):=by
 refine aF fun R hR=>?_;have HF:=aA hf;obtain ⟨hk,L,X,hp⟩:=hf.ph i hi;have x8:=aA (hf.phF i hi);have cb:=(Row.new w 30 [.pointer (some ⟨hb,0,none⟩)]).cell 0 rfl;have h0:Only [] w (w.alloc (.cells #[.pointer (some ⟨hb,0,none⟩)] 30)):=(Only.refl [] w).alloc _;have h2:Hid (dO (w.alloc (.cells #[.pointer (some ⟨hb,0,none⟩)] 30)) L hb M X):=hp.aK h0;have h8:Hid (Fam w0 (w.alloc (.cells #[.pointer (some ⟨hb,0,none⟩)] 30)) l):=hf.aK h0;have x2:=aA (x5.only h0 (by simp));have c1:=aBz _ h2.o 0 (by decide);have ht:M.type 0=(0,0,0,3):=by unfold Hp.type;rw [aGg hk]
 rw [ht] at c1;have HW:=aA hw;have HI:=aA hi;have x9:=aA hr;have HL:=aA hl;have h1:=aA cb;clear hf hk hp h0 x5 ht hw hi hr hl;go_in;go_wp2_with fail;generalize w.alloc (.cells #[.pointer (some ⟨hb,0,none⟩)] 30)=w1 at*;go_fit c1;rintro e _ ⟨rfl,q,rfl⟩;have c2:=aDV (w1.drewN q) w.heap.size (h2.o.drewN q) a n c y HL.o hn (x2.o.only ((Only.refl [] w1).drewN q) (by simp)) HW.o h1.o;have h9:Hid (Fam w0 (w1.drewN q) l):=h8.o.drewN q;have h3:Hid ((w1.drewN q).cell? ⟨w.heap.size,0,none⟩=some (.pointer (some ⟨hb,0,none⟩))):=h1.o;clear c1 h2 h8 x2 HF cb h1;generalize w1.drewN q=w2 at*;have cb:=h3.o;go_wp2_with fail;go_fit c2;rintro e z ⟨r,rfl,x3,h4⟩;have x1:=aA (h9.o.aK (h4.only []));have h6:=aA x3;have y0:z.cell? ⟨w.heap.size,0,none⟩=some (.pointer (some ⟨hb,0,none⟩)):=(h4.only []).cell h3.o (by simp);clear c2 h9 x3 h4 h3 cb
 cases r with
 | true=>
  have HB:=aA (h6.o.1 rfl);go_wp2;exact hR.o _ _ (.inl ⟨HB.o,rfl,x1.o⟩)
 | false=>
  have HB:Hid (¬ M.bZ y):=fun h=>by have:=h6.o.2 h;cases this
  have x6:(z.alloc (.map #[] 0)).heap.size=z.heap.size+1:=by simp
  have d:aGw z ((z.alloc (.map #[] 0)).alloc (.cells #[.pointer (some ⟨hb,0,none⟩),.map (some z.heap.size),.slice none 0 0] 129)) (MkA (z.heap.size+1) hb (fun _=>0) []):=by
   refine ⟨((Only.refl [] z).alloc _).alloc _,fun k=>k=z.heap.size+1\/k=z.heap.size\/(Value.slice none 0 0).ownBlock=some k,⟨z.heap.size,.slice none 0 0,⟨⟨129,?_⟩,(aAs.made z).rO ((Only.refl [] _).alloc _) (by simp),aN.nil _ _,by omega,fun g hg=>by cases hg⟩,fun k=>Iff.rfl⟩,fun k hk=>?_⟩
   ·have:=Row.new (z.alloc (.map #[] 0)) 129 [.pointer (some ⟨hb,0,none⟩),.map (some z.heap.size),.slice none 0 0];rw [x6] at this;exact this
   rcases hk with hk|hk|hk
   ·omega
   ·omega
   cases hk
  have h5:=x1.o.add d;rw [<-ML.born HI.o] at h5;have ce:=aCd _ (gZ.born HI.o) h5 (Mk.Ok.start x8.o) a n c y HL.o hn (fun w' m' h7=>x9.o _ w' m' h7) HW.o;have y1:(Instr.makeMap 127 none).run prog z=.ok (.map (some z.heap.size)) (z.alloc (.map #[] 0)):=by kernel_rfl
  clear d h5 x6;go_wp2_with fail;go_fit ce;rintro e w5 ⟨rfl,x4⟩;have x7:=aA x4;clear ce x4;go_wp2;exact hR.o _ _ (.inr ⟨HB.o,z.heap.size+1,rfl,x7.o⟩)
end
