/- Lemmas of this claim. -/
import Derived.Test.YthflghdaejbdkaaGreatXdCyStar
namespace Go.Proofs.YthflghdaejbdkaaGreat
open _root_.Go.Proofs.Tryz (prog)
open Go.RowKit Go.Maps
set_option maxHeartbeats 1600000
set_option maxRecDepth 100000
set_option linter.unusedVariables false
theorem lV {cs:List Value} {l:List Int} (hl:l.length<=cs.length) (h:∀ m,m<l.length->cs[m]?=some (.int .i64 (gI l m))):cs.take l.length=l.map (.int .i64):=by
 apply List.ext_getElem?;intro i;rw [List.getElem?_take]
 by_cases hi:i<l.length
 ·rw [if_pos hi,h i hi];simp [gI,hi]
 rw [if_neg hi];simp [hi]
theorem aAy {cs:List Value} {l:List Int} (ht:cs.take l.length=l.map (.int .i64)) {m:Nat} (hm:m<l.length):cs[m]?=some (.int .i64 (gI l m)):=by
 have:(cs.take l.length)[m]?=cs[m]?:=by rw [List.getElem?_take,if_pos hm]
 rw [<-this,ht];simp [gI,hm]
theorem Row.setCells' {w:World} {b T:Nat} {cs:List Value} (h:Row w b T cs):∀ (vs:List Value) (o:Nat),∃ cs',Row (w.setCells b o vs) b T cs'/\cs'.length=cs.length/\∀ m,m<o->cs'[m]?=cs[m]?:=by
 intro vs
 induction vs generalizing w cs with
 | nil=>intro o;exact ⟨cs,h,rfl,fun _ _=>rfl⟩
 | cons v r ih=>
  intro o;obtain ⟨cs',h1,h2,h3⟩:=ih (h.set o v) (o+1);refine ⟨cs',h1,by rw [h2,List.length_set],fun m hm=>?_⟩;rw [h3 m (by omega),List.getElem?_set,if_neg (by omega)]
theorem uM (w:World) (c:Value):Calls prog 220 #[.slice none 0 0,c] w (aK w (.int .i64 (-1))):=by
 refine aF fun R hR=>?_;go_in;go_wp2_with fail;go_loop [5,8] (fun _ i=>i=.int .i64 0) (fun _ i=>0)
 case atStart=>rfl
 case round=>
  obtain rfl:=hrel;go_wp2_with fail;exact hR.out _ _ ⟨rfl,rfl⟩
def dR (q:Int->Bool) (x:Int):Bool:=!q x
theorem vK {q:Int->Bool} {x:Int} (h:q x=true):dR q x=false:=by unfold dR;rw [h];rfl
theorem kU {q:Int->Bool} {x:Int} (h:q x=false):dR q x=true:=by unfold dR;rw [h];rfl
theorem bU {l:List Int} {q:Int->Bool} {j:Nat} (hj:j<l.length):(l.take (j+1)).filter q=(l.take j).filter q ++ if q (gI l j) then [gI l j] else []:=by
 rw [List.take_succ_eq_append_getElem hj,List.filter_append];have:gI l j=l[j]:=by unfold gI;rw [List.getElem?_eq_getElem hj];rfl
 rw [this];congr 1
 by_cases h:q l[j]=true<;>simp [h]
theorem gW {l:List Int} {q:Int->Bool} {k:Nat} (h:∀ i,i<k->q (gI l i)=true) (hk:k<=l.length):(l.take k).filter q=l.take k:=by
 rw [List.filter_eq_self];intro x hx;obtain ⟨i,hi,rfl⟩:=List.getElem_of_mem hx;rw [List.length_take] at hi;have:=h i (by omega);rw [List.getElem_take];unfold gI at this;rw [List.getElem?_eq_getElem (by omega)] at this;exact this
theorem zI (w:World) (cb g cap:Nat) (q:Int->Bool) (l:List Int) (hd:∀ wr,Only [g] w wr->∀ i,i<l.length->Calls prog 256 #[.int .i64 (gI l i),.pointer (some ⟨cb,0,none⟩)] wr (aK wr (.bool (q (gI l i))))) (hl:l.length<=1000000) (hc:∀ i,i<l.length->w.cell? ⟨g,i,none⟩=some (.int .i64 (gI l i))) :
  Calls prog 220 #[.slice (some ⟨g,0,none⟩) l.length cap,.func (.func 256) #[] #[.pointer (some ⟨cb,0,none⟩)]] w fun e w'=>w=w'/\
   ((e=.returned (.int .i64 (-1))/\∀ i,i<l.length->q (gI l i)=false)\/∃ k:Nat,k<l.length/\e=.returned (.int .i64 k)/\q (gI l k)=true/\∀ i,i<k->q (gI l i)=false):=by
 refine aF fun R hR=>?_;have HC:=aA hc;have HD:Hid (∀ i,i<l.length->Calls prog 256 #[.int .i64 (gI l i),.pointer (some ⟨cb,0,none⟩)] w (aK w (.bool (q (gI l i))))):=fun i hi=>hd w (Only.refl _ _) i hi;obtain ⟨len,hlen⟩:∃ n,n=l.length:=⟨_,rfl⟩;rw [<-hlen] at HC HD hR hl ⊢;clear hc hd hlen;go_in;go_wp2_with fail;go_loop [5,8] (fun _ i=>∃ k:Nat,k<=len/\i=.int .i64 k/\Hid (∀ j,j<k->q (gI l j)=false)) (fun _ i=>len - (intOf i).toNat)
 case atStart=>exact ⟨0,by omega,rfl,fun j hj=>by omega⟩
 case round=>
  obtain ⟨k,hk,rfl,hf⟩:=hrel
  by_cases hlt:k<len
  ·have hcell:=HC.out k hlt;have hdk:=HD.out k hlt
   cases hq:q (gI l k)
   ·rw [hq] at hdk;have HQ:=aA hq;clear hq;generalize gI l k=x at hcell hdk;go_wp2_with fail;refine hdk.mono ?_;rintro e _ ⟨rfl,rfl⟩;go_wp2_with fail;go_round
    case rel=>exact ⟨k+1,by omega,by go_num,fun j hj=>by
     by_cases e:j=k
     ·rw [e];exact HQ.out
     exact hf.out j (by omega)⟩
    case measure=>simp [intOf];omega
   rw [hq] at hdk;have HQ:=aA hq;clear hq;generalize gI l k=x at hcell hdk;go_wp2_with fail;refine hdk.mono ?_;rintro e _ ⟨rfl,rfl⟩;go_wp2_with fail;exact hR.out _ _ ⟨rfl,.inr ⟨k,hlt,rfl,HQ.out,hf.out⟩⟩
  obtain rfl:k=len:=by omega
  go_wp2_with fail;exact hR.out _ _ ⟨rfl,.inl ⟨rfl,hf.out⟩⟩
theorem aGM (w:World) (cb base:Nat) (q:Int->Bool) (v:Value) (l:List Int) (hI:aO w base v l) (hl:l.length<=1000000)
  (hd0:∀ g,v.ownBlock=some g->∀ wr,Only [g] w wr->∀ i,i<l.length->Calls prog 256 #[.int .i64 (gI l i),.pointer (some ⟨cb,0,none⟩)] wr (aK wr (.bool (q (gI l i))))) :
  Calls prog 255 #[v,.func (.func 256) #[] #[.pointer (some ⟨cb,0,none⟩)]] w fun e w'=>
   ∃ v',e=.returned v'/\aO w' base v' (l.filter (dR q))/\v'.ownBlock=v.ownBlock/\Only v.ownBlock.toList w w':=by
 refine aF fun R hR=>?_;have HI:=aA hI;rcases hI.form with ⟨rfl,rfl⟩|⟨g,cap,rfl,hbg,hgl,hlc,hc⟩
 ·go_in;go_wp2_with fail;refine (uM _ _).mono ?_;rintro e _ ⟨rfl,rfl⟩;go_wp2_with fail;exact hR.out _ _ ⟨_,rfl,HI.out,rfl,Only.refl _ _⟩
 obtain ⟨_,_,cs0,hrow,hcl,htk,hlc,hcm⟩:=hI.row;have hd:=hd0 g rfl;have hix:=zI w cb g cap q l hd hl hc;have HD:=aA hd;have pJ:=aA hrow;have HCL:=aA hcl;have HTK:=aA htk;clear hI hc hrow htk hgl hd hd0;have hcm':cap<=9223372036854775807:=hcm;obtain ⟨len,hlen⟩:∃ n,n=l.length:=⟨_,rfl⟩;have HLEN:=aA hlen;rw [<-hlen] at hix hl hlc HTK HD HI hR ⊢;clear hlen hcl;go_in;go_wp2_with fail;refine hix.mono ?_;clear hix;rintro e _ ⟨rfl,⟨rfl,hall⟩|⟨k,hk,rfl,hq,hall⟩⟩
 ·have HA:Hid (l.filter (dR q)=l):=by
   show _=_;have:=gW (q:=dR q) (k:=l.length) (fun i hi=>kU (hall i (by have:=HLEN.out;omega))) (Nat.le_refl _);rwa [List.take_length] at this
  clear hall;go_wp2_with fail;exact hR.out _ _ ⟨_,rfl,by rw [HA.out];exact HI.out,rfl,Only.refl _ _⟩
 have HK:Hid ((l.take k).filter (dR q)=l.take k):=gW (fun i hi=>kU (hall i hi)) (by have:=HLEN.out;omega);have HKQ:Hid (dR q (gI l k)=false):=vK hq;clear hall hq;have hk1:((k:Int) == -1)=false:=by rw [beq_eq_false_iff_ne];omega
 go_wp2_with fail;clear hk1;go_loopw [5,6,7] (fun iv jv _ wr=>∃ (i j:Nat) (cs:List Value),iv=.int .i64 i/\jv=.int .i64 j/\j<=len/\i<j/\Hid (i=((l.take j).filter (dR q)).length)/\Row wr g 3 cs/\Hid (cs.length=cap)/\
   Hid (∀ m,m<i->cs[m]?=some (.int .i64 (gI ((l.take j).filter (dR q)) m)))/\Hid (∀ m,j<=m->m<len->cs[m]?=some (.int .i64 (gI l m)))/\Only [g] w wr) (fun _ jv _ _=>len - (intOf jv).toNat)
 case atStart=>
  have hs:(l.take (k+1)).filter (dR q)=l.take k:=by rw [bU (by have:=HLEN.out;omega),HKQ.out,HK.out];simp
  have hln:=HLEN.out;refine ⟨k,k+1,cs0,rfl,by go_num,by omega,by omega,?_,pJ.out,HCL.out,fun m hm=>?_,fun m hm hm2=>aAy (l:=l) (by rw [<-hln];exact HTK.out) (by omega),Only.refl _ _⟩
  ·show k=_;rw [hs,List.length_take];omega
  rw [hs,aAy (l:=l) (by rw [<-hln];exact HTK.out) (by omega)];unfold gI;rw [List.getElem?_take,if_pos hm]
 case round=>
  obtain ⟨i,j,cs,rfl,rfl,hj,hij,hi,hr,aGt,hlo,hhi,ho⟩:=hrel;have HR':=aA hr;have HO:=aA ho
  by_cases hlt:j<len
  ·have hcell:=hr.cell j (hhi.out j (Nat.le_refl _) hlt);have hil:i<cs.length:=by rw [aGt.out];omega
   have aIP:∃ x,wr.cell? ⟨g,i,none⟩=some x:=⟨_,hr.cell i (List.getElem?_eq_getElem hil)⟩;obtain ⟨x0,hx0⟩:=aIP;have hfr:=hr.free i;have hdk:=HD.out wr ho j hlt;clear hr ho
   cases hq:q (gI l j)
   ·rw [hq] at hdk;have HQ:Hid (dR q (gI l j)=true):=kU hq;clear hq;obtain ⟨x,hx⟩:∃ x,x=gI l j:=⟨_,rfl⟩;rw [<-hx] at hcell hdk HQ;have HX:=aA hx;clear hx;go_wp2_with fail;refine hdk.mono ?_;rintro e _ ⟨rfl,rfl⟩;go_wp2_with fail;have hs:Hid ((l.take (j+1)).filter (dR q)=(l.take j).filter (dR q) ++ [x]):=by
     show _=_;rw [bU (by have:=HLEN.out;omega),<-HX.out,HQ.out];simp
    refine ⟨⟨i+1,j+1,_,by go_num,by go_num,by omega,by omega,?_,HR'.out.set i _,?_,?_,?_,HO.out.set (by simp) _⟩,by simp [intOf];omega⟩
    ·show i+1=_;rw [hs.out,List.length_append,<-hi.out];rfl
    ·show List.length _=_;rw [List.length_set];exact aGt.out
    ·intro m hm;rw [hs.out,List.getElem?_set];have hin:=hi.out
     by_cases e:i=m
     ·subst e;rw [if_pos rfl,if_pos hil];unfold gI;rw [List.getElem?_append_right (by omega)];simp [<-hin]
     rw [if_neg e,hlo.out m (by omega)];unfold gI;rw [List.getElem?_append_left (by omega)]
    intro m hm hm2;rw [List.getElem?_set,if_neg (by omega)];exact hhi.out m (by omega) hm2
   rw [hq] at hdk;have HQ:Hid (dR q (gI l j)=false):=vK hq;clear hq;obtain ⟨x,hx⟩:∃ x,x=gI l j:=⟨_,rfl⟩;rw [<-hx] at hcell hdk HQ;have HX:=aA hx;clear hx;go_wp2_with fail;refine hdk.mono ?_;rintro e _ ⟨rfl,rfl⟩;go_wp2_with fail;have hs:Hid ((l.take (j+1)).filter (dR q)=(l.take j).filter (dR q)):=by
    show _=_;rw [bU (by have:=HLEN.out;omega),<-HX.out,HQ.out];simp
   refine ⟨⟨i,j+1,cs,rfl,by go_num,by omega,by omega,?_,HR'.out,aGt,?_,fun m hm hm2=>hhi.out m (by omega) hm2,HO.out⟩,by simp [intOf];omega⟩
   ·show i=_;rw [hs.out];exact hi.out
   rw [hs.out];exact hlo.out
  obtain rfl:j=len:=by omega
  clear hr ho;have hji:0<j - i:=by omega
  have hii:(0:Int)<=i:=by omega
  have HCC:Hid (∀ m,m<j - i->(wr.cell? ⟨g,i+m,none⟩).isSome=true):=fun m hm=>by
   rw [HR'.out.cell (i+m) (List.getElem?_eq_getElem (show i+m<cs.length by rw [aGt.out];omega))];rfl
  have HFF:Hid (∀ m,m<j - i->wr.frozen? ⟨g,i+m,none⟩=false):=fun m hm=>HR'.out.free _;go_wp2_with (with_reducible refine iT rfl (.tmp 38) 23 3 rfl (.int .i64 0) Tryz.underlying23 aAA rfl rfl g i (j - i) (cap - i) rfl hji HCC.out HFF.out ?_);obtain ⟨cs',q1,q2,q3⟩:=HR'.out.setCells' (List.replicate (j - i) (.int .i64 0)) i;have Q1:=aA q1;have Q2:=aA q2;have Q3:=aA q3;have QO:Hid (Only [g] w (wr.setCells g i (List.replicate (j - i) (.int .i64 0)))):=HO.out.setCells (.inl (by simp)) _ _;clear q1 q2 q3;generalize wr.setCells g i (List.replicate (j - i) (.int .i64 0))=w2 at*;go_wp2_with fail;have hall:(l.take j).filter (dR q)=l.filter (dR q):=by
   have:=HLEN.out;rw [List.take_of_length_le (by omega)]
  have hin:=hi.out;rw [hall] at hin;have aNi:=hlo.out;rw [hall] at aNi;refine hR.out _ _ ⟨_,rfl,?_,rfl,by simpa [Value.ownBlock] using QO.out⟩;rw [hin];exact aO.ofRow hbg Q1.out (by rw [Q2.out];exact aGt.out) (lV (by rw [Q2.out,aGt.out];omega) (fun m hm=>by rw [Q3.out m (by omega)];exact aNi m (by omega))) (by omega) hcm
theorem uT (w:World) (cb g cap:Nat) (q:Int->Bool) (l:List Int) (hd:∀ wr,Only [g] w wr->∀ i,i<l.length->Calls prog 305 #[.int .i64 (gI l i),.pointer (some ⟨cb,0,none⟩)] wr (aK wr (.bool (q (gI l i))))) (hl:l.length<=1000000) (hc:∀ i,i<l.length->w.cell? ⟨g,i,none⟩=some (.int .i64 (gI l i))) :
  Calls prog 220 #[.slice (some ⟨g,0,none⟩) l.length cap,.func (.func 305) #[] #[.pointer (some ⟨cb,0,none⟩)]] w fun e w'=>w=w'/\
   ((e=.returned (.int .i64 (-1))/\∀ i,i<l.length->q (gI l i)=false)\/∃ k:Nat,k<l.length/\e=.returned (.int .i64 k)/\q (gI l k)=true/\∀ i,i<k->q (gI l i)=false):=by
 refine aF fun R hR=>?_;have HC:=aA hc;have HD:Hid (∀ i,i<l.length->Calls prog 305 #[.int .i64 (gI l i),.pointer (some ⟨cb,0,none⟩)] w (aK w (.bool (q (gI l i))))):=fun i hi=>hd w (Only.refl _ _) i hi;obtain ⟨len,hlen⟩:∃ n,n=l.length:=⟨_,rfl⟩;rw [<-hlen] at HC HD hR hl ⊢;clear hc hd hlen;go_in;go_wp2_with fail;go_loop [5,8] (fun _ i=>∃ k:Nat,k<=len/\i=.int .i64 k/\Hid (∀ j,j<k->q (gI l j)=false)) (fun _ i=>len - (intOf i).toNat)
 case atStart=>exact ⟨0,by omega,rfl,fun j hj=>by omega⟩
 case round=>
  obtain ⟨k,hk,rfl,hf⟩:=hrel
  by_cases hlt:k<len
  ·have hcell:=HC.out k hlt;have hdk:=HD.out k hlt
   cases hq:q (gI l k)
   ·rw [hq] at hdk;have HQ:=aA hq;clear hq;generalize gI l k=x at hcell hdk;go_wp2_with fail;refine hdk.mono ?_;rintro e _ ⟨rfl,rfl⟩;go_wp2_with fail;go_round
    case rel=>exact ⟨k+1,by omega,by go_num,fun j hj=>by
     by_cases e:j=k
     ·rw [e];exact HQ.out
     exact hf.out j (by omega)⟩
    case measure=>simp [intOf];omega
   rw [hq] at hdk;have HQ:=aA hq;clear hq;generalize gI l k=x at hcell hdk;go_wp2_with fail;refine hdk.mono ?_;rintro e _ ⟨rfl,rfl⟩;go_wp2_with fail;exact hR.out _ _ ⟨rfl,.inr ⟨k,hlt,rfl,HQ.out,hf.out⟩⟩
  obtain rfl:k=len:=by omega
  go_wp2_with fail;exact hR.out _ _ ⟨rfl,.inl ⟨rfl,hf.out⟩⟩
theorem aCS (w:World) (cb base:Nat) (q:Int->Bool) (v:Value) (l:List Int) (hI:aO w base v l) (hl:l.length<=1000000)
  (hd0:∀ g,v.ownBlock=some g->∀ wr,Only [g] w wr->∀ i,i<l.length->Calls prog 305 #[.int .i64 (gI l i),.pointer (some ⟨cb,0,none⟩)] wr (aK wr (.bool (q (gI l i))))) :
  Calls prog 255 #[v,.func (.func 305) #[] #[.pointer (some ⟨cb,0,none⟩)]] w fun e w'=>
   ∃ v',e=.returned v'/\aO w' base v' (l.filter (dR q))/\v'.ownBlock=v.ownBlock/\Only v.ownBlock.toList w w':=by
 refine aF fun R hR=>?_;have HI:=aA hI;rcases hI.form with ⟨rfl,rfl⟩|⟨g,cap,rfl,hbg,hgl,hlc,hc⟩
 ·go_in;go_wp2_with fail;refine (uM _ _).mono ?_;rintro e _ ⟨rfl,rfl⟩;go_wp2_with fail;exact hR.out _ _ ⟨_,rfl,HI.out,rfl,Only.refl _ _⟩
 obtain ⟨_,_,cs0,hrow,hcl,htk,hlc,hcm⟩:=hI.row;have hd:=hd0 g rfl;have hix:=uT w cb g cap q l hd hl hc;have HD:=aA hd;have pJ:=aA hrow;have HCL:=aA hcl;have HTK:=aA htk;clear hI hc hrow htk hgl hd hd0;have hcm':cap<=9223372036854775807:=hcm;obtain ⟨len,hlen⟩:∃ n,n=l.length:=⟨_,rfl⟩;have HLEN:=aA hlen;rw [<-hlen] at hix hl hlc HTK HD HI hR ⊢;clear hlen hcl;go_in;go_wp2_with fail;refine hix.mono ?_;clear hix;rintro e _ ⟨rfl,⟨rfl,hall⟩|⟨k,hk,rfl,hq,hall⟩⟩
 ·have HA:Hid (l.filter (dR q)=l):=by
   show _=_;have:=gW (q:=dR q) (k:=l.length) (fun i hi=>kU (hall i (by have:=HLEN.out;omega))) (Nat.le_refl _);rwa [List.take_length] at this
  clear hall;go_wp2_with fail;exact hR.out _ _ ⟨_,rfl,by rw [HA.out];exact HI.out,rfl,Only.refl _ _⟩
 have HK:Hid ((l.take k).filter (dR q)=l.take k):=gW (fun i hi=>kU (hall i hi)) (by have:=HLEN.out;omega);have HKQ:Hid (dR q (gI l k)=false):=vK hq;clear hall hq;have hk1:((k:Int) == -1)=false:=by rw [beq_eq_false_iff_ne];omega
 go_wp2_with fail;clear hk1;go_loopw [5,6,7] (fun iv jv _ wr=>∃ (i j:Nat) (cs:List Value),iv=.int .i64 i/\jv=.int .i64 j/\j<=len/\i<j/\Hid (i=((l.take j).filter (dR q)).length)/\Row wr g 3 cs/\Hid (cs.length=cap)/\
   Hid (∀ m,m<i->cs[m]?=some (.int .i64 (gI ((l.take j).filter (dR q)) m)))/\Hid (∀ m,j<=m->m<len->cs[m]?=some (.int .i64 (gI l m)))/\Only [g] w wr) (fun _ jv _ _=>len - (intOf jv).toNat)
 case atStart=>
  have hs:(l.take (k+1)).filter (dR q)=l.take k:=by rw [bU (by have:=HLEN.out;omega),HKQ.out,HK.out];simp
  have hln:=HLEN.out;refine ⟨k,k+1,cs0,rfl,by go_num,by omega,by omega,?_,pJ.out,HCL.out,fun m hm=>?_,fun m hm hm2=>aAy (l:=l) (by rw [<-hln];exact HTK.out) (by omega),Only.refl _ _⟩
  ·show k=_;rw [hs,List.length_take];omega
  rw [hs,aAy (l:=l) (by rw [<-hln];exact HTK.out) (by omega)];unfold gI;rw [List.getElem?_take,if_pos hm]
 case round=>
  obtain ⟨i,j,cs,rfl,rfl,hj,hij,hi,hr,aGt,hlo,hhi,ho⟩:=hrel;have HR':=aA hr;have HO:=aA ho
  by_cases hlt:j<len
  ·have hcell:=hr.cell j (hhi.out j (Nat.le_refl _) hlt);have hil:i<cs.length:=by rw [aGt.out];omega
   have aIP:∃ x,wr.cell? ⟨g,i,none⟩=some x:=⟨_,hr.cell i (List.getElem?_eq_getElem hil)⟩;obtain ⟨x0,hx0⟩:=aIP;have hfr:=hr.free i;have hdk:=HD.out wr ho j hlt;clear hr ho
   cases hq:q (gI l j)
   ·rw [hq] at hdk;have HQ:Hid (dR q (gI l j)=true):=kU hq;clear hq;obtain ⟨x,hx⟩:∃ x,x=gI l j:=⟨_,rfl⟩;rw [<-hx] at hcell hdk HQ;have HX:=aA hx;clear hx;go_wp2_with fail;refine hdk.mono ?_;rintro e _ ⟨rfl,rfl⟩;go_wp2_with fail;have hs:Hid ((l.take (j+1)).filter (dR q)=(l.take j).filter (dR q) ++ [x]):=by
     show _=_;rw [bU (by have:=HLEN.out;omega),<-HX.out,HQ.out];simp
    refine ⟨⟨i+1,j+1,_,by go_num,by go_num,by omega,by omega,?_,HR'.out.set i _,?_,?_,?_,HO.out.set (by simp) _⟩,by simp [intOf];omega⟩
    ·show i+1=_;rw [hs.out,List.length_append,<-hi.out];rfl
    ·show List.length _=_;rw [List.length_set];exact aGt.out
    ·intro m hm;rw [hs.out,List.getElem?_set];have hin:=hi.out
     by_cases e:i=m
     ·subst e;rw [if_pos rfl,if_pos hil];unfold gI;rw [List.getElem?_append_right (by omega)];simp [<-hin]
     rw [if_neg e,hlo.out m (by omega)];unfold gI;rw [List.getElem?_append_left (by omega)]
    intro m hm hm2;rw [List.getElem?_set,if_neg (by omega)];exact hhi.out m (by omega) hm2
   rw [hq] at hdk;have HQ:Hid (dR q (gI l j)=false):=vK hq;clear hq;obtain ⟨x,hx⟩:∃ x,x=gI l j:=⟨_,rfl⟩;rw [<-hx] at hcell hdk HQ;have HX:=aA hx;clear hx;go_wp2_with fail;refine hdk.mono ?_;rintro e _ ⟨rfl,rfl⟩;go_wp2_with fail;have hs:Hid ((l.take (j+1)).filter (dR q)=(l.take j).filter (dR q)):=by
    show _=_;rw [bU (by have:=HLEN.out;omega),<-HX.out,HQ.out];simp
   refine ⟨⟨i,j+1,cs,rfl,by go_num,by omega,by omega,?_,HR'.out,aGt,?_,fun m hm hm2=>hhi.out m (by omega) hm2,HO.out⟩,by simp [intOf];omega⟩
   ·show i=_;rw [hs.out];exact hi.out
   rw [hs.out];exact hlo.out
  obtain rfl:j=len:=by omega
  clear hr ho;have hji:0<j - i:=by omega
  have hii:(0:Int)<=i:=by omega
  have HCC:Hid (∀ m,m<j - i->(wr.cell? ⟨g,i+m,none⟩).isSome=true):=fun m hm=>by
   rw [HR'.out.cell (i+m) (List.getElem?_eq_getElem (show i+m<cs.length by rw [aGt.out];omega))];rfl
  have HFF:Hid (∀ m,m<j - i->wr.frozen? ⟨g,i+m,none⟩=false):=fun m hm=>HR'.out.free _;go_wp2_with (with_reducible refine iT rfl (.tmp 38) 23 3 rfl (.int .i64 0) Tryz.underlying23 aAA rfl rfl g i (j - i) (cap - i) rfl hji HCC.out HFF.out ?_);obtain ⟨cs',q1,q2,q3⟩:=HR'.out.setCells' (List.replicate (j - i) (.int .i64 0)) i;have Q1:=aA q1;have Q2:=aA q2;have Q3:=aA q3;have QO:Hid (Only [g] w (wr.setCells g i (List.replicate (j - i) (.int .i64 0)))):=HO.out.setCells (.inl (by simp)) _ _;clear q1 q2 q3;generalize wr.setCells g i (List.replicate (j - i) (.int .i64 0))=w2 at*;go_wp2_with fail;have hall:(l.take j).filter (dR q)=l.filter (dR q):=by
   have:=HLEN.out;rw [List.take_of_length_le (by omega)]
  have hin:=hi.out;rw [hall] at hin;have aNi:=hlo.out;rw [hall] at aNi;refine hR.out _ _ ⟨_,rfl,?_,rfl,by simpa [Value.ownBlock] using QO.out⟩;rw [hin];exact aO.ofRow hbg Q1.out (by rw [Q2.out];exact aGt.out) (lV (by rw [Q2.out,aGt.out];omega) (fun m hm=>by rw [Q3.out m (by omega)];exact aNi m (by omega))) (by omega) hcm
set_option maxHeartbeats 6400000
theorem aEw (M:Hp) (x:Int):(M.type x).2.2.2=if (M.ob x).isSome then 0 else 3:=by
 unfold Hp.type
 cases M.ob x<;>rfl
theorem eU (w:World) {p hb:Nat} (h:w.cell? ⟨p,0,none⟩=some (.pointer (some ⟨hb,0,none⟩))):Calls prog 78 #[.pointer (some ⟨p,0,none⟩)] w (aK w (.bool false)):=by
 refine aF fun R hR=>?_;go_in;go_wp2_with fail;exact hR.out _ _ ⟨rfl,rfl⟩
theorem wZ (w:World) {L:Nat->Option Lb} {hb:Nat} {M:Hp} {X:HX} (h:dH w L hb M X) (x:Int) (hx:wfI x):Calls prog 79 #[.pointer (some ⟨hb,0,none⟩),.int .i64 x] w (Same w (.bool (M.ob x).isSome)):=by
 refine aF fun R hR=>?_;have c:=uY w h x hx;have he:=aEw M x;clear h hx;generalize (M.type x).1=a1 at*;generalize (M.type x).2.1=a2 at*;generalize (M.type x).2.2.1=a3 at*;rw [he] at c;clear he
 cases hs:(M.ob x).isSome with
 | true=>
  rw [hs] at c hR;replace c:Calls prog _ _ _ (Same w (.tuple #[.int .i64 a1,.int .i64 a2,.int .i64 a3,.int .i64 0])):=c;go_in;go_wp2_with fail;refine c.mono ?_;rintro e _ ⟨rfl,n,rfl⟩;clear c;go_wp2_with fail;exact hR.out _ _ ⟨rfl,n,rfl⟩
 | false=>
  rw [hs] at c hR;replace c:Calls prog _ _ _ (Same w (.tuple #[.int .i64 a1,.int .i64 a2,.int .i64 a3,.int .i64 3])):=c;go_in;go_wp2_with fail;refine c.mono ?_;rintro e _ ⟨rfl,n,rfl⟩;clear c;go_wp2_with fail;exact hR.out _ _ ⟨rfl,n,rfl⟩
theorem yZ.qH {w w':World} {mb:Nat} {col:Int->Int} {F:List Nat} (h:yZ w mb col) (hg:Only F w w') (hS:mb∉F):yZ w' mb col:=h.only (hg.toP (S:=fun k=>k∈F) (fun x hx=>.inl hx)) hS
section
variable {w0 w:World} {l:List Asn} {i j hb p:Nat} {m:Mk}
theorem ML.ph (T2:fZ l i j) (hf:Fam w0 w (ML l i j hb p m)):m.M.Ok/\∃ L X,dH w L hb m.M X:=hf.ph i (ML.heap T2)
theorem ML.aOe (T2:fZ l i j) (hf:Fam w0 w (ML l i j hb p m)) (x:Int) (hx:wfI x):Calls prog 79 #[.pointer (some ⟨hb,0,none⟩),.int .i64 x] w (fun e w'=>e=.returned (.bool (m.M.ob x).isSome)/\Fam w0 w' (ML l i j hb p m)):=by
 obtain ⟨hk,L,X,hg⟩:=ML.ph T2 hf;exact (wZ w hg x hx).mono fun e w' ⟨h1,n,h2⟩=>⟨h1,by rw [h2];exact hf.drewN n⟩
theorem aEq.cells {mb:Nat} {v:Value} {col:Int->Int} {list:List Int} (h:aEq w p hb mb v col list):w.cell? ⟨p,0,none⟩=some (.pointer (some ⟨hb,0,none⟩))/\w.cell? ⟨p,1,none⟩=some (.map (some mb))/\w.cell? ⟨p,2,none⟩=some v/\∀ k,w.frozen? ⟨p,k,none⟩=false:=by
 obtain ⟨U,hr⟩:=h.row;exact ⟨hr.cell 0 rfl,hr.cell 1 rfl,hr.cell 2 rfl,fun k=>hr.free k⟩
theorem sW (w:World) (T2:fZ l i j) (hf:Fam w0 w (ML l i j hb p m)) (hm:m.Ok) (x:Int) (hx:wfI x):Calls prog 156 #[.pointer (some ⟨p,0,none⟩),.int .i64 x] w (fun e w'=>e=.returned (.tuple #[])/\Fam w0 w' (ML l i j hb p (m.bH x))):=by
 refine aF fun R hR=>?_;obtain ⟨mb,v,hg⟩:=ML.mk T2 hf;obtain ⟨z0,_,_,_⟩:=hg.cells;have HF:=aA hf;have HM:=aA hm;have HWX:=aA hx
 by_cases hx0:x=0
 ·have hsh:m.bH x=m:=by unfold Mk.bH;rw [if_neg (fun h=>(Mk.kG.1 h).1 hx0)]
  rw [hsh] at hR;subst hx0;clear hf hm hg hsh hx;go_in;go_wp2_with fail;go_end0;exact hR.out _ _ ⟨rfl,HF.out⟩
 have hx1:(x != 0)=true:=by simpa using hx0
 have c:=ML.aOe T2 hf x hx;clear hf hm hg hx;go_in;go_wp2_with fail;refine c.mono ?_;rintro e w1 ⟨rfl,hf⟩;have HF1:=aA hf;obtain ⟨mb,v,hg,ht⟩:=ML.mkT T2 hf;have HT:=aA ht;have HG:=aA hg;obtain ⟨z0,z1,z2,zf⟩:=hg.cells;clear c hf hg HF ht
 cases hs:(m.M.ob x).isSome with
 | false=>
  have hsh:m.bH x=m:=by unfold Mk.bH;rw [if_neg (fun h=>by have:=(Mk.kG.1 h).2.1;rw [hs] at this;cases this)]
  rw [hsh] at hR;clear hsh hs;go_wp2_with fail;go_end0;exact hR.out _ _ ⟨rfl,HF1.out⟩
 | true=>
  have hin:=HM.out.hf.ok.inR hs;have hlook:=HG.out.map.look HWX.out
  by_cases hc:m.col x=0
  ·have hsh:m.bH x=⟨m.M,jM m.col x 1,m.list ++ [x]⟩:=by unfold Mk.bH;rw [if_pos (Mk.kG.2 ⟨hx0,hs,hc⟩)]
   rw [hsh] at hR;rw [hc] at hlook;obtain ⟨w2,hst,hset,hgr⟩:=HG.out.map.store hin (show wfI 1 by decide);have HST:=aA hset;have HO2:Hid (Only [mb] w1 w2):=(Only.refl [mb] w1).grown hgr (fun k hk=>.inl (by cases hk;simp));have aJR:=HG.out.ne;have HNE:=aA aJR;have z2':w2.cell? ⟨p,2,none⟩=some v:=HO2.out.cell z2 (by simpa using aJR);have z0':w2.cell? ⟨p,0,none⟩=some (.pointer (some ⟨hb,0,none⟩)):=HO2.out.cell z0 (by simpa using aJR);have HI2:Hid (aO w2 0 v m.list):=HG.out.ints.only HO2.out (fun k hk=>by have:=(HG.out.ne2 k hk).2;simpa using this);have HR2:Hid (∃ U,Row w2 p U [.pointer (some ⟨hb,0,none⟩),.map (some mb),v]):=HG.out.row.imp fun U x=>HO2.out.row x (by simpa using aJR);have HLE:=aA HM.out.len;have HOWN:=aA HG.out.ne2;have hpl:p<w1.heap.size:=by obtain ⟨U,hr⟩:=HG.out.row;exact hr.lt
   have HPL:=aA hpl;clear hsh hs hc hin hset hgr aJR hpl;go_wp2_with (at_builtin;refine bI rfl _ _ rfl 0 _ _ rfl (HI2.out.alloc _) w2.heap.size x rfl ?c1 ?c2 ?c3 ?c4)
   case c1=>exact (Row.new w2 _ [_]).cell 0 rfl
   case c2=>have:=HLE.out;omega
   case c3=>simp
   case c4=>
    intro v' w3 hq3 ho3 hb3;obtain ⟨va,vc,rfl⟩:=hq3.len;have hnot:p∉v.ownBlock.toList:=fun hm'=>by
     cases e:v.ownBlock with
     | none=>rw [e] at hm';simp at hm'
     | some g=>rw [e] at hm';simp at hm';exact (HOWN.out g e).1 hm'.symm
    have aCt:mb∉v.ownBlock.toList:=fun hm'=>by
     cases e:v.ownBlock with
     | none=>rw [e] at hm';simp at hm'
     | some g=>rw [e] at hm';simp at hm';exact (HOWN.out g e).2 hm'.symm
    have hrow3:∃ U,Row w3 p U [.pointer (some ⟨hb,0,none⟩),.map (some mb),v]:=HR2.out.imp fun U x=>ho3.row (x.alloc _) hnot;have hcell:w3.cell? ⟨p,2,none⟩=some v/\w3.frozen? ⟨p,2,none⟩=false:=by
     obtain ⟨U,x⟩:=hrow3;exact ⟨x.cell 2 rfl,x.free 2⟩
    obtain ⟨z3,zf3⟩:=hcell;have hnew:∀ g,(Value.slice va (m.list ++ [x]).length vc).ownBlock=some g->v.ownBlock=some g\/w2.heap.size<=g:=fun g hg=>by
     rcases hb3 with e|e
     ·exact .inl (e.symm.trans hg)
     right;rw [e] at hg;simp at hg;omega
    have hne2:∀ g,(Value.slice va (m.list ++ [x]).length vc).ownBlock=some g->g≠p/\g≠mb:=fun g hg=>by
     rcases hnew g hg with e|e
     ·exact HOWN.out g e
     have q1:=HO2.out.size;have q2:=HPL.out;have q3:=HST.out.lt;exact ⟨by omega,by omega⟩
    have hs4:Only [p] w3 (w3.setCell ⟨p,2,none⟩ (Value.slice va (m.list ++ [x]).length vc)):=(Only.refl [p] w3).set (.inl (by simp)) _;have hP:aI (fun k=>k=p\/k=mb\/v.ownBlock=some k) w1 (w3.setCell ⟨p,2,none⟩ (Value.slice va (m.list ++ [x]).length vc)):=by
     have p1:aI (fun k=>k=p\/k=mb\/v.ownBlock=some k) w1 (w2.alloc (.cells #[.int .i64 x] 3)):=(HO2.out.toP (fun z hz=>.inl (.inr (.inl (by simpa using hz))))).alloc _;refine (p1.trans (ho3.toP (S:=fun k=>v.ownBlock=some k) (fun z hz=>.inl (by
      cases e:v.ownBlock with
      | none=>rw [e] at hz;simp at hz
      | some g=>rw [e] at hz;simp at hz;rw [hz]))) (fun z hz=>.inl (.inr (.inr hz)))).set (.inl (.inl rfl)) _
    have HFN:Hid (Fam w0 (w3.setCell ⟨p,2,none⟩ (Value.slice va (m.list ++ [x]).length vc)) (ML l i j hb p ⟨m.M,jM m.col x 1,m.list ++ [x]⟩)):=
     HT.out _ mb _ _ _ ⟨hrow3.imp fun U y=>y.set 2 _,((HST.out.qH ((Only.refl [] w2).alloc _) (by simp)).qH ho3 aCt).qH hs4 (by simpa using Ne.symm HNE.out),hq3.only hs4 (fun k hk=>by have:=(hne2 k hk).1;simpa using this),HNE.out,hne2⟩ (.inl rfl)
      (fun g hg=>(hnew g hg).imp id (fun y=>Nat.le_trans HO2.out.size y)) hP
    generalize (m.list ++ [x]).length=qn at*;clear hq3 ho3 hb3 hnot aCt hrow3 hnew hne2 hs4 hP;go_wp2_with fail;go_end0;exact hR.out _ _ ⟨rfl,HFN.out⟩
  have hsh:m.bH x=m:=by unfold Mk.bH;rw [if_neg (fun h=>hc (Mk.kG.1 h).2.2)]
  rw [hsh] at hR;have hcb:(m.col x == 0)=false:=by simpa using hc
  clear hsh hs hin;go_wp2_with fail;go_end0;exact hR.out _ _ ⟨rfl,HF1.out⟩
end
theorem nI.at {w:World} {a:Option Addr} {n c:Nat} {lst:List Int} (h:nI w (.slice a n c) lst) {k:Nat} (hk:k<lst.length):∃ b o,a=some ⟨b,o,none⟩/\w.cell? ⟨b,o+k,none⟩=some (.int .i64 (gI lst k)):=by
 rcases h with ⟨b,o,c,e,hc⟩|⟨oa,c,e,h0⟩
 ·cases e;exact ⟨b,o,rfl,hc k hk⟩
 rw [h0] at hk;simp at hk
theorem lH {m:Mk} {lst:List Int} {k:Nat} (hk:k<lst.length):m.bC (lst.take (k+1))=(m.bC (lst.take k)).bH (gI lst k):=by
 unfold Mk.bC;rw [List.take_succ_eq_append_getElem hk,List.foldl_append];have:gI lst k=lst[k]:=by unfold gI;rw [List.getElem?_eq_getElem hk];rfl
 rw [this];rfl
theorem jO {v:Value} {z:Nat} (h:z∈v.ownBlock.toList):v.ownBlock=some z:=by
 cases e:v.ownBlock with
 | none=>rw [e] at h;simp at h
 | some g=>rw [e] at h;simp at h;rw [h]
theorem aIi {v:Value} {z:Nat} (h:∀ g,v.ownBlock=some g->g≠z):z∉v.ownBlock.toList:=fun hm=>h z (jO hm) rfl
theorem aEq.aN {w w':World} {p hb mb:Nat} {v:Value} {c:Int->Int} {t:List Int} (h:aEq w p hb mb v c t) (ho:Only [] w w'):aEq w' p hb mb v c t:=
 ⟨h.row.imp fun U x=>ho.row x (by simp),h.map.qH ho (by simp),h.ints.only ho (by simp),h.ne,h.ne2⟩
section
variable {w0 w:World} {l:List Asn} {i j hb p:Nat} {m:Mk}
theorem aBe (w:World) (T2:fZ l i j) (hf:Fam w0 w (ML l i j hb p m)) (hm:m.Ok) (a:Option Addr) (n c:Nat) (lst:List Int) (hl:lst.length=n) (hn:n<=1000000) (hr:∀ w' m',Fam w0 w' (ML l i j hb p m')->nI w' (.slice a n c) lst) (hw:∀ x∈lst,wfI x) :
  Calls prog 155 #[.slice a n c,.func (.func 156) #[.pointer (some ⟨p,0,none⟩)] #[]] w (fun e w'=>e=.returned (.tuple #[])/\Fam w0 w' (ML l i j hb p (m.bC lst))):=by
 refine aF fun R hR=>?_;have HF:=aA hf;have HM:=aA hm;have HRD:=aA hr;have HW:=aA hw;have HL:=aA hl;clear hf hm hr hw hl;go_in;go_wp2_with fail;go_loopw [8] (fun iv wr=>∃ k:Nat,k<=n/\iv=.int .i64 k/\Fam w0 wr (ML l i j hb p (m.bC (lst.take k)))) (fun iv _=>n - (intOf iv).toNat)
 case atStart=>exact ⟨0,by omega,rfl,HF.out⟩
 case round=>
  clear HF;obtain ⟨k,hk,rfl,hf⟩:=hrel;have HF:=aA hf;have HK:Hid ((m.bC (lst.take k)).Ok):=Mk.Ok.bC _ _ HM.out;clear hf
  by_cases hlt:k<n
  ·have hlt1:(k:Int)<n:=by omega
   have hk0:(0:Int)<=k:=by omega
   have hkl:k<lst.length:=by rw [HL.out];exact hlt
   obtain ⟨b,o,rfl,hc⟩:=(HRD.out wr _ HF.out).at hkl;have hwx:=HW.out (gI lst k) (jQ.2 ⟨k,hkl,rfl⟩);have cs:=sW wr T2 HF.out HK.out (gI lst k) hwx;have HN:Hid (m.bC (lst.take (k+1))=(m.bC (lst.take k)).bH (gI lst k)):=lH hkl;rw [<-HN.out] at cs;clear HN hwx hkl;generalize gI lst k=x at*;go_wp2_with fail;refine cs.mono ?_;rintro e w1 ⟨rfl,hf⟩;have HF1:=aA hf;clear cs hf hc HF;go_wp2_with fail;exact ⟨⟨k+1,by omega,by go_num,HF1.out⟩,by simp [intOf];omega⟩
  obtain rfl:k=n:=by omega
  have hlt1:¬ (k:Int)<(k:Int):=by omega
  have HE:Hid (m.bC (lst.take k)=m.bC lst):=by show _=_;rw [List.take_of_length_le (by have:=HL.out;omega)]
  go_wp2_with fail;go_end0;exact hR.out _ _ ⟨rfl,by rw [<-HE.out];exact HF.out⟩
theorem aKL (w:World) (cb:Nat) (x y:Int) (h:w.cell? ⟨cb,0,none⟩=some (.int .i64 x)):Calls prog 256 #[.int .i64 y,.pointer (some ⟨cb,0,none⟩)] w (aK w (.bool (decide (y=x)))):=by
 refine aF fun R hR=>?_
 by_cases e:y=x
 ·subst e;go_in;go_wp2_with fail;exact hR.out _ _ ⟨by simp,rfl⟩
 have e2:(y == x)=false:=by simpa using e
 go_in;go_wp2_with fail;exact hR.out _ _ ⟨by simp [e],rfl⟩
theorem aAU (l:List Int) (x:Int):l.filter (dR (fun y=>decide (y=x)))=bM l x:=by
 unfold bM dR;congr 1;funext y
 by_cases e:y=x<;>simp [e]
theorem aMP (w:World) (T2:fZ l i j) (hf:Fam w0 w (ML l i j hb p m)) (hlen:m.list.length<=1000000) (x:Int):Calls prog 232 #[.pointer (some ⟨p,0,none⟩),.int .i64 x] w (fun e w'=>e=.returned (.tuple #[])/\Fam w0 w' (ML l i j hb p ⟨m.M,m.col,bM m.list x⟩)):=by
 refine aF fun R hR=>?_;obtain ⟨mb,v,hg,ht⟩:=ML.mkT T2 hf;have HT:=aA ht;have HG:=aA hg;have HBX:Hid (Row (w.alloc (.cells #[.int .i64 x] 3)) w.heap.size 3 [.int .i64 x]):=Row.new w 3 [_];have hnb:∀ g,v.ownBlock=some g->g<w.heap.size:=fun g hv=>(hg.ints.own g hv).2;have cd:=aGM (w.alloc (.cells #[.int .i64 x] 3)) w.heap.size 0 (fun y=>decide (y=x)) v m.list (hg.ints.alloc _) hlen (fun g hv wr ho k hk=>aKL wr _ x _ (by
  have:=(ho.row HBX.out (by have:=hnb g hv;simp;omega)).cell 0 rfl;exact this))
 rw [aAU] at cd;have hg2:aEq (w.alloc (.cells #[.int .i64 x] 3)) p hb mb v m.col m.list:=hg.aN ((Only.refl [] w).alloc _);obtain ⟨z0,z1,z2,zf⟩:=hg2.cells;clear hf hg ht hg2 hnb;go_in;go_wp2_with fail;refine cd.mono ?_;rintro e w2 ⟨v',rfl,hi,hown,ho⟩;have HO2:=aA ho;have hnot:p∉v.ownBlock.toList:=aIi (fun g hv=>(HG.out.ne2 g hv).1);have aCt:mb∉v.ownBlock.toList:=aIi (fun g hv=>(HG.out.ne2 g hv).2);have hrow:∃ U,Row w2 p U [.pointer (some ⟨hb,0,none⟩),.map (some mb),v]:=HG.out.row.imp fun U x=>ho.row (x.alloc _) hnot;have hz:w2.cell? ⟨p,2,none⟩=some v/\w2.frozen? ⟨p,2,none⟩=false:=by
  obtain ⟨U,x⟩:=hrow;exact ⟨x.cell 2 rfl,x.free 2⟩
 obtain ⟨z3,zf3⟩:=hz;obtain ⟨va,vc,rfl⟩:=hi.len;have hne2:∀ g,(Value.slice va (bM m.list x).length vc).ownBlock=some g->g≠p/\g≠mb:=fun g hg=>HG.out.ne2 g (by rw [<-hown];exact hg);have hs4:Only [p] w2 (w2.setCell ⟨p,2,none⟩ (Value.slice va (bM m.list x).length vc)):=(Only.refl [p] w2).set (.inl (by simp)) _;have hP:aI (fun k=>k=p\/k=mb\/v.ownBlock=some k) w (w2.setCell ⟨p,2,none⟩ (Value.slice va (bM m.list x).length vc)):=
  (((aI.refl _ w).alloc _).trans (ho.toP (S:=fun k=>v.ownBlock=some k) (fun z hz=>.inl (jO hz))) (fun z hz=>.inl (.inr (.inr hz)))).set (.inl (.inl rfl)) _
 have HFN:Hid (Fam w0 (w2.setCell ⟨p,2,none⟩ (Value.slice va (bM m.list x).length vc)) (ML l i j hb p ⟨m.M,m.col,bM m.list x⟩)):=
  HT.out _ mb _ _ _ ⟨hrow.imp fun U y=>y.set 2 _,((HG.out.map.qH ((Only.refl [] w).alloc _) (by simp)).qH ho aCt).qH hs4 (by simpa using Ne.symm HG.out.ne),hi.only hs4 (fun k hk=>by have:=(hne2 k hk).1;simpa using this),HG.out.ne,hne2⟩ (.inl rfl)
   (fun g hg=>.inl (by rw [<-hown];exact hg)) hP
 generalize (bM m.list x).length=qn at*;clear hi hown ho hnot aCt hrow hne2 hs4 hP cd;go_wp2_with fail;go_end0;exact hR.out _ _ ⟨rfl,HFN.out⟩
end
section
variable {w0 w:World} {l:List Asn} {i j hb p:Nat} {m:Mk}
theorem xG (w:World) (T2:fZ l i j) (hf:Fam w0 w (ML l i j hb p m)):Calls prog 113 #[.pointer (some ⟨p,0,none⟩)] w (aK w (.tuple #[.int .i64 m.next.1,.int .i64 m.next.2])):=by
 refine aF fun R hR=>?_;obtain ⟨mb,v,hg⟩:=ML.mk T2 hf;obtain ⟨z0,z1,z2,_⟩:=hg.cells;have hn:=eU w z0;have hi:=hg.ints;clear hf hg;unfold Mk.next at hR
 cases e:m.list with
 | nil=>
  rw [e] at hi hR;obtain ⟨a,c,rfl⟩:=hi.len;clear hi;replace z2:w.cell? ⟨p,2,none⟩=some (.slice a 0 c):=z2;go_in;go_wp2_with fail;refine hn.mono ?_;rintro e _ ⟨rfl,rfl⟩;go_wp2_with fail;exact hR.out _ _ ⟨rfl,rfl⟩
 | cons x t=>
  rw [e] at hi hR;obtain ⟨a,c,rfl⟩:=hi.len;obtain ⟨b,o,rfl,hc⟩:=hi.read.at (k:=0) (by simp);rw [Nat.add_zero] at hc;replace hc:w.cell? ⟨b,o,none⟩=some (.int .i64 x):=hc;replace z2:w.cell? ⟨p,2,none⟩=some (.slice (some ⟨b,o,none⟩) (t.length+1) c):=z2;generalize t.length=n at*;clear hi;have hn1:((n:Int)+1 == 0)=false:=by rw [beq_eq_false_iff_ne];omega
  have hn2:(0:Int)<(n:Int)+1:=by omega
  go_in;go_wp2_with fail;refine hn.mono ?_;rintro e _ ⟨rfl,rfl⟩;go_wp2_with fail;exact hR.out _ _ ⟨rfl,rfl⟩
theorem xI (w:World) (T2:fZ l i j) (hf:Fam w0 w (ML l i j hb p m)):Calls prog 28 #[.pointer (some ⟨p,0,none⟩)] w (aK w (.bool (decide (m.list=[])))):=by
 refine aF fun R hR=>?_;obtain ⟨mb,v,hg⟩:=ML.mk T2 hf;obtain ⟨z0,z1,z2,_⟩:=hg.cells;have hn:=eU w z0;have hi:=hg.ints;clear hf hg
 cases e:m.list with
 | nil=>
  rw [e] at hi hR;obtain ⟨a,c,rfl⟩:=hi.len;clear hi;replace z2:w.cell? ⟨p,2,none⟩=some (.slice a 0 c):=z2;go_in;go_wp2_with fail;refine hn.mono ?_;rintro e _ ⟨rfl,rfl⟩;go_wp2_with fail;exact hR.out _ _ ⟨rfl,rfl⟩
 | cons x t=>
  rw [e] at hi hR;obtain ⟨a,c,rfl⟩:=hi.len;clear hi;replace z2:w.cell? ⟨p,2,none⟩=some (.slice a (t.length+1) c):=z2;replace hR:Hid (∀ e w',aK w (.bool false) e w'->R e w'):=hR;generalize t.length=n at*;have hn1:((n:Int)+1 == 0)=false:=by rw [beq_eq_false_iff_ne];omega
  go_in;go_wp2_with fail;refine hn.mono ?_;rintro e _ ⟨rfl,rfl⟩;go_wp2_with fail;exact hR.out _ _ ⟨rfl,rfl⟩
theorem iZ (w:World) (T2:fZ l i j) (hf:Fam w0 w (ML l i j hb p m)):Calls prog 74 #[.pointer (some ⟨p,0,none⟩)] w (aK w (.pointer (some ⟨hb,0,none⟩))):=by
 refine aF fun R hR=>?_;obtain ⟨mb,v,hg⟩:=ML.mk T2 hf;obtain ⟨z0,z1,z2,_⟩:=hg.cells;have hn:=eU w z0;clear hf hg;go_in;go_wp2_with fail;refine hn.mono ?_;rintro e _ ⟨rfl,rfl⟩;go_wp2_with fail;exact hR.out _ _ ⟨rfl,rfl⟩
theorem sG (w:World) (T2:fZ l i j) (hf:Fam w0 w (ML l i j hb p m)) (x:Int) (hx:wfI x):Calls prog 25 #[.pointer (some ⟨p,0,none⟩),.int .i64 x] w (Same w (.tuple #[.int .i64 (m.color x).1,.int .i64 (m.color x).2])):=by
 refine aF fun R hR=>?_;obtain ⟨mb,v,hg⟩:=ML.mk T2 hf;obtain ⟨z0,z1,z2,_⟩:=hg.cells;have hn:=eU w z0;obtain ⟨hk,L,X,hp⟩:=ML.ph T2 hf;have hu:=wZ w hp x hx;have HLK:Hid (∀ n,(Instr.lookup 127 (.map (some mb)) (.int .i64 x) false).run prog (w.drewN n)=.ok (.int .i64 (m.col x)) (w.drewN n)):=fun n=>(hg.map.qH ((Only.refl [] w).drewN n) (by simp)).look hx;have HZ1:Hid (∀ n,(w.drewN n).cell? ⟨p,1,none⟩=some (.map (some mb))):=fun n=>z1;unfold Mk.color at hR;clear hf hg hp hk
 cases hs:(m.M.ob x).isSome with
 | true=>
  rw [hs] at hu hR;go_in;go_wp2_with fail;refine hn.mono ?_;rintro e _ ⟨rfl,rfl⟩;go_wp2_with fail;refine hu.mono ?_;rintro e _ ⟨rfl,n,rfl⟩;have h1:=HLK.out n;have h2:=HZ1.out n;clear hu;go_wp2_with fail;exact hR.out _ _ ⟨rfl,n,rfl⟩
 | false=>
  rw [hs] at hu hR;go_in;go_wp2_with fail;refine hn.mono ?_;rintro e _ ⟨rfl,rfl⟩;go_wp2_with fail;refine hu.mono ?_;rintro e _ ⟨rfl,n,rfl⟩;clear hu;go_wp2_with fail;exact hR.out _ _ ⟨rfl,n,rfl⟩
theorem zZ (w:World) (T2:fZ l i j) (hf:Fam w0 w (ML l i j hb p m)) (hm:m.Ok) (x:Int) (hx:wfI x):Calls prog 123 #[.pointer (some ⟨p,0,none⟩),.int .i64 x] w (fun e w'=>e=.returned (.int .i64 (m.jL x))/\Fam w0 w' (ML l i j hb p (m.bH x))):=by
 refine aF fun R hR=>?_;obtain ⟨mb,v,hg⟩:=ML.mk T2 hf;obtain ⟨z0,z1,z2,_⟩:=hg.cells;have hn:=eU w z0;have HF:=aA hf;have HM:=aA hm;have HWX:=aA hx
 by_cases hx0:x=0
 ·have he:m.jL x=0:=by unfold Mk.jL;rw [if_neg (fun h=>h.1 hx0)]
  rw [he] at hR;have cs:=sW w T2 hf hm x hx;clear hf hg hm hx he;subst hx0;go_in;go_wp2_with fail;refine hn.mono ?_;rintro e _ ⟨rfl,rfl⟩;go_wp2_with fail;refine cs.mono ?_;rintro e w1 ⟨rfl,hf⟩;have HF1:=aA hf;clear hf cs;go_wp2_with fail;exact hR.out _ _ ⟨rfl,HF1.out⟩
 have hx1:(x != 0)=true:=by simpa using hx0
 have hu:=ML.aOe T2 hf x hx
 cases hs:(m.M.ob x).isSome with
 | true=>
  have he:m.jL x=0:=by unfold Mk.jL;rw [if_neg (fun h=>by have:=h.2;rw [hs] at this;cases this)]
  rw [he] at hR;rw [hs] at hu;clear hf hg hm hx he;go_in;go_wp2_with fail;refine hn.mono ?_;rintro e _ ⟨rfl,rfl⟩;go_wp2_with fail;refine hu.mono ?_;rintro e w1 ⟨rfl,hf⟩;have cs:=sW w1 T2 hf HM.out x HWX.out;clear hf hu;go_wp2_with fail;refine cs.mono ?_;rintro e w2 ⟨rfl,hf⟩;have HF1:=aA hf;clear hf cs;go_wp2_with fail;exact hR.out _ _ ⟨rfl,HF1.out⟩
 | false=>
  have he:m.jL x=3:=by unfold Mk.jL;rw [if_pos ⟨hx0,hs⟩]
  have hsh:m.bH x=m:=by unfold Mk.bH;rw [if_neg (fun h=>by have:=(Mk.kG.1 h).2.1;rw [hs] at this;cases this)]
  rw [he,hsh] at hR;rw [hs] at hu;clear hf hg hm hx he hsh;go_in;go_wp2_with fail;refine hn.mono ?_;rintro e _ ⟨rfl,rfl⟩;go_wp2_with fail;refine hu.mono ?_;rintro e w1 ⟨rfl,hf⟩;have HF1:=aA hf;clear hf hu;go_wp2_with fail;exact hR.out _ _ ⟨rfl,HF1.out⟩
end
theorem yR (w:World) (b of n c:Nat) (l:List Int) (hl:l.length=n) (hn:n<=17592186044416) (hc:∀ i,i<n->w.cell? ⟨b,of+i,none⟩=some (.int .i64 (gI l i))) :
  Calls prog 80 #[.slice (some ⟨b,of,none⟩) n c] w fun e w'=>∃ v,e=.returned v/\aO w' w.heap.size v l/\Only [] w w'/\v≠.slice none 0 0:=by
 have hq:=fun (wx:World)=>Lib.run_eql_slice_nil (P:=prog) wx 23 3 (some ⟨b,of,none⟩) n c 0 0 Tryz.underlying23;have HL:=aA hl;have HC:=aA hc;clear hl hc;refine aF fun R hR=>?_;go_in;go_wp2_with (at_builtin;refine fU rfl _ _ rfl w.heap.size _ _ rfl (aO.made w) ⟨b,of,none⟩ n c l rfl ?_ ?_ ?_ ?_ ?_)
 ·exact HL.out
 ·intro j u hu;have hj:j<n:=by have:=(List.getElem?_eq_some_iff.1 hu).1;have:=HL.out;omega
  have h1:=HC.out j hj;rw [show (⟨b,of,none⟩:Addr).add j=⟨b,of+j,none⟩ by unfold Addr.add;split<;>simp_all]
  rw [World.cell?_alloc_past _ _ _ (World.block_lt_of_cell? w _ h1),h1,gI,hu];rfl
 ·simp;omega
 ·simp
 intro v w1 hv ho hn hblk;have HN:Hid (v≠.slice none 0 0):=by intro e;simp [e] at hn
 clear hn;go_wp2_with fail;exact hR.out _ _ ⟨v,rfl,hv,((Only.refl _ _).alloc _).trans ho (fun x hx=>.inr (by simp [Value.ownBlock] at hx;omega)),HN.out⟩
theorem Mk.Ok.rest {m:Mk} (h:m.Ok) {x:Int} {t:List Int} (e:m.list=x :: t):(⟨m.M,jM m.col x 2,t⟩:Mk).Ok/\(⟨m.M,jM m.col x 2,t⟩:Mk).bC (m.M.refs x).1=m.dV x:=by
 have h1:m.list.drop 1=t:=by rw [e];rfl
 have h2:=uI e h.nd;rw [h1] at h2;refine ⟨by rw [h2];exact h.black (h.aEv (by rw [e];simp)),by unfold Mk.dV;rw [h1]⟩
theorem ML.app {l:List Asn} {i j hb p:Nat} {m:Mk} (h:fZ l i j) (A:Asn):ML (l ++ [A]) i j hb p m=ML l i j hb p m ++ [A]:=by
 unfold ML;rw [List.set_append_left _ _ h.hi,List.set_append_left _ _ (by rw [List.length_set];exact h.hj)]
theorem fZ.app {l:List Asn} {i j:Nat} (h:fZ l i j) (A:Asn):fZ (l ++ [A]) i j:=⟨by have:=h.hi;simp;omega,by have:=h.hj;simp;omega,h.ne⟩
theorem ML.at {l:List Asn} {i j hb p:Nat} {m:Mk} {A:Asn} (h:fZ l i j):(ML (l ++ [A]) i j hb p m)[l.length]?=some A:=by
 rw [ML.app h];have:(ML l i j hb p m).length=l.length:=by unfold ML;simp
 rw [<-this];simp
theorem aMK {M:Hp} (hk:M.Ok) {x y:Int} (hy:y∈(M.refs x).1):wfI y:=by
 obtain ⟨_,h⟩:=aKG hk hy;exact hk.wfH h
theorem qE {M:Hp} (hk:M.Ok) (x:Int):(M.refs x).1.length<=48:=by
 unfold Hp.refs
 cases e:M.ob x with
 | none=>simp
 | some o=>
  have h1:=o.mF o.slots.length;have h2:=(hk.th x o e).le;show (o.fF o.slots.length).length<=48;omega
section
variable {w0 w:World} {l:List Asn} {i j hb p:Nat} {m:Mk}
theorem aCi (w:World) (T2:fZ l i j) (hf:Fam w0 w (ML l i j hb p m)) (hm:m.Ok):Calls prog 70 #[.pointer (some ⟨p,0,none⟩)] w (fun e w'=>e=.returned (.tuple #[.int .i64 m.step.1,.int .i64 m.step.2.1])/\Fam w0 w' (ML l i j hb p m.step.2.2)):=by
 refine aF fun R hR=>?_;have cn:=xG w T2 hf;have hnx:m.next=(m.step.1,m.step.2.1):=by unfold Mk.next Mk.step;cases m.list<;>rfl
 rw [hnx] at cn
 cases e:m.list with
 | nil=>
  have hs:m.step=(0,3,m):=by unfold Mk.step;rw [e]
  rw [hs] at cn hR;have HF:=aA hf;clear hf hm hnx hs e;go_in;go_wp2_with fail;refine cn.mono ?_;rintro e _ ⟨rfl,rfl⟩;go_wp2_with fail;exact hR.out _ _ ⟨rfl,HF.out⟩
 | cons x t=>
  have hs:m.step=(x,0,m.dV x):=by unfold Mk.step;rw [e]
  rw [hs] at cn hR;obtain ⟨mb,v,hg,ht⟩:=ML.mkT T2 hf;have HT:=aA ht;have HG:=aA hg;have HF:=aA hf;have HM:=aA hm;have HE:=aA e;obtain ⟨z0,z1,z2,zf⟩:=hg.cells;have hi:=hg.ints;rw [e] at hi;have HI:=aA hi;obtain ⟨a,c,rfl⟩:=hi.len;obtain ⟨b,o,rfl,hc⟩:=hi.read.at (k:=0) (by simp);replace z2:w.cell? ⟨p,2,none⟩=some (.slice (some ⟨b,o,none⟩) (t.length+1) c):=z2;have hcap:t.length+1<=c:=by
   rcases hi.form with ⟨h1,_⟩|⟨g,cap,h1,_,_,h3,_⟩
   ·cases h1
   simp only [Value.slice.injEq] at h1;obtain ⟨_,_,rfl⟩:=h1;exact h3
  have CL:Hid (∀ o' cc,(o'=o+1\/t.length=0)->Calls prog 80 #[.slice (some ⟨b,o',none⟩) t.length cc] w (fun e w'=>∃ v,e=.returned v/\aO w' w.heap.size v t/\Only [] w w')):=fun o' cc ho=>by
   refine (yR w b o' t.length cc t rfl (by have:=hm.len;rw [e] at this;simp at this;omega) (fun k hk=>?_)).mono (fun e w' ⟨v,h1,h2,h3,_⟩=>⟨v,h1,h2,h3⟩);rcases ho with rfl|h0
   ·obtain ⟨b2,o2,e2,h4⟩:=HI.out.read.at (k:=k+1) (by simp;omega)
    cases e2
    rw [show o+1+k=o+(k+1) by omega,h4];simp [gI]
   omega
  obtain ⟨hok1,hst1⟩:=hm.rest e;have HK1:=aA hok1;have aPF:=aA hst1;have aPv:=hm.inR (x:=x) (by rw [e];simp);have aST:=aA aPv;have hwx:wfI x:=dI (by omega);have HWX:=aA hwx;have HPL:Hid (p<w.heap.size):=by obtain ⟨U,hr⟩:=hg.row;exact hr.lt
  have aHk:Hid (∃ U,Row w p U [.pointer (some ⟨hb,0,none⟩),.map (some mb),.slice (some ⟨b,o,none⟩) (t.length+1) c]):=hg.row;have aTO:Hid (b≠p/\b≠mb):=hg.ne2 b rfl;have HT2:Hid (∀ (w':World) (v':Value) (c:Int->Int) (t:List Int),aEq w' p hb mb v' c t->(∀ g,v'.ownBlock=some g->w.heap.size<=g)->aI (fun k=>k=p\/k=mb\/some b=some k) w w'->Fam w0 w' (ML l i j hb p ⟨m.M,c,t⟩)):=fun w' v' c t h1 h2 h3=>ht w' mb v' c t h1 (.inl rfl) (fun g hg=>.inr (h2 g hg)) h3;have aRR:=aA hg.map;have HNE:=aA hg.ne;clear hf hm hnx hs e hg ht hi hc hok1 hst1 aPv hwx HG HT;generalize t.length=n at*;go_in;go_wp2_with fail;refine cn.mono ?_;rintro e _ ⟨rfl,rfl⟩;go_wp2_with fail
  all_goals (
   refine (CL.out _ _ (by first|exact .inl rfl|(right;omega))).mono ?_;rintro e w1 ⟨v1,rfl,hi1,ho1⟩;have HI1:=aA hi1;have HO1:=aA ho1;have hrow1:∃ U,Row w1 p U [.pointer (some ⟨hb,0,none⟩),.map (some mb),.slice (some ⟨b,o,none⟩) (n+1) c]:=aHk.out.imp fun U x=>ho1.row x (by simp);have aSZ:=aA hrow1;have hz:w1.cell? ⟨p,2,none⟩=some (.slice (some ⟨b,o,none⟩) (n+1) c)/\w1.frozen? ⟨p,2,none⟩=false/\w1.cell? ⟨p,0,none⟩=some (.pointer (some ⟨hb,0,none⟩))/\w1.cell? ⟨p,1,none⟩=some (.map (some mb)):=by
    obtain ⟨U,x⟩:=hrow1;exact ⟨x.cell 2 rfl,x.free 2,x.cell 0 rfl,x.cell 1 rfl⟩
   obtain ⟨y2,yf,y0,y1⟩:=hz;have HV1:Hid (∀ g,v1.ownBlock=some g->w.heap.size<=g/\g<w1.heap.size):=fun g hg=>hi1.own g hg;have hs2:Only [p] w1 (w1.setCell ⟨p,2,none⟩ v1):=(Only.refl [p] w1).set (.inl (by simp)) _;have hrow2:∃ U,Row (w1.setCell ⟨p,2,none⟩ v1) p U [.pointer (some ⟨hb,0,none⟩),.map (some mb),v1]:=hrow1.imp fun U y=>y.set 2 _;have hm2:yZ (w1.setCell ⟨p,2,none⟩ v1) mb m.col:=(aRR.out.qH ho1 (by simp)).qH hs2 (by simpa using Ne.symm HNE.out);have hi2:aO (w1.setCell ⟨p,2,none⟩ v1) 0 v1 t:=(hi1.base (Nat.zero_le _)).only hs2 (fun k hk=>by have:=HV1.out k hk;have:=HPL.out;simp;omega);obtain ⟨w3,hst3,aOz,aRA⟩:=hm2.store aST.out (v:=2) (by decide);have hs3:Only [mb] (w1.setCell ⟨p,2,none⟩ v1) w3:=(Only.refl [mb] _).grown aRA (fun k hk=>.inl (by cases hk;simp));have hml:mb<w.heap.size:=aRR.out.lt;have aIQ:aEq w3 p hb mb v1 (jM m.col x 2) t:=⟨hrow2.imp fun U y=>hs3.row y (by simpa using HNE.out),aOz,hi2.only hs3 (fun k hk=>by have:=HV1.out k hk;simp;omega),HNE.out,fun g hg=>by have:=HV1.out g hg;have:=HPL.out;exact ⟨by omega,by omega⟩⟩;have hP:aI (fun k=>k=p\/k=mb\/some b=some k) w w3:=((ho1.vW (S:=fun k=>k=p\/k=mb\/some b=some k)).trans (hs2.toP (S:=fun k=>k=p) (fun z hz=>.inl (by simpa using hz))) (fun z hz=>.inl (.inl hz))).trans (hs3.toP (S:=fun k=>k=mb) (fun z hz=>.inl (by simpa using hz))) (fun z hz=>.inl (.inr (.inl hz)));have hf3:=HT2.out w3 v1 _ _ aIQ (fun g hg=>(HV1.out g hg).1) hP;have HF3:=aA hf3;obtain ⟨q0,q1,q2,qf⟩:=aIQ.cells;obtain ⟨hk3,L3,X3,hp3⟩:=ML.ph T2 hf3;have cr:=aKF w3 hp3 hk3 x HWX.out;have z0':(w1.setCell ⟨p,2,none⟩ v1).cell? ⟨p,1,none⟩=some (.map (some mb)):=by
    obtain ⟨U,x⟩:=hrow2;exact x.cell 1 rfl
   obtain ⟨va,vc,rfl⟩:=hi1.len;clear hrow1 hs2 hrow2 hm2 hi2 aOz aRA hs3 hml aIQ hP hf3 hp3 hk3 hi1 ho1;generalize t.length=n1 at*;go_wp2_with fail;refine cr.mono ?_;rintro e w4 ⟨vr,rfl,hi4,ho4⟩;have HF4:Hid (Fam w0 w4 (ML (l ++ [dQ vr (m.M.refs x).1]) i j hb p ⟨m.M,jM m.col x 2,t⟩)):=by
    show Fam _ _ _;rw [ML.app T2];exact HF3.out.jG ho4 hi4
   obtain ⟨ra,rc,rfl⟩:=hi4.len;have ce:=aBe w4 (T2.app _) HF4.out HK1.out ra _ rc (m.M.refs x).1 rfl (by have:=qE HM.out.hf.ok x;omega) (fun w' m' h7=>(h7.ints l.length (ML.at T2)).read) (fun y hy=>aMK HM.out.hf.ok hy);replace ce:Calls prog 155 #[.slice ra (m.M.refs x).1.length rc,.func (.func 156) #[.pointer (some ⟨p,0,none⟩)] #[]] w4 (fun e w'=>e=.returned (.tuple #[])/\Fam w0 w' (ML l i j hb p (m.dV x))):=ce.mono (fun e w' ⟨h1,h2⟩=>⟨h1,by
    rw [aPF.out,ML.app T2] at h2;exact h2.pop⟩)
   clear cr hi4 ho4 HF4;go_wp2_with fail;refine ce.mono ?_;rintro e w5 ⟨rfl,hf5⟩;have HF5:=aA hf5;clear ce hf5;go_wp2_with fail;exact hR.out _ _ ⟨rfl,HF5.out⟩)
end
theorem aOP {M:Hp} (hk:M.Ok) (a s:Int):wfI (M.get a s).1:=by
 unfold Hp.get
 cases e:M.ob a with
 | none=>exact dI (by show (-9223372036854775808:Int)<=0/\(0:Int)<=9223372036854775807;omega)
 | some o=>
  simp only;split
  ·exact dI (by show (-9223372036854775808:Int)<=0/\(0:Int)<=9223372036854775807;omega)
  rename_i h;show wfI (gI o.slots s.toNat);have hf:=hk.sl a o e s.toNat (by omega);unfold Hp.fits at hf;split at hf
  ·simp only [Bool.or_eq_true,decide_eq_true_eq] at hf;rcases hf with hf|hf
   ·rw [hf];decide
   exact hk.wfH hf
  unfold iK at hf;have:=of_decide_eq_true hf;exact dI (by omega)
section
variable {w0 w:World} {l:List Asn} {i j hb p:Nat} {m:Mk}
theorem ML.aOl (w:World) (T2:fZ l i j) (hf:Fam w0 w (ML l i j hb p m)) {x:Int} (hx:1<=x/\x<=192) {v:Int} (hv:wfI v):∃ mb,w.cell? ⟨p,1,none⟩=some (.map (some mb))/\∃ w',(Instr.mapUpdate 127 (.map (some mb)) (.int .i64 x) (.int .i64 v)).run prog w=.ok () w'/\Fam w0 w' (ML l i j hb p ⟨m.M,jM m.col x v,m.list⟩):=by
 obtain ⟨mb,vv,hg,ht⟩:=ML.mkT T2 hf;obtain ⟨z0,z1,z2,zf⟩:=hg.cells;obtain ⟨w',h1,h2,h3⟩:=hg.map.store hx hv;have ho:Only [mb] w w':=(Only.refl [mb] _).grown h3 (fun k hk=>.inl (by cases hk;simp));refine ⟨mb,z1,w',h1,ht w' mb vv _ _ ⟨hg.row.imp fun U y=>ho.row y (by simpa using hg.ne),h2,hg.ints.only ho (fun k hk=>by have:=(hg.ne2 k hk).2;simpa using this),hg.ne,hg.ne2⟩ (.inl rfl) (fun g hg=>.inl hg) (ho.toP (fun z hz=>.inl (.inr (.inl (by simpa using hz)))))⟩
theorem aCk (w:World) (T2:fZ l i j) (hf:Fam w0 w (ML l i j hb p m)) (hlen:m.list.length<=1000000) (x e0:Int) (hx:e0=0->1<=x/\x<=192):Calls prog 192 #[.pointer (some ⟨p,0,none⟩),.int .i64 x,.int .i64 e0] w (fun e w'=>e=.returned (.tuple #[.int .i64 x,.int .i64 e0])/\Fam w0 w' (ML l i j hb p (if e0=0 then m.black x else m))):=by
 refine aF fun R hR=>?_;have HF:=aA hf
 by_cases he:e0=0
 ·subst he;rw [if_pos rfl] at hR;have co:=aMP w T2 hf hlen x;have HX:=aA (hx rfl);clear hf hx;go_in;go_wp2_with fail;refine co.mono ?_;rintro e w1 ⟨rfl,hf⟩;obtain ⟨mb,z1,w2,hst,hf2⟩:=ML.aOl w1 T2 hf HX.out (show wfI 2 by decide);have HF2:Hid (Fam w0 w2 (ML l i j hb p (m.black x))):=hf2;clear co hf hf2 HF;go_wp2_with fail;exact hR.out _ _ ⟨rfl,HF2.out⟩
 rw [if_neg he] at hR;have heb:(e0 == 0)=false:=by simpa using he
 clear hf hx;go_in;go_wp2_with fail;exact hR.out _ _ ⟨rfl,HF.out⟩
theorem zG (w:World) (T2:fZ l i j) (hf:Fam w0 w (ML l i j hb p m)) (hm:m.Ok) (c:Int) (v:Value) (bl:List Bool) (hv:aAx w v bl) (hl:bl.length<=1000000):Calls prog 118 #[.pointer (some ⟨p,0,none⟩),.int .i64 c,v] w (fun e w'=>e=.returned (.tuple #[.int .i64 (m.aH c bl).1,.int .i64 (m.aH c bl).2.1])/\Fam w0 w' (ML l i j hb p (m.aH c bl).2.2)):=by
 refine aF fun R hR=>?_;obtain ⟨mb,vv,hg⟩:=ML.mk T2 hf;obtain ⟨z0,z1,z2,_⟩:=hg.cells;have hn:=eU w z0;have c1:=hf.aBV i (ML.heap T2) (M':=(m.M.aH c bl).2.2) (fun hk=>hk.aH c bl) (fun L X hr hk=>qK w hr hk c v bl hv hl);rw [ML.put T2] at c1;have HM:=aA hm;have hnew:=m.M.gY c bl;have HX:Hid ((m.M.aH c bl).2.1=0->1<=(m.M.aH c bl).1/\(m.M.aH c bl).1<=192):=fun h0=>by
  obtain ⟨_,_,o,ho,_⟩:=hnew.yes h0;exact (hnew.ok hm.hf).ok.hr _ o ho
 unfold Mk.aH Mk.made at hR;simp only at hR;clear hf hg hm hnew hv hl;generalize m.M.aH c bl=r at*;obtain ⟨r1,r2,M2⟩:=r;go_in;go_wp2_with fail;refine hn.mono ?_;rintro e _ ⟨rfl,rfl⟩;go_wp2_with fail;refine c1.mono ?_;rintro e w1 ⟨rfl,hf⟩;have c2:=aCk w1 T2 hf (by have:=HM.out.len;show m.list.length<=1000000;omega) r1 r2 HX.out;clear c1 hf hn;go_wp2_with fail;refine c2.mono ?_;rintro e w2 ⟨rfl,hf⟩;have HF2:=aA hf;clear c2 hf;go_wp2_with fail;exact hR.out _ _ ⟨rfl,HF2.out⟩
theorem jH (w:World) (T2:fZ l i j) (hf:Fam w0 w (ML l i j hb p m)) (hm:m.Ok) (k c n:Int):Calls prog 119 #[.pointer (some ⟨p,0,none⟩),.int .i64 k,.int .i64 c,.int .i64 n] w (fun e w'=>e=.returned (.tuple #[.int .i64 (m.aG k c n).1,.int .i64 (m.aG k c n).2.1])/\Fam w0 w' (ML l i j hb p (m.aG k c n).2.2)):=by
 refine aF fun R hR=>?_;obtain ⟨mb,vv,hg⟩:=ML.mk T2 hf;obtain ⟨z0,z1,z2,_⟩:=hg.cells;have hn:=eU w z0;have c1:=hf.aBV i (ML.heap T2) (M':=(m.M.aG k c n).2.2) (fun hk=>hk.aG k c n) (fun L X hr hk=>uJ w hr hk k c n);rw [ML.put T2] at c1;have HM:=aA hm;have hnew:=m.M.iY k c n;have HX:Hid ((m.M.aG k c n).2.1=0->1<=(m.M.aG k c n).1/\(m.M.aG k c n).1<=192):=fun h0=>by
  obtain ⟨_,_,o,ho,_⟩:=hnew.yes h0;exact (hnew.ok hm.hf).ok.hr _ o ho
 unfold Mk.aG Mk.made at hR;simp only at hR;clear hf hg hm hnew;generalize m.M.aG k c n=r at*;obtain ⟨r1,r2,M2⟩:=r;go_in;go_wp2_with fail;refine hn.mono ?_;rintro e _ ⟨rfl,rfl⟩;go_wp2_with fail;refine c1.mono ?_;rintro e w1 ⟨rfl,hf⟩;have c2:=aCk w1 T2 hf (by have:=HM.out.len;show m.list.length<=1000000;omega) r1 r2 HX.out;clear c1 hf hn;go_wp2_with fail;refine c2.mono ?_;rintro e w2 ⟨rfl,hf⟩;have HF2:=aA hf;clear c2 hf;go_wp2_with fail;exact hR.out _ _ ⟨rfl,HF2.out⟩
theorem aGa (w:World) (T2:fZ l i j) (hf:Fam w0 w (ML l i j hb p m)) (hm:m.Ok) (a s y:Int) (ha:wfI a) (hy:wfI y):Calls prog 126 #[.pointer (some ⟨p,0,none⟩),.int .i64 a,.int .i64 s,.int .i64 y] w (fun e w'=>e=.returned (.int .i64 (m.store a s y).1)/\Fam w0 w' (ML l i j hb p (m.store a s y).2)):=by
 refine aF fun R hR=>?_;obtain ⟨mb,vv,hg⟩:=ML.mk T2 hf;obtain ⟨z0,z1,z2,_⟩:=hg.cells;have hn:=eU w z0;obtain ⟨hk,L,X,hp⟩:=ML.ph T2 hf;have c1:=qP w hp hk a s ha;have c2:=aEa w hp hk a s ha;have HC3:Hid (∀ n,Calls prog 127 #[.pointer (some ⟨hb,0,none⟩),.int .i64 a,.int .i64 s,.int .i64 y] (w.drewN n) (fun e w'=>e=.returned (.int .i64 (m.M.set a s y).1)/\Fam w0 w' (ML l i j hb p (m.put (m.M.set a s y).2)))):=fun n=>by
  have c3:=(hf.drewN n).aBV i (ML.heap T2) (M':=(m.M.set a s y).2) (fun hk=>hk.set a s y) (fun L X hr hk=>aHO (w.drewN n) hr hk a s y ha hy);rw [ML.put T2] at c3;exact c3
 have HZ0:Hid (∀ n,(w.drewN n).cell? ⟨p,0,none⟩=some (.pointer (some ⟨hb,0,none⟩))):=fun n=>z0;have HM2:Hid ((m.put (m.M.set a s y).2).Ok):=hm.put (hm.hf.set a s y) (fun k hk=>by rw [Hp.nN];exact hk);have HOLD:=aA (aOP hk a s);have HWY:=aA hy;unfold Mk.store at hR;simp only at hR;clear hf hg hm hp hk ha hy;generalize (m.M.isRef a s).1=rf at*;generalize (m.M.isRef a s).2=re at*;generalize (m.M.get a s).1=old at*;generalize (m.M.get a s).2=oe at*;generalize (m.M.set a s y).1=se at*;generalize m.put (m.M.set a s y).2=m2 at*;go_in;go_wp2_with fail;refine hn.mono ?_;rintro e _ ⟨rfl,rfl⟩;go_wp2_with fail;refine c1.mono ?_;rintro e _ ⟨rfl,rfl⟩;go_wp2_with fail;refine c2.mono ?_;rintro e _ ⟨rfl,n,rfl⟩;have c3:=HC3.out n;have z0':=HZ0.out n;clear c1 c2 hn HC3 HZ0 z0 z1 z2;go_wp2_with fail;refine c3.mono ?_;rintro e w1 ⟨rfl,hf⟩;have HF:=aA hf;clear c3 hf z0';generalize w.drewN n=wn at *
 by_cases hc:se=0/\rf=true
 ·obtain ⟨rfl,rfl⟩:=hc;rw [if_pos ⟨rfl,rfl⟩] at hR;have hf4:=HF.out.addRow 3 [.int .i64 old,.int .i64 y];rw [<-ML.app T2] at hf4;have ce:=aBe _ (T2.app _) hf4 HM2.out (some ⟨w1.heap.size,0,none⟩) 2 2 [old,y] rfl (by omega) (fun w' m' h7=>by
   have hr:=h7.row l.length (ML.at T2);refine .inl ⟨w1.heap.size,0,2,rfl,fun k hk=>?_⟩
   match k,hk with
   | 0,_=>exact hr.cell 0 rfl
   | 1,_=>exact hr.cell 1 rfl) (fun z hz=>by
    rcases List.mem_cons.1 hz with e|e
    ·rw [e];exact HOLD.out
    simp at e;rw [e];exact HWY.out)
  replace ce:Calls prog 155 #[.slice (some ⟨w1.heap.size,0,none⟩) 2 2,.func (.func 156) #[.pointer (some ⟨p,0,none⟩)] #[]] (w1.alloc (.cells #[.int .i64 old,.int .i64 y] 3)) (fun e w'=>e=.returned (.tuple #[])/\Fam w0 w' (ML l i j hb p ((m2.bH old).bH y))):=ce.mono (fun e w' ⟨h1,h2⟩=>⟨h1,by
   rw [ML.app T2] at h2;exact h2.pop⟩)
  clear hf4;go_wp2_with fail;refine ce.mono ?_;rintro e w2 ⟨rfl,hf⟩;have HF2:=aA hf;clear hf ce;go_wp2_with fail;exact hR.out _ _ ⟨rfl,HF2.out⟩
 rw [if_neg hc] at hR
 by_cases hs:se=0
 ·subst hs;have hrf:rf=false:=by cases rf;rfl;exact absurd ⟨rfl,rfl⟩ hc
  subst hrf;clear hc;go_wp2_with fail;exact hR.out _ _ ⟨rfl,HF.out⟩
 have hsb:(se == 0)=false:=by simpa using hs
 clear hc;go_wp2_with fail;exact hR.out _ _ ⟨rfl,HF.out⟩
end
theorem aFt (w:World) (cb p mb:Nat) (col:Int->Int) (x:Int) (hx:wfI x) (h1:w.cell? ⟨cb,0,none⟩=some (.pointer (some ⟨p,0,none⟩))) (h2:w.cell? ⟨p,1,none⟩=some (.map (some mb))) (h3:yZ w mb col):Calls prog 305 #[.int .i64 x,.pointer (some ⟨cb,0,none⟩)] w (aK w (.bool (decide (col x≠0)))):=by
 refine aF fun R hR=>?_;have hl:=h3.look hx;clear h3 hx
 by_cases e:col x=0
 ·have hd:decide (col x≠0)=false:=by simp [e]
  rw [hd] at hR;rw [e] at hl;clear hd e;go_in;go_wp2_with fail;exact hR.out _ _ ⟨rfl,rfl⟩
 have hd:decide (col x≠0)=true:=by simp [e]
 have hb:(col x != 0)=true:=by simpa using e
 rw [hd] at hR;generalize col x=c at*;clear hd;go_in;go_wp2_with fail;exact hR.out _ _ ⟨rfl,rfl⟩
section
variable {w0 w:World} {l:List Asn} {i j hb p:Nat} {m:Mk}
theorem aFZ (w:World) (T2:fZ l i j) (hf:Fam w0 w (ML l i j hb p m)):Calls prog 303 #[.pointer (some ⟨p,0,none⟩)] w (aMq w m.white):=by
 refine aF fun R hR=>?_;obtain ⟨mb,vv,hg⟩:=ML.mk T2 hf;have hg1:=hg.aN ((Only.refl [] w).alloc (.cells #[.pointer (some ⟨p,0,none⟩)] 32));obtain ⟨z0,z1,z2,_⟩:=hg1.cells;have hn:=eU _ z0;have hf1:=hf.alloc (.cells #[.pointer (some ⟨p,0,none⟩)] 32);obtain ⟨hk,L,X,hp⟩:=ML.ph T2 hf1;have ch:=oV _ hp hk;have HG:=aA hg;have HK:=aA hk;have HBX:Hid (Row (w.alloc (.cells #[.pointer (some ⟨p,0,none⟩)] 32)) w.heap.size 32 [.pointer (some ⟨p,0,none⟩)]):=Row.new w 32 [_];have HO1:Hid (Only [] w (w.alloc (.cells #[.pointer (some ⟨p,0,none⟩)] 32))):=(Only.refl [] w).alloc _;have cb:=HBX.out.cell 0 rfl;have HSZ:Hid (w.heap.size<(w.alloc (.cells #[.pointer (some ⟨p,0,none⟩)] 32)).heap.size):=by show _<_;simp
 have HPL:Hid (p<w.heap.size/\mb<w.heap.size):=⟨by obtain ⟨U,hr⟩:=hg.row;exact hr.lt,hg.map.lt⟩;clear hf hg hg1 hf1 hp hk;go_in;go_wp2_with fail;generalize w.alloc (.cells #[.pointer (some ⟨p,0,none⟩)] 32)=w1 at*;refine hn.mono ?_;rintro e _ ⟨rfl,rfl⟩;go_wp2_with fail;refine ch.mono ?_;rintro e w2 ⟨v,rfl,hi,ho⟩;have hlen:m.M.handles.length<=192:=Hp.mX m.M 192;have HWF:Hid (∀ k,k<m.M.handles.length->wfI (gI m.M.handles k)):=fun k hk=>HK.out.wfH (Hp.xW hk);have hrow2:=ho.row HBX.out (by simp);have hg2:=HG.out.aN (HO1.out.trans ho (by simp));have hvb:∀ g,v.ownBlock=some g->w1.heap.size<=g:=fun g hg=>(hi.own g hg).1;have hsz:=HSZ.out;have hpl:=HPL.out;have cd:=aCS w2 w.heap.size w1.heap.size (fun y=>decide (m.col y≠0)) v m.M.handles hi (by omega) (fun g hg wr hwr k hk=>by
  have hb1:=hvb g hg;exact aFt wr w.heap.size p mb m.col _ (HWF.out k hk) ((hwr.row hrow2 (by simp;omega)).cell 0 rfl) (by
   obtain ⟨U,hr⟩:=hg2.row;exact (hwr.row hr (by simp;omega)).cell 1 rfl) (hg2.map.qH hwr (by simp;omega)))
 have hfl:m.M.handles.filter (dR (fun y=>decide (m.col y≠0)))=m.white:=by
  unfold Mk.white dR;congr 1;funext y
  by_cases e:m.col y=0<;>simp [e]
 rw [hfl] at cd;have HO2:Hid (Only [] w w2):=HO1.out.trans ho (by simp);have HVB:Hid (∀ g,v.ownBlock=some g->w.heap.size<=g):=fun g hg=>by have:=hvb g hg;omega
 have cb2:=hrow2.cell 0 rfl;obtain ⟨va,vc,rfl⟩:=hi.len;generalize m.M.handles.length=n at*;clear hi ho hrow2 hg2 hvb hfl ch hn HWF;go_wp2_with fail;refine cd.mono ?_;rintro e w3 ⟨v',rfl,hi,hown,ho⟩;have HI:Hid (aO w3 w.heap.size v' m.white):=hi.base (by have:=HSZ.out;omega);have HO3:Hid (Only [] w w3):=HO2.out.trans ho (fun x hx=>.inr (HVB.out x (jO hx)));obtain ⟨a',c',rfl⟩:=hi.len;generalize m.white.length=n2 at*;clear hi ho hown cd;go_wp2_with fail;exact hR.out _ _ ⟨_,rfl,HI.out,HO3.out⟩
theorem aHf (w:World) (cb:Nat) {L:Nat->Option Lb} {hb:Nat} {M:Hp} {X:HX} (h:dH w L hb M X) (x:Int) (hx:wfI x) (hc:w.cell? ⟨cb,0,none⟩=some (.pointer (some ⟨hb,0,none⟩))):Calls prog 167 #[.int .i64 x,.pointer (some ⟨cb,0,none⟩)] w (Same w (.bool (decide (x≠0/\(M.ob x).isSome=false)))):=by
 refine aF fun R hR=>?_;have hu:=wZ w h x hx;clear h hx
 by_cases hx0:x=0
 ·have hd:decide (x≠0/\(M.ob x).isSome=false)=false:=decide_eq_false (fun h=>h.1 hx0);rw [hd] at hR;subst hx0;clear hd hu;go_in;go_wp2_with fail;exact hR.out _ _ ⟨rfl,0,rfl⟩
 have hx1:(x != 0)=true:=by simpa using hx0
 cases hs:(M.ob x).isSome with
 | true=>
  have hd:decide (x≠0/\(M.ob x).isSome=false)=false:=decide_eq_false (fun h=>by have:=h.2;rw [hs] at this;cases this)
  rw [hd] at hR;rw [hs] at hu;clear hd hs;go_in;go_wp2_with fail;refine hu.mono ?_;rintro e _ ⟨rfl,n,rfl⟩;go_wp2_with fail;exact hR.out _ _ ⟨rfl,n,rfl⟩
 | false=>
  have hd:decide (x≠0/\(M.ob x).isSome=false)=true:=decide_eq_true ⟨hx0,hs⟩;rw [hd] at hR;rw [hs] at hu;clear hd hs;go_in;go_wp2_with fail;refine hu.mono ?_;rintro e _ ⟨rfl,n,rfl⟩;go_wp2_with fail;exact hR.out _ _ ⟨rfl,n,rfl⟩
theorem aCs (w:World) (cb:Nat) {L:Nat->Option Lb} {hb:Nat} {M:Hp} {X:HX} (h:dH w L hb M X) (a:Option Addr) (n c:Nat) (lst:List Int) (hl:lst.length=n) (hn:n<=1000000) (hr:nI w (.slice a n c) lst) (hw:∀ x∈lst,wfI x) (hc:w.cell? ⟨cb,0,none⟩=some (.pointer (some ⟨hb,0,none⟩))) :
  Calls prog 220 #[.slice a n c,.func (.func 167) #[] #[.pointer (some ⟨cb,0,none⟩)]] w fun e w'=>∃ r:Int,e=.returned (.int .i64 r)/\(0<=r↔M.fG lst)/\lG w w':=by
 refine aF fun R hR=>?_;have HH:=aA h;have HRD:=aA hr;have HW:=aA hw;have HL:=aA hl;have HC:=aA hc;clear h hr hw hl hc;go_in;go_wp2_with fail;go_loopw [8] (fun iv wr=>∃ k q:Nat,k<=n/\iv=.int .i64 k/\wr=w.drewN q/\Hid (∀ j,j<k->¬ (gI lst j≠0/\(M.ob (gI lst j)).isSome=false))) (fun iv _=>n - (intOf iv).toNat)
 case atStart=>exact ⟨0,0,by omega,rfl,rfl,fun j hj=>by omega⟩
 case round=>
  obtain ⟨k,q,hk,rfl,rfl,HB⟩:=hrel
  by_cases hlt:k<n
  ·have hlt1:(k:Int)<n:=by omega
   have hk0:(0:Int)<=k:=by omega
   have hkl:k<lst.length:=by rw [HL.out];exact hlt
   obtain ⟨b,o,rfl,hc⟩:=(HRD.out.only ((Only.refl [] w).drewN q) (by simp)).at hkl;have hwx:=HW.out (gI lst k) (jQ.2 ⟨k,hkl,rfl⟩);have cs:=aHf (w.drewN q) cb (HH.out.drewN q) (gI lst k) hwx HC.out;have HBM:Hid (gI lst k≠0/\(M.ob (gI lst k)).isSome=false->M.fG lst):=fun h=>⟨gI lst k,jQ.2 ⟨k,hkl,rfl⟩,h.1,by cases e:M.ob (gI lst k);rfl;rw [e] at h;simp at h⟩;clear hwx hkl
   by_cases hd:gI lst k≠0/\(M.ob (gI lst k)).isSome=false
   ·rw [decide_eq_true hd] at cs;have HBR:=aA (HBM.out hd);clear hd;generalize gI lst k=x at*;go_wp2_with fail;refine cs.mono ?_;rintro e _ ⟨rfl,q2,rfl⟩;go_wp2_with fail;exact hR.out _ _ ⟨k,rfl,⟨fun _=>HBR.out,fun _=>by omega⟩,lG.of w (q+q2)⟩
   rw [decide_eq_false hd] at cs;have HBN:Hid (∀ j,j<k+1->¬ (gI lst j≠0/\(M.ob (gI lst j)).isSome=false)):=fun j hj=>by
    by_cases e:j=k
    ·rw [e];exact hd
    exact HB.out j (by omega)
   clear hd HBM;generalize gI lst k=x at hc cs;go_wp2_with fail;refine cs.mono ?_;rintro e _ ⟨rfl,q2,rfl⟩;obtain ⟨q3,hq3⟩:=(lG.of w q).more q2;rw [hq3];clear cs hc hq3;go_wp2_with fail;exact ⟨⟨k+1,q3,by omega,by go_num,rfl,HBN⟩,by simp [intOf];omega⟩
  obtain rfl:k=n:=by omega
  have hlt1:¬ (k:Int)<(k:Int):=by omega
  have HNB:Hid (¬ M.fG lst):=fun ⟨x,h1,h2,h3⟩=>by
   obtain ⟨j,hj,rfl⟩:=jQ.1 h1;exact HB.out j (by have:=HL.out;omega) ⟨h2,by rw [h3];rfl⟩
  go_wp2_with fail;exact hR.out _ _ ⟨-1,rfl,⟨fun h=>by omega,fun h=>absurd h HNB.out⟩,lG.of w q⟩
theorem aCV (w:World) (cb:Nat) {L:Nat->Option Lb} {hb:Nat} {M:Hp} {X:HX} (h:dH w L hb M X) (a:Option Addr) (n c:Nat) (lst:List Int) (hl:lst.length=n) (hn:n<=1000000) (hr:nI w (.slice a n c) lst) (hw:∀ x∈lst,wfI x) (hc:w.cell? ⟨cb,0,none⟩=some (.pointer (some ⟨hb,0,none⟩))) :
  Calls prog 166 #[.slice a n c,.func (.func 167) #[] #[.pointer (some ⟨cb,0,none⟩)]] w fun e w'=>∃ r:Bool,e=.returned (.bool r)/\(r=true↔M.fG lst)/\lG w w':=by
 refine aF fun R hR=>?_;have c1:=aCs w cb h a n c lst hl hn hr hw hc;clear h hr hw hl hc;go_in;go_wp2_with fail;refine c1.mono ?_;rintro e w1 ⟨r,rfl,h1,h2⟩;have H1:=aA h1;have H2:=aA h2;clear h1 h2 c1
 by_cases hr0:0<=r
 ·have hb1:decide (0<=r)=true:=decide_eq_true hr0;go_wp2_with fail;exact hR.out _ _ ⟨true,by first|rfl|simp [hr0],⟨fun _=>H1.out.1 hr0,fun _=>rfl⟩,H2.out⟩
 have hb1:decide (0<=r)=false:=decide_eq_false hr0;go_wp2_with fail;exact hR.out _ _ ⟨false,by first|rfl|simp [hr0],⟨fun h=>(by cases h),fun h=>by have:=H1.out.2 h;omega⟩,H2.out⟩
theorem aEZ {M:Hp} (hk:M.Ok):M.ob 0=none:=by
 cases e:M.ob 0 with
 | none=>rfl
 | some o=>have:=hk.hr 0 o e;omega
theorem lX {l:List Asn} {i:Nat} {A:Asn} (h:l[i]?=some A):l.set i A=l:=aIy h
theorem ML.born {M:Hp} (hi:l[i]?=some (PH hb M)):ML (l ++ [MkA p hb (fun _=>0) []]) i l.length hb p (Mk.start M)=l ++ [MkA p hb (fun _=>0) []]:=by
 have hil:i<l.length:=(List.getElem?_eq_some_iff.1 hi).1;unfold ML;rw [List.set_append_left _ _ hil,show (Mk.start M).M=M from rfl,lX hi,List.set_append_right _ _ (by omega),Nat.sub_self];rfl
theorem fZ.born {A B:Asn} (hi:l[i]?=some A):fZ (l ++ [B]) i l.length:=by
 have hil:i<l.length:=(List.getElem?_eq_some_iff.1 hi).1;exact ⟨by simp;omega,by simp,by omega⟩
theorem aAa (w:World) {M:Hp} (hf:Fam w0 w l) (hi:l[i]?=some (PH hb M)) (a:Option Addr) (n c:Nat) (roots:List Int) (hl:roots.length=n) (hn:n<=1000000) (hw:∀ x∈roots,wfI x) (hr0:nI w (.slice a n c) roots)
  (hr:∀ p w' m',Fam w0 w' (ML (l ++ [MkA p hb (fun _=>0) []]) i l.length hb p m')->nI w' (.slice a n c) roots) :
  Calls prog 83 #[.pointer (some ⟨hb,0,none⟩),.slice a n c] w (fun e w'=>(M.fG roots/\e=.returned (.tuple #[.pointer none,.int .i64 3])/\Fam w0 w' l)\/(¬ M.fG roots/\∃ p,e=.returned (.tuple #[.pointer (some ⟨p,0,none⟩),.int .i64 0])/\Fam w0 w' (ML (l ++ [MkA p hb (fun _=>0) []]) i l.length hb p ((Mk.start M).bC roots)))):=by
 refine aF fun R hR=>?_;have HF:=aA hf;obtain ⟨hk,L,X,hp⟩:=hf.ph i hi;have HKF:=aA (hf.phF i hi);have cb:=(Row.new w 30 [.pointer (some ⟨hb,0,none⟩)]).cell 0 rfl;have ho1:Only [] w (w.alloc (.cells #[.pointer (some ⟨hb,0,none⟩)] 30)):=(Only.refl [] w).alloc _;have HP1:Hid (dH (w.alloc (.cells #[.pointer (some ⟨hb,0,none⟩)] 30)) L hb M X):=hp.aN ho1;have HF1:Hid (Fam w0 (w.alloc (.cells #[.pointer (some ⟨hb,0,none⟩)] 30)) l):=hf.aN ho1;have HRD:=aA (hr0.only ho1 (by simp));have c1:=uY _ HP1.out 0 (by decide);have ht:M.type 0=(0,0,0,3):=by unfold Hp.type;rw [aEZ hk]
 rw [ht] at c1;have HW:=aA hw;have HI:=aA hi;have HR0:=aA hr;have HL:=aA hl;have HCB:=aA cb;clear hf hk hp ho1 hr0 ht hw hi hr hl;go_in;go_wp2_with fail;generalize w.alloc (.cells #[.pointer (some ⟨hb,0,none⟩)] 30)=w1 at*;refine c1.mono ?_;rintro e _ ⟨rfl,q,rfl⟩;have c2:=aCV (w1.drewN q) w.heap.size (HP1.out.drewN q) a n c roots HL.out hn (HRD.out.only ((Only.refl [] w1).drewN q) (by simp)) HW.out HCB.out;have HF2:Hid (Fam w0 (w1.drewN q) l):=HF1.out.drewN q;have aRm:Hid ((w1.drewN q).cell? ⟨w.heap.size,0,none⟩=some (.pointer (some ⟨hb,0,none⟩))):=HCB.out;clear c1 HP1 HF1 HRD HF cb HCB;generalize w1.drewN q=w2 at*;have cb:=aRm.out;go_wp2_with fail;refine c2.mono ?_;rintro e w3 ⟨r,rfl,hbr,hdr⟩;have HF3:=aA (HF2.out.aN (hdr.only []));have HBR:=aA hbr;have cb3:w3.cell? ⟨w.heap.size,0,none⟩=some (.pointer (some ⟨hb,0,none⟩)):=(hdr.only []).cell aRm.out (by simp);clear c2 HF2 hbr hdr aRm cb
 cases r with
 | true=>
  have HB:=aA (HBR.out.1 rfl);go_wp2_with fail;exact hR.out _ _ (.inl ⟨HB.out,rfl,HF3.out⟩)
 | false=>
  have HB:Hid (¬ M.fG roots):=fun h=>by have:=HBR.out.2 h;cases this
  have hsz:(w3.alloc (.map #[] 0)).heap.size=w3.heap.size+1:=by simp
  have hborn:aFq w3 ((w3.alloc (.map #[] 0)).alloc (.cells #[.pointer (some ⟨hb,0,none⟩),.map (some w3.heap.size),.slice none 0 0] 129)) (MkA (w3.heap.size+1) hb (fun _=>0) []):=by
   refine ⟨((Only.refl [] w3).alloc _).alloc _,fun k=>k=w3.heap.size+1\/k=w3.heap.size\/(Value.slice none 0 0).ownBlock=some k,⟨w3.heap.size,.slice none 0 0,⟨⟨129,?_⟩,(yZ.made w3).qH ((Only.refl [] _).alloc _) (by simp),aO.nil _ _,by omega,fun g hg=>by cases hg⟩,fun k=>Iff.rfl⟩,fun k hk=>?_⟩
   ·have:=Row.new (w3.alloc (.map #[] 0)) 129 [.pointer (some ⟨hb,0,none⟩),.map (some w3.heap.size),.slice none 0 0];rw [hsz] at this;exact this
   rcases hk with hk|hk|hk
   ·omega
   ·omega
   cases hk
  have hf4:=HF3.out.add hborn;rw [<-ML.born HI.out] at hf4;have ce:=aBe _ (fZ.born HI.out) hf4 (Mk.Ok.start HKF.out) a n c roots HL.out hn (fun w' m' h7=>HR0.out _ w' m' h7) HW.out;have hmm:(Instr.makeMap 127 none).run prog w3=.ok (.map (some w3.heap.size)) (w3.alloc (.map #[] 0)):=by kernel_rfl
  clear hborn hf4 hsz;go_wp2_with fail;refine ce.mono ?_;rintro e w5 ⟨rfl,hf5⟩;have HF5:=aA hf5;clear ce hf5;go_wp2_with fail;exact hR.out _ _ (.inr ⟨HB.out,w3.heap.size+1,rfl,HF5.out⟩)
end
end Go.Proofs.YthflghdaejbdkaaGreat
