/- Lemmas of this claim. -/
import Derived.Deep.Slices
import Derived.Deep.Fields
import Derived.ChangeSame
import Derived.ProofKit
import Derived.OpenShut
namespace Go.Proofs.YthflghdaejbdkaaGreat
open Go.ChangeShapes Go.WideShapes Go.Deep
def Recs (k:Nat) (w:World) (a:Option Addr) (y:Nat) (f:Nat->Nat->Int):Prop:=
 y<=9223372036854775807/\(y=0\/∃ b o,a=some ⟨b,o,none⟩/\∀ i,i<y->∀ j,j<k->w.cell? ⟨b,o+(i*k+j),none⟩=some (.int .i64 (f i j))/\(Lit.int .i64 (f i j)).wf=true)
theorem aLV {w:World} {a:Addr} {v:Value} (h:w.cell? (a.add 0)=some v):∃ b o,a=⟨b,o,none⟩:=by
 obtain ⟨b,o,s⟩:=a;have:=World.cell?_spot h;simp [Addr.add] at this;exact ⟨b,o,by rw [this]⟩
theorem aQT (b o n:Nat):(⟨b,o,none⟩:Addr).add n=⟨b,o+n,none⟩:=by unfold Addr.add;split<;>simp_all
section
variable {H:Type} {enc:TypeId×Value->H} {P:Program} {w:World} {base:Nat} {spare:Nat->Bool} {held:Bool}
theorem recs_of {t e:TypeId} {z:Array Field} {x3 y cap:Nat} {a:Option Addr} {x:DataW H×List MemPlace} (k:Nat) (ht:P.underlying t=some (.slice e)) (he:P.underlying e=some (.struct z))
  (hk:z.size=k) (h0:0<k) (x5:oneCellFields P z=true) (hC:P.cellsOf e=z.size) (x4:∀ (j:Nat) (f:Field),z[j]?=some f->P.underlying f.type=some (.int .i64))
  (h:DataW.trod enc P w base spare held x3 t [.slice a y cap]=some x):∃ f,Recs k w a y f:=by
 rcases open_slice ht h with ⟨h1,_⟩|⟨a',y5,y3,m,n,D,Pl,h8,hb,hl,hm,x9,hx,hi⟩
 ·simp at h1;obtain ⟨rfl,rfl,rfl⟩:=h1;exact ⟨fun _ _=>0,by omega,.inl rfl⟩
 simp at h8;obtain ⟨rfl,rfl,rfl⟩:=h8;have y7:y<=m:=by rw [x9];split<;>omega
 have x2:∀ i j,i<y->j<k->∃ v,w.cell? (a'.add (i*k+j))=some (.int .i64 v)/\(Lit.int .i64 v).wf=true:=by
  intro i j h9 x7;obtain ⟨h7,hc,y0⟩:=hi i (by omega);rw [hC,hk] at hc;obtain ⟨ys,n',y9,hy,y4,z0,hf⟩:=DataW.trod_struct he y0;obtain ⟨_,y6,x6⟩:=World.cells?_some hc;have hj:z[j]?=some z[j]:=Array.getElem?_eq_getElem (by omega);obtain ⟨ho,x8⟩:=hone_of x5 j _ hj;have d:=x6 j x7;have h1:=hf j _ hj;rw [ho,x8] at h1;have h6:(h7.drop j).take 1=[h7[j]'(by omega)]:=by
   rw [List.drop_eq_getElem_cons (by omega)];rfl
  rw [h6] at h1;have y2:ys[j]?=some (ys[j]'(by omega)):=List.getElem?_eq_getElem (by omega);obtain ⟨v,x1,_,y1⟩:=DataW.trod_int (x4 j _ hj) (h1.trans y2);simp at x1;refine ⟨v,?_,y1⟩;rw [<-Go.Deep.add_add,d,List.getElem?_eq_getElem (by omega),x1]
 have y8:maxLen=9223372036854775807:=rfl;rcases Nat.eq_zero_or_pos y with h2|h2
 ·exact ⟨fun _ _=>0,by omega,.inl h2⟩
 obtain ⟨v0,h3,_⟩:=x2 0 0 h2 h0;rw [Nat.zero_mul] at h3;obtain ⟨b,o,rfl⟩:=aLV h3;refine ⟨fun i j=>match w.cell? ⟨b,o+(i*k+j),none⟩ with|some (.int _ q)=>q|_=>0,by omega,.inr ⟨b,o,rfl,fun i h9 j hj=>?_⟩⟩;obtain ⟨v,h4,h5⟩:=x2 i j h9 hj;rw [aQT] at h4;simp only [h4];exact ⟨trivial,h5⟩
end
