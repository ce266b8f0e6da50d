/- Lemmas of this claim. -/
import Derived.Test.YthflghdaejbdkaaGreatXcBlockH
import Derived.Laws.AppendOwnNone
import Derived.OwnWalk
import Derived.Test.YthflghdaejbdkaaGreatRows
import Derived.Test.YthflghdaejbdkaaGreatXcLib
import Derived.Test.YthflghdaejbdkaaGreatXcQModel
import Derived.Maps.RangeWalk
import Derived.Maps.Ext
namespace Go.Proofs.YthflghdaejbdkaaGreat
open _root_.Go.Proofs.Tryz (prog)
open Go.RowKit
set_option maxHeartbeats 1600000
set_option maxRecDepth 100000
set_option linter.unusedVariables false
theorem aMk (w:World) (p b:Nat) (P:Pl) (h:dP w p b P) :
  Calls prog 137 #[.pointer (some ⟨p,0,none⟩)] w fun e w'=>
   e=.returned (.tuple #[.int .i64 P.move.1,.int .i64 P.move.2.1,.int .i64 P.move.2.2.1])/\dP w' p b P.move.2.2.2/\Only [b] w w':=by
 cases y:P.pair with
 | none=>
  rw [Pl.fC y];exact (fC w p b P h y).mono fun e w' ⟨z,hd⟩=>⟨z,h.sF hd,hd.only _⟩
 | some x=>
  obtain ⟨i,j⟩:=x;rw [Pl.fB y];exact fB w p b P h i j y
def xX:Value:=.agg ((Value.int .i64 0 :: List.replicate 8 (Value.bool false)) ++ List.replicate 16 (Value.int .i64 0)).toArray
theorem aFO:(prog.info? 232).map (fun i=>(i.zero,i.size,i.bytes))=some (some xX,25,144):=by kernel_rfl
def Pl.row (P:Pl):List Value:=(List.range (P.n*25)).map fun x=>(P.pg (x / 25)).at (x % 25)
theorem Pl.aOl (P:Pl):P.row.length=P.n*25:=by simp [Pl.row]
theorem Pg.at_one (p:Pg) (r:Nat):(p.at r).oneCell'=true:=by
 unfold Pg.at
 split
 ·rfl
 split<;>rfl
theorem aHY (w:World) (b n c:Nat) (P:Pl) (hn:n=P.n) (x3:n<=24) (hp:∀ i,i<P.n->gK w b (i*25) (P.pg i)) (h1:1<=n) :
  Calls prog 206 #[.slice (some ⟨b,0,none⟩) n c] w fun e w'=>
   ∃ g cap,e=.returned (.slice (some ⟨g,0,none⟩) n cap)/\(∃ T cs,Row w' g T cs)/\(∀ i,i<P.n->gK w' g (i*25) (P.pg i))/\Only [] w w'/\w.heap.size<=g:=by
 have hq:=fun (wx:World)=>Lib.run_eql_slice_nil (P:=prog) wx 227 232 (some ⟨b,0,none⟩) n c 0 0 Tryz.underlying227;have HP:=aA hp;have HN:=aA hn;clear hp hn;obtain ⟨i0,hi,h5,h6,z⟩:=info_parts aFO;have h7:=aA h5;have h8:=aA h6;have h9:=aA z;have HI:=aA hi;clear h5 h6 z hi;refine aF fun R hR=>?_;go_in;go_wp2_with (at_builtin;refine bU rfl _ _ 227 rfl w.heap.size 232 i0 xX 25 144 Tryz.underlying227 HI.out h7.out h8.out h9.out rfl (by decide) _ 0 [] rfl (World.ownsRow_made w #[] 0 (Nat.le_refl _) (by simp [maxLen]) rfl) ⟨b,0,none⟩ n c P.row rfl ?_ ?_ ?_ ?_ ?_ ?_ ?_)
 ·rw [Pl.aOl,HN.out]
 ·intro j u hu;obtain ⟨hj,rfl⟩:=kQ hu;rw [dI,Nat.zero_add];have h2:=HP.out (j / 25) (by omega) (j % 25) (by omega);rw [show j / 25*25+j % 25=j by omega] at h2;exact ((Only.refl [] w).alloc _).cell h2 (by simp)
 ·intro u hu;simp only [Pl.row,List.mem_map] at hu;obtain ⟨x,_,rfl⟩:=hu;exact Pg.at_one _ _
 ·simp [maxLen];omega
 ·omega
 ·simp
 intro v w1 hv ho h0 y;have HO:=aA ho;have HV:=aA hv;have x2:=aA h0;have HB:=aA y;clear ho hv h0 y;go_wp2_with fail;have hv:=HV.out;rcases hv.2 with ⟨hz,z⟩|⟨g,cap,x1,h4,hg,hh,x4,hm,hs,ht⟩
 ·omega
 have d:∀ x,x<P.n*25->w1.cell? ⟨g,x,none⟩=some ((P.pg (x / 25)).at (x % 25)):=by
  intro x hx;have h3:=World.ownsRow.cells hv (g:=g) (by rw [h4];rfl) x ((P.pg (x / 25)).at (x % 25)) (by simp [Pl.row,hx]);rw [dI,Nat.zero_add] at h3;exact h3
 refine hR.out _ _ ⟨g,cap,by rw [h4];rfl,⟨232,x1.toList,by unfold Row;rw [hh]⟩,fun i hi r hr=>?_,?_,hg⟩
 ·rw [d (i*25+r) (by omega)];congr 2
  ·congr 1;omega
  omega
 exact ((Only.refl [] w).alloc _).grown HO.out (fun k hk=>by
  right;simp [Value.ownBlock] at hk;omega)
theorem wR (w:World) (p b:Nat) (P:Pl) (h:dP w p b P) :
  Calls prog 136 #[.pointer (some ⟨p,0,none⟩)] w fun e w'=>
   ∃ p' b',e=.returned (.pointer (some ⟨p',0,none⟩))/\dP w' p' b' P/\Only [] w w'/\w.heap.size<=p'/\w.heap.size<=b':=by
 refine aF fun R hR=>?_;obtain ⟨cap,z0,zf,h2,_⟩:=h.facts;have H:=aA h;clear h;go_in;go_wp2_with fail;refine (iY _ _ _ _ H.out).mono ?_;rintro e _ ⟨rfl,rfl⟩;go_wp2_with fail;refine (aHY w b P.n cap P rfl H.out.n24 H.out.pg H.out.n1).mono ?_;rintro e w2 ⟨g,d,rfl,y,z,ho,hg⟩;have qJ:=aA y;have h0:=aA z;clear y z;go_wp2_with fail;refine hR.out _ _ ⟨w2.heap.size,g,rfl,?_,ho.alloc _,ho.size,hg⟩;have h1:g<w2.heap.size:=by obtain ⟨T,cs,hc⟩:=qJ.out;exact hc.lt
 refine ⟨⟨_,d,Row.new w2 _ [_]⟩,?_,fun i hi=>?_,by omega,H.out.n1,H.out.n24,H.out.ok⟩
 ·obtain ⟨T,cs,hc⟩:=qJ.out;exact ⟨T,cs,hc.alloc _⟩
 exact (h0.out i hi).only ((Only.refl [] w2).alloc _) (by simp)
def Pg.nought:Pg:={ cls:=0,used:=fun _=>false,cell:=fun _=>0 }
theorem aCM:xX.cells.toList=(List.range 25).map Pg.nought.at:=by rfl
theorem aJL {n x:Nat} (hx:x<n*25):(madeCells xX.cells (n*25)).toList[x]?=some (Pg.nought.at (x % 25)):=by
 have y:xX.cells.size=25:=rfl;have z:∀ r,r<25->xX.cells[r]?=some (Pg.nought.at r):=by
  intro r e;rw [<-Array.getElem?_toList,aCM];simp [e]
 have d:=z (x % 25) (by omega);rw [Array.getElem?_toList];unfold madeCells;rw [Array.getElem?_map,show (Array.range (n*25))[x]?=some x by simp [hx]];simp only [Option.map_some,y];rw [getElem!_def,d]
def aQM (w:World) (b:Nat):Prop:=∃ T cs,Row w b T cs
theorem aHj {w:World} {ops:Array Oper} {d:List Oper} {o:Oper} {a:Act} {Q:Exit->Act->World->Prop} (h4:o.guard=none) (x y:Operand)
  (ho:o.op=Op.makeSlice 227 x y) (n:Nat) (hl:a.eval x=.int .i64 n) (hc:a.eval y=.int .i64 n) (hn:n<=24) (h1:1<=n)
  (h:∀ w',aQM w' w.heap.size->Hid (∀ x,x<n*25->w'.cell? ⟨w.heap.size,x,none⟩=some (Pg.nought.at (x % 25)))->Only [] w w'->wpList prog ops Q d (a.put o.dst (.slice (some ⟨w.heap.size,0,none⟩) n n)) w'):wpList prog ops Q (o :: d) a w:=by
 obtain ⟨i0,hi,h5,h6,h7⟩:=info_parts aFO;refine wpList_make_full w h4 x y 227 ho w.heap.size 232 i0 xX 25 Tryz.underlying227 hi h5 h6 .i64 .i64 n n n hl hc rfl rfl (by rw [h7];omega) (by simp only [maxLen];omega) (Nat.le_refl _) (fun w2 z e=>h w2 ?_ ?_ ?_)
 ·rcases z.2 with ⟨hz,_⟩|⟨g,cap,h2,h0,hg,hh,_⟩
  ·simp at hz
  simp only [Value.slice.injEq,Option.some.injEq,Addr.mk.injEq] at h0;obtain ⟨⟨rfl,_⟩,_⟩:=h0;exact ⟨232,h2.toList,by unfold Row;rw [hh]⟩
 ·intro x hx;have h3:=World.ownsRow.cells z (g:=w.heap.size) rfl x (Pg.nought.at (x % 25)) (aJL hx);rwa [dI,Nat.zero_add] at h3
 exact (Only.refl _ _).grown e (fun k hk=>by simp at hk)
theorem aOB (w:World) (n:Int) (h:n<1\/24<n) :
  Calls prog 163 #[.int .i64 n] w (aO w (.tuple #[.pointer none,.int .i64 1])):=by
 refine aF fun R y=>?_
 by_cases z:n<1
 ·go_in;go_wp2;exact y.out _ _ ⟨rfl,rfl⟩
 have e:24<n:=by omega
 have d:decide (n<1)=false:=by simpa using z
 clear h;go_in;go_wp2;exact y.out _ _ ⟨rfl,rfl⟩
theorem aOA (w:World) (n:Nat) (h1:1<=n) (h4:n<=24) :
  Calls prog 163 #[.int .i64 n] w fun e w'=>
   ∃ p b,e=.returned (.tuple #[.pointer (some ⟨p,0,none⟩),.int .i64 0])/\dP w' p b (Pl.zero n)/\Only [] w w'/\w.heap.size<=p/\w.heap.size<=b:=by
 refine aF fun R hR=>?_;have x4:decide ((n:Int)<1)=false:=by simp;omega
 have x5:decide (24<(n:Int))=false:=by simp;omega
 go_in;go_wp2_with (refine aHj rfl _ _ rfl n rfl rfl h4 h1 ?_)
 ·intro z d y ho;have h0:=y.out;clear y;have x7:w.heap.size<z.heap.size:=by obtain ⟨T,cs,hc⟩:=d;exact hc.lt
  generalize h7:w.heap.size=g at*;have HG:=aA h7;have h3:(∃ T cs,Row (z.alloc (.cells #[.slice (some ⟨g,0,none⟩) n n] 234)) g T cs)/\(∀ i,i<n->gK (z.alloc (.cells #[.slice (some ⟨g,0,none⟩) n n] 234)) g (i*25) Pg.nought)/\
    Row (z.alloc (.cells #[.slice (some ⟨g,0,none⟩) n n] 234)) z.heap.size 234 [.slice (some ⟨g,0,none⟩) n n]/\Only [] w (z.alloc (.cells #[.slice (some ⟨g,0,none⟩) n n] 234)):=by
   refine ⟨?_,fun i hi=>?_,Row.new _ _ _,ho.alloc _⟩
   ·obtain ⟨T,cs,hc⟩:=d;exact ⟨T,cs,hc.alloc _⟩
   intro r hr;have h5:=((Only.refl [] z).alloc (.cells #[.slice (some ⟨g,0,none⟩) n n] 234)).cell (h0 (i*25+r) (by omega)) (by simp);rw [show (i*25+r) % 25=r by omega] at h5;exact h5
  have x3:=aA h3;have x8:z.heap.size≠g:=by omega
  have z0:(z.alloc (.cells #[.slice (some ⟨g,0,none⟩) n n] 234)).cell? ⟨z.heap.size,0,none⟩=some (.slice (some ⟨g,0,none⟩) n n):=h3.2.2.1.cell 0 rfl;clear d h0 ho h3 h7;go_wp2_with fail;generalize h8:z.heap.size=p at*;have x2:=aA h8;generalize z.alloc (.cells #[.slice (some ⟨g,0,none⟩) n n] 234)=w3 at*;clear h8 z0;go_loopw [21] (fun v wr=>∃ k:Nat,k<=n/\v=.int .i64 k/\(∃ T cs,Row wr g T cs)/\(∀ i,i<n->gK wr g (i*25) (if i<k then Pg.zero else Pg.nought))/\Row wr p 234 [.slice (some ⟨g,0,none⟩) n n]/\Only [] w wr) (fun v _=>n - (intOf v).toNat)
  case atStart=>
   obtain ⟨s1,s2,s3,s4⟩:=x3.out;exact ⟨0,by omega,rfl,s1,fun i hi=>by simp only [Nat.not_lt_zero,if_false];exact s2 i hi,s3,s4⟩
  case round=>
   obtain ⟨k,hk,rfl,s1,s2,s3,s4⟩:=hrel;have z0:=s3.cell 0 rfl;have zf:∀ x,wr.frozen? ⟨g,x,none⟩=false:=by obtain ⟨T,cs,hc⟩:=s1;exact hc.free
   by_cases h9:k<n
   ·have h2:=s2 k h9;simp only [Nat.lt_irrefl,if_false] at h2;have x6:=h2.cls;have S1:=aA s1;have S2:=aA s2;have x1:=aA h2;clear s1 s2 h2;go_wp2_with fail;refine ⟨⟨k+1,by omega,by go_num,?_,fun i hi=>?_,s3.other (by simp;omega) _,s4.set (.inr (by have:=HG.out;simp;omega)) _⟩,by simp [intOf];omega⟩
    ·obtain ⟨T,cs,hc⟩:=S1.out;exact ⟨T,_,hc.set _ _⟩
    by_cases e:i=k
    ·subst e;rw [if_pos (by omega)];exact x1.out.aJc (-1)
    have h5:=(S2.out i hi).other (a:=⟨g,k*25,none⟩) (.int .i64 (-1)) (fun _ _=>by simp;omega)
    by_cases h6:i<k
    ·rw [if_pos (by omega)];rw [if_pos h6] at h5;exact h5
    rw [if_neg (by omega)];rw [if_neg h6] at h5;exact h5
   obtain rfl:k=n:=by omega
   have S1:=aA s1;have S2:=aA s2;clear s1 s2;go_wp2_with fail;refine hR.out _ _ ⟨p,g,rfl,⟨⟨_,_,s3⟩,S1.out,fun i hi=>?_,by omega,h1,h4,Pl.aBf _⟩,s4,by have:=HG.out;have:=x2.out;omega,by have:=HG.out;omega⟩;have h5:=S2.out i hi;rw [if_pos (show i<k from hi)] at h5;exact h5
theorem aEY (w:World) (p b:Nat) (P:Pl) (h:dP w p b P) (i:Int) :
  Calls prog 310 #[.pointer (some ⟨p,0,none⟩),.int .i64 i] w (aO w (.tuple #[.int .i64 (P.class i).1,.int .i64 (P.class i).2])):=by
 refine aF fun R y=>?_;obtain ⟨cap,z0,zf,h6,_⟩:=h.facts;have h4:=h.n24
 by_cases z:i<0
 ·rw [show P.class i=(0,1) by unfold Pl.class;rw [if_pos (.inl z)]] at y;have d:decide (i<0)=true:=by simpa using z
  go_in;go_wp2_with fail;refine (iY _ _ _ _ h).mono ?_;rintro e _ ⟨rfl,rfl⟩;go_wp2;exact y.out _ _ ⟨rfl,rfl⟩
 have d:decide (i<0)=false:=by simpa using z
 obtain ⟨I,rfl⟩:∃ I:Nat,i=I:=⟨i.toNat,by omega⟩
 by_cases h1:P.n<=I
 ·rw [show P.class (I:Int)=(0,1) by unfold Pl.class;rw [if_pos (.inr (by omega))]] at y;go_in;go_wp2_with fail;refine (iY _ _ _ _ h).mono ?_;rintro e _ ⟨rfl,rfl⟩;go_wp2;exact y.out _ _ ⟨rfl,rfl⟩
 have h3:decide (P.n<=I)=false:=by simpa using h1
 have h2:I<P.n:=by omega
 have h5:=(h.pg I h2).cls;rw [show P.class (I:Int)=((P.pg I).cls,0) by unfold Pl.class;rw [if_neg (by omega)];simp] at y;have H:=aA h;clear h h1;go_in;go_wp2_with fail;refine (iY _ _ _ _ H.out).mono ?_;rintro e _ ⟨rfl,rfl⟩;go_wp2;exact y.out _ _ ⟨rfl,rfl⟩
def sP0:Pl:=Pl.zero 2
def sP1:Pl:=(sP0.alloc 2).2.2
def sP2:Pl:=(sP1.alloc 2).2.2
def sP3:Pl:=(sP2.alloc 2).2.2
def sP4:Pl:=(sP3.free 0).2
theorem s1:(sP0.alloc 2).1=0/\(sP0.alloc 2).2.1=0:=by decide+kernel
theorem s2:(sP1.alloc 2).1=8/\(sP1.alloc 2).2.1=0:=by decide+kernel
theorem s3:(sP2.alloc 2).1=16/\(sP2.alloc 2).2.1=0:=by decide+kernel
theorem s4:(sP3.free 0).1=0:=by decide+kernel
theorem s5:sP4.move.1=16/\sP4.move.2.1=0/\sP4.move.2.2.1=0:=by decide+kernel
end Go.Proofs.YthflghdaejbdkaaGreat
namespace Go.Proofs.YthflghdaejbdkaaGreat
open _root_.Go.Proofs.Tryz (prog)
open Go.RowKit
def aK (w:World) (base:Nat) (v:Value) (l:List Int):Prop:=w.ownsRow base 3 1 v l.length (l.map (Value.int .i64))
theorem jV:(prog.info? 3).map (fun i=>(i.zero,i.size,i.bytes))=some (some (.int .i64 0),1,8):=by kernel_rfl
theorem aK.nil (w:World) (base:Nat):aK w base (.slice none 0 0) []:=World.ownsRow_nil _ _ _ _
theorem aK.drewN {w:World} {base:Nat} {v:Value} {l:List Int} (h:aK w base v l) (n:Nat):aK (w.drewN n) base v l:=h
theorem aK.drew {w:World} {base:Nat} {v:Value} {l:List Int} (h:aK w base v l):aK w.drew base v l:=h
theorem aK.alloc {w:World} {base:Nat} {v:Value} {l:List Int} (h:aK w base v l) (o:Obj):aK (w.alloc o) base v l:=World.ownsRow.alloc h o
theorem aK.base {w:World} {base b:Nat} {v:Value} {l:List Int} (h:aK w base v l) (hb:b<=base):aK w b v l:=by
 refine ⟨h.1,?_⟩;rcases h.2 with z|⟨g,cap,y,e,d,r⟩
 ·exact .inl z
 exact .inr ⟨g,cap,y,e,Nat.le_trans hb d,r⟩
theorem aK.form {w:World} {base:Nat} {v:Value} {l:List Int} (h:aK w base v l) :
  (v=.slice none 0 0/\l=[])\/∃ g cap,v=.slice (some ⟨g,0,none⟩) l.length cap/\base<=g/\g<w.heap.size/\l.length<=cap/\(∀ i,i<l.length->w.cell? ⟨g,i,none⟩=some (.int .i64 (gI l i))):=by
 rcases h.2 with ⟨z,d⟩|⟨g,cap,h0,y,hg,hh,hc,hm,hs,ht⟩
 ·exact .inl ⟨z,List.eq_nil_of_length_eq_zero d⟩
 refine .inr ⟨g,cap,y,hg,(Array.getElem?_eq_some_iff.1 hh).1,hc,fun i hi=>?_⟩;have e:=World.ownsRow.cells h (g:=g) (by rw [y];rfl) i (.int .i64 (gI l i)) (by simp [hi,gI]);rwa [show (⟨g,0,none⟩:Addr).add i=⟨g,i,none⟩ by unfold Addr.add;split<;>simp_all] at e
theorem aK.len {w:World} {base:Nat} {v:Value} {l:List Int} (h:aK w base v l):∃ a cap,v=.slice a l.length cap:=by
 rcases h.form with ⟨y,z⟩|⟨g,cap,y,_⟩
 ·exact ⟨none,0,by rw [y,z];rfl⟩
 exact ⟨_,cap,y⟩
theorem aK.only {w w':World} {base:Nat} {v:Value} {l:List Int} {F:List Nat} (h:aK w base v l) (hg:Only F w w') (hF:∀ k,v.ownBlock=some k->k∉F):aK w' base v l:=by
 refine ⟨h.1,?_⟩;rcases h.2 with e|⟨g,cap,y,d,hb,z,r⟩
 ·exact .inl e
 exact .inr ⟨g,cap,y,d,hb,by rw [hg.block g (Array.getElem?_eq_some_iff.1 z).1 (hF g (by rw [d];rfl))];exact z,r⟩
theorem aK.own {w:World} {base:Nat} {v:Value} {l:List Int} (h:aK w base v l):∀ k,v.ownBlock=some k->base<=k/\k<w.heap.size:=World.ownsRow.lt h
theorem gV {w:World} {ops:Array Oper} {e:List Oper} {o:Oper} {a:Act} {Q:Exit->Act->World->Prop} (h7:o.guard=none) (s x:Operand)
  (ho:o.op=.call { callee:=.builtin .append,args:=#[s,x],argTypes:=#[23,23] })
  (base:Nat) (v:Value) (l:List Int) (hs:a.eval s=v) (h6:aK w base v l)
  (ad:Addr) (m c:Nat) (z:List Int) (hx:a.eval x=.slice (some ad) m c) (hl:z.length=m) (h4:∀ j u,z[j]?=some u->w.cell? (ad.add j)=some (.int .i64 u))
  (d:(l.length+m)*8<=140737488355328) (h0:base<=w.heap.size)
  (h:∀ v' w',aK w' base v' (l ++ z)->Only v.ownBlock.toList w w'->(v'=.slice none 0 0↔v=.slice none 0 0/\m=0)->(v'.ownBlock=v.ownBlock\/v'.ownBlock=some w.heap.size)->wpList prog ops Q e (a.put o.dst v') w'):wpList prog ops Q (o :: e) a w:=by
 obtain ⟨i0,hi,h8,h9,x1⟩:=info_parts jV;refine bU h7 s x 23 ho base 3 i0 (.int .i64 0) 1 8 Tryz.underlying23 hi h8 h9 x1 rfl (by decide) v l.length _ hs h6 ad m c (z.map (Value.int .i64)) hx (by simp [hl])
  (fun j u hu=>?_) (fun u hu=>?_) (by simp only [maxLen];omega) d h0 (fun v' w' h1 h2 h3 h5=>h v' w' ?_ ?_ h3 h5)
 ·simp only [List.getElem?_map,Option.map_eq_some_iff] at hu;obtain ⟨y,hy,rfl⟩:=hu;exact h4 j y hy
 ·simp only [List.mem_map] at hu;obtain ⟨y,_,rfl⟩:=hu;rfl
 ·unfold aK;rw [List.length_append,hl,List.map_append];exact h1
 exact (Only.refl _ _).grown h2 (fun k hk=>.inl (by rw [hk];simp))
theorem nX {w:World} {ops:Array Oper} {e:List Oper} {o:Oper} {a:Act} {Q:Exit->Act->World->Prop} (h4:o.guard=none) (s x:Operand)
  (ho:o.op=.call { callee:=.builtin .append,args:=#[s,x],argTypes:=#[23,23] })
  (base:Nat) (v:Value) (l:List Int) (hs:a.eval s=v) (z:aK w base v l)
  (oa:Option Addr) (m c:Nat) (y:List Int) (hx:a.eval x=.slice oa m c) (h6:oa=none->m=0/\c=0) (hl:y.length=m) (h3:∀ ad,oa=some ad->∀ j u,y[j]?=some u->w.cell? (ad.add j)=some (.int .i64 u))
  (d:(l.length+m)*8<=140737488355328) (h0:base<=w.heap.size)
  (h:∀ v' w',aK w' base v' (l ++ y)->Only v.ownBlock.toList w w'->(v'.ownBlock=v.ownBlock\/v'.ownBlock=some w.heap.size)->wpList prog ops Q e (a.put o.dst v') w'):wpList prog ops Q (o :: e) a w:=by
 cases oa with
 | some ad=>exact gV h4 s x ho base v l hs z ad m c y hx hl (h3 ad rfl) d h0 (fun v' w' h1 h2 _ h5=>h v' w' h1 h2 h5)
 | none=>
  obtain ⟨rfl,rfl⟩:=h6 rfl;have:y=[]:=List.eq_nil_of_length_eq_zero hl;subst this;obtain ⟨i0,hi,h7,h8,h9⟩:=info_parts jV;refine wpList_append_own_none h4 s x 23 ho base 3 i0 1 Tryz.underlying23 hi v l.length _ hs z hx (h v w (by simpa using z) (Only.refl _ _) (.inl rfl))
theorem bJ {w:World} {ops:Array Oper} {z:List Oper} {o:Oper} {a:Act} {Q:Exit->Act->World->Prop} (h4:o.guard=none) (s x:Operand)
  (ho:o.op=.call { callee:=.builtin .append,args:=#[s,x],argTypes:=#[23,23] })
  (base:Nat) (v:Value) (l:List Int) (hs:a.eval s=v) (h0:aK w base v l)
  (b:Nat) (y:Int) (hx:a.eval x=.slice (some ⟨b,0,none⟩) 1 1) (e:w.cell? ⟨b,0,none⟩=some (.int .i64 y))
  (h3:l.length+1<=17592186044416) (d:base<=w.heap.size)
  (h:∀ v' w',aK w' base v' (l ++ [y])->Only v.ownBlock.toList w w'->(v'.ownBlock=v.ownBlock\/v'.ownBlock=some w.heap.size)->wpList prog ops Q z (a.put o.dst v') w'):wpList prog ops Q (o :: z) a w:=by
 refine gV h4 s x ho base v l hs h0 ⟨b,0,none⟩ 1 1 [y] hx rfl (fun j u hu=>?_) (by omega) d (fun v' w' h1 h2 _ h5=>h v' w' h1 h2 h5)
 cases j with
 | zero=>simp at hu;subst hu;exact e
 | succ j=>simp at hu
theorem yP (n:Nat):(madeCells (Value.int .i64 0).cells (n*1)).toList=List.replicate n (Value.int .i64 0):=by
 apply List.ext_getElem
 ·simp [madeCells]
 intro i y z;simp [madeCells,Value.cells,Nat.mod_one]
theorem aK.made (w:World):aK (w.alloc (.cells #[] 3)) w.heap.size (.slice (some ⟨w.heap.size,0,none⟩) 0 0) []:=
 World.ownsRow_made w #[] 0 (Nat.le_refl _) (by simp [maxLen]) rfl
set_option maxHeartbeats 400000 in
theorem aIw (w:World):Calls prog 80 #[.slice none 0 0] w (aO w (.slice none 0 0)):=by
 have d:=fun (z:World)=>Lib.run_eql_slice_nil (P:=prog) z 23 3 none 0 0 0 0 Tryz.underlying23;refine aF fun R y=>?_;go_in;go_wp2;exact y.out _ _ ⟨rfl,rfl⟩
set_option maxHeartbeats 400000 in
theorem aAX (w:World) (b n c:Nat) (l:List Int) (hl:l.length=n) (y:n<=17592186044416) (hc:∀ i,i<n->w.cell? ⟨b,i,none⟩=some (.int .i64 (gI l i))) :
  Calls prog 80 #[.slice (some ⟨b,0,none⟩) n c] w fun e w'=>∃ v,e=.returned v/\aK w' w.heap.size v l/\Only [] w w'/\v≠.slice none 0 0:=by
 have hq:=fun (wx:World)=>Lib.run_eql_slice_nil (P:=prog) wx 23 3 (some ⟨b,0,none⟩) n c 0 0 Tryz.underlying23;have z:=aA hl;have HC:=aA hc;clear hl hc;refine aF fun R hR=>?_;go_in;go_wp2_with (at_builtin;refine gV rfl _ _ rfl w.heap.size _ _ rfl (aK.made w) ⟨b,0,none⟩ n c l rfl ?_ ?_ ?_ ?_ ?_)
 ·exact z.out
 ·intro j u hu;have hj:j<n:=by have:=(List.getElem?_eq_some_iff.1 hu).1;have:=z.out;omega
  have d:=HC.out j hj;rw [show (⟨b,0,none⟩:Addr).add j=⟨b,j,none⟩ by unfold Addr.add;split<;>simp_all]
  rw [World.cell?_alloc_past _ _ _ (World.block_lt_of_cell? w _ d),d,gI,hu];rfl
 ·simp;omega
 ·simp
 intro v w1 hv ho y h0;have HN:Hid (v≠.slice none 0 0):=by intro e;simp [e] at y
 clear y;go_wp2;exact hR.out _ _ ⟨v,rfl,hv,((Only.refl _ _).alloc _).trans ho (fun x hx=>.inr (by simp [Value.ownBlock] at hx;omega)),HN.out⟩
set_option linter.unusedVariables false
def pR (w:World) (v:Value) (l:List Int):Prop:=
 (∃ b o c,v=.slice (some ⟨b,o,none⟩) l.length c/\∀ i,i<l.length->w.cell? ⟨b,o+i,none⟩=some (.int .i64 (gI l i)))\/(∃ oa c,v=.slice oa 0 c/\l=[])
theorem aK.read {w:World} {base:Nat} {v:Value} {l:List Int} (h:aK w base v l):pR w v l:=by
 rcases h.form with ⟨y,z⟩|⟨g,cap,y,_,_,_,z⟩
 ·exact .inr ⟨none,0,y,z⟩
 exact .inl ⟨g,0,cap,y,fun i d=>by rw [Nat.zero_add];exact z i d⟩
theorem pR.len {w:World} {v:Value} {l:List Int} (h:pR w v l):∃ a c,v=.slice a l.length c:=by
 rcases h with ⟨b,o,c,y,_⟩|⟨d,c,y,z⟩
 ·exact ⟨_,_,y⟩
 exact ⟨d,c,by rw [y,z];rfl⟩
theorem pR.only {w w':World} {v:Value} {l:List Int} {F:List Nat} (h:pR w v l) (ho:Only F w w') (d:∀ k,v.ownBlock=some k->k∉F):pR w' v l:=by
 rcases h with ⟨b,o,c,y,z⟩|y
 ·exact .inl ⟨b,o,c,y,fun i e=>ho.cell (z i e) (d b (by rw [y];rfl))⟩
 exact .inr y
set_option maxHeartbeats 1600000
set_option maxRecDepth 100000
open Go.Maps Go.WideShapes in
section
theorem jT {α:Type}:∀ {y l2:List α},y.Nodup->(∀ x∈y,x∈l2)->y.length<=l2.length/\(l2.length<=y.length->∀ x∈l2,x∈y)
 | [],l2,_,_=>⟨by simp,fun h x hx=>by cases l2 with|nil=>exact hx|cons a r=>simp at h⟩
 | a :: r,l2,hn,hs=>by
  obtain ⟨d,h2⟩:=List.nodup_cons.1 hn;obtain ⟨s,t,rfl⟩:=List.append_of_mem (hs a (by simp));have h3:∀ x∈r,x∈s ++ t:=fun x hx=>by
   have:=hs x (List.mem_cons_of_mem _ hx);simp only [List.mem_append,List.mem_cons] at this ⊢;rcases this with h|h|h
   ·exact .inl h
   ·subst h;exact absurd hx d
   exact .inr h
  obtain ⟨h4,z⟩:=jT h2 h3;simp only [List.length_append,List.length_cons] at h4 z ⊢;refine ⟨by omega,fun h x hx=>?_⟩
  by_cases e:x=a
  ·rw [e];simp
  refine List.mem_cons_of_mem _ (z (by omega) x ?_);simp only [List.mem_append,List.mem_cons] at hx ⊢;rcases hx with h|h|h
  ·exact .inl h
  ·exact absurd h e
  exact .inr h
def aJT {H:Type}:DataW H->List Lit|.map es=>es.map Prod.fst|_=>[]
theorem rH {H:Type} {D:DataW H} (c:Canon D):(aJT D).length=Maps.size D:=by obtain ⟨y,rfl,_⟩:=c;simp [aJT,Maps.size]
theorem pY {H:Type} {D:DataW H} (c:Canon D):(aJT D).Nodup:=by
 obtain ⟨y,rfl,h,_⟩:=c;exact List.pairwise_map.2 (apart_of_rising h)
theorem lD {H:Type} {D:DataW H} (c:Canon D) (k:Lit):k∈aJT D↔Maps.has D k=true:=by
 obtain ⟨d,rfl,_,h⟩:=c;constructor
 ·intro z;obtain ⟨p,y,rfl⟩:=List.mem_map.1 z;exact List.any_eq_true.2 ⟨p,y,WideAt.sameKey_self (h p y)⟩
 intro z;obtain ⟨p,y,hs⟩:=List.any_eq_true.1 z;exact List.mem_map.2 ⟨p,y,WideAt.sameKey_eq hs⟩
theorem aLL {H:Type} {z y:DataW H} (d:Canon z) (e:Canon y) (h:∀ k,Maps.has z k=true->Maps.has y k=true) :
  Maps.size z<=Maps.size y/\(Maps.size y<=Maps.size z->∀ k,Maps.has y k=true->Maps.has z k=true):=by
 have h1:=jT (pY d) (l2:=aJT y) (fun x hx=>(lD e x).2 (h x ((lD d x).1 hx)));rw [rH d,rH e] at h1;exact ⟨h1.1,fun hs k hk=>(lD d k).1 (h1.2 hs k ((lD e k).2 hk))⟩
theorem pW {H:Type} {R:Value->Option (DataW H×List MemPlace)} {w:World} {b n:Nat} {D:DataW H} (h:w.ownsMap prog 3 R b n D) {k:Lit} (hk:Maps.has D k=true):∃ x,k=.int .i64 x/\(Lit.int .i64 x).wf=true:=by
 obtain ⟨es,h0,_,F,_,rfl⟩:=h;obtain ⟨p,hp,d⟩:=List.any_eq_true.1 hk;obtain ⟨x,hx,rfl⟩:=List.mem_map.1 (mem_sorted.1 hp);obtain ⟨y,hy⟩:=F.reads x hx;have h1:=WideAt.sameKey_eq d;rw [WideElems.rg_of hy] at h1;obtain ⟨z,_,e,hw⟩:=Maps.keyOf_int_inv Tryz.underlying3 (WideElems.rd_key hy);exact ⟨z,by rw [<-h1,e],hw⟩
end
end Go.Proofs.YthflghdaejbdkaaGreat
