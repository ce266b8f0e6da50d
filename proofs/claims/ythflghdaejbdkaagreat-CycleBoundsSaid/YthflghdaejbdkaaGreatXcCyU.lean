/- Lemmas of this claim. -/
import Derived.Test.YthflghdaejbdkaaGreatXcTbPF
import Derived.Test.YthflghdaejbdkaaGreatCloneLay
import Derived.Test.YthflghdaejbdkaaGreatXcCyT
import Derived.Test.YthflghdaejbdkaaGreatXcCyGD
namespace Go.Proofs.YthflghdaejbdkaaGreat
open _root_.Go.Proofs.Tryz (prog)
open Go.RowKit Go.Maps Go.Shelf
set_option maxHeartbeats 12800000
set_option maxRecDepth 100000
set_option linter.unusedVariables false
theorem aIb (w:World) (y n:Nat) (f:Nat->Bool) (h:iW w y n f):Calls prog 188 #[.map (some y)] w fun e w'=>e=.returned (.map (some w.heap.size))/\iW w' w.heap.size n f/\Only [] w w':=by
 obtain ⟨D,d,z⟩:=h;have c:=AnyW.maps_Clone_owns Tryz.cloneB 3 (plainElem (H:=Unit) prog 4) y n D w d;change Calls prog 188 _ _ _ at c;exact c.mono fun e w' ⟨he,ho,_,hb⟩=>⟨he,⟨D,ho,z⟩,⟨hb.os,hb.tape,hb.output,hb.size,fun k hk _=>hb.block k hk⟩⟩
theorem aIa (w:World) (z:Option Nat) (P:Nat->(Nat->Bool)->Prop) (h:∀ y,z=some y->∃ n f,iW w y n f/\P n f):Calls prog 188 #[.map z] w fun e w'=>∃ mo',e=.returned (.map mo')/\(mo'=none↔z=none)/\(∀ y,mo'=some y->w.heap.size<=y/\∃ n f,iW w' y n f/\P n f)/\Only [] w w':=by
 cases z with
 | none=>
  have c:=AnyW.maps_Clone_nil Tryz.cloneB w;change Calls prog 188 _ _ _ at c;refine c.mono ?_;rintro e _ ⟨rfl,rfl⟩;exact ⟨none,rfl,by simp,fun y e=>by (cases e),Only.refl _ _⟩
 | some y=>
  obtain ⟨n,f,h,hp⟩:=h y rfl;refine (aIb w y n f h).mono ?_;rintro e w1 ⟨rfl,d,ho⟩;refine ⟨_,rfl,by simp,fun h0 e=>?_,ho⟩
  cases e
  exact ⟨Nat.le_refl _,n,f,d,hp⟩
theorem aHW (w:World) (v:Value) (l:List En) (h:iO w 123 0 v l) (hl:l.length<=20) :
  Calls prog 187 #[v] w fun e w'=>∃ v',e=.returned v'/\iO w' 123 w.heap.size v' l/\Only [] w w':=by
 refine aF fun R hR=>?_
 by_cases h0:l=[]
 ·subst h0;rcases h.2 with ⟨rfl,_⟩|⟨g,cap,h8,rfl,_,hh,_,_,_,_⟩
  ·have hn:=fun (wx:World)=>Lib.run_eql_slice_nil (P:=prog) wx 117 123 none 0 0 0 0 Tryz.underlying117;clear h;go_in;go_wp2;exact hR.out _ _ ⟨_,rfl,iO.nil _ _ _,Only.refl _ _⟩
  have hq:=fun (wx:World)=>Lib.run_eql_slice_nil (P:=prog) wx 117 123 (some ⟨g,0,none⟩) 0 cap 0 0 Tryz.underlying117;obtain ⟨i0,hi,z,d,h1⟩:=info_parts aJV;have h3:=aA z;have h4:=aA d;have h5:=aA h1;have HI:=aA hi;clear z d h1 hi h hh;go_in;go_wp2_with (at_builtin;refine bU rfl _ _ 117 rfl w.heap.size 123 i0 _ 3 24 Tryz.underlying117 HI.out h3.out h4.out h5.out rfl (by decide) _ 0 [] rfl (World.ownsRow_made w #[] 0 (Nat.le_refl _) (by simp [maxLen]) rfl) ⟨g,0,none⟩ 0 cap [] rfl ?_ ?_ ?_ ?_ ?_ ?_ ?_)
  ·rfl
  ·intro j u y;simp at y
  ·intro u y;simp at y
  ·simp [maxLen]
  ·omega
  ·simp
  intro v w1 hv ho h6 h2;have HO:Hid (Only [] w w1):=((Only.refl [] w).alloc _).grown ho (fun k hk=>by
    right;simp [Value.ownBlock] at hk;omega)
  have HV:Hid (iO w1 123 w.heap.size v []):=hv;clear ho hv h6 h2;go_wp2;exact hR.out _ _ ⟨_,rfl,HV.out,HO.out⟩
 obtain ⟨g,c,rfl,_,hg,h7⟩:=h.form h0;have HC:Hid (∀ j u,(dH l)[j]?=some u->w.cell? ⟨g,j,none⟩=some u):=fun j u y=>by
  have hj:=(List.getElem?_eq_some_iff.1 y).1;rw [World.ownsRow.cellAt h _ (by rw [lY] at hj;exact hj)];exact y
 have HE:Hid (∀ u∈dH l,u.oneCell'=true):=fun u y=>by
  unfold dH at y;rw [List.mem_flatMap] at y;obtain ⟨e,_,y⟩:=y;simp only [enC,List.mem_cons,List.not_mem_nil,or_false] at y;rcases y with rfl|rfl|rfl<;>rfl
 obtain ⟨n,hn⟩:∃ n,n=l.length:=⟨_,rfl⟩;rw [<-hn] at hl h7 ⊢;have hq:=fun (wx:World)=>Lib.run_eql_slice_nil (P:=prog) wx 117 123 (some ⟨g,0,none⟩) n c 0 0 Tryz.underlying117;have HN:=aA hn;obtain ⟨i0,hi,z,d,h1⟩:=info_parts aJV;have h3:=aA z;have h4:=aA d;have h5:=aA h1;have HI:=aA hi;clear z d h1 hi h hn h0 hg;go_in;go_wp2_with (at_builtin;refine bU rfl _ _ 117 rfl w.heap.size 123 i0 _ 3 24 Tryz.underlying117 HI.out h3.out h4.out h5.out rfl (by decide) _ 0 [] rfl (World.ownsRow_made w #[] 0 (Nat.le_refl _) (by simp [maxLen]) rfl) ⟨g,0,none⟩ n c (dH l) rfl ?_ ?_ ?_ ?_ ?_ ?_ ?_)
 ·rw [lY,HN.out]
 ·intro j u y;rw [dI,Nat.zero_add];exact ((Only.refl [] w).alloc _).cell (HC.out j u y) (by simp)
 ·exact HE.out
 ·simp [maxLen];omega
 ·omega
 ·simp
 intro v w1 hv ho h6 h2;have HO:Hid (Only [] w w1):=((Only.refl [] w).alloc _).grown ho (fun k hk=>by
   right;simp [Value.ownBlock] at hk;omega)
 have HV:Hid (iO w1 123 w.heap.size v l):=by
  show World.ownsRow _ _ _ _ _ _ _;rw [<-HN.out];have h:=hv
  try rw [Nat.zero_add] at h
  try rw [List.nil_append] at h
  exact h
 clear ho hv h6 h2;go_wp2;exact hR.out _ _ ⟨_,rfl,HV.out,HO.out⟩
theorem aCn (w:World) {b kk:Nat} {t:Tb} {ev qv:Value} {mo:Option Nat} (ht:mG w b ev qv mo t kk) (hl:t.ents.length<=20) (hq:t.q.length<=1000000):Calls prog 109 #[.pointer (some ⟨b,0,none⟩)] w (fun e w'=>∃ b2,e=.returned (.pointer (some ⟨b2,0,none⟩))/\aGo w w' (TbA b2 t kk)):=by
 refine aF fun R hR=>?_;have HT:=aA ht;obtain ⟨U,hr⟩:=ht.row;have x9:=hr.lt;have c0:=hr.cell 0 rfl;have c1:=hr.cell 1 rfl;have c2:=hr.cell 2 rfl;have c3:=hr.cell 3 rfl;have c4:=hr.cell 4 rfl;have c5:=hr.cell 5 rfl;have hn:=dY w c0;obtain ⟨ea,ec,y9⟩:=ht.ents.len;obtain ⟨qa,qc,z2⟩:=ht.q.len;have c6:=aA y9;have c7:=aA z2;have z3:Hid (∀ wx,Only [] w wx->Calls prog 187 #[ev] wx (fun e w'=>∃ v',e=.returned v'/\iO w' 123 wx.heap.size v' t.ents/\Only [] wx w')):=fun wx ho=>aHW wx ev t.ents (ht.ents.only ho (by simp)) hl;have z7:Hid (∀ wx,Only [] w wx->Calls prog 80 #[qv] wx (fun e w'=>∃ v',e=.returned v'/\aK w' wx.heap.size v' t.q/\Only [] wx w')):=fun wx ho=>oW wx qv t.q (ht.q.only ho (by simp)) hq;have a7:Hid (∀ wx,Only [] w wx->Calls prog 188 #[.map mo] wx (fun e w'=>∃ mo',e=.returned (.map mo')/\(mo'=none↔mo=none)/\(∀ mb,mo'=some mb->wx.heap.size<=mb/\∃ n f,iW w' mb n f/\n<=20/\(t.ph=2->kk<=n/\∀ i,i<kk->f i=t.fd i))/\Only [] wx w')):=fun wx ho=>aIa wx mo _ (fun mb e=>by
  obtain ⟨n,f,h1,h2⟩:=ht.fnd mb e;exact ⟨n,f,h1.only (ho.xA (S:=fun _=>False)) (fun x=>x),h2⟩)
 have b1:=aA ht.two;rw [y9] at c1 z3;rw [z2] at c2 z7;generalize t.ents.length=en at*;generalize t.q.length=qn at*;generalize y0:t.ph=ph at*;generalize a9:t.nx=nx at*;clear ht hr hl hq y9 z2;go_in;go_wp2_with fail;refine hn.mono ?_;rintro e _ ⟨rfl,rfl⟩;clear hn;go_upto_region 4 with fail;have y3:Hid (Row (w.alloc (.cells #[.bool true,.slice ea en ec,.slice qa qn qc,.int .i64 (ph:Int),.int .i64 (nx:Int),.map mo] 119)) w.heap.size 119 [.bool true,.slice ea en ec,.slice qa qn qc,.int .i64 (ph:Int),.int .i64 (nx:Int),.map mo]):=Row.new w _ [_,_,_,_,_,_];have x2:Hid (Only [] w (w.alloc (.cells #[.bool true,.slice ea en ec,.slice qa qn qc,.int .i64 (ph:Int),.int .i64 (nx:Int),.map mo] 119))):=(Only.refl [] w).alloc _;have d:w.heap.size≠b:=by omega
 have e1:(w.alloc (.cells #[.bool true,.slice ea en ec,.slice qa qn qc,.int .i64 (ph:Int),.int .i64 (nx:Int),.map mo] 119)).drew.cell? ⟨b,1,none⟩=_:=x2.out.aQ c1;have e2:(w.alloc (.cells #[.bool true,.slice ea en ec,.slice qa qn qc,.int .i64 (ph:Int),.int .i64 (nx:Int),.map mo] 119)).drew.cell? ⟨b,2,none⟩=_:=x2.out.aQ c2;have e5:(w.alloc (.cells #[.bool true,.slice ea en ec,.slice qa qn qc,.int .i64 (ph:Int),.int .i64 (nx:Int),.map mo] 119)).drew.cell? ⟨b,5,none⟩=_:=x2.out.aQ c5;have x7:(w.alloc (.cells #[.bool true,.slice ea en ec,.slice qa qn qc,.int .i64 (ph:Int),.int .i64 (nx:Int),.map mo] 119)).heap.size=w.heap.size+1:=by simp
 generalize (w.alloc (.cells #[.bool true,.slice ea en ec,.slice qa qn qc,.int .i64 (ph:Int),.int .i64 (nx:Int),.map mo] 119))=w6 at*;obtain ⟨y,hy⟩:∃ z,z=w.heap.size:=⟨_,rfl⟩;rw [<-hy] at y3 d x7 x9 ⊢;have HY:=aA hy;have b0:=aA x7;have b9:=aA d
 have b3:Hid (∀ wx,Only [] w6 wx->wx.cell? ⟨y,1,none⟩=some (.slice ea en ec)/\wx.cell? ⟨y,2,none⟩=some (.slice qa qn qc)/\wx.cell? ⟨y,5,none⟩=some (.map mo)/\wx.frozen? ⟨y,1,none⟩=false/\wx.frozen? ⟨y,2,none⟩=false/\wx.frozen? ⟨y,5,none⟩=false):=fun wx hox=>by
  have:=hox.row y3.out (by simp);exact ⟨this.cell 1 rfl,this.cell 2 rfl,this.cell 5 rfl,this.free 1,this.free 2,this.free 5⟩
 have x3:Hid (Only [] w6 w6.drew):=(Only.refl [] w6).drew;clear c0 c1 c2 c3 c4 c5 hy x7 x9;have c8:b≠y:=Ne.symm d
 go_region_held3 (fun w'=>w'.cell? ⟨b,1,none⟩=some (.slice ea en ec)/\w'.cell? ⟨b,2,none⟩=some (.slice qa qn qc)/\w'.cell? ⟨b,5,none⟩=some (.map mo))
  (first
   | (exact ⟨e1,e2,e5⟩)
   | (exact ⟨h0.aQ e1,h0.aQ e2,h0.aQ e5⟩)
   | (exact ⟨h4.aQ (h0.aQ e1),h4.aQ (h0.aQ e2),h4.aQ (h0.aQ e5)⟩)
   | (exact ⟨k1,k2,k5⟩)
   | (exact ⟨(World.cell?_setCell_far _ _ _ _ d).trans k1,(World.cell?_setCell_far _ _ _ _ d).trans k2,(World.cell?_setCell_far _ _ _ _ d).trans k5⟩)
   | (exact ⟨(World.cell?_setCell_far _ _ _ _ d).trans ((World.cell?_setCell_far _ _ _ _ d).trans k1),(World.cell?_setCell_far _ _ _ _ d).trans ((World.cell?_setCell_far _ _ _ _ d).trans k2),(World.cell?_setCell_far _ _ _ _ d).trans ((World.cell?_setCell_far _ _ _ _ d).trans k5)⟩)
   | (exact ⟨(World.cell?_setCell_far _ _ _ _ d).trans ((World.cell?_setCell_far _ _ _ _ d).trans ((World.cell?_setCell_far _ _ _ _ d).trans k1)),(World.cell?_setCell_far _ _ _ _ d).trans ((World.cell?_setCell_far _ _ _ _ d).trans ((World.cell?_setCell_far _ _ _ _ d).trans k2)),(World.cell?_setCell_far _ _ _ _ d).trans ((World.cell?_setCell_far _ _ _ _ d).trans ((World.cell?_setCell_far _ _ _ _ d).trans k5))⟩))
  (first
   | (go_at_call 187;refine (z3.out _ (x2.out.trans x3.out (by simp))).mono ?_;rintro e w7 ⟨v7,rfl,z0,h0⟩;obtain ⟨h7,h9,a5⟩:=z0.len;obtain ⟨n7,a2⟩:∃ z,z=t.ents.length:=⟨_,rfl⟩;rw [<-a2] at a5;subst a5;have z4:=aA z0;clear z0 a2)
   | (go_at_call 80;refine (z7.out _ ((x2.out.trans x3.out (by simp)).trans h0 (by simp))).mono ?_;rintro e w8 ⟨v8,rfl,z1,h4⟩;obtain ⟨h8,x1,a6⟩:=z1.len;obtain ⟨n8,a3⟩:∃ z,z=t.q.length:=⟨_,rfl⟩;rw [<-a3] at a6;subst a6;have z5:=aA z1;clear z1 a3)
   | (go_at_call 188;refine (a7.out _ (((x2.out.trans x3.out (by simp)).trans h0 (by simp)).trans h4 (by simp))).mono ?_;rintro e w9 ⟨h5,rfl,a4,a1,h6⟩;have z6:=aA a1;have a8:=aA a4;have k1:=h6.aQ (h4.aQ (h0.aQ e1));have k2:=h6.aQ (h4.aQ (h0.aQ e2));have k5:=h6.aQ (h4.aQ (h0.aQ e5));obtain ⟨y1,y2,y5,y6,y7,y8⟩:=b3.out w9 (((x3.out.trans h0 (by simp)).trans h4 (by simp)).trans h6 (by simp));clear a1 a4))
 have y4:Only [] w6 w9:=((x3.out.trans h0 (by simp)).trans h4 (by simp)).trans h6 (by simp);have x7:=b0.out;have b8:=HY.out;have b4:w6.heap.size<=w7.heap.size:=h0.size;have b5:=h4.size;have b6:=h6.size;have x8:=z4.out.own;have x4:=z5.out.own;have a0:=y4.row y3.out (by simp);have z9:Row (((w9.setCell ⟨y,1,none⟩ (.slice h7 n7 h9)).setCell ⟨y,2,none⟩ (.slice h8 n8 x1)).setCell ⟨y,5,none⟩ (.map h5)) y 119 [.bool true,.slice h7 n7 h9,.slice h8 n8 x1,.int .i64 (ph:Int),.int .i64 (nx:Int),.map h5]:=((a0.set 1 _).set 2 _).set 5 _;have x5:Only [y] w9 (((w9.setCell ⟨y,1,none⟩ (.slice h7 n7 h9)).setCell ⟨y,2,none⟩ (.slice h8 n8 x1)).setCell ⟨y,5,none⟩ (.map h5)):=(((Only.refl [y] w9).set (.inl (by simp)) _).set (.inl (by simp)) _).set (.inl (by simp)) _;have b7:w6.drew.heap.size=w6.heap.size:=rfl;have i7:=(((z4.out.only h4 (by simp)).only h6 (by simp)).only x5 (fun g hg=>by have:=(x8 g hg).1;simp;omega)).low (b:=0) (Nat.zero_le _);have i8:=((z5.out.only h6 (by simp)).only x5 (fun g hg=>by have:=(x4 g hg).1;simp;omega)).base (Nat.zero_le _);have z8:Only [] w (((w9.setCell ⟨y,1,none⟩ (.slice h7 n7 h9)).setCell ⟨y,2,none⟩ (.slice h8 n8 x1)).setCell ⟨y,5,none⟩ (.map h5)):=(x2.out.trans y4 (by simp)).trans x5 (fun x hx=>.inr (by simp at hx;omega));have x6:∀ mb,h5=some mb->w8.heap.size<=mb/\mb<w9.heap.size:=fun mb e=>by
  obtain ⟨h1,n,f,h2,_⟩:=z6.out mb e;exact ⟨h1,h2.lt⟩
 have hT:mG (((w9.setCell ⟨y,1,none⟩ (.slice h7 n7 h9)).setCell ⟨y,2,none⟩ (.slice h8 n8 x1)).setCell ⟨y,5,none⟩ (.map h5)) y (.slice h7 n7 h9) (.slice h8 n8 x1) h5 t kk:=by
  refine ⟨⟨_,by rw [y0,a9];exact z9⟩,i7,i8,fun mb e=>?_,fun h1 h2 h3=>b1.out (by rw [<-y0];exact h1) h2 (a8.out.1 h3),fun g hg=>?_,fun g hg=>?_,fun e=>?_⟩
  ·obtain ⟨h1,n,f,h2,h3⟩:=z6.out mb e;refine ⟨n,f,h2.only (x5.toP (S:=fun x=>x=y) (fun x hx=>.inl (by simpa using hx))) (fun x=>by omega),h3.1,fun h=>h3.2 (by rw [<-y0];exact h)⟩
  ·have h1:=x8 g hg;refine ⟨by omega,fun e=>?_,fun e=>?_⟩
   ·have:=x6 g e;omega
   have:=x4 g e;omega
  ·have h1:=x4 g hg;refine ⟨by omega,fun e=>?_⟩;have:=x6 g e;omega
  have:=x6 y e;omega
 have hB:aGo w (((w9.setCell ⟨y,1,none⟩ (.slice h7 n7 h9)).setCell ⟨y,2,none⟩ (.slice h8 n8 x1)).setCell ⟨y,5,none⟩ (.map h5)) (TbA y t kk):=by
  refine ⟨z8,fun k=>k=y\/(Value.slice h7 n7 h9).ownBlock=some k\/(Value.slice h8 n8 x1).ownBlock=some k\/h5=some k,⟨_,_,_,hT,fun k=>Iff.rfl⟩,fun k hk=>?_⟩;rcases hk with hk|hk|hk|hk
  ·omega
  ·have:=x8 k hk;omega
  ·have:=x4 k hk;omega
  have:=x6 k hk;omega
 have HE:=aA hB;clear y4 x7 b8 b4 b5 b6 x8 x4 a0 z9 x5 b7 i7 i8 z8 x6 hT hB;go_wp2;exact hR.out _ _ ⟨y,rfl,HE.out⟩
end Go.Proofs.YthflghdaejbdkaaGreat
namespace Go.Proofs.YthflghdaejbdkaaGreat
open _root_.Go.Proofs.Tryz (prog)
open Go.RowKit Go.Maps
set_option maxHeartbeats 6400000
set_option maxRecDepth 100000
set_option linter.unusedVariables false
section
variable {w0 w:World} {l:List Asn} {b:Nat} {c:Co} {x:CX} {i:Nat}
theorem aHh (w:World) {p hb:Nat} (h:w.cell? ⟨p,0,none⟩=some (.pointer (some ⟨hb,0,none⟩))):Calls prog 74 #[.pointer (some ⟨p,0,none⟩)] w (aO w (.pointer (some ⟨hb,0,none⟩))):=by
 refine aF fun R y=>?_;have z:=fE w h;go_in;go_wp2_with fail;refine z.mono ?_;rintro e _ ⟨rfl,rfl⟩;go_wp2;exact y.out _ _ ⟨rfl,rfl⟩
theorem Fam.aOr {R A B C D:Asn} {L:List Asn} (h:Fam w0 w (R :: (L ++ [A] ++ [B] ++ [C] ++ [D]))):Fam w0 w ([A,B,C,D,R] ++ L):=by
 have d:∀ k,k<L.length->(R :: (L ++ [A] ++ [B] ++ [C] ++ [D]))[k+1]?=L[k]?:=fun k hk=>by
  rw [List.getElem?_cons_succ,List.getElem?_append_left (by simp;omega),List.getElem?_append_left (by simp;omega),List.getElem?_append_left (by simp;omega),List.getElem?_append_left hk]
 have e:(R :: (L ++ [A] ++ [B] ++ [C] ++ [D]))[L.length+1]?=some A:=by
  rw [List.getElem?_cons_succ,List.getElem?_append_left (by simp),List.getElem?_append_left (by simp),List.getElem?_append_left (by simp)];simp
 have e2:(R :: (L ++ [A] ++ [B] ++ [C] ++ [D]))[L.length+2]?=some B:=by
  rw [List.getElem?_cons_succ,List.getElem?_append_left (by simp),List.getElem?_append_left (by simp),List.getElem?_append_right (by simp)];simp
 have e3:(R :: (L ++ [A] ++ [B] ++ [C] ++ [D]))[L.length+3]?=some C:=by
  rw [List.getElem?_cons_succ,List.getElem?_append_left (by simp),List.getElem?_append_right (by simp)];simp
 have e4:(R :: (L ++ [A] ++ [B] ++ [C] ++ [D]))[L.length+4]?=some D:=by
  rw [List.getElem?_cons_succ,List.getElem?_append_right (by simp)];simp
 refine h.selC (fun k=>if k<4 then L.length+1+k else if k=4 then 0 else k - 4) (fun k Z hk=>?_) (fun j k hj hk hne=>?_)
 ·match k with
  | 0=>exact e.trans hk
  | 1=>exact e2.trans hk
  | 2=>exact e3.trans hk
  | 3=>exact e4.trans hk
  | 4=>exact hk
  | k+5=>
   have y:L[k]?=some Z:=hk;have hl:=(List.getElem?_eq_some_iff.1 y).1;simp only [show ¬ (k+5<4) by omega,show ¬ (k+5=4) by omega,if_false];rw [show k+5 - 4=k+1 by omega,d k hl];exact y
 have z:([A,B,C,D,R] ++ L).length=5+L.length:=by rw [List.length_append];rfl
 rw [z] at hj hk;split<;>split<;>(try split)<;>(try split)<;>omega
theorem zY (w:World) (hf:Fam w0 w (C5 b c x ++ l)) (hx:x.ok c) (h:c.Okc):Calls prog 39 #[.pointer (some ⟨b,0,none⟩)] w (fun e w'=>∃ b2,e=.returned (.pointer (some ⟨b2,0,none⟩))/\∃ x2:CX,x2.ok c/\Fam w0 w' (C5 b2 c x2 ++ (C5 b c x ++ l))):=by
 refine aF fun R hR=>?_;obtain ⟨x0,x1,x2,x3,x4,x5,x6,x7,x8,x9,_⟩:=dB.cells hf;have hs:=C5.sw hf;obtain ⟨sa,sc,hv⟩:=hs.len;have y2:=h.vK;obtain ⟨n,hn⟩:∃ n,n=c.sw.length:=⟨_,rfl⟩;rw [<-hn] at hv y2;rw [hv] at x8;have h9:dB b c x=[.int .i64 (c.pages:Int),.int .i64 c.rate,.pointer (some ⟨x.hb,0,none⟩),.pointer (some ⟨x.tb,0,none⟩),.pointer (some ⟨x.p,0,none⟩),.int .i64 (c.ph:Int),.int .i64 c.cr,.bool x.ov,.slice sa n sc,.int .i64 (x.mv:Int)]:=by unfold dB;rw [hv]
 have y0:Hid (c.m.list.length<=192):=by
  by_cases hp:c.ph=1\/c.ph=2
  ·exact (h.mo hp).len
  rw [h.nl (fun e=>hp (.inl e)) (fun e=>hp (.inr e))];exact Nat.zero_le _
 have HB:=aA h.tg.b;have HX:=aA hx;have HV:=aA hv;have HN:=aA hn;have F1:Hid (Fam w0 (w.alloc (.cells #[.int .i64 (c.pages:Int),.int .i64 c.rate,.pointer (some ⟨x.hb,0,none⟩),.pointer (some ⟨x.tb,0,none⟩),.pointer (some ⟨x.p,0,none⟩),.int .i64 (c.ph:Int),.int .i64 c.cr,.bool x.ov,.slice sa n sc,.int .i64 (x.mv:Int)] 142)) (eG w.heap.size 142 [.int .i64 (c.pages:Int),.int .i64 c.rate,.pointer (some ⟨x.hb,0,none⟩),.pointer (some ⟨x.tb,0,none⟩),.pointer (some ⟨x.p,0,none⟩),.int .i64 (c.ph:Int),.int .i64 c.cr,.bool x.ov,.slice sa n sc,.int .i64 (x.mv:Int)] :: (C5 b c x ++ l))):=by
  have h1:=hf.addRow 142 [.int .i64 (c.pages:Int),.int .i64 c.rate,.pointer (some ⟨x.hb,0,none⟩),.pointer (some ⟨x.tb,0,none⟩),.pointer (some ⟨x.p,0,none⟩),.int .i64 (c.ph:Int),.int .i64 c.cr,.bool x.ov,.slice sa n sc,.int .i64 (x.mv:Int)];refine h1.selC (fun k=>if k=0 then (C5 b c x ++ l).length else k - 1) (fun k Z hk=>?_) (fun j k hj hk hne=>?_)
  ·match k with
   | 0=>
    show ((C5 b c x ++ l) ++ [_])[(C5 b c x ++ l).length]?=some Z;rw [jA];exact hk
   | k+1=>
    have y1:(C5 b c x ++ l)[k]?=some Z:=hk;simp only [show ¬ (k+1=0) by omega,if_false,Nat.add_sub_cancel];exact rF y1
  rw [List.length_cons] at hj hk;split<;>split<;>omega
 have cn:=aJ w x2;have y3:(w.alloc (.cells #[.int .i64 (c.pages:Int),.int .i64 c.rate,.pointer (some ⟨x.hb,0,none⟩),.pointer (some ⟨x.tb,0,none⟩),.pointer (some ⟨x.p,0,none⟩),.int .i64 (c.ph:Int),.int .i64 c.cr,.bool x.ov,.slice sa n sc,.int .i64 (x.mv:Int)] 142)).cell? ⟨b,4,none⟩=some (.pointer (some ⟨x.p,0,none⟩)):=((C5.row hf).alloc _).cell 4 rfl;clear hf hx h hv hn hs h9;go_in;go_wp2_with fail;refine cn.mono ?_;rintro e _ ⟨rfl,rfl⟩;clear cn;go_upto_region 4 with fail;obtain ⟨y,hy⟩:∃ y,y=w.heap.size:=⟨_,rfl⟩;rw [<-hy] at F1 ⊢;generalize w.alloc (.cells #[.int .i64 (c.pages:Int),.int .i64 c.rate,.pointer (some ⟨x.hb,0,none⟩),.pointer (some ⟨x.tb,0,none⟩),.pointer (some ⟨x.p,0,none⟩),.int .i64 (c.ph:Int),.int .i64 c.cr,.bool x.ov,.slice sa n sc,.int .i64 (x.mv:Int)] 142)=w1 at*;clear x0 x1 x2 x3 x4 x5 x6 x7 x8 x9 hy;have cm:=aHi w1 (l:=eG y 142 [.int .i64 (c.pages:Int),.int .i64 c.rate,.pointer (some ⟨x.hb,0,none⟩),.pointer (some ⟨x.tb,0,none⟩),.pointer (some ⟨x.p,0,none⟩),.int .i64 (c.ph:Int),.int .i64 c.cr,.bool x.ov,.slice sa n sc,.int .i64 (x.mv:Int)] :: (C5 b c x ++ l)) (i:=1) (j:=2) (hb:=x.hb) (p:=x.p) (m:=c.m) ⟨by simp [C5],by simp [C5],by decide⟩ F1.out y0.out;go_wp2_with fail;refine cm.mono ?_;rintro e w2 ⟨z,d,rfl,h5⟩;have F2:Hid (Fam w0 w2 (eG y 142 [.int .i64 (c.pages:Int),.int .i64 c.rate,.pointer (some ⟨x.hb,0,none⟩),.pointer (some ⟨x.tb,0,none⟩),.pointer (some ⟨x.p,0,none⟩),.int .i64 (c.ph:Int),.int .i64 c.cr,.bool x.ov,.slice sa n sc,.int .i64 (x.mv:Int)] :: ((C5 b c x ++ l) ++ [PH z c.m.M] ++ [MkA d z c.m.col c.m.list]))):=h5;have r2:=F2.out.row 0 rfl;have h4:=r2.cell 4 rfl;have y8:=r2.free 4;have F3:Hid (Fam w0 (w2.setCell ⟨y,4,none⟩ (.pointer (some ⟨d,0,none⟩))) (eG y 142 [.int .i64 (c.pages:Int),.int .i64 c.rate,.pointer (some ⟨x.hb,0,none⟩),.pointer (some ⟨x.tb,0,none⟩),.pointer (some ⟨d,0,none⟩),.int .i64 (c.ph:Int),.int .i64 c.cr,.bool x.ov,.slice sa n sc,.int .i64 (x.mv:Int)] :: ((C5 b c x ++ l) ++ [PH z c.m.M] ++ [MkA d z c.m.col c.m.list]))):=F2.out.bV 0 rfl 4 _;clear cm h5 y3 r2 F1;go_upto_region 5 with fail;generalize w2.setCell ⟨y,4,none⟩ (.pointer (some ⟨d,0,none⟩))=w3 at*;clear h4 y8 F2;have r3:=F3.out.row 0 rfl;have h4:=r3.cell 4 rfl;have y4:=r3.cell 2 rfl;have y5:=r3.free 2;have h7:w3.cell? ⟨d,0,none⟩=some (.pointer (some ⟨z,0,none⟩)):=by
  obtain ⟨S,⟨mb,v,h1,_⟩,_⟩:=F3.out.get (((C5 b c x ++ l) ++ [PH z c.m.M]).length+1) (A:=MkA d z c.m.col c.m.list) (by rw [List.getElem?_cons_succ,jA]);obtain ⟨T,h2⟩:=h1.row;exact h2.cell 0 rfl
 have ch:=aHh w3 h7;have F4:Hid (Fam w0 (w3.setCell ⟨y,2,none⟩ (.pointer (some ⟨z,0,none⟩))) (eG y 142 [.int .i64 (c.pages:Int),.int .i64 c.rate,.pointer (some ⟨z,0,none⟩),.pointer (some ⟨x.tb,0,none⟩),.pointer (some ⟨d,0,none⟩),.int .i64 (c.ph:Int),.int .i64 c.cr,.bool x.ov,.slice sa n sc,.int .i64 (x.mv:Int)] :: ((C5 b c x ++ l) ++ [PH z c.m.M] ++ [MkA d z c.m.col c.m.list]))):=F3.out.bV 0 rfl 2 _;clear r3 h7;go_wp2_with fail;refine ch.mono ?_;rintro e _ ⟨rfl,rfl⟩;clear ch;go_upto_region 6 with fail;generalize w3.setCell ⟨y,2,none⟩ (.pointer (some ⟨z,0,none⟩))=w4 at*;clear h4 y4 y5 F3;obtain ⟨S,⟨ev,qv,mo,ht,_⟩,_⟩:=F4.out.get 3 rfl;have ct:=aCn w4 ht HB.out.le (by have:=HB.out.q20;omega);have z3:=(F4.out.row 5 rfl).cell 3 rfl;clear ht;go_wp2_with fail;refine ct.mono ?_;rintro e w5 ⟨t2,rfl,hB⟩;have F5:Hid (Fam w0 w5 (eG y 142 [.int .i64 (c.pages:Int),.int .i64 c.rate,.pointer (some ⟨z,0,none⟩),.pointer (some ⟨x.tb,0,none⟩),.pointer (some ⟨d,0,none⟩),.int .i64 (c.ph:Int),.int .i64 c.cr,.bool x.ov,.slice sa n sc,.int .i64 (x.mv:Int)] :: ((C5 b c x ++ l) ++ [PH z c.m.M] ++ [MkA d z c.m.col c.m.list] ++ [TbA t2 c.t c.t.ents.length]))):=F4.out.add hB;have r5:=F5.out.row 0 rfl;have y6:=r5.cell 3 rfl;have y7:=r5.free 3;have F6:Hid (Fam w0 (w5.setCell ⟨y,3,none⟩ (.pointer (some ⟨t2,0,none⟩))) (eG y 142 [.int .i64 (c.pages:Int),.int .i64 c.rate,.pointer (some ⟨z,0,none⟩),.pointer (some ⟨t2,0,none⟩),.pointer (some ⟨d,0,none⟩),.int .i64 (c.ph:Int),.int .i64 c.cr,.bool x.ov,.slice sa n sc,.int .i64 (x.mv:Int)] :: ((C5 b c x ++ l) ++ [PH z c.m.M] ++ [MkA d z c.m.col c.m.list] ++ [TbA t2 c.t c.t.ents.length]))):=F5.out.bV 0 rfl 3 _;clear ct hB r5 z3 F4;go_upto_region 7 with fail;generalize w5.setCell ⟨y,3,none⟩ (.pointer (some ⟨t2,0,none⟩))=w6 at*;clear y6 y7 F5;have z8:=(F6.out.row 5 rfl).cell 8 rfl;replace z8:w6.cell? ⟨b,8,none⟩=some (.slice sa n sc):=by rw [<-HV.out];exact z8
 have h0:=F6.out.ints 4 rfl;rw [HV.out] at h0;have cc:=oW w6 _ c.sw h0 (by rw [<-HN.out];omega);clear h0;go_wp2_with fail;refine cc.mono ?_;rintro e w7 ⟨v7,rfl,h3,h6⟩;obtain ⟨va,vc,h8⟩:=h3.len;rw [<-HN.out] at h8;subst h8;have F7:Hid (Fam w0 w7 (eG y 142 [.int .i64 (c.pages:Int),.int .i64 c.rate,.pointer (some ⟨z,0,none⟩),.pointer (some ⟨t2,0,none⟩),.pointer (some ⟨d,0,none⟩),.int .i64 (c.ph:Int),.int .i64 c.cr,.bool x.ov,.slice sa n sc,.int .i64 (x.mv:Int)] :: ((C5 b c x ++ l) ++ [PH z c.m.M] ++ [MkA d z c.m.col c.m.list] ++ [TbA t2 c.t c.t.ents.length] ++ [dG (.slice va n vc) c.sw]))):=F6.out.iK h6 h3;have r7:=F7.out.row 0 rfl;have y9:=r7.cell 8 rfl;have z0:=r7.free 8;have F8:Hid (Fam w0 (w7.setCell ⟨y,8,none⟩ (.slice va n vc)) (C5 y c ⟨z,d,t2,.slice va n vc,x.ov,x.mv⟩ ++ (C5 b c x ++ l))):=by
  have f8:Fam w0 (w7.setCell ⟨y,8,none⟩ (.slice va n vc)) (eG y 142 (dB y c ⟨z,d,t2,.slice va n vc,x.ov,x.mv⟩) :: ((C5 b c x ++ l) ++ [PH z c.m.M] ++ [MkA d z c.m.col c.m.list] ++ [TbA t2 c.t c.t.ents.length] ++ [dG (.slice va n vc) c.sw])):=F7.out.bV 0 rfl 8 _;exact f8.aOr
 clear cc h3 h6 r7 z8 F6;go_wp2;exact hR.out _ _ ⟨y,rfl,⟨z,d,t2,.slice va n vc,x.ov,x.mv⟩,⟨HX.out.ov,HX.out.mv,HX.out.mv2⟩,F8.out⟩
end
end Go.Proofs.YthflghdaejbdkaaGreat
