/- Lemmas of this claim. -/
import Derived.Deep.DeepFit
import Derived.Test.YthflghdaejbdkaaGreatXbTbPD
import Derived.Test.YthflghdaejbdkaaGreatXbCloneLay
import Derived.Test.YthflghdaejbdkaaGreatXbTbGC
import Derived.Deep.AppendLies
import Derived.Test.YthflghdaejbdkaaGreatXbCyGC
import Derived.Test.YthflghdaejbdkaaGreatXbCyStar
namespace Go.Proofs.YthflghdaejbdkaaGreat
open _root_.Go.Proofs.Tryz (prog)
open Go.RowKit Go.Maps Go.Shelf
set_option maxHeartbeats 12800000
set_option maxRecDepth 100000
set_option linter.unusedVariables false
theorem aIj (w:World) (z:Nat) (y:Int->Int) (h:aAs w z y):Calls prog 186 #[.map (some z)] w fun e w'=>e=.returned (.map (some w.heap.size))/\aAs w' w.heap.size y/\Only [] w w':=by
 obtain ⟨D,hD,d,h2⟩:=h;have c:=AnyW.maps_Clone_owns Tryz.cloneC 3 (plainElem (H:=Unit) prog 3) z 192 D w hD;change Calls prog 186 _ _ _ at c;exact c.mono fun e w' ⟨he,ho,_,hb⟩=>⟨he,⟨D,ho,d,h2⟩,⟨hb.os,hb.tape,hb.output,hb.size,fun k hk _=>hb.block k hk⟩⟩
section
variable {w0 w:World} {l:List Asn} {i j hb p q r:Nat} {m:Mk}
theorem aHo (w:World) (T2:gZ l i j) (hf:Fam w0 w (ML l i j hb p m)) (hm:m.list.length<=192):Calls prog 108 #[.pointer (some ⟨p,0,none⟩)] w (fun e w'=>∃ q2 p2,e=.returned (.pointer (some ⟨p2,0,none⟩))/\Fam w0 w' (ML l i j hb p m ++ [PH q2 m.M] ++ [MkA p2 q2 m.col m.list])):=by
 refine aF fun R hR=>?_;have HF:=aA hf;obtain ⟨hk,L,X,hp⟩:=ML.ph T2 hf;have x4:=aA (hf.phF i (ML.heap T2));obtain ⟨mb,v,hg⟩:=ML.mk T2 hf;have h9:Hid (∀ wx,Only [] w wx->Calls prog 128 #[.pointer (some ⟨hb,0,none⟩)] wx (fun e w'=>∃ q L' X',e=.returned (.pointer (some ⟨q,0,none⟩))/\dO w' L' q m.M X'/\(∀ k,L' k≠none->wx.heap.size<=k)/\Only [] wx w')):=fun wx ho=>by
  have c:=aDv wx (hp.aK ho) hk;exact c
 have x1:Hid (∀ wx,Only [] w wx->Calls prog 186 #[.map (some mb)] wx (fun e w'=>e=.returned (.map (some wx.heap.size))/\aAs w' wx.heap.size m.col/\Only [] wx w')):=fun wx ho=>aIj wx mb m.col (hg.map.rO ho (by simp));have x2:Hid (∀ wx,Only [] w wx->Calls prog 80 #[v] wx (fun e w'=>∃ v',e=.returned v'/\aN w' wx.heap.size v' m.list/\Only [] wx w')):=fun wx ho=>pK wx v m.list (hg.ints.only ho (by simp)) (by have:=hm;omega);obtain ⟨z0,z1,z2,_⟩:=hg.cells;have hn:=fF w z0;have d0:w.drew.cell? ⟨p,0,none⟩=_:=z0;have d1:w.drew.cell? ⟨p,1,none⟩=_:=z1;have d2:w.drew.cell? ⟨p,2,none⟩=_:=z2;obtain ⟨ga,gc,hv⟩:=hg.ints.len;subst hv;generalize m.list.length=n at*;have D0:=aA (aJC w);clear hf hk hp hg;go_in;go_wp2_with fail;go_fit hn;rintro e _ ⟨rfl,rfl⟩;clear hn;go_wp2;go_region_held3 (fun w'=>w'.cell? ⟨p,0,none⟩=some (.pointer (some ⟨hb,0,none⟩))/\w'.cell? ⟨p,1,none⟩=some (.map (some mb))/\w'.cell? ⟨p,2,none⟩=some (.slice ga n gc))
  (first
   | (exact ⟨d0,d1,d2⟩)
   | (exact ⟨y.aS d0,y.aS d1,y.aS d2⟩)
   | (exact ⟨z.aS d0,z.aS d1,z.aS d2⟩)
   | (exact ⟨d.aS d0,d.aS d1,d.aS d2⟩)
   | (exact ⟨z.aS (y.aS d0),z.aS (y.aS d1),z.aS (y.aS d2)⟩)
   | (exact ⟨d.aS (z.aS (y.aS d0)),d.aS (z.aS (y.aS d1)),d.aS (z.aS (y.aS d2))⟩)
   | (exact ⟨(d.alloc _).aS (z.aS (y.aS d0)),(d.alloc _).aS (z.aS (y.aS d1)),(d.alloc _).aS (z.aS (y.aS d2))⟩))
  (first
   | (go_at_call 128;refine (h9.o _ D0.o).mono ?_;rintro e wA ⟨q2,L2,X2,rfl,h8,h7,y⟩)
   | (go_at_call 186;refine (x1.o _ (D0.o.trans y (by simp))).mono ?_;rintro e wB ⟨rfl,h5,z⟩)
   | (go_at_call 80;refine (x2.o _ ((D0.o.trans y (by simp)).trans z (by simp))).mono ?_;rintro e wC ⟨v2,rfl,h0,d⟩;obtain ⟨h2,h3,x8⟩:=h0.len;subst x8)
)
 have h6:Fam w0 wA (ML l i j hb p m ++ [PH q2 m.M]):=HF.o.drew.add (aOz h8 x4.o h7 y);have h4:Only [] wB ((wC.alloc (.cells #[.pointer (some ⟨q2,0,none⟩),.map (some wA.heap.size),.slice h2 m.list.length h3] 129))):=d.alloc _;have x6:=z.size;have x7:=d.size;have x5:=h5.lt;have h1:aGw wA (wC.alloc (.cells #[.pointer (some ⟨q2,0,none⟩),.map (some wA.heap.size),.slice h2 m.list.length h3] 129)) (MkA wC.heap.size q2 m.col m.list):=by
  refine ⟨z.trans h4 (by simp),fun k=>k=wC.heap.size\/k=wA.heap.size\/(Value.slice h2 m.list.length h3).ownBlock=some k,⟨wA.heap.size,.slice h2 m.list.length h3,⟨⟨129,Row.new wC 129 [_,_,_]⟩,h5.rO h4 (by simp),(h0.base (Nat.zero_le _)).alloc _,by omega,fun g hg=>?_⟩,fun k=>Iff.rfl⟩,fun k hk=>?_⟩
  ·have:=h0.own g hg;exact ⟨by omega,by omega⟩
  rcases hk with hk|hk|hk
  ·omega
  ·omega
  have:=h0.own k hk;omega
 have x3:=aA (h6.add h1);clear h6 h4 h1 x5 x6 x7 h8 h7 y h5 z h0 d d0 d1 d2;go_wp2;exact hR.o _ _ ⟨q2,wC.heap.size,rfl,x3.o⟩
theorem aCE {ops:Array Oper} {o:Oper} {ac:Act} {wl:World} {K:Act->World->Prop} {Q:Exit->Act->World->Prop} {E:Prop} (h2:o.guard=none) (s x:Operand)
  (ho:o.op=.call { callee:=.builtin .append,args:=#[s,x],argTypes:=#[23,23] }) (w0:World) (hO:Only [] w0 wl)
  (hs:ac.eval s=.slice none 0 0) (va:Option Addr) (n e:Nat) (l:List Int) (hx:ac.eval x=.slice va n e) (hl:l.length=n) (hv:aN w0 0 (.slice va n e) l) (hb:n<=1000000)
  (h:∀ v' w',Hid (aN w' wl.heap.size v' l)->Hid (Only [] wl w')->K (ac.put o.dst v') w') :
  if Region.wanted o (yielded ops ac.tmps)=true then Oper.wp prog o ac wl K Q else E:=by
 obtain ⟨i0,h3,h7,h8,h9⟩:=info_parts jO
 by_cases h0:n=0
 ·subst h0;have h4:l=[]:=List.eq_nil_of_length_eq_zero hl;subst h4;have hw:Region.wanted o (yielded ops ac.tmps)=true:=by simp [Region.wanted,h2]
  rw [if_pos hw];have h5:Src prog i0.size 23 (.slice va 0 e) 0 [] wl:=by
   cases va with
   | none=>exact Src.ofNil wl Tryz.underlying23 e
   | some a=>exact Src.ofSlice wl Tryz.underlying23 a 0 e [] (by simp) (fun j u z=>by simp at z) (fun u z=>by simp at z)
  have hr:=run_append_nothing (P:=prog) wl 23 23 o.type 3 i0 Tryz.underlying23 h3 none 0 0 (Nat.le_refl _) (.slice va 0 e) h5;unfold Oper.wp execOp;simp only [ho,resolve,invoke,builtin,Sem.run_bind,Sem.run_pure,Result.andThen_ok,List.map_toArray,List.map_cons,List.map_nil,hs,hx,hr];exact h (.slice none 0 0) wl (aN.nil _ _) (Only.refl _ _)
 have h6:0<n:=by omega
 rcases hv.form with ⟨d,_⟩|⟨g,cap,d,_,_,_,hc⟩
 ·simp only [Value.slice.injEq] at d;omega
 simp only [Value.slice.injEq] at d;obtain ⟨rfl,_,rfl⟩:=d;refine step_append_lies (P:=prog) _ h2 s x 23 ho wl.heap.size 3 i0 (.int .i64 0) 1 8 Tryz.underlying23 h3 h7 h8 h9 rfl (by omega) (.slice none 0 0) 0 [] hs (aN.nil wl wl.heap.size) ⟨g,0,none⟩ n e (l.map (Value.int .i64)) hx (by simp [hl]) (fun j u z=>?_) (fun u z=>?_) h6 (by simp only [maxLen];omega) (by omega) (Nat.le_refl _) wl.heap.size rfl ?_
 ·simp only [List.getElem?_map,Option.map_eq_some_iff] at z;obtain ⟨y,hy,rfl⟩:=z;have hj:=(List.getElem?_eq_some_iff.1 hy).1;have d:=hO.cell (hc j hj) (by simp);rw [gI,hy] at d;rw [show (⟨g,0,none⟩:Addr).add j=⟨g,j,none⟩ by unfold Addr.add;split<;>simp_all]
  exact d
 ·simp only [List.mem_map] at z;obtain ⟨y,_,rfl⟩:=z;rfl
 intro g2 x1 w' k1 k2 k3 k4;rw [Nat.zero_add] at k1 ⊢;refine h _ w' ?_ ((Only.refl [] wl).grown k2 (fun k hk=>by cases hk));show aN _ _ _ _;unfold aN;rw [hl];exact k1
theorem aHM (w:World) (T2:gZ l i j) (hf:Fam w0 w (RL l i j q r m)) (hm:m.Ok):Calls prog 110 #[.pointer (some ⟨r,0,none⟩)] w (fun e w'=>∃ q2 r2,e=.returned (.pointer (some ⟨r2,0,none⟩))/\Fam w0 w' (RL l i j q r m ++ [GH q2 m.M] ++ [GkA r2 q2 m.col m.list])):=by
 refine aF fun R hR=>?_;have HF:=aA hf;obtain ⟨hk,L,X,hp⟩:=RL.gh T2 hf;have HK:=aA hk;obtain ⟨tg,tc,v,T,hg⟩:=RL.mk T2 hf;have x3:Hid (∀ wx,Only [] w wx->Calls prog 111 #[.pointer (some ⟨q,0,none⟩)] wx (fun e w'=>∃ q L' X',e=.returned (.pointer (some ⟨q,0,none⟩))/\bJ w' L' q m.M X'/\(∀ k,L' k≠none->wx.heap.size<=k)/\Only [] wx w')):=fun wx ho=>aDM wx (hp.aK ho) hk;obtain ⟨z0,z1,z2,_⟩:=hg.cells;have d0:w.drew.cell? ⟨r,0,none⟩=_:=z0;have d1:w.drew.cell? ⟨r,1,none⟩=_:=z1;have d2:w.drew.cell? ⟨r,2,none⟩=_:=z2;obtain ⟨ga,gc,hv⟩:=hg.ints.len;subst hv;have x8:=aA hg.tint;have h0:=aA hg.tl;have x9:=aA hg.tv;have x6:Hid (aN w 0 (.slice ga m.list.length gc) m.list):=hg.ints;have x5:=aA hm.len;generalize h8:m.list.length=n at*;have HN:=aA h8;have x7:Hid (n<=1000000):=by have:=x5.o;show _<=_;omega
 have D0:=aA (aJC w);clear hf hk hp hg h8;go_in;go_wp2;go_region_held3 (fun w'=>w'.cell? ⟨r,0,none⟩=some (.pointer (some ⟨q,0,none⟩))/\w'.cell? ⟨r,1,none⟩=some (.slice (some ⟨tg,0,none⟩) 193 tc)/\w'.cell? ⟨r,2,none⟩=some (.slice ga n gc))
  (first
   | (exact ⟨d0,d1,d2⟩)
   | (exact ⟨y.aS d0,y.aS d1,y.aS d2⟩)
   | (exact ⟨z.o.aS (y.aS d0),z.o.aS (y.aS d1),z.o.aS (y.aS d2)⟩)
   | (exact ⟨d.o.aS (z.o.aS (y.aS d0)),d.o.aS (z.o.aS (y.aS d1)),d.o.aS (z.o.aS (y.aS d2))⟩)
   | (exact ⟨(d.o.alloc _).aS (z.o.aS (y.aS d0)),(d.o.alloc _).aS (z.o.aS (y.aS d1)),(d.o.alloc _).aS (z.o.aS (y.aS d2))⟩))
  (first
   | (go_at_call 111;refine (x3.o _ D0.o).mono ?_;rintro e wA ⟨q2,L2,X2,rfl,x2,x1,y⟩)
   | (refine aCE (by rfl) _ _ (by rfl) w (D0.o.trans y (by simp)) (by rfl) (some ⟨tg,0,none⟩) 193 tc T (by rfl) h0.o x8.o (by decide) ?_;intro vB wB h5 z;obtain ⟨aB,cB,y5⟩:=h5.o.len;subst y5)
   | (refine aCE (by rfl) _ _ (by rfl) w ((D0.o.trans y (by simp)).trans z.o (by simp)) (by rfl) ga n gc m.list (by rfl) HN.o x6.o x7.o ?_;intro vC wC h3 d;obtain ⟨aC,cC,y6⟩:=h3.o.len;subst y6))
 have h9:Fam w0 wA (RL l i j q r m ++ [GH q2 m.M]):=HF.o.drew.add (aPg x2 HK.o x1 y);have y3:=z.o.size;have y4:=d.o.size;obtain ⟨gB,y2,y1,y0⟩:∃ gB,aB=some ⟨gB,0,none⟩/\wA.heap.size<=gB/\gB<wB.heap.size:=by
  rcases h5.o.form with ⟨_,e⟩|⟨g,cap,e,h1,h2,_⟩
  ·have:=h0.o;rw [e] at this;cases this
  simp only [Value.slice.injEq] at e;exact ⟨g,e.1,h1,h2⟩
 subst y2;have h6:Only [] wB (wC.alloc (.cells #[.pointer (some ⟨q2,0,none⟩),.slice (some ⟨gB,0,none⟩) T.length cB,.slice aC m.list.length cC] 150)):=d.o.alloc _;have h4:aGw wA (wC.alloc (.cells #[.pointer (some ⟨q2,0,none⟩),.slice (some ⟨gB,0,none⟩) T.length cB,.slice aC m.list.length cC] 150)) (GkA wC.heap.size q2 m.col m.list):=by
  refine ⟨z.o.trans h6 (by simp),fun k=>k=wC.heap.size\/k=gB\/(Value.slice aC m.list.length cC).ownBlock=some k,⟨gB,cB,.slice aC m.list.length cC,T,⟨⟨150,?_⟩,?_,h0.o,x9.o,(h3.o.base (Nat.zero_le _)).alloc _,by omega,fun g hg=>?_⟩,fun k=>Iff.rfl⟩,fun k hk=>?_⟩
  ·have h7:=Row.new wC 150 [.pointer (some ⟨q2,0,none⟩),.slice (some ⟨gB,0,none⟩) T.length cB,.slice aC m.list.length cC];rw [h0.o] at h7 ⊢;exact h7
  ·have h7:=(h5.o.base (Nat.zero_le _)).only h6 (by simp);rw [h0.o] at h7 ⊢;exact h7
  ·have:=h3.o.own g hg;exact ⟨by omega,by omega⟩
  rcases hk with hk|hk|hk
  ·omega
  ·omega
  have:=h3.o.own k hk;omega
 have x4:=aA (h9.add h4);clear h9 h6 h4 y3 y4 x2 x1 y h5 z h3 d d0 d1 d2 y1 y0;go_wp2;exact hR.o _ _ ⟨q2,wC.heap.size,rfl,x4.o⟩
end
end Go.Proofs.YthflghdaejbdkaaGreat
namespace Go.Proofs.YthflghdaejbdkaaGreat
open _root_.Go.Proofs.Tryz (prog)
open Go.RowKit Go.Maps
set_option maxHeartbeats 6400000
set_option maxRecDepth 100000
set_option linter.unusedVariables false
theorem aEn {w:World} {ops:Array Oper} {d:List Oper} {o:Oper} {a:Act} {Q:Exit->Act->World->Prop} (h8:o.guard=none) (s x:Operand)
  (ho:o.op=.call { callee:=.builtin .append,args:=#[s,x],argTypes:=#[49,49] }) (w0:World) (hO:Only [] w0 w)
  (gs:Nat) (hs:a.eval s=.slice (some ⟨gs,0,none⟩) 0 0) (z:iP w 48 w0.heap.size (.slice (some ⟨gs,0,none⟩) 0 0) []) (va:Option Addr) (n vc:Nat) (l:List En) (hx:a.eval x=.slice va n vc) (hl:l.length=n) (hv:iP w0 48 0 (.slice va n vc) l) (hb:n<=1000000)
  (h:∀ g cap w',Hid (iP w' 48 w0.heap.size (.slice (some ⟨g,0,none⟩) n cap) l)->Hid (Only [] w0 w')->wpList prog ops Q d (a.put o.dst (.slice (some ⟨g,0,none⟩) n cap)) w'):wpList prog ops Q (o :: d) a w:=by
 refine wpList_plain h8 fun K hK=>?_;obtain ⟨i0,h5,h9,x1,x2⟩:=info_parts aNV
 by_cases h0:n=0
 ·subst h0;have h6:l=[]:=List.eq_nil_of_length_eq_zero hl;subst h6;have h7:Src prog i0.size 49 (.slice va 0 vc) 0 [] w:=by
   cases va with
   | none=>exact Src.ofNil w Tryz.underlying49 vc
   | some a=>exact Src.ofSlice w Tryz.underlying49 a 0 vc [] (by simp) (fun j u y=>by simp at y) (fun u y=>by simp at y)
  have hr:=run_append_nothing (P:=prog) w 49 49 o.type 48 i0 Tryz.underlying49 h5 (some ⟨gs,0,none⟩) 0 0 (Nat.le_refl _) (.slice va 0 vc) h7;unfold Oper.wp execOp;simp only [ho,resolve,invoke,builtin,Sem.run_bind,Sem.run_pure,Result.andThen_ok,List.map_toArray,List.map_cons,List.map_nil,hs,hx,hr];exact hK _ _ (h gs 0 w z hO)
 obtain ⟨g,c,e1,_,hg,x3⟩:=hv.form (fun e=>by rw [e] at hl;simp at hl;omega);have e2:va=some ⟨g,0,none⟩:=by simp only [Value.slice.injEq] at e1;exact e1.1
 subst e2;subst hl;refine wp_append_lies _ s x 49 ho w0.heap.size 48 i0 _ 3 24 Tryz.underlying49 h5 h9 x1 x2 rfl (by omega) _ 0 [] hs z ⟨g,0,none⟩ l.length vc (dL l) hx (by rw [mO]) (fun j u y=>?_) (fun u y=>?_) (by omega) (by simp only [maxLen];omega) (by omega) hO.size w.heap.size rfl ?_
 ·have hj:=(List.getElem?_eq_some_iff.1 y).1;rw [mO] at hj;have h1:=World.ownsRow.cellAt hv j hj;rw [dN,Nat.zero_add];exact hO.cell (h1.trans y) (by simp)
 ·unfold dL at y;rw [List.mem_flatMap] at y;obtain ⟨e,_,y⟩:=y;simp only [enC,List.mem_cons,List.not_mem_nil,or_false] at y;rcases y with rfl|rfl|rfl<;>rfl
 intro g2 cap w' h1 h2 h3 h4;rw [Nat.zero_add] at h1 ⊢;refine hK _ _ (h g2 cap w' ?_ (hO.grown h2 (fun k hk=>.inr (z.own k hk).1)));show iP _ _ _ _ _;exact h1
theorem iP.made (w:World) (T:Nat):iP (w.alloc (.cells #[] T)) T w.heap.size (.slice (some ⟨w.heap.size,0,none⟩) 0 0) []:=World.ownsRow_made w #[] 0 (Nat.le_refl _) (by simp [maxLen]) rfl
theorem aAJ (w:World) {b:Nat} {t:Tb} {ev qv wv:Value} {nx:Nat} {wl:List Bool} (ht:lC w b ev qv wv nx wl t) (hl:t.ents.length<=20) (hq:t.q.length<=1000000):Calls prog 19 #[.pointer (some ⟨b,0,none⟩)] w (fun e w'=>∃ b2,e=.returned (.pointer (some ⟨b2,0,none⟩))/\aGw w w' (TrA b2 t)):=by
 refine aF fun R hR=>?_;have HT:=aA ht;have a7:wl.length<=1000000:=Nat.le_trans ht.two.1 (by omega);obtain ⟨U,hr⟩:=ht.row;have z8:=hr.lt;have c0:=hr.cell 0 rfl;have c1:=hr.cell 1 rfl;have c2:=hr.cell 2 rfl;have c3:=hr.cell 3 rfl;have c4:=hr.cell 4 rfl;obtain ⟨ea,ec,z5⟩:=ht.ents.len;obtain ⟨qa,qc,z7⟩:=ht.q.len;obtain ⟨ba,bc,z3⟩:=ht.wh.len;have y4:Hid (iP w 48 0 ev t.ents):=ht.ents;have y6:Hid (aN w 0 qv t.q):=ht.q;have y8:Hid (Bls w 0 wv wl):=ht.wh;rw [z5] at c0 y4;rw [z7] at c1 y6;rw [z3] at c4 y8;generalize z4:t.ents.length=en at*;generalize z6:t.q.length=qn at*;generalize z2:wl.length=bn at*;generalize a1:t.ph=ph at*;have a0:=aA z4;have a2:=aA z6;have z9:=aA z2;have a6:en<=1000000:=by omega
 have HB:Hid (∀ wx,Only [] w wx->wx.cell? ⟨b,0,none⟩=some (.slice ea en ec)/\wx.cell? ⟨b,1,none⟩=some (.slice qa qn qc)/\wx.cell? ⟨b,4,none⟩=some (.slice ba bn bc)):=fun wx ho=>⟨ho.cell c0 (by simp),ho.cell c1 (by simp),ho.cell c4 (by simp)⟩;clear ht hr z5 z7 z3 z4 z6 z2;go_in;go_upto_region 4 with fail;have y7:Hid (Row (w.alloc (.cells #[.slice ea en ec,.slice qa qn qc,.int .i64 (ph:Int),.int .i64 (nx:Int),.slice ba bn bc] 52)) w.heap.size 52 [.slice ea en ec,.slice qa qn qc,.int .i64 (ph:Int),.int .i64 (nx:Int),.slice ba bn bc]):=Row.new w _ [_,_,_,_,_];have h7:Hid (Only [] w (w.alloc (.cells #[.slice ea en ec,.slice qa qn qc,.int .i64 (ph:Int),.int .i64 (nx:Int),.slice ba bn bc] 52))):=(Only.refl [] w).alloc _;have x4:Hid (w.heap.size<(w.alloc (.cells #[.slice ea en ec,.slice qa qn qc,.int .i64 (ph:Int),.int .i64 (nx:Int),.slice ba bn bc] 52)).heap.size):=by show _<_;simp
 generalize (w.alloc (.cells #[.slice ea en ec,.slice qa qn qc,.int .i64 (ph:Int),.int .i64 (nx:Int),.slice ba bn bc] 52))=w6 at*;obtain ⟨y,hy⟩:∃ z,z=w.heap.size:=⟨_,rfl⟩;have HY:=aA hy;rw [<-hy] at y7 x4 z8 ⊢;clear c0 c1 c2 c3 c4 hy;obtain ⟨yA,_,_⟩:=HB.o (w6.alloc (.cells #[] 48)) (h7.o.alloc _);go_wp2_with (at_builtin;refine aEn rfl _ _ rfl w6 ((Only.refl _ _).alloc _) _ rfl (iP.made _ _) ea en ec t.ents rfl a0.o ?q1 a6 ?q2)
 case q1=>exact y4.o.only h7.o (by simp)
 case q2=>
  intro g1 d w7 k1 k2;clear yA;have x9:=k1.o.own g1 rfl;have h5:=k2.o.row y7.o (by simp);have b0:=h5.cell 0 rfl;have b1:=h5.free 0;have x3:Hid (Row (w7.setCell ⟨y,0,none⟩ (.slice (some ⟨g1,0,none⟩) en d)) y 52 [.slice (some ⟨g1,0,none⟩) en d,.slice qa qn qc,.int .i64 (ph:Int),.int .i64 (nx:Int),.slice ba bn bc]):=h5.set 0 _;have x5:Only [y] w7 (w7.setCell ⟨y,0,none⟩ (.slice (some ⟨g1,0,none⟩) en d)):=(Only.refl _ _).set (p:=⟨y,0,none⟩) (.inl (by simp)) _;have h4:Hid (Only [] w (w7.setCell ⟨y,0,none⟩ (.slice (some ⟨g1,0,none⟩) en d))):=(h7.o.trans k2.o (by simp)).set (p:=⟨y,0,none⟩) (.inr (by rw [HY.o];exact Nat.le_refl _)) _;have E8:Hid (iP (w7.setCell ⟨y,0,none⟩ (.slice (some ⟨g1,0,none⟩) en d)) 48 w6.heap.size (.slice (some ⟨g1,0,none⟩) en d) t.ents):=k1.o.only x5 (fun k hk=>by cases hk;have:=x4.o;simp;omega);have h3:Hid (w6.heap.size<=g1/\g1<(w7.setCell ⟨y,0,none⟩ (.slice (some ⟨g1,0,none⟩) en d)).heap.size/\y<w6.heap.size):=⟨x9.1,Nat.lt_of_lt_of_le x9.2 x5.size,x4.o⟩;clear k1 k2 x9 x5 h5;go_upto_region 5 with fail;generalize w7.setCell ⟨y,0,none⟩ (.slice (some ⟨g1,0,none⟩) en d)=w8 at*;clear b0 b1;obtain ⟨_,yA,_⟩:=HB.o (w8.alloc (.cells #[] 3)) (h4.o.alloc _);go_wp2_with (at_builtin;refine gU rfl _ _ rfl w8 ((Only.refl _ _).alloc _) _ rfl (aN.made _) qa qn qc t.q rfl a2.o ?q3 hq ?q4)
  case q3=>exact (y6.o.only h4.o (by simp)).read
  case q4=>
   intro g2 h0 w9 k1 k2;clear yA;have x2:=k1.o.own g2 rfl;have h6:=k2.o.row x3.o (by simp);have b3:=h6.cell 1 rfl;have b4:=h6.free 1;have a8:y<w8.heap.size:=x3.o.lt;have x8:Hid (Row (w9.setCell ⟨y,1,none⟩ (.slice (some ⟨g2,0,none⟩) qn h0)) y 52 [.slice (some ⟨g1,0,none⟩) en d,.slice (some ⟨g2,0,none⟩) qn h0,.int .i64 (ph:Int),.int .i64 (nx:Int),.slice ba bn bc]):=h6.set 1 _;have x7:Only [y] w9 (w9.setCell ⟨y,1,none⟩ (.slice (some ⟨g2,0,none⟩) qn h0)):=(Only.refl _ _).set (p:=⟨y,1,none⟩) (.inl (by simp)) _;have h8:Hid (Only [] w (w9.setCell ⟨y,1,none⟩ (.slice (some ⟨g2,0,none⟩) qn h0))):=(h4.o.trans k2.o (by simp)).set (p:=⟨y,1,none⟩) (.inr (by rw [HY.o];exact Nat.le_refl _)) _;have y2:Hid (iP (w9.setCell ⟨y,1,none⟩ (.slice (some ⟨g2,0,none⟩) qn h0)) 48 w6.heap.size (.slice (some ⟨g1,0,none⟩) en d) t.ents):=(E8.o.only k2.o (by simp)).only x7 (fun k hk=>by cases hk;have:=h3.o;simp;omega);have x6:Hid (aN (w9.setCell ⟨y,1,none⟩ (.slice (some ⟨g2,0,none⟩) qn h0)) w8.heap.size (.slice (some ⟨g2,0,none⟩) qn h0) t.q):=k1.o.only x7 (fun k hk=>by cases hk;simp;omega);have y5:Hid (w6.heap.size<=g1/\g1<w8.heap.size/\w8.heap.size<=g2/\y<w6.heap.size):=⟨h3.o.1,h3.o.2.1,x2.1,h3.o.2.2⟩;clear k1 k2 x2 x7 h6 a8 h3 E8 h4 x3;go_upto_region 6 with fail;generalize w9.setCell ⟨y,1,none⟩ (.slice (some ⟨g2,0,none⟩) qn h0)=y0 at*;clear b3 b4;obtain ⟨_,_,yA⟩:=HB.o (y0.alloc (.cells #[] 4)) (h8.o.alloc _);go_wp2_with (at_builtin;refine xH rfl _ _ rfl y0 ((Only.refl _ _).alloc _) _ rfl (Bls.made _) ba bn bc wl rfl z9.o ?q5 a7 ?q6)
   case q5=>exact y8.o.aRA.only h8.o
   case q6=>
    intro g3 h1 h2 k1 k2;clear yA;have a5:=k1.o.own g3 rfl;have x1:=k2.o.row x8.o (by simp);have b7:=x1.cell 4 rfl;have b8:=x1.free 4;have a4:y<y0.heap.size:=x8.o.lt;have z0:Row (h2.setCell ⟨y,4,none⟩ (.slice (some ⟨g3,0,none⟩) bn h1)) y 52 [.slice (some ⟨g1,0,none⟩) en d,.slice (some ⟨g2,0,none⟩) qn h0,.int .i64 (ph:Int),.int .i64 (nx:Int),.slice (some ⟨g3,0,none⟩) bn h1]:=x1.set 4 _;have h9:Only [y] h2 (h2.setCell ⟨y,4,none⟩ (.slice (some ⟨g3,0,none⟩) bn h1)):=(Only.refl _ _).set (p:=⟨y,4,none⟩) (.inl (by simp)) _;have z1:Only [] w (h2.setCell ⟨y,4,none⟩ (.slice (some ⟨g3,0,none⟩) bn h1)):=(h8.o.trans k2.o (by simp)).set (p:=⟨y,4,none⟩) (.inr (by rw [HY.o];exact Nat.le_refl _)) _;have a3:=y5.o;have y3:=(y2.o.only k2.o (by simp)).only h9 (fun k hk=>by cases hk;simp;omega);have y9:=(x6.o.only k2.o (by simp)).only h9 (fun k hk=>by cases hk;simp;omega);have y1:=k1.o.only h9 (fun k hk=>by cases hk;simp;omega);have b6:w.heap.size<=w6.heap.size:=h7.o.size;have b5:w.heap.size<=w8.heap.size:=by omega
    have x2:=x6.o.own g2 rfl;have a9:=HY.o;have hT:lC (h2.setCell ⟨y,4,none⟩ (.slice (some ⟨g3,0,none⟩) bn h1)) y (.slice (some ⟨g1,0,none⟩) en d) (.slice (some ⟨g2,0,none⟩) qn h0) (.slice (some ⟨g3,0,none⟩) bn h1) nx wl t:=by
     refine ⟨⟨_,by rw [a1];exact z0⟩,y3.low (Nat.zero_le _),y9.base (Nat.zero_le _),y1.base (Nat.zero_le _),HT.o.now,HT.o.two,fun g hg=>?_,fun g hg=>?_,fun e=>?_⟩
     ·have e1:g1=g:=by simpa [Value.ownBlock] using hg
      exact ⟨by omega,fun e=>by have e3:g3=g:=(by simpa [Value.ownBlock] using e);omega,fun e=>by have e3:g2=g:=(by simpa [Value.ownBlock] using e);omega⟩
     ·have e1:g2=g:=by simpa [Value.ownBlock] using hg
      exact ⟨by omega,fun e=>by have e3:g3=g:=(by simpa [Value.ownBlock] using e);omega⟩
     have e3:g3=y:=by simpa [Value.ownBlock] using e
     omega
    have HE:Hid (aGw w (h2.setCell ⟨y,4,none⟩ (.slice (some ⟨g3,0,none⟩) bn h1)) (TrA y t)):=by
     refine ⟨z1,fun k=>k=y\/(Value.slice (some ⟨g1,0,none⟩) en d).ownBlock=some k\/(Value.slice (some ⟨g2,0,none⟩) qn h0).ownBlock=some k\/(Value.slice (some ⟨g3,0,none⟩) bn h1).ownBlock=some k,⟨_,_,_,_,_,hT,fun k=>Iff.rfl⟩,fun k hk=>?_⟩;rcases hk with hk|hk|hk|hk
     ·omega
     ·have e1:g1=k:=by simpa [Value.ownBlock] using hk
      omega
     ·have e1:g2=k:=by simpa [Value.ownBlock] using hk
      omega
     have e1:g3=k:=by simpa [Value.ownBlock] using hk
     omega
    clear k1 k2 a5 x1 a4 z0 h9 z1 y3 y9 y1 a3 x2 y5 x8 h8 y2 x6 hT a9;go_wp2;exact hR.o _ _ ⟨y,rfl,HE.o⟩
def aFx (w0:World) (l:List Asn) (b:Nat) (r:Int×Int×Co) (e:Ending) (w':World):Prop:=e=.returned (.tuple #[.int .i64 r.1,.int .i64 r.2.1])/\∃ y:GX5,y.ok r.2.2/\Fam w0 w' (G5 b r.2.2 y ++ l)
section
variable {w0 w w':World} {l:List Asn} {b:Nat} {c:Co} {x:GX5} {i:Nat} {m:Mk} {t:Tb}
theorem aMZ (w:World) (y:Fam w0 w (G5 b c x ++ l)) (hx:x.ok c) (z:c.ph=0):Calls prog 95 #[.pointer (some ⟨b,0,none⟩)] w (aFx w0 l b c.step):=by
 refine aF fun R d=>?_;rw [Co.nK z] at d;have x3:=(bC.cells y).2.2.2.1;rw [z] at x3;have HE:Hid (∃ e:GX5,e.ok c/\Fam w0 w (G5 b c e ++ l)):=⟨x,hx,y⟩;clear y hx z;go_in;go_wp2;exact d.o _ _ ⟨rfl,HE.o⟩
theorem aDL (w:World) (y:Fam w0 w (G5 b c x ++ l)) (z:x.on=true):Calls prog 71 #[.pointer (some ⟨x.r,0,none⟩)] w (aO w (.bool (decide (c.m.list=[])))):=kF w (G5.t2 (b:=b) (c:=c) (x:=x) (l:=l)) (G5.toR z y)
theorem aKC (w:World) (d:Fam w0 w (G5 b c x ++ l)) (hx:x.ok c) (h:c.Okc) (hp:c.ph=1) (hl:¬ c.m.list=[]):Calls prog 95 #[.pointer (some ⟨b,0,none⟩)] w (aFx w0 l b c.step):=by
 refine aF fun R hR=>?_;have h0:=bC.cells d;have x3:=h0.2.2.2.1;rw [hp] at x3;have h1:c.step=(c.mark.1,0,c.mark.2):=by
  unfold Co.step;rw [if_neg (show ¬ c.ph=0 by omega),if_pos hp,if_neg hl]
 rw [h1] at hR;have HR:Hid (∀ e w',pR w0 l b c.mark e w'->∃ v,e=.returned v/\R (.returned (.tuple #[v,.int .i64 0])) w'):=fun e w' ⟨he,x',hx',hf'⟩=>⟨_,he,hR.o _ _ ⟨rfl,x',hx',hf'⟩⟩;have cd:=aDH w d hx h (.inl hp);have z:x.on=true:=hx.on.trans (dM.2 (.inl hp));have y:=aDL w d z;rw [decide_eq_false hl] at y;have x2:=G5.m2 z d;clear d hx h hp hR h1 h0 z hl;go_in;go_wp2_with fail;go_fit y;rintro e _ ⟨rfl,rfl⟩;clear y;go_wp2_with fail;go_fit cd;rintro e w2 hd;obtain ⟨v,rfl,hv⟩:=HR.o e w2 hd;have HV:=aA hv;clear hd hv cd;go_wp2_with fail;exact HV.o
theorem aMY (w:World) (hf:Fam w0 w (G5 b c x ++ l)) (hx:x.ok c) (h:c.Okc) (d:c.ph=2):Calls prog 95 #[.pointer (some ⟨b,0,none⟩)] w (aFx w0 l b c.step):=by
 refine aF fun R hR=>?_;have y:=bC.cells hf;have x3:=y.2.2.2.1;rw [d] at x3;have z:c.step=(c.refs.1,0,c.refs.2):=by
  unfold Co.step;rw [if_neg (show ¬ c.ph=0 by omega),if_neg (show ¬ c.ph=1 by omega),if_pos d]
 rw [z] at hR;have HR:Hid (∀ e w',pR w0 l b c.refs e w'->∃ v,e=.returned v/\R (.returned (.tuple #[v,.int .i64 0])) w'):=fun e w' ⟨he,x',hx',hf'⟩=>⟨_,he,hR.o _ _ ⟨rfl,x',hx',hf'⟩⟩;have cd:=aKo w hf hx h d;clear hf hx h d hR z y;go_in;go_wp2_with fail;go_fit cd;rintro e w2 hd;obtain ⟨v,rfl,hv⟩:=HR.o e w2 hd;have HV:=aA hv;clear hd hv cd;go_wp2_with fail;exact HV.o
theorem aMX (w:World) (hf:Fam w0 w (G5 b c x ++ l)) (hx:x.ok c) (h:c.Okc) (d:c.ph=3):Calls prog 95 #[.pointer (some ⟨b,0,none⟩)] w (aFx w0 l b c.step):=by
 refine aF fun R hR=>?_;have y:=bC.cells hf;have x3:=y.2.2.2.1;rw [d] at x3;have z:c.step=(c.free.1,0,c.free.2):=by
  unfold Co.step;rw [if_neg (show ¬ c.ph=0 by omega),if_neg (show ¬ c.ph=1 by omega),if_neg (show ¬ c.ph=2 by omega),if_pos d]
 rw [z] at hR;have HR:Hid (∀ e w',pR w0 l b c.free e w'->∃ v,e=.returned v/\R (.returned (.tuple #[v,.int .i64 0])) w'):=fun e w' ⟨he,x',hx',hf'⟩=>⟨_,he,hR.o _ _ ⟨rfl,x',hx',hf'⟩⟩;have cd:=aKy w hf hx h d;clear hf hx h d hR z y;go_in;go_wp2_with fail;go_fit cd;rintro e w2 hd;obtain ⟨v,rfl,hv⟩:=HR.o e w2 hd;have HV:=aA hv;clear hd hv cd;go_wp2_with fail;exact HV.o
theorem aMW (w:World) (hf:Fam w0 w (G5 b c x ++ l)) (hx:x.ok c) (h:c.Okc) (hp:c.ph=4):Calls prog 95 #[.pointer (some ⟨b,0,none⟩)] w (aFx w0 l b c.step):=by
 refine aF fun R d=>?_;have y:=bC.cells hf;have x3:=y.2.2.2.1;rw [hp] at x3;have z:c.step=(c.move.1,0,c.move.2):=by
  unfold Co.step;rw [if_neg (show ¬ c.ph=0 by omega),if_neg (show ¬ c.ph=1 by omega),if_neg (show ¬ c.ph=2 by omega),if_neg (show ¬ c.ph=3 by omega)]
 rw [z] at d;have HR:Hid (∀ e w',pR w0 l b c.move e w'->∃ v,e=.returned v/\R (.returned (.tuple #[v,.int .i64 0])) w'):=fun e w' ⟨he,x',hx',hf'⟩=>⟨_,he,d.o _ _ ⟨rfl,x',hx',hf'⟩⟩;have cd:=aPf w hf hx h hp;clear hf hx h hp d z y;go_in;go_wp2_with fail;go_fit cd;rintro e w2 hd;obtain ⟨v,rfl,hv⟩:=HR.o e w2 hd;have HV:=aA hv;clear hd hv cd;go_wp2_with fail;exact HV.o
theorem aEY (w:World) (z:Fam w0 w (G5 b c x ++ l)) (y:x.on=true) (h:c.Okc):Calls prog 21 #[.pointer (some ⟨x.ub,0,none⟩),.pointer (some ⟨x.r,0,none⟩)] w (fun e w'=>e=.returned (.int .i64 (c.t.begin c.m).1)/\Fam w0 w' (G5 b (c.eU (c.t.begin c.m).2) x ++ l)):=by
 have:=aEy w (G5.t3 (b:=b) (c:=c) (x:=x) (l:=l)) (G5.toQ y z) h.tg;rw [G5.ql y] at this;exact this
theorem aKD (w:World) (hf:Fam w0 w (G5 b c x ++ l)) (hx:x.ok c) (h:c.Okc) (hp:c.ph=1) (hl:c.m.list=[]):Calls prog 95 #[.pointer (some ⟨b,0,none⟩)] w (aFx w0 l b c.step):=by
 refine aF fun R hR=>?_;have x3:=(bC.cells hf).2.2.2.1;rw [hp] at x3;have h1:c.step=(1,0,c.jH.2):=by
  unfold Co.step;rw [if_neg (show ¬ c.ph=0 by omega),if_pos hp,if_pos hl];rfl
 rw [h1] at hR;have y:x.on=true:=hx.on.trans (dM.2 (.inl hp));have z:=aA y;have d:=aDL w hf y;rw [decide_eq_true hl] at d;have x2:=G5.m2 y hf;have F0:=aA hf;have h0:x.mv=0:=hx.m0 (by omega) (by omega);have HR:Hid (∀ w',Fam w0 w' (G5 b c.jH.2 x ++ l)->R (.returned (.tuple #[.int .i64 1,.int .i64 0])) w'):=fun w' h2=>hR.o _ _ ⟨rfl,x,⟨by rw [y];symm;exact aLg (c:=c.jH.2) rfl,fun e=>by (cases e),fun _ _=>h0,hx.mv2⟩,h2⟩;have HC:Hid (∀ wx,Fam w0 wx (G5 b c x ++ l)->Calls prog 21 #[.pointer (some ⟨x.ub,0,none⟩),.pointer (some ⟨x.r,0,none⟩)] wx (fun e w'=>e=.returned (.int .i64 (c.t.begin c.m).1)/\Fam w0 w' (G5 b (c.eU (c.t.begin c.m).2) x ++ l))):=fun wx hwx=>aEY wx hwx y h;clear hf hx h hp hR h1 y hl h0;go_in;go_wp2_with fail;go_fit d;rintro e _ ⟨rfl,rfl⟩;clear d;generalize (c.t.begin c.m).1=be at*;go_upto_region 9 with fail;go_region_held3 (fun w'=>w'.cell? ⟨b,1,none⟩=some (.pointer (some ⟨x.ub,0,none⟩))/\w'.cell? ⟨b,2,none⟩=some (.pointer (some ⟨x.r,0,none⟩)))
  (first|(exact G5.p12 z.o F0.o.drew)|(exact G5.p12 z.o F0.o)|(exact G5.p12 z.o f3))
  (first|(go_at_call 21;refine (HC.o _ F0.o.drew).mono ?_;rintro e w3 ⟨rfl,f3⟩))
 have F3:=aA f3;have y3:=(bC.cells f3).2.2.2.1;have h3:=(bC.cells f3).2.2.2.2.2.2.2.2.2 3;have F4:Hid (Fam w0 (w3.setCell ⟨b,3,none⟩ (.int .i64 2)) (G5 b c.jH.2 x ++ l)):=G5.tY f3 2;clear f3 HC F0 x2 x3;go_wp2_with fail;exact HR.o _ F4.o
theorem pI (w:World) (z:Fam w0 w (G5 b c x ++ l)) (hx:x.ok c) (h:c.Okc):Calls prog 95 #[.pointer (some ⟨b,0,none⟩)] w (aFx w0 l b c.step):=by
 have h4:=h.p4;have e:c.ph=0\/c.ph=1\/c.ph=2\/c.ph=3\/c.ph=4:=by omega
 rcases e with y|y|y|y|y
 ·exact aMZ w z hx y
 ·by_cases d:c.m.list=[]
  ·exact aKD w z hx h y d
  exact aKC w z hx h y d
 ·exact aMY w z hx h y
 ·exact aMX w z hx h y
 exact aMW w z hx h y
end
section
variable {w0 w w':World} {l:List Asn} {b:Nat} {c:Co} {x:GX5} {i:Nat} {m:Mk} {t:Tb}
theorem aHN (w:World):Calls prog 110 #[.pointer none] w (aO w (.pointer none)):=by
 refine aF fun R y=>?_;go_in;go_wp2;exact y.o _ _ ⟨rfl,rfl⟩
theorem Fam.aNP {R A B C D:Asn} {L:List Asn} (h:Fam w0 w (R :: (L ++ [C] ++ [D] ++ [A] ++ [B]))):Fam w0 w ([A,B,C,D,R] ++ L):=by
 have d:∀ k,k<L.length->(R :: (L ++ [C] ++ [D] ++ [A] ++ [B]))[k+1]?=L[k]?:=fun k hk=>by
  rw [List.getElem?_cons_succ,List.getElem?_append_left (by simp;omega),List.getElem?_append_left (by simp;omega),List.getElem?_append_left (by simp;omega),List.getElem?_append_left hk]
 have e:(R :: (L ++ [C] ++ [D] ++ [A] ++ [B]))[L.length+1]?=some C:=by
  rw [List.getElem?_cons_succ,List.getElem?_append_left (by simp),List.getElem?_append_left (by simp),List.getElem?_append_left (by simp)];simp
 have e2:(R :: (L ++ [C] ++ [D] ++ [A] ++ [B]))[L.length+2]?=some D:=by
  rw [List.getElem?_cons_succ,List.getElem?_append_left (by simp),List.getElem?_append_left (by simp),List.getElem?_append_right (by simp)];simp
 have e3:(R :: (L ++ [C] ++ [D] ++ [A] ++ [B]))[L.length+3]?=some A:=by
  rw [List.getElem?_cons_succ,List.getElem?_append_left (by simp),List.getElem?_append_right (by simp)];simp
 have e4:(R :: (L ++ [C] ++ [D] ++ [A] ++ [B]))[L.length+4]?=some B:=by
  rw [List.getElem?_cons_succ,List.getElem?_append_right (by simp)];simp
 refine h.selC (fun k=>if k<2 then L.length+3+k else if k<4 then L.length+k - 1 else if k=4 then 0 else k - 4) (fun k Z hk=>?_) (fun j k hj hk hne=>?_)
 ·match k with
  | 0=>exact e3.trans hk
  | 1=>exact e4.trans hk
  | 2=>exact e.trans hk
  | 3=>exact e2.trans hk
  | 4=>exact hk
  | k+5=>
   have y:L[k]?=some Z:=hk;have hl:=(List.getElem?_eq_some_iff.1 y).1;simp only [show ¬ (k+5<2) by omega,show ¬ (k+5<4) by omega,show ¬ (k+5=4) by omega,if_false];rw [show k+5 - 4=k+1 by omega,d k hl];exact y
 have z:([A,B,C,D,R] ++ L).length=5+L.length:=by rw [List.length_append];rfl
 rw [z] at hj hk;split<;>split<;>(try split)<;>(try split)<;>(try split)<;>(try split)<;>omega
theorem Fam.aBH {L:List Asn} (h:Fam w0 w L) (T:Nat) (cs:List Value):Fam w0 (w.alloc (.cells cs.toArray T)) (eY w.heap.size T cs :: L):=by
 have z:=h.addRow T cs;refine z.selC (fun k=>if k=0 then L.length else k - 1) (fun k Z hk=>?_) (fun j k hj hk hne=>?_)
 ·match k with
  | 0=>
   show (L ++ [_])[L.length]?=some Z;rw [jR];exact hk
  | k+1=>
   have y:L[k]?=some Z:=hk;simp only [show ¬ (k+1=0) by omega,if_false,Nat.add_sub_cancel];exact rZ y
 rw [List.length_cons] at hj hk;split<;>split<;>omega
theorem Fam.aQU {L:List Asn} (h:Fam w0 w L):Fam w0 w (L ++ [NoA]):=h.add ⟨Only.refl _ _,fun _=>False,fun _ hk=>hk,fun _ hk=>hk.elim⟩
theorem G5.rl1 {A:Asn} {L:List Asn} (y:x.on=true):RL (A :: (G5 b c x ++ l ++ L)) 1 2 x.q x.r c.m=A :: (G5 b c x ++ l ++ L):=by
 obtain ⟨q,r,e,sv,d,z⟩:=x
 cases y
 rfl
theorem aKF (w:World) (hf:Fam w0 w (G5 b c x ++ l)) (hx:x.ok c) (h:c.Okc) (h7:x.on=true):Calls prog 40 #[.pointer (some ⟨b,0,none⟩)] w (fun e w'=>∃ b2,e=.returned (.pointer (some ⟨b2,0,none⟩))/\∃ x2:GX5,x2.ok c/\Fam w0 w' (G5 b2 c x2 ++ (G5 b c x ++ l))):=by
 refine aF fun R hR=>?_;obtain ⟨x0,x1,x2,x3,x4,x5,x6,x7,x8,_⟩:=bC.cells hf;rw [h7] at x2;replace x2:w.cell? ⟨b,2,none⟩=some (.pointer (some ⟨x.r,0,none⟩)):=x2;have hs:=G5.sw hf;obtain ⟨sa,sc,hv⟩:=hs.len;have y5:=h.vV;obtain ⟨n,hn⟩:∃ n,n=c.sw.length:=⟨_,rfl⟩;rw [<-hn] at hv y5;rw [hv] at x8;have HB:=aA h.tg.b;have HX:=aA hx;have HV:=aA hv;have HN:=aA hn;have h4:=aA h7;have y4:Hid (x.on=true->c.m.Ok):=fun e=>h.mo (dM.1 (hx.on.symm.trans e));have F1:Hid (Fam w0 (w.alloc (.cells #[.pointer (some ⟨x.q,0,none⟩),.pointer (some ⟨x.ub,0,none⟩),.pointer (some ⟨x.r,0,none⟩),.int .i64 (c.ph:Int),.int .i64 c.cr,.int .i64 c.rate,.int .i64 (c.pages:Int),.int .i64 (x.mv:Int),.slice sa n sc] 99)) (eY w.heap.size 99 [.pointer (some ⟨x.q,0,none⟩),.pointer (some ⟨x.ub,0,none⟩),.pointer (some ⟨x.r,0,none⟩),.int .i64 (c.ph:Int),.int .i64 c.cr,.int .i64 c.rate,.int .i64 (c.pages:Int),.int .i64 (x.mv:Int),.slice sa n sc] :: (G5 b c x ++ l))):=hf.aBH 99 [.pointer (some ⟨x.q,0,none⟩),.pointer (some ⟨x.ub,0,none⟩),.pointer (some ⟨x.r,0,none⟩),.int .i64 (c.ph:Int),.int .i64 c.cr,.int .i64 c.rate,.int .i64 (c.pages:Int),.int .i64 (x.mv:Int),.slice sa n sc];clear hf hx h hv hn hs h7;go_in;go_upto_region 4 with fail;obtain ⟨y,hy⟩:∃ y,y=w.heap.size:=⟨_,rfl⟩;rw [<-hy] at F1 ⊢;generalize w.alloc (.cells #[.pointer (some ⟨x.q,0,none⟩),.pointer (some ⟨x.ub,0,none⟩),.pointer (some ⟨x.r,0,none⟩),.int .i64 (c.ph:Int),.int .i64 c.cr,.int .i64 c.rate,.int .i64 (c.pages:Int),.int .i64 (x.mv:Int),.slice sa n sc] 99)=w1 at*;clear x0 x1 x2 x3 x4 x5 x6 x7 x8 hy;obtain ⟨S,⟨ev,qv,wv,nx,wl,ht,_⟩,_⟩:=F1.o.get 3 rfl;have ct:=aAJ w1 ht HB.o.le (by have:=HB.o.q20;omega);have z1:=(F1.o.row 5 rfl).cell 1 rfl;clear ht;go_wp2_with fail;go_fit ct;rintro e w2 ⟨z,rfl,hB⟩;have F2:Hid (Fam w0 w2 (eY y 99 [.pointer (some ⟨x.q,0,none⟩),.pointer (some ⟨x.ub,0,none⟩),.pointer (some ⟨x.r,0,none⟩),.int .i64 (c.ph:Int),.int .i64 c.cr,.int .i64 c.rate,.int .i64 (c.pages:Int),.int .i64 (x.mv:Int),.slice sa n sc] :: (G5 b c x ++ l ++ [TrA z c.t]))):=F1.o.add hB;have r2:=F2.o.row 0 rfl;have y6:=r2.cell 1 rfl;have y7:=r2.free 1;have F3:Hid (Fam w0 (w2.setCell ⟨y,1,none⟩ (.pointer (some ⟨z,0,none⟩))) (eY y 99 [.pointer (some ⟨x.q,0,none⟩),.pointer (some ⟨z,0,none⟩),.pointer (some ⟨x.r,0,none⟩),.int .i64 (c.ph:Int),.int .i64 c.cr,.int .i64 c.rate,.int .i64 (c.pages:Int),.int .i64 (x.mv:Int),.slice sa n sc] :: (G5 b c x ++ l ++ [TrA z c.t]))):=F2.o.bW 0 rfl 1 _;clear ct hB r2 z1 F1;go_upto_region 5 with fail;generalize w2.setCell ⟨y,1,none⟩ (.pointer (some ⟨z,0,none⟩))=w3 at*;clear y6 y7 F2;have z8:=(F3.o.row 5 rfl).cell 8 rfl;replace z8:w3.cell? ⟨b,8,none⟩=some (.slice sa n sc):=by rw [<-HV.o];exact z8
 have h5:=F3.o.ints 4 rfl;rw [HV.o] at h5;have x9:=aA h5;have y1:sa=none->n=0/\sc=0:=fun e=>by
  rcases h5.form with ⟨h1,h2⟩|⟨g,cap,h1,_⟩
  ·cases h1;exact ⟨rfl,rfl⟩
  rw [e] at h1;cases h1
 clear h5;go_upto_region 5 with fail;go_wp2_with (at_builtin;refine oL rfl _ _ rfl w3.heap.size _ [] rfl (aN.nil _ _) sa n sc c.sw rfl ?c0 ?c1 ?c2 ?c3 ?c4 ?c5)
 case c0=>exact y1
 case c1=>exact HN.o.symm
 case c2=>
  intro ad e j u hu;have hj:j<c.sw.length:=(List.getElem?_eq_some_iff.1 hu).1;obtain ⟨vb,vo,e2,h3⟩:=x9.o.read.at hj;rw [e] at e2
  cases e2
  rw [show (⟨vb,vo,none⟩:Addr).add j=⟨vb,vo+j,none⟩ by unfold Addr.add;split<;>simp_all]
  rw [h3,gI,hu];rfl
 case c3=>simp;omega
 case c4=>simp
 case c5=>
  intro v' w4 h0 h6 _;replace h6:Only [] w3 w4:=h6;replace h0:aN w4 w3.heap.size v' c.sw:=h0;obtain ⟨d,vc,y2⟩:=h0.len;rw [<-HN.o] at y2;subst y2;have F4:Hid (Fam w0 w4 (eY y 99 [.pointer (some ⟨x.q,0,none⟩),.pointer (some ⟨z,0,none⟩),.pointer (some ⟨x.r,0,none⟩),.int .i64 (c.ph:Int),.int .i64 c.cr,.int .i64 c.rate,.int .i64 (c.pages:Int),.int .i64 (x.mv:Int),.slice sa n sc] :: (G5 b c x ++ l ++ [TrA z c.t] ++ [bT (.slice d n vc) c.sw]))):=F3.o.gY h6 h0;have r4:=F4.o.row 0 rfl;have y9:=r4.cell 8 rfl;have z0:=r4.free 8;have F5:Hid (Fam w0 (w4.setCell ⟨y,8,none⟩ (.slice d n vc)) (eY y 99 [.pointer (some ⟨x.q,0,none⟩),.pointer (some ⟨z,0,none⟩),.pointer (some ⟨x.r,0,none⟩),.int .i64 (c.ph:Int),.int .i64 c.cr,.int .i64 c.rate,.int .i64 (c.pages:Int),.int .i64 (x.mv:Int),.slice d n vc] :: (G5 b c x ++ l ++ [TrA z c.t] ++ [bT (.slice d n vc) c.sw]))):=F4.o.bW 0 rfl 8 _;clear h0 h6 r4 z8 F3 x9 y1;go_upto_region 6 with fail;generalize w4.setCell ⟨y,8,none⟩ (.slice d n vc)=w5 at*;clear y9 z0 F4;have z2:=(F5.o.row 5 rfl).cell 2 rfl;replace z2:w5.cell? ⟨b,2,none⟩=some (.pointer (some ⟨x.r,0,none⟩)):=by rw [h4.o] at z2;exact z2
  have h8:=G5.rl1 (b:=b) (c:=c) (l:=l) (A:=eY y 99 [.pointer (some ⟨x.q,0,none⟩),.pointer (some ⟨z,0,none⟩),.pointer (some ⟨x.r,0,none⟩),.int .i64 (c.ph:Int),.int .i64 c.cr,.int .i64 c.rate,.int .i64 (c.pages:Int),.int .i64 (x.mv:Int),.slice d n vc]) (L:=[TrA z c.t] ++ [bT (.slice d n vc) c.sw]) h4.o;have h9:Fam w0 w5 (RL (eY y 99 [.pointer (some ⟨x.q,0,none⟩),.pointer (some ⟨z,0,none⟩),.pointer (some ⟨x.r,0,none⟩),.int .i64 (c.ph:Int),.int .i64 c.cr,.int .i64 c.rate,.int .i64 (c.pages:Int),.int .i64 (x.mv:Int),.slice d n vc] :: (G5 b c x ++ l ++ ([TrA z c.t] ++ [bT (.slice d n vc) c.sw]))) 1 2 x.q x.r c.m):=by rw [h8,<-List.append_assoc];exact F5.o
  have cm:=aHM w5 ⟨by simp [G5],by simp [G5],by decide⟩ h9 (y4.o h4.o);rw [h8,<-List.append_assoc] at cm;clear h8 h9;go_wp2_with fail;go_fit cm;rintro e w6 ⟨q2,r2,rfl,y0⟩;have F6:Hid (Fam w0 w6 (eY y 99 [.pointer (some ⟨x.q,0,none⟩),.pointer (some ⟨z,0,none⟩),.pointer (some ⟨x.r,0,none⟩),.int .i64 (c.ph:Int),.int .i64 c.cr,.int .i64 c.rate,.int .i64 (c.pages:Int),.int .i64 (x.mv:Int),.slice d n vc] :: (G5 b c x ++ l ++ [TrA z c.t] ++ [bT (.slice d n vc) c.sw] ++ [GH q2 c.m.M] ++ [GkA r2 q2 c.m.col c.m.list]))):=y0;have r6:=F6.o.row 0 rfl;have y3:=r6.cell 2 rfl;have y8:=r6.free 2;have F7:Hid (Fam w0 (w6.setCell ⟨y,2,none⟩ (.pointer (some ⟨r2,0,none⟩))) (eY y 99 [.pointer (some ⟨x.q,0,none⟩),.pointer (some ⟨z,0,none⟩),.pointer (some ⟨r2,0,none⟩),.int .i64 (c.ph:Int),.int .i64 c.cr,.int .i64 c.rate,.int .i64 (c.pages:Int),.int .i64 (x.mv:Int),.slice d n vc] :: (G5 b c x ++ l ++ [TrA z c.t] ++ [bT (.slice d n vc) c.sw] ++ [GH q2 c.m.M] ++ [GkA r2 q2 c.m.col c.m.list]))):=F6.o.bW 0 rfl 2 _;clear cm y0 r6 z2 F5;go_upto_region 7 with fail;generalize w6.setCell ⟨y,2,none⟩ (.pointer (some ⟨r2,0,none⟩))=w7 at*;clear y3 y8 F6;have r7:=F7.o.row 0 rfl;have y3:=r7.cell 2 rfl;have z4:=r7.cell 0 rfl;have z5:=r7.free 0;have z3:w7.cell? ⟨r2,0,none⟩=some (.pointer (some ⟨q2,0,none⟩)):=by
   obtain ⟨S,⟨tg,tc,v,T1,h1,_⟩,_⟩:=F7.o.get ((G5 b c x ++ l ++ [TrA z c.t] ++ [bT (.slice d n vc) c.sw] ++ [GH q2 c.m.M]).length+1) (A:=GkA r2 q2 c.m.col c.m.list) (by rw [List.getElem?_cons_succ,jR]);obtain ⟨T,h2⟩:=h1.row;exact h2.cell 0 rfl
  have F8:Hid (Fam w0 (w7.setCell ⟨y,0,none⟩ (.pointer (some ⟨q2,0,none⟩))) (G5 y c ⟨q2,r2,z,.slice d n vc,true,x.mv⟩ ++ (G5 b c x ++ l))):=by
   have f8:Fam w0 (w7.setCell ⟨y,0,none⟩ (.pointer (some ⟨q2,0,none⟩))) (eY y 99 [.pointer (some ⟨q2,0,none⟩),.pointer (some ⟨z,0,none⟩),.pointer (some ⟨r2,0,none⟩),.int .i64 (c.ph:Int),.int .i64 c.cr,.int .i64 c.rate,.int .i64 (c.pages:Int),.int .i64 (x.mv:Int),.slice d n vc] :: (G5 b c x ++ l ++ [TrA z c.t] ++ [bT (.slice d n vc) c.sw] ++ [GH q2 c.m.M] ++ [GkA r2 q2 c.m.col c.m.list])):=F7.o.bW 0 rfl 0 _;exact f8.aNP
  clear r7 F7;go_wp2;exact hR.o _ _ ⟨y,rfl,⟨q2,r2,z,.slice d n vc,true,x.mv⟩,⟨h4.o.symm.trans HX.o.on,HX.o.mv,HX.o.m0,HX.o.mv2⟩,F8.o⟩
theorem aHR (w:World) (hf:Fam w0 w (G5 b c x ++ l)) (hx:x.ok c) (h:c.Okc) (h6:x.on=false):Calls prog 40 #[.pointer (some ⟨b,0,none⟩)] w (fun e w'=>∃ b2,e=.returned (.pointer (some ⟨b2,0,none⟩))/\∃ x2:GX5,x2.ok c/\Fam w0 w' (G5 b2 c x2 ++ (G5 b c x ++ l))):=by
 refine aF fun R hR=>?_;obtain ⟨x0,x1,x2,x3,x4,x5,x6,x7,x8,_⟩:=bC.cells hf;rw [h6] at x2;replace x2:w.cell? ⟨b,2,none⟩=some (.pointer none):=x2;have hs:=G5.sw hf;obtain ⟨sa,sc,hv⟩:=hs.len;have y5:=h.vV;obtain ⟨n,hn⟩:∃ n,n=c.sw.length:=⟨_,rfl⟩;rw [<-hn] at hv y5;rw [hv] at x8;have HB:=aA h.tg.b;have HX:=aA hx;have HV:=aA hv;have HN:=aA hn;have h9:=aA h6;have z4:Hid (x.on=true->c.m.Ok):=fun e=>h.mo (dM.1 (hx.on.symm.trans e));have F1:Hid (Fam w0 (w.alloc (.cells #[.pointer (some ⟨x.q,0,none⟩),.pointer (some ⟨x.ub,0,none⟩),.pointer none,.int .i64 (c.ph:Int),.int .i64 c.cr,.int .i64 c.rate,.int .i64 (c.pages:Int),.int .i64 (x.mv:Int),.slice sa n sc] 99)) (eY w.heap.size 99 [.pointer (some ⟨x.q,0,none⟩),.pointer (some ⟨x.ub,0,none⟩),.pointer none,.int .i64 (c.ph:Int),.int .i64 c.cr,.int .i64 c.rate,.int .i64 (c.pages:Int),.int .i64 (x.mv:Int),.slice sa n sc] :: (G5 b c x ++ l))):=hf.aBH 99 [.pointer (some ⟨x.q,0,none⟩),.pointer (some ⟨x.ub,0,none⟩),.pointer none,.int .i64 (c.ph:Int),.int .i64 c.cr,.int .i64 c.rate,.int .i64 (c.pages:Int),.int .i64 (x.mv:Int),.slice sa n sc];clear hf hx h hv hn hs h6;go_in;go_upto_region 4 with fail;obtain ⟨y,hy⟩:∃ y,y=w.heap.size:=⟨_,rfl⟩;rw [<-hy] at F1 ⊢;generalize w.alloc (.cells #[.pointer (some ⟨x.q,0,none⟩),.pointer (some ⟨x.ub,0,none⟩),.pointer none,.int .i64 (c.ph:Int),.int .i64 c.cr,.int .i64 c.rate,.int .i64 (c.pages:Int),.int .i64 (x.mv:Int),.slice sa n sc] 99)=w1 at*;clear x0 x1 x2 x3 x4 x5 x6 x7 x8 hy;obtain ⟨S,⟨ev,qv,wv,nx,wl,ht,_⟩,_⟩:=F1.o.get 3 rfl;have ct:=aAJ w1 ht HB.o.le (by have:=HB.o.q20;omega);have z1:=(F1.o.row 5 rfl).cell 1 rfl;clear ht;go_wp2_with fail;go_fit ct;rintro e w2 ⟨z,rfl,hB⟩;have F2:Hid (Fam w0 w2 (eY y 99 [.pointer (some ⟨x.q,0,none⟩),.pointer (some ⟨x.ub,0,none⟩),.pointer none,.int .i64 (c.ph:Int),.int .i64 c.cr,.int .i64 c.rate,.int .i64 (c.pages:Int),.int .i64 (x.mv:Int),.slice sa n sc] :: (G5 b c x ++ l ++ [TrA z c.t]))):=F1.o.add hB;have r2:=F2.o.row 0 rfl;have y6:=r2.cell 1 rfl;have y7:=r2.free 1;have F3:Hid (Fam w0 (w2.setCell ⟨y,1,none⟩ (.pointer (some ⟨z,0,none⟩))) (eY y 99 [.pointer (some ⟨x.q,0,none⟩),.pointer (some ⟨z,0,none⟩),.pointer none,.int .i64 (c.ph:Int),.int .i64 c.cr,.int .i64 c.rate,.int .i64 (c.pages:Int),.int .i64 (x.mv:Int),.slice sa n sc] :: (G5 b c x ++ l ++ [TrA z c.t]))):=F2.o.bW 0 rfl 1 _;clear ct hB r2 z1 F1;go_upto_region 5 with fail;generalize w2.setCell ⟨y,1,none⟩ (.pointer (some ⟨z,0,none⟩))=w3 at*;clear y6 y7 F2;have z8:=(F3.o.row 5 rfl).cell 8 rfl;replace z8:w3.cell? ⟨b,8,none⟩=some (.slice sa n sc):=by rw [<-HV.o];exact z8
 have h4:=F3.o.ints 4 rfl;rw [HV.o] at h4;have h8:=aA h4;have y3:sa=none->n=0/\sc=0:=fun e=>by
  rcases h4.form with ⟨h1,h2⟩|⟨g,cap,h1,_⟩
  ·cases h1;exact ⟨rfl,rfl⟩
  rw [e] at h1;cases h1
 clear h4;go_upto_region 5 with fail;go_wp2_with (at_builtin;refine oL rfl _ _ rfl w3.heap.size _ [] rfl (aN.nil _ _) sa n sc c.sw rfl ?c0 ?c1 ?c2 ?c3 ?c4 ?c5)
 case c0=>exact y3
 case c1=>exact HN.o.symm
 case c2=>
  intro ad e j u hu;have hj:j<c.sw.length:=(List.getElem?_eq_some_iff.1 hu).1;obtain ⟨vb,vo,e2,h3⟩:=h8.o.read.at hj;rw [e] at e2
  cases e2
  rw [show (⟨vb,vo,none⟩:Addr).add j=⟨vb,vo+j,none⟩ by unfold Addr.add;split<;>simp_all]
  rw [h3,gI,hu];rfl
 case c3=>simp;omega
 case c4=>simp
 case c5=>
  intro v' w4 h0 h5 _;replace h5:Only [] w3 w4:=h5;replace h0:aN w4 w3.heap.size v' c.sw:=h0;obtain ⟨d,vc,y4⟩:=h0.len;rw [<-HN.o] at y4;subst y4;have F4:Hid (Fam w0 w4 (eY y 99 [.pointer (some ⟨x.q,0,none⟩),.pointer (some ⟨z,0,none⟩),.pointer none,.int .i64 (c.ph:Int),.int .i64 c.cr,.int .i64 c.rate,.int .i64 (c.pages:Int),.int .i64 (x.mv:Int),.slice sa n sc] :: (G5 b c x ++ l ++ [TrA z c.t] ++ [bT (.slice d n vc) c.sw]))):=F3.o.gY h5 h0;have r4:=F4.o.row 0 rfl;have y9:=r4.cell 8 rfl;have z3:=r4.free 8;have F5:Hid (Fam w0 (w4.setCell ⟨y,8,none⟩ (.slice d n vc)) (eY y 99 [.pointer (some ⟨x.q,0,none⟩),.pointer (some ⟨z,0,none⟩),.pointer none,.int .i64 (c.ph:Int),.int .i64 c.cr,.int .i64 c.rate,.int .i64 (c.pages:Int),.int .i64 (x.mv:Int),.slice d n vc] :: (G5 b c x ++ l ++ [TrA z c.t] ++ [bT (.slice d n vc) c.sw]))):=F4.o.bW 0 rfl 8 _;clear h0 h5 r4 z8 F3 h8 y3;go_upto_region 6 with fail;generalize w4.setCell ⟨y,8,none⟩ (.slice d n vc)=w5 at*;clear y9 z3 F4;have z2:=(F5.o.row 5 rfl).cell 2 rfl;replace z2:w5.cell? ⟨b,2,none⟩=some (.pointer none):=by rw [h9.o] at z2;exact z2
  have z0:=(F5.o.row 5 rfl).cell 0 rfl;have r5:=F5.o.row 0 rfl;have h7:=r5.cell 2 rfl;have y8:=r5.free 2;have cm:=aHN w5;have F6:Hid (Fam w0 (w5.setCell ⟨y,2,none⟩ (.pointer none)) (eY y 99 [.pointer (some ⟨x.q,0,none⟩),.pointer (some ⟨z,0,none⟩),.pointer none,.int .i64 (c.ph:Int),.int .i64 c.cr,.int .i64 c.rate,.int .i64 (c.pages:Int),.int .i64 (x.mv:Int),.slice d n vc] :: (G5 b c x ++ l ++ [TrA z c.t] ++ [bT (.slice d n vc) c.sw]))):=F5.o.bW 0 rfl 2 _;clear r5;go_wp2_with fail;go_fit cm;rintro e _ ⟨rfl,rfl⟩;clear cm;go_upto_region 7 with fail;generalize w5.setCell ⟨y,2,none⟩ (.pointer none)=w6 at*;clear h7 y8 F5 z0 z2;have h7:=(F6.o.row 0 rfl).cell 2 rfl;have z0:=(F6.o.row 5 rfl).cell 0 rfl;obtain ⟨hk,L,X,y2⟩:=F6.o.gh 1 rfl;have HK:=aA hk;have ch:=aDM w6 y2 hk;clear hk y2;go_wp2_with fail;go_fit ch;rintro e w7 ⟨q2,L2,X2,rfl,y1,x9,y0⟩;have F7:Hid (Fam w0 w7 (eY y 99 [.pointer (some ⟨x.q,0,none⟩),.pointer (some ⟨z,0,none⟩),.pointer none,.int .i64 (c.ph:Int),.int .i64 c.cr,.int .i64 c.rate,.int .i64 (c.pages:Int),.int .i64 (x.mv:Int),.slice d n vc] :: (G5 b c x ++ l ++ [TrA z c.t] ++ [bT (.slice d n vc) c.sw] ++ [GH q2 c.m.M]))):=F6.o.add (aPg y1 HK.o x9 y0);have r7:=F7.o.row 0 rfl;have z5:=r7.cell 0 rfl;have z6:=r7.free 0;have F8:Hid (Fam w0 (w7.setCell ⟨y,0,none⟩ (.pointer (some ⟨q2,0,none⟩))) (G5 y c ⟨q2,x.r,z,.slice d n vc,false,x.mv⟩ ++ (G5 b c x ++ l))):=by
   have f8:Fam w0 (w7.setCell ⟨y,0,none⟩ (.pointer (some ⟨q2,0,none⟩))) (eY y 99 [.pointer (some ⟨q2,0,none⟩),.pointer (some ⟨z,0,none⟩),.pointer none,.int .i64 (c.ph:Int),.int .i64 c.cr,.int .i64 c.rate,.int .i64 (c.pages:Int),.int .i64 (x.mv:Int),.slice d n vc] :: (G5 b c x ++ l ++ [TrA z c.t] ++ [bT (.slice d n vc) c.sw] ++ [GH q2 c.m.M])):=F7.o.bW 0 rfl 0 _;exact f8.aQU.aNP
  clear r7 F7 ch y1 x9 y0 F6 h7 z0;go_wp2;exact hR.o _ _ ⟨y,rfl,⟨q2,x.r,z,.slice d n vc,false,x.mv⟩,⟨h9.o.symm.trans HX.o.on,HX.o.mv,HX.o.m0,HX.o.mv2⟩,F8.o⟩
theorem aHS (w:World) (z:Fam w0 w (G5 b c x ++ l)) (hx:x.ok c) (h:c.Okc):Calls prog 40 #[.pointer (some ⟨b,0,none⟩)] w (fun e w'=>∃ b2,e=.returned (.pointer (some ⟨b2,0,none⟩))/\∃ x2:GX5,x2.ok c/\Fam w0 w' (G5 b2 c x2 ++ (G5 b c x ++ l))):=by
 cases y:x.on with
 | true=>exact aKF w z hx h y
 | false=>exact aHR w z hx h y
theorem aKE (w:World) (hf:Fam w0 w (G5 b c x ++ l)) (hx:x.ok c) (h:c.Okc):Calls prog 103 #[.pointer (some ⟨b,0,none⟩)] w (fun e w'=>e=.returned (.tuple #[.int .i64 c.step.1,.int .i64 c.step.2.1])/\Fam w0 w' (G5 b c x ++ l)):=by
 refine aF fun R hR=>?_;have cc:=aHS w hf hx h;have HH:=aA h;clear hf hx h;go_in;go_wp2_with fail;go_fit cc;rintro e w2 ⟨b2,rfl,x2,d,y⟩;have cs:=pI w2 y d HH.o;clear cc d y;go_wp2_with fail;go_fit cs;rintro e w3 ⟨rfl,x3,_,z⟩;have F3:=aA (Fam.rest z);clear cs z;go_wp2;exact hR.o _ _ ⟨rfl,F3.o⟩
end
def qU (w0:World) (l:List Asn) (b:Nat) (r:Int×Int×Co) (e:Ending) (w':World):Prop:=e=.returned (.tuple #[.int .i64 r.1,.int .i64 r.2.1])/\∃ y:GX5,y.ok r.2.2/\Fam w0 w' (G5 b r.2.2 y ++ l)
section
variable {w0 w w':World} {l:List Asn} {b:Nat} {c:Co} {x:GX5} {i:Nat} {m:Mk} {t:Tb}
theorem aFd (w:World) (hf:Fam w0 w (G5 b c x ++ l)) (hx:x.ok c) (h:c.Okc):Calls prog 97 #[.pointer (some ⟨b,0,none⟩)] w (fun e w'=>e=.returned (.tuple #[.int .i64 c.finish.1,.int .i64 c.finish.2.1,.int .i64 c.finish.2.2.1])/\∃ y:GX5,y.ok c.finish.2.2.2/\Fam w0 w' (G5 b c.finish.2.2.2 y ++ l)):=by
 refine aF fun R hR=>?_;unfold Co.finish at hR;have HH:=aA h;have x3:=(bC.cells hf).2.2.2.1
 by_cases hp:c.ph=0
 ·rw [if_pos hp] at hR;rw [hp] at x3;have HE:Hid (∃ y:GX5,y.ok c/\Fam w0 w (G5 b c y ++ l)):=⟨x,hx,hf⟩;clear hf hx h hp;go_in;go_wp2_with fail;go_ret3;exact hR.o _ _ ⟨rfl,HE.o⟩
 rw [if_neg hp] at hR;have x6:((c.ph:Int) == 0)=false:=by simpa using hp
 have HF:Hid (∃ y:GX5,y.ok c/\Fam w0 w (G5 b c y ++ l)):=⟨x,hx,hf⟩;have HP:=aA hp;have x5:=aA (Co.aMs h);clear hf hx h hp;generalize h9:c.ph=y4 at*;have x8:=aA h9;clear h9;go_in;go_upto_region 5 with fail;clear x3 x6;go_wp2;go_loopw [5,6] (fun iv jv wr=>∃ k:Nat,iv=.int .i64 k/\jv=.int .i64 (Co.costs k c)/\(∃ y:GX5,y.ok (Co.steps k c)/\Fam w0 wr (G5 b (Co.steps k c) y ++ l))/\Hid (∀ j,j<k->(Co.steps j c).ph≠0)) (fun iv _ _=>40000 - (intOf iv).toNat)
 case atStart=>exact ⟨0,rfl,rfl,HF.o,fun j hj=>by omega⟩
 case round=>as_aux_lemma=>
  clear HF;obtain ⟨k,rfl,rfl,⟨y,h3,z⟩,HB⟩:=hrel;have h0:=HH.o.steps k;have h8:=Co.oO HH.o k HB.o;have y1:=Co.aCh HH.o k;have hk:k<=30192:=by have:=x5.o;omega
  have y3:=(bC.cells z).2.2.2.1
  by_cases he:(Co.steps k c).ph=0
  ·have h7:=Co.aFh HH.o HB.o he;rw [he] at y3;rw [<-h7] at hR;have HE:Hid (∃ y:GX5,y.ok (Co.steps k c)/\Fam w0 wr (G5 b (Co.steps k c) y ++ l)):=⟨y,h3,z⟩;clear z h3 h0 h7 h8 he;generalize Co.costs k c=co at*;go_wp2_with fail;go_ret3;exact hR.o _ _ ⟨rfl,HE.o⟩
  have cs:=pI wr z h3 h0;have d:=h0.cost he;have y2:(((Co.steps k c).ph:Int) != 0)=true:=by simpa using he
  have h4:Hid (∀ j,j<k+1->(Co.steps j c).ph≠0):=fun j hj=>by
   by_cases e:j=k
   ·rw [e];exact he
   exact HB.o j (by omega)
  have x7:=Co.oO HH.o (k+1) h4.o;have x4:Hid (Co.costs (k+1) c=Co.costs k c+(Co.steps k c).step.1):=rfl;have h5:Calls prog 95 #[.pointer (some ⟨b,0,none⟩)] wr (fun e w'=>e=.returned (.tuple #[.int .i64 (Co.steps k c).step.1,.int .i64 0])/\∃ y:GX5,y.ok (Co.steps (k+1) c)/\Fam w0 w' (G5 b (Co.steps (k+1) c) y ++ l)):=cs.mono fun e w' ⟨h1,h2⟩=>⟨by rw [h1,d.2.2],h2⟩;have x9:=d.1;have y0:=d.2.1;clear cs z h3 h0 he d h8;generalize (Co.steps (k+1) c).mu=m1 at*;generalize c.mu=m2 at*;generalize (Co.steps k c).ph=y5 at*;generalize (Co.steps k c).step.1=sc at*;generalize Co.costs k c=co at*;go_wp2_with fail;go_fit h5;rintro e w1 ⟨rfl,x1,x2,h6⟩;have HE:Hid (∃ y:GX5,y.ok (Co.steps (k+1) c)/\Fam w0 w1 (G5 b (Co.steps (k+1) c) y ++ l)):=⟨x1,x2,h6⟩;clear h5 x2 h6;go_wp2;exact ⟨⟨k+1,by go_num,by rw [x4.o],HE.o,h4⟩,by simp [intOf];omega⟩
theorem zS (w:World) (hf:Fam w0 w (G5 b c x ++ l)) (hx:x.ok c) (h:c.Ok) (n:Int) (hn:0<=n/\n<=10000):Calls prog 172 #[.pointer (some ⟨b,0,none⟩),.int .i64 n] w (fun e w'=>e=.returned (.int .i64 (c.give n).1)/\∃ y:GX5,y.ok (c.give n).2/\Fam w0 w' (G5 b (c.give n).2 y ++ l)):=by
 refine aF fun R hR=>?_;unfold Co.give at hR;obtain ⟨_,_,_,x3,x4,_,_,_,_,xf⟩:=bC.cells hf
 by_cases hp:c.ph=0
 ·rw [if_pos hp] at hR;rw [hp] at x3;have HE:Hid (∃ y:GX5,y.ok c/\Fam w0 w (G5 b c y ++ l)):=⟨x,hx,hf⟩;have a7:Hid (w.cell? ⟨b,3,none⟩=some (.int .i64 ((0:Nat):Int))):=x3;clear hf hx h hp;go_in;go_wp2;go_loopw [5] (fun iv wr=>iv=.int .i64 0/\wr=w) (fun _ _=>0)
  case atStart=>exact ⟨rfl,rfl⟩
  case round=>as_aux_lemma=>
   obtain ⟨rfl,rfl⟩:=hrel;go_wp2;exact hR.o _ _ ⟨rfl,HE.o⟩
 rw [if_neg hp] at hR;have HD:=aA (h.k.more hp hn.1);have z1:=h.k.cr1;have y9:=h.cr2;have z5:((c.ph:Int) != 0)=true:=by simpa using hp
 have z6:=xf 4;have F1:Hid (∃ y:GX5,y.ok (c.more n)/\Fam w0 (w.setCell ⟨b,4,none⟩ (.int .i64 (c.cr+n))) (G5 b (c.more n) y ++ l)):=⟨x,⟨hx.on,hx.mv,hx.m0,hx.mv2⟩,G5.aEt hf (c.cr+n)⟩;have x9:Hid ((c.more n).cr<=10060):=by show c.cr+n<=10060;omega
 have x5:=(Co.fO HD.o).2.2;have y2:(c.more n).gives<=10061:=by
  have h2:=x9.o;unfold Co.nu at x5;split at x5<;>omega
 have x8:=aA y2;clear hf hx h hp xf x5 y2;generalize c.cr=cr at*;generalize c.ph=ph at*;go_in;go_upto_region 4 with fail;generalize w.setCell ⟨b,4,none⟩ (.int .i64 (cr+n))=w1 at*;generalize c.more n=d at*;clear x3 x4 z6 z5 z1 y9 hn;go_loopw [5] (fun iv wr=>∃ k:Nat,iv=.int .i64 k/\(∃ y:GX5,y.ok (Co.pays k d)/\Fam w0 wr (G5 b (Co.pays k d) y ++ l))/\Hid (∀ j,j<k->¬ (Co.pays j d).stops)) (fun iv _=>20000 - (intOf iv).toNat)
 case atStart=>exact ⟨0,rfl,F1.o,fun j hj=>by omega⟩
 case round=>as_aux_lemma=>
  clear F1;obtain ⟨k,rfl,⟨y,h5,h4⟩,HB⟩:=hrel;obtain ⟨z,x6,x2⟩:=Co.uD HD.o k HB.o;have z3:=z.cr1;have z4:(Co.pays k d).cr<=10060:=by have:=x9.o;omega
  have a4:k<=10061:=by
   have h1:=x8.o;rcases Nat.lt_or_ge d.gives k with h2|h2
   ·exact absurd (Co.fO HD.o).1 (HB.o _ h2)
   omega
  obtain ⟨_,_,_,x3,x4,_,_,_,_,xf⟩:=bC.cells h4;have h8:Hid (∃ y:GX5,y.ok (Co.pays k d)/\Fam w0 wr (G5 b (Co.pays k d) y ++ l)):=⟨y,h5,h4⟩
  by_cases he:(Co.pays k d).ph=0
  ·have hg:=Co.xA HD.o HB.o (.inl he);rw [<-hg] at hR;rw [he] at x3;clear h4 h5 z x6 x2 he hg xf z3 z4;go_wp2;exact hR.o _ _ ⟨rfl,h8.o⟩
  have cc:=aKE wr h4 h5 z;have h7:=z.cost he;have h6:=aA h5;have z8:=aA z;have a3:(((Co.pays k d).ph:Int) != 0)=true:=by simpa using he
  have a1:=h7.1;have a2:=h7.2.1
  by_cases y7:(Co.pays k d).cr<(Co.pays k d).step.1
  ·have hg:=Co.xA HD.o HB.o (.inr y7);rw [<-hg] at hR;clear h4 h5 z x6 x2 he hg xf h7;generalize (Co.pays k d).step.2.1=er at*;generalize (Co.pays k d).step.1=sc at*;generalize h9:(Co.pays k d).cr=cr at*;generalize z0:(Co.pays k d).ph=ph at*;go_wp2_with fail;go_fit cc;rintro e w2 ⟨rfl,h0⟩;obtain ⟨_,_,_,y3,y4,_⟩:=bC.cells h0;rw [h9] at y4;have HE:Hid (∃ y:GX5,y.ok (Co.pays k d)/\Fam w0 w2 (G5 b (Co.pays k d) y ++ l)):=⟨y,h6.o,h0⟩;clear cc h0 x3 x4 h8;go_wp2;exact hR.o _ _ ⟨rfl,HE.o⟩
  have y5:¬ (Co.pays k d).stops:=fun e=>by rcases e with e|e;exact he e;exact y7 e
  have x7:Hid (∀ j,j<k+1->¬ (Co.pays j d).stops):=fun j hj=>by
   by_cases e:j=k
   ·rw [e];exact y5
   exact HB.o j (by omega)
  have a6:k<d.gives:=by
   rcases Nat.lt_or_ge k d.gives with h1|h1
   ·exact h1
   exact absurd (Co.fO HD.o).1 (x7.o _ (by
    rcases Nat.eq_or_lt_of_le h1 with h2|h2
    ·omega
    omega))
  have y0:Hid (Co.pays (k+1) d=({ Co.pays k d with cr:=(Co.pays k d).cr - (Co.pays k d).step.1 }:Co).step.2.2):=rfl;have z2:Hid (({ Co.pays k d with cr:=(Co.pays k d).cr - (Co.pays k d).step.1 }:Co).Okc):=z.aAf he (by omega);have z9:Hid ((Co.pays k d).ph≠0):=he;have a5:=x8.o;clear h4 h5 z x6 x2 he xf h7 y5 h8;generalize (Co.pays k d).step.2.1=er at*;generalize y6:(Co.pays k d).step.1=sc at*;have a0:=aA y6;clear y6;generalize h9:(Co.pays k d).cr=cr at*;generalize z0:(Co.pays k d).ph=ph at*;go_wp2_with fail;go_fit cc;rintro e w2 ⟨rfl,h0⟩;obtain ⟨_,_,_,y3,y4,_,_,_,_,yf⟩:=bC.cells h0;rw [h9] at y4;have z7:=yf 4;have F3:Hid (Fam w0 (w2.setCell ⟨b,4,none⟩ (.int .i64 (cr - sc))) (G5 b { Co.pays k d with cr:=cr - sc } y ++ l)):=G5.aEt h0 (cr - sc);clear cc h0 x3 x4 yf;go_upto_region 8 with fail;generalize w2.setCell ⟨b,4,none⟩ (.int .i64 (cr - sc))=w3 at*;have cs:=pI w3 F3.o ⟨h6.o.on,h6.o.mv,h6.o.m0,h6.o.mv2⟩ z2.o;clear y3 y4 z7 F3;replace cs:Calls prog 95 #[.pointer (some ⟨b,0,none⟩)] w3 (fun e w'=>∃ a b',e=.returned (.tuple #[.int .i64 a,.int .i64 b'])/\∃ y:GX5,y.ok (Co.pays (k+1) d)/\Fam w0 w' (G5 b (Co.pays (k+1) d) y ++ l)):=cs.mono fun e w' ⟨h1,x1,h2,h3⟩=>⟨_,_,h1,x1,by rw [y0.o];exact h2,by rw [y0.o];exact h3⟩;go_wp2_with fail;go_fit cs;rintro e w4 ⟨ra,rb,rfl,x1,y8,y1⟩;have HE:Hid (∃ y:GX5,y.ok (Co.pays (k+1) d)/\Fam w0 w4 (G5 b (Co.pays (k+1) d) y ++ l)):=⟨x1,y8,y1⟩;clear cs y8 y1;go_wp2;exact ⟨⟨k+1,by go_num,HE.o,x7⟩,by simp [intOf];omega⟩
theorem aHP (w:World) (hf:Fam w0 w (G5 b c x ++ l)) (hx:x.ok c) (h:c.Ok) (n:Int):Calls prog 96 #[.pointer (some ⟨b,0,none⟩),.int .i64 n] w (qU w0 l b (c.fZ n)):=by
 refine aF fun R z=>?_;unfold Co.fZ at z
 by_cases y:n<0\/10000<n
 ·rw [if_pos y] at z;have HE:Hid (qU w0 l b (0,1,c) (.returned (.tuple #[.int .i64 0,.int .i64 1])) w):=⟨rfl,x,hx,hf⟩;clear hf hx h
  by_cases b1:n<0
  ·clear y;go_in;go_wp2;exact z.o _ _ HE.o
  have b2:10000<n:=by omega
  clear y;go_in;go_wp2;exact z.o _ _ HE.o
 rw [if_neg y] at z;have b1:¬ n<0:=by omega
 have b2:¬ 10000<n:=by omega
 have cg:=zS w hf hx h n ⟨by omega,by omega⟩;clear hf hx h y;go_in;go_wp2_with fail;go_fit cg;rintro e w1 ⟨rfl,x1,h0,d⟩;have HE:Hid (qU w0 l b ((c.give n).1,0,(c.give n).2) (.returned (.tuple #[.int .i64 (c.give n).1,.int .i64 0])) w1):=⟨rfl,x1,h0,d⟩;clear cg h0 d;go_wp2;exact z.o _ _ HE.o
end
section
variable {w0 w:World} {l:List Asn} {b:Nat} {c:Co} {x:CX} {i:Nat}
theorem aAm (w:World) (z:Fam w0 w (C5 b c x ++ l)) (hx:x.ok c) (h:c.Okc):Calls prog 302 #[.agg #[.int .i64 3],.pointer (some ⟨b,0,none⟩)] w (aBr w0 l b c.jG):=by
 refine aF fun R hR=>?_;have F0:Hid (Fam w0 (w.alloc (.cells #[.int .i64 3] 163)) (C5 b c x ++ (l ++ [eY w.heap.size 163 [.int .i64 3]]))):=z.addRow 163 [.int .i64 3];have h4:=hx.mv2;obtain ⟨s,hs⟩:∃ s,s=c.m.white:=⟨_,rfl⟩;have HS:Hid (s=c.m.white):=hs;have x2:s.length<=192:=by rw [hs];exact xJ c.m
 have h3:Hid (∀ k,k<s.length->wfI (gI s k)):=fun k hk=>aIH (h.hf.ok.inR ((Mk.yX h.hf.ok).1 (by rw [<-hs];exact dX.2 ⟨k,hk,rfl⟩)).1);have h1:Hid (c.jG=c.fC s):=by show _=_;unfold Co.jG;rw [hs]
 rw [h1.o] at hR;have HR:Hid (∀ w' v,Fam w0 w' (C5 b (c.fC s).2 { x with sv:=v } ++ l)->R (.returned (.int .i64 1)) w'):=fun w' v h2=>hR.o _ _ ⟨rfl,{ x with sv:=v },⟨fun e=>by (cases e),fun e=>by (cases e),h4⟩,h2⟩;clear z h hR hx h4 hs h1;go_in;go_upto_region 1 with fail;obtain ⟨g,hg⟩:∃ g,g=w.heap.size:=⟨_,rfl⟩;rw [<-hg] at F0 ⊢;have r0:=C5.last F0.o;have y0:=r0.cell 0 rfl;obtain ⟨_,_,_,_,_,_,_,_,_,_,xf⟩:=dD.cells F0.o;have x3:=xf 5;have d:Hid (Fam w0 ((w.alloc (.cells #[.int .i64 3] 163)).setCell ⟨b,5,none⟩ (.int .i64 3)) (C5 b { c with ph:=3 } x ++ (l ++ [eY g 163 [.int .i64 3]]))):=C5.tY F0.o 3;have r1:=C5.last d.o;have y1:=r1.cell 0 rfl;have x4:=(dD.cells d.o).2.2.2.2.1;have cw:=aHh _ (C5.t2 (b:=b) (c:={ c with ph:=3 }) (x:=x) (l:=l ++ [eY g 163 [.int .i64 3]])) (hb:=x.hb) (p:=x.p) (m:=c.m) d.o;rw [<-HS.o] at cw;generalize w.alloc (.cells #[.int .i64 3] 163)=w1 at*;clear r0 r1 xf hg;go_upto_region 7 with fail;generalize w1.setCell ⟨b,5,none⟩ (.int .i64 3)=w2 at*;clear y0 x3 F0;go_wp2_with fail;go_fit cw;rintro e w3 ⟨v,rfl,hi,ho⟩;have x5:=((dD.cells (d.o.aK ho)).2.2.2.2.2.2.2.2.2.2) 8;have h9:=(dD.cells (d.o.aK ho)).2.2.2.2.2.2.2.2.1;have F3:Hid (Fam w0 (w3.setCell ⟨b,8,none⟩ v) (C5 b { c with ph:=3,sw:=s } { x with sv:=v } ++ (l ++ [eY g 163 [.int .i64 3]]))):=C5.aGH d.o ho hi;obtain ⟨va,vc,hv⟩:=hi.len;subst hv;have x8:=(dD.cells F3.o).2.2.2.2.2.2.2.2.1;have r3:=C5.last F3.o;have y3:=r3.cell 0 rfl;clear hi ho cw x4 y1 d r3;obtain ⟨n,hn⟩:∃ n,n=s.length:=⟨_,rfl⟩;have HN:=aA hn;rw [<-hn] at F3 h3 x2 x8 ⊢;clear hn HS;go_upto_region 8 with fail;generalize w3.setCell ⟨b,8,none⟩ (.slice va n vc)=w4 at*;clear x5 h9;go_wp2;go_loopw [43] (fun iv wr=>∃ k:Nat,k<=n/\iv=.int .i64 k/\Fam w0 wr (C5 b { c with ph:=3,sw:=s,m:=c.m.put (c.m.M.bK s k) } { x with sv:=.slice va n vc } ++ (l ++ [eY g 163 [.int .i64 3]]))) (fun iv _=>n - (intOf iv).toNat)
 case atStart=>exact ⟨0,by omega,rfl,F3.o⟩
 case round=>as_aux_lemma=>
  clear F3 x8 y3;obtain ⟨k,hk,rfl,z⟩:=hrel
  by_cases h7:k<n
  ·have h8:(k:Int)<(n:Int):=by omega
   have x6:(0:Int)<=(k:Int):=by omega
   have h6:k<s.length:=by rw [<-HN.o];exact h7
   have h5:=(C5.sw z).read;obtain ⟨vb,vo,rfl,x1⟩:=h5.at (k:=k) h6;have cb:=aIp wr z (gI s k) (h3.o k h7);have h0:Hid (∀ w',Fam w0 w' (C5 b ({ c with ph:=3,sw:=s,m:=c.m.put (c.m.M.bK s k) }.pU (Mk.put { c with ph:=3,sw:=s,m:=c.m.put (c.m.M.bK s k) }.m (Hp.blank { c with ph:=3,sw:=s,m:=c.m.put (c.m.M.bK s k) }.m.M (gI s k)))) { x with sv:=.slice (some ⟨vb,vo,none⟩) n vc } ++ (l ++ [eY g 163 [.int .i64 3]]))->Fam w0 w' (C5 b { c with ph:=3,sw:=s,m:=c.m.put (c.m.M.bK s (k+1)) } { x with sv:=.slice (some ⟨vb,vo,none⟩) n vc } ++ (l ++ [eY g 163 [.int .i64 3]]))):=fun w' hw=>hw;clear h5 z h6;generalize gI s k=y at*;go_wp2_with fail;go_fit cb;rintro e w2 ⟨rfl,z⟩;have F2:=aA (h0.o _ z);clear cb z h0 x1;go_wp2;exact ⟨⟨k+1,by omega,by go_num,F2.o⟩,by simp [intOf];omega⟩
  obtain rfl:k=n:=by omega
  have h8:¬ (k:Int)<(k:Int):=by omega
  have F5:Hid (Fam w0 wr (C5 b (c.fC s).2 { x with sv:=.slice va k vc } ++ l)):=by
   have f4:Fam w0 wr ((C5 b { c with ph:=3,sw:=s,m:=c.m.put (c.m.M.bK s k) } { x with sv:=.slice va k vc } ++ l) ++ [eY g 163 [.int .i64 3]]):=z;have f5:=f4.pop;rw [HN.o] at f5 ⊢;exact f5
  clear z;go_wp2;exact HR.o _ _ F5.o
theorem aFq (w:World) (hf:Fam w0 w (C5 b c x ++ l)) (hx:x.ok c):Calls prog 302 #[.agg #[.int .i64 4],.pointer (some ⟨b,0,none⟩)] w (aBr w0 l b (1,{ c with ph:=4,mv:=0 })):=by
 refine aF fun R d=>?_;have y:Hid (Fam w0 (w.alloc (.cells #[.int .i64 4] 163)) (C5 b c x ++ (l ++ [eY w.heap.size 163 [.int .i64 4]]))):=hf.addRow 163 [.int .i64 4];have HR:Hid (∀ w',Fam w0 w' (C5 b { c with ph:=4,mv:=0 } { x with mv:=0 } ++ l)->R (.returned (.int .i64 1)) w'):=fun w' h2=>d.o _ _ ⟨rfl,_,⟨fun e=>by (cases e),fun e=>rfl,Nat.zero_le _⟩,h2⟩;clear hf d hx;go_in;go_upto_region 1 with fail;obtain ⟨g,hg⟩:∃ g,g=w.heap.size:=⟨_,rfl⟩;rw [<-hg] at y ⊢;have r0:=C5.last y.o;have y0:=r0.cell 0 rfl;have h3:=((dD.cells y.o).2.2.2.2.2.2.2.2.2.2) 5;have h0:=(dD.cells y.o).2.2.2.2.2.1;have z:Hid (Fam w0 ((w.alloc (.cells #[.int .i64 4] 163)).setCell ⟨b,5,none⟩ (.int .i64 4)) (C5 b { c with ph:=4 } x ++ (l ++ [eY g 163 [.int .i64 4]]))):=C5.tY y.o 4;have r1:=C5.last z.o;have y1:=r1.cell 0 rfl;have h4:=((dD.cells z.o).2.2.2.2.2.2.2.2.2.2) 9;have h1:=(dD.cells z.o).2.2.2.2.2.2.2.2.2.1;have F2:Hid (Fam w0 (((w.alloc (.cells #[.int .i64 4] 163)).setCell ⟨b,5,none⟩ (.int .i64 4)).setCell ⟨b,9,none⟩ (.int .i64 0)) (C5 b { c with ph:=4,mv:=0 } { x with mv:=0 } ++ l)):=by
  have f2:Fam w0 _ ((C5 b { c with ph:=4,mv:=0 } { x with mv:=0 } ++ l) ++ [eY g 163 [.int .i64 4]]):=C5.aMd z.o 0;exact f2.pop
 clear y z r0 r1 hg;generalize w.alloc (.cells #[.int .i64 4] 163)=w1 at*;go_wp2_with fail;exact HR.o _ F2.o
theorem aAn (w:World) (hf:Fam w0 w (C5 b c x ++ l)) (hx:x.ok c):Calls prog 302 #[.agg #[.int .i64 0],.pointer (some ⟨b,0,none⟩)] w (aBr w0 l b (1,{ c with ph:=0,cr:=0 })):=by
 refine aF fun R hR=>?_;have y:Hid (Fam w0 (w.alloc (.cells #[.int .i64 0] 163)) (C5 b c x ++ (l ++ [eY w.heap.size 163 [.int .i64 0]]))):=hf.addRow 163 [.int .i64 0];have d:=hx.mv2;have HR:Hid (∀ w',Fam w0 w' (C5 b { c with ph:=0,cr:=0 } x ++ l)->R (.returned (.int .i64 1)) w'):=fun w' h2=>hR.o _ _ ⟨rfl,_,⟨fun e=>by (cases e),fun e=>by (cases e),d⟩,h2⟩;clear hf hR hx d;go_in;go_upto_region 1 with fail;obtain ⟨g,hg⟩:∃ g,g=w.heap.size:=⟨_,rfl⟩;rw [<-hg] at y ⊢;have r0:=C5.last y.o;have y0:=r0.cell 0 rfl;have h3:=((dD.cells y.o).2.2.2.2.2.2.2.2.2.2) 5;have h0:=(dD.cells y.o).2.2.2.2.2.1;have z:Hid (Fam w0 ((w.alloc (.cells #[.int .i64 0] 163)).setCell ⟨b,5,none⟩ (.int .i64 0)) (C5 b { c with ph:=0 } x ++ (l ++ [eY g 163 [.int .i64 0]]))):=C5.tY y.o 0;have r1:=C5.last z.o;have y1:=r1.cell 0 rfl;have h4:=((dD.cells z.o).2.2.2.2.2.2.2.2.2.2) 6;have h1:=(dD.cells z.o).2.2.2.2.2.2.1;have F2:Hid (Fam w0 (((w.alloc (.cells #[.int .i64 0] 163)).setCell ⟨b,5,none⟩ (.int .i64 0)).setCell ⟨b,6,none⟩ (.int .i64 0)) (C5 b { c with ph:=0,cr:=0 } x ++ l)):=by
  have f2:Fam w0 _ ((C5 b { c with ph:=0,cr:=0 } x ++ l) ++ [eY g 163 [.int .i64 0]]):=C5.aEt z.o 0;exact f2.pop
 clear y z r0 r1 hg;generalize w.alloc (.cells #[.int .i64 0] 163)=w1 at*;go_wp2_with fail;exact HR.o _ F2.o
theorem aLT (h:c.Okc) (y:c.ph=2) (hx:x.ok c) (ht:c.t.ph≠0):((c.t.step c.m).2.2.1=0->x.ok c.stepT)/\((c.t.step c.m).2.2.1≠0->CX.ok { x with ov:=true } c.stepT):=by
 obtain ⟨h1,z,d⟩:=h.stepT y;refine ⟨fun e=>⟨fun _=>?_,fun e=>absurd (show c.ph=4 from e) (by omega),hx.mv2⟩,fun e=>⟨fun _=>(decide_eq_true (z e)).symm,fun e=>absurd (show c.ph=4 from e) (by omega),hx.mv2⟩⟩;rw [hx.ov y,decide_eq_false ht,decide_eq_false (d e)]
theorem aLG {t:Tb} {m:Mk} (h:t.Good m) (y:m.Ok):(t.step m).1=3->wfI (t.step m).2.1:=by
 unfold Tb.step;split
 ·intro e;cases e
 simp only;split
 ·intro _;exact aBA y
 split
 ·intro e;cases e
 rename_i z _;intro e;exact absurd (show ((t.settle m).ph:Int)=3 from e) (by omega)
theorem aEB (w:World) (hf:Fam w0 w (C5 b c x ++ l)) (hx:x.ok c) (h:c.Okc) (hp:c.ph=2) (ht:c.t.ph≠0):Calls prog 307 #[.agg #[],.pointer (some ⟨b,0,none⟩)] w (aBr w0 l b c.refs):=by
 refine aF fun R d=>?_;obtain ⟨k1,k2,k3⟩:=h.stepT hp;obtain ⟨o1,o2⟩:=aLT h hp hx ht;have HF:=aA hf;have HG:=aA h.tg;have HM:=aA (h.mo (.inr hp));have h5:=aLG h.tg (h.mo (.inr hp));have HC:Hid (∀ wx,Fam w0 wx (C5 b c x ++ l)->Calls prog 68 #[.pointer (some ⟨x.tb,0,none⟩),.pointer (some ⟨x.p,0,none⟩)] wx (fun e w'=>e=.returned (.tuple #[.int .i64 (c.t.step c.m).1,.int .i64 (c.t.step c.m).2.1,.int .i64 (c.t.step c.m).2.2.1])/\Fam w0 w' (C5 b c.stepT x ++ l))):=fun wx hx=>aIL wx (C5.t3 (b:=b) (c:=c) (x:=x) (l:=l)) (hb:=x.hb) (p:=x.p) (b:=x.tb) (m:=c.m) (t:=c.t) hx HG.o HM.o;have h1:Hid (c.stepT.ph=2):=hp;have h8:c.stepT.m.M.len=c.m.M.len:=by rw [show c.stepT.m.M=c.m.M from (h.tg.step (h.mo (.inr hp))).2.2.1]
 rw [Co.fV] at d;obtain ⟨s1,h9⟩:∃ s,s=(c.t.step c.m).1:=⟨_,rfl⟩;obtain ⟨s2,x1⟩:∃ s,s=(c.t.step c.m).2.1:=⟨_,rfl⟩;obtain ⟨s3,x2⟩:∃ s,s=(c.t.step c.m).2.2.1:=⟨_,rfl⟩;rw [<-h9,<-x1,<-x2] at HC;rw [<-h9,<-x1,<-x2] at d;rw [<-h9,<-x1] at h5;rw [<-x2] at k2 k3 o1 o2;clear hf h hx ht hp h9 x1 x2
 by_cases he:s3=0
 ·subst he;rw [if_pos rfl] at d;have HO:=aA (o1 rfl);have y0:=fG k1.hf.ok s2;clear o1 o2 k2 k3
  by_cases h3:s1=3
  ·subst h3;rw [if_pos rfl] at d;have HW:=aA (h5 rfl);have HR:Hid (∀ w',Fam w0 w' (C5 b c.stepT x ++ l)->R (.returned (.int .i64 (1+c.stepT.m.M.len s2))) w'):=fun w' h2=>d.o _ _ ⟨by rw [h8],x,HO.o,h2⟩;clear d h5 h8 k1;generalize x7:c.stepT.m.M.len s2=n at*;have x8:=aA x7;clear x7;go_in;go_upto_region 1 with fail;have z:=aA (C5.alloc HF.o (.cells #[] 218));generalize w.alloc (.cells #[] 218)=w1 at*;clear HF;go_region_held3 (fun w'=>w'.cell? ⟨b,3,none⟩=some (.pointer (some ⟨x.tb,0,none⟩))/\w'.cell? ⟨b,4,none⟩=some (.pointer (some ⟨x.p,0,none⟩)))
    (first|(exact ⟨(C5.row z.o).cell 3 rfl,(C5.row z.o).cell 4 rfl⟩)|(exact ⟨(C5.row y).cell 3 rfl,(C5.row y).cell 4 rfl⟩))
    (first|(go_at_call 68;refine (HC.o _ z.o.drew).mono ?_;rintro e w3 ⟨rfl,y⟩))
   have F3:=aA y;have cl:=kJ w3 y s2 HW.o;rw [x8.o] at cl;clear y HC z;go_wp2_with fail;go_fit cl;rintro e _ ⟨rfl,k,rfl⟩;have F4:=aA (F3.o.drewN k);clear cl F3;go_wp2_with fail;exact HR.o _ F4.o
  rw [if_neg h3] at d;have y1:(s1 == 3)=false:=by simpa using h3
  have HR:Hid (∀ w',Fam w0 w' (C5 b c.stepT x ++ l)->R (.returned (.int .i64 1)) w'):=fun w' h2=>d.o _ _ ⟨rfl,x,HO.o,h2⟩;clear d h5 h8 k1 h3 y0;go_in;go_upto_region 1 with fail;have z:=aA (C5.alloc HF.o (.cells #[] 218));generalize w.alloc (.cells #[] 218)=w1 at*;clear HF;go_region_held3 (fun w'=>w'.cell? ⟨b,3,none⟩=some (.pointer (some ⟨x.tb,0,none⟩))/\w'.cell? ⟨b,4,none⟩=some (.pointer (some ⟨x.p,0,none⟩)))
   (first|(exact ⟨(C5.row z.o).cell 3 rfl,(C5.row z.o).cell 4 rfl⟩)|(exact ⟨(C5.row y).cell 3 rfl,(C5.row y).cell 4 rfl⟩))
   (first|(go_at_call 68;refine (HC.o _ z.o.drew).mono ?_;rintro e w3 ⟨rfl,y⟩))
  have F3:=aA y;clear y HC z;go_wp2_with fail;exact HR.o _ F3.o
 rw [if_neg he] at d;have y2:(s3 != 0)=true:=by simpa using he
 have HO:=aA (o2 he);have x9:=aA (k2 he);have h7:=aA k1;clear o1 o2 k2 k3 k1 h5 h8;have x6:=aA d.o;have h0:c.stepT.kQ=if c.stepT.m.list=[] then .iface 163 (.agg #[.int .i64 3]) else .iface 157 (.agg #[]):=by
  unfold Co.kQ;rw [if_neg (by rw [h1.o];decide),if_pos h1.o,if_neg (by rw [x9.o];exact fun e=>e rfl)]
 unfold Co.tail at d
 by_cases hl:c.stepT.m.list=[]
 ·rw [if_pos hl] at d h0;have x3:=aA h0;clear hl h0 x6 he;go_in;go_upto_region 1 with fail;have z:=aA (C5.alloc HF.o (.cells #[] 218));generalize w.alloc (.cells #[] 218)=w1 at*;clear HF;go_region_held3 (fun w'=>w'.cell? ⟨b,3,none⟩=some (.pointer (some ⟨x.tb,0,none⟩))/\w'.cell? ⟨b,4,none⟩=some (.pointer (some ⟨x.p,0,none⟩)))
   (first|(exact ⟨(C5.row z.o).cell 3 rfl,(C5.row z.o).cell 4 rfl⟩)|(exact ⟨(C5.row y).cell 3 rfl,(C5.row y).cell 4 rfl⟩))
   (first|(go_at_call 68;refine (HC.o _ z.o.drew).mono ?_;rintro e w3 ⟨rfl,y⟩))
  have x5:=((dD.cells y).2.2.2.2.2.2.2.2.2.2) 7;have x4:=(dD.cells y).2.2.2.2.2.2.2.1;have F4:Hid (Fam w0 (w3.setCell ⟨b,7,none⟩ (.bool true)) (C5 b c.stepT { x with ov:=true } ++ l)):=C5.aOr y true;clear y HC z;go_upto_region 4 with fail;generalize w3.setCell ⟨b,7,none⟩ (.bool true)=w4 at*;have cn:=bQ w4 F4.o h7.o HO.o (by rw [h1.o];decide);rw [x3.o] at cn;clear x5 x4;go_wp2_with fail;go_fit cn;rintro e _ ⟨rfl,k,rfl⟩;have F5:=aA (F4.o.drewN k);generalize w4.drewN k=w5 at*;have cb:=aAm w5 F5.o HO.o h7.o;clear cn F4;go_wp2_with fail;refine cb.mono ?_;rintro e w6 ⟨rfl,x',h6,h4⟩;have HE:Hid (aBr w0 l b c.stepT.jG (.returned (.int .i64 c.stepT.jG.1)) w6):=⟨rfl,x',h6,h4⟩;clear cb h6 h4 F5;go_wp2;exact d.o _ _ HE.o
 rw [if_neg hl] at d h0;have x3:=aA h0;clear hl h0 x6 he;go_in;go_upto_region 1 with fail;have z:=aA (C5.alloc HF.o (.cells #[] 218));generalize w.alloc (.cells #[] 218)=w1 at*;clear HF;go_region_held3 (fun w'=>w'.cell? ⟨b,3,none⟩=some (.pointer (some ⟨x.tb,0,none⟩))/\w'.cell? ⟨b,4,none⟩=some (.pointer (some ⟨x.p,0,none⟩)))
  (first|(exact ⟨(C5.row z.o).cell 3 rfl,(C5.row z.o).cell 4 rfl⟩)|(exact ⟨(C5.row y).cell 3 rfl,(C5.row y).cell 4 rfl⟩))
  (first|(go_at_call 68;refine (HC.o _ z.o.drew).mono ?_;rintro e w3 ⟨rfl,y⟩))
 have x5:=((dD.cells y).2.2.2.2.2.2.2.2.2.2) 7;have x4:=(dD.cells y).2.2.2.2.2.2.2.1;have F4:Hid (Fam w0 (w3.setCell ⟨b,7,none⟩ (.bool true)) (C5 b c.stepT { x with ov:=true } ++ l)):=C5.aOr y true;clear y HC z;go_upto_region 4 with fail;generalize w3.setCell ⟨b,7,none⟩ (.bool true)=w4 at*;have cn:=bQ w4 F4.o h7.o HO.o (by rw [h1.o];decide);rw [x3.o] at cn;clear x5 x4;go_wp2_with fail;go_fit cn;rintro e _ ⟨rfl,k,rfl⟩;have F5:=aA (F4.o.drewN k);generalize w4.drewN k=w5 at*;have cb:=uJ w5 F5.o HO.o (h7.o.mo (.inr h1.o));clear cn F4;go_wp2_with fail;refine cb.mono ?_;rintro e w6 ⟨rfl,x',h6,h4⟩;have HE:Hid (aBr w0 l b c.stepT.mark (.returned (.int .i64 c.stepT.mark.1)) w6):=⟨rfl,x',h6,h4⟩;clear cb h6 h4 F5;go_wp2;exact d.o _ _ HE.o
end
section
variable {w0 w:World} {l:List Asn} {b:Nat} {c:Co} {x:CX} {i:Nat}
theorem aMH (w:World) (z:Fam w0 w (C5 b c x ++ l)) (h:Int) (d:wfI h):Calls prog 300 #[.pointer (some ⟨x.hb,0,none⟩),.int .i64 h] w (fun e w'=>e=.returned (.int .i64 (c.m.M.release h).1)/\Fam w0 w' (C5 b (c.pU (c.m.put (c.m.M.release h).2)) x ++ l)):=
 z.aCU 0 rfl (M':=(c.m.M.release h).2) (fun y=>y.release h) (fun L X hr y=>aEz w hr y h d)
theorem aHU (w:World) (hf:Fam w0 w (C5 b c x ++ l)) (hx:x.ok c) (h:c.Okc) (hp:c.ph=3) {y:Int} {r:List Int} (e:c.sw=y :: r):Calls prog 299 #[.agg #[.int .i64 y],.pointer (some ⟨b,0,none⟩)] w (aBr w0 l b c.free):=by
 refine aF fun R hR=>?_;have F0:Hid (Fam w0 (w.alloc (.cells #[.int .i64 y] 160)) (C5 b c x ++ (l ++ [eY w.heap.size 160 [.int .i64 y]]))):=hf.addRow 160 [.int .i64 y];have h8:Hid (wfI y):=aIH (h.hf.ok.inR (h.su y (by rw [e];exact List.mem_cons_self)));have y2:=kX h.hf.ok y;have x2:=h.vV;rw [e,List.length_cons] at x2;have HR:Hid (∀ w' v,Fam w0 w' (C5 b { c with sw:=r,m:=c.m.put (c.m.M.release y).2 } { x with sv:=v } ++ l)->R (.returned (.int .i64 (1+((c.m.M.blocks y).1.length:Int)))) w'):=fun w' v h2=>hR.o _ _ (by
  unfold Co.free;rw [e];exact ⟨rfl,{ x with sv:=v },⟨fun e=>absurd (show c.ph=2 from e) (by omega),fun e=>absurd (show c.ph=4 from e) (by omega),hx.mv2⟩,h2⟩)
 have HE:=aA e;clear hf h hR hx hp e;go_in;go_upto_region 1 with fail;obtain ⟨g,hg⟩:∃ g,g=w.heap.size:=⟨_,rfl⟩;rw [<-hg] at F0 ⊢;generalize w.alloc (.cells #[.int .i64 y] 160)=w1 at*;clear hg;have HC:Hid (∀ wx,Only [] w1 wx->Calls prog 115 #[.pointer (some ⟨x.hb,0,none⟩),.int .i64 y] wx (aLz wx (c.m.M.blocks y))):=fun wx ho=>by
  obtain ⟨hk,L,X,hp⟩:=C5.ph (F0.o.aK ho);exact pO wx hp hk y h8.o
 generalize h9:(c.m.M.blocks y).1.length=bn at*;have x4:=aA h9;clear h9;have h7:Hid (Only [] w1 w1.drew):=(Only.refl [] w1).drew;go_region_held3 (fun w'=>w'.cell? ⟨b,2,none⟩=some (.pointer (some ⟨x.hb,0,none⟩))/\w'.cell? ⟨g,0,none⟩=some (.int .i64 y))
  (first|(exact ⟨(C5.row F0.o).cell 2 rfl,(C5.last F0.o).cell 0 rfl⟩)|(exact ⟨(C5.row F2.o).cell 2 rfl,(C5.last F2.o).cell 0 rfl⟩))
  (first|(go_at_call 115;refine (HC.o _ h7.o).mono ?_;rintro e w2 ⟨v,rfl,hi,ho⟩;obtain ⟨va,vc,rfl⟩:=hi.len;rw [x4.o] at*;have F2:=aA (F0.o.drew.aK ho);clear hi ho))
 clear HC F0 h7;obtain ⟨_,_,_,_,_,_,_,_,x8,_,xf⟩:=dD.cells F2.o;have y0:=xf 8;have hs:=C5.sw F2.o;rw [HE.o] at hs;obtain ⟨sa,sc,hv⟩:=hs.len;rw [hv] at x8 hs;have HS:=aA hs;obtain ⟨sb,so,rfl,x7⟩:=hs.read.at (k:=0) (by simp);replace x8:w2.cell? ⟨b,8,none⟩=some (.slice (some ⟨sb,so,none⟩) (r.length+1) sc):=x8;have x3:r.length+1<=sc:=by
  rcases hs.form with ⟨h1,_⟩|⟨g,cap,h1,_,_,h3,_⟩
  ·cases h1
  simp only [Value.slice.injEq] at h1;obtain ⟨_,_,rfl⟩:=h1;exact h3
 have CL:Hid (∀ o' cc,(o'=so+1\/r.length=0)->Calls prog 80 #[.slice (some ⟨sb,o',none⟩) r.length cc] w2 (fun e w'=>∃ v,e=.returned v/\aN w' w2.heap.size v r/\Only [] w2 w')):=fun o' cc ho=>by
  refine (aAi w2 sb o' r.length cc r rfl (by omega) (fun k hk=>?_)).mono (fun e w' ⟨v,h1,h2,h3,_⟩=>⟨v,h1,h2,h3⟩);rcases ho with rfl|h0
  ·obtain ⟨b2,o2,e2,h4⟩:=HS.o.read.at (k:=k+1) (by simp;omega)
   cases e2
   rw [show so+1+k=so+(k+1) by omega,h4];simp [gI]
  omega
 have x5:=aA (rfl:r.length=r.length);clear hs hv x7 HS xf;obtain ⟨n,hn⟩:∃ n,n=r.length:=⟨_,rfl⟩;rw [<-hn] at x8 CL x3 x2;clear x5 hn;go_wp2_with fail
 all_goals (
  refine (CL.o _ _ (by first|exact .inl rfl|(right;omega))).mono ?_;rintro e w3 ⟨v0,rfl,h5,h6⟩;obtain ⟨z,d,x9⟩:=h5.len;subst x9;obtain ⟨n1,x1⟩:∃ n,n=r.length:=⟨_,rfl⟩;rw [<-x1] at h5 ⊢;clear x1;have F3:Hid (Fam w0 (w3.setCell ⟨b,8,none⟩ (.slice z n1 d)) (C5 b { c with sw:=r } { x with sv:=.slice z n1 d } ++ (l ++ [eY g 160 [.int .i64 y]]))):=C5.aGH F2.o h6 h5;have y1:=((dD.cells (F2.o.aK h6)).2.2.2.2.2.2.2.2.2.2) 8;have x6:=(dD.cells (F2.o.aK h6)).2.2.2.2.2.2.2.2.1;clear h5 h6 x8 y0 CL F2;go_upto_region 3 with fail;generalize w3.setCell ⟨b,8,none⟩ (.slice z n1 d)=w4 at*;clear y1 x6;have HC:Hid (∀ wx,Fam w0 wx (C5 b { c with sw:=r } { x with sv:=.slice z n1 d } ++ (l ++ [eY g 160 [.int .i64 y]]))->Calls prog 300 #[.pointer (some ⟨x.hb,0,none⟩),.int .i64 y] wx (fun e w'=>e=.returned (.int .i64 (c.m.M.release y).1)/\Fam w0 w' (C5 b { c with sw:=r,m:=c.m.put (c.m.M.release y).2 } { x with sv:=.slice z n1 d } ++ (l ++ [eY g 160 [.int .i64 y]])))):=fun wx hx=>aMH wx hx y h8.o;go_region_held3 (fun w'=>w'.cell? ⟨b,2,none⟩=some (.pointer (some ⟨x.hb,0,none⟩))/\w'.cell? ⟨g,0,none⟩=some (.int .i64 y))
   (first|(exact ⟨(C5.row F3.o).cell 2 rfl,(C5.last F3.o).cell 0 rfl⟩)|(exact ⟨(C5.row f5).cell 2 rfl,(C5.last f5).cell 0 rfl⟩))
   (first|(go_at_call 300;refine (HC.o _ F3.o.drew).mono ?_;rintro e w5 ⟨rfl,f5⟩))
  have F6:Hid (Fam w0 w5 (C5 b { c with sw:=r,m:=c.m.put (c.m.M.release y).2 } { x with sv:=.slice z n1 d } ++ l)):=by
   have f6:Fam w0 w5 ((C5 b { c with sw:=r,m:=c.m.put (c.m.M.release y).2 } { x with sv:=.slice z n1 d } ++ l) ++ [eY g 160 [.int .i64 y]]):=f5;exact f6.pop
  clear f5 F3 HC;go_wp2;exact HR.o _ _ F6.o)
theorem aKf (w:World) (z:Fam w0 w (C5 b c x ++ l)):Calls prog 309 #[.pointer (some ⟨x.hb,0,none⟩)] w (fun e w'=>e=.returned (.tuple #[.int .i64 c.m.M.move.1,.int .i64 c.m.M.move.2.1])/\Fam w0 w' (C5 b (c.pU (c.m.put c.m.M.move.2.2)) x ++ l)):=
 z.aCU 0 rfl (M':=c.m.M.move.2.2) (fun y=>y.move) (fun L X hr y=>aKg w hr y)
theorem aEW (w:World) (y:Fam w0 w (C5 b c x ++ l)):Calls prog 128 #[.pointer (some ⟨x.hb,0,none⟩)] w (fun e w'=>∃ q,e=.returned (.pointer (some ⟨q,0,none⟩))/\Only [] w w'/\Fam w0 w' (C5 b c x ++ (l ++ [PH q c.m.M]))):=by
 obtain ⟨hk,L,X,hp⟩:=C5.ph y;have z:=y.phF 0 rfl;refine (aDv w hp hk).mono ?_;rintro e w' ⟨q,L',X',he,h1,h2,d⟩;exact ⟨q,he,d,y.add (aOz h1 z h2 d)⟩
theorem C5.aQq {q:Nat} {M:Hp} (y:Fam w0 w (C5 b c x ++ (l ++ [PH q M]))):M.Ok/\∃ L X,dO w L q M X:=by
 refine y.ph (5+l.length) ?_;have z:(C5 b c x).length=5:=rfl;rw [List.getElem?_append_right (by omega),List.getElem?_append_right (by omega),show 5+l.length - (C5 b c x).length - l.length=0 by omega];rfl
theorem aMv (M:Hp):M.move.2.1=M.P.move.2.2.1:=by
 unfold Hp.move;split
 ·rename_i e;split
  ·rw [e]
  rw [e]
 rfl
theorem aKW {M:Hp} (y:M.P.move.2.2.1≠0):M.move=(0,M.P.move.2.2.1,M):=by unfold Hp.move;rw [if_neg y]
theorem aHl (w:World) (hf:Fam w0 w (C5 b c x ++ l)) (hx:x.ok c) (h:c.Okc) (hp:c.ph=4) (hm:c.mv≠8*c.pages):Calls prog 308 #[.agg #[],.pointer (some ⟨b,0,none⟩)] w (aBr w0 l b c.move):=by
 refine aF fun R hR=>?_;have F0:Hid (Fam w0 (w.alloc (.cells #[] 219)) (C5 b c x ++ l)):=C5.alloc hf _
 by_cases he:c.m.M.P.move.2.2.1=0
 ·obtain ⟨y,o,ho,h9,y6,z9,x6,x4⟩:=h.hf.rW he;have b4:=hx.mv hp;have b5:=h.mv;have c4:=h.pg;have y7:Hid (wfI y):=aIH (h.hf.ok.hr y o ho);have e0:=h.hf.ok.aCn ho;have x7:=oZ h.hf.ok.p he;have b6:=h.hf.ok.n24;have x3:Hid (c.move=(4+(bsz (c.m.M.P.class (c.m.M.P.move.1.tdiv 16)).1:Int),{ c with m:=c.m.put c.m.M.move.2.2,mv:=c.mv+1 })):=by
   show _=_;unfold Co.move;rw [if_neg (fun e=>by rcases e with e|e;exact hm e;exact e he)]
  have HR:Hid (∀ w',Fam w0 w' (C5 b { c with m:=c.m.put c.m.M.move.2.2,mv:=c.mv+1 } { x with mv:=c.mv+1 } ++ l)->R (.returned (.int .i64 (4+(bsz (c.m.M.P.class (c.m.M.P.move.1.tdiv 16)).1:Int)))) w'):=fun w' h2=>hR.o _ _ (by
   rw [x3.o];exact ⟨rfl,{ x with mv:=c.mv+1 },⟨fun e=>absurd (show c.ph=2 from e) (by omega),fun e=>rfl,by show c.mv+1<=192;omega⟩,h2⟩)
  have h7:c.m.M.move.1=y:=by rw [y6]
  have h8:c.m.M.move.2.1=0:=by rw [y6]
  have x8:Hid ((c.m.M.blocks y).1=o.blocks):=by show _=_;unfold Hp.blocks;rw [ho]
  have h5:Hid ((c.m.M.move.2.2.blocks y).1=o.blocks.set (o.place c.m.M.P.move.1) c.m.M.P.move.2.1):=by show _=_;unfold Hp.blocks;rw [z9];rfl
  have y1:(c.m.M.P.class (c.m.M.P.move.1.tdiv 16)).1<=2:=aCl h.hf.ok.p _;have a7:=h.hf.move;rw [<-x4] at y1;have y8:0<=(c.m.M.move.2.2.P.class (c.m.M.P.move.2.1.tdiv 16)).1:=by
   rw [x4];have hb:=h.hf.ok.bk y o ho _ h9;have hc:=h.hf.ok.isC ho (m:=o.place c.m.M.P.move.1) h9;rw [Th.oU h9] at hb;obtain ⟨i,k,e1,hh⟩:=hb;have d0:=hc.blk hh.kb;have hs:=hc.sz;have e4:=hh.hi;rw [e1,show (((16*i+k*bsz (gI (aT o.slots.length) (o.place c.m.M.P.move.1)):Nat):Int)).tdiv 16=(i:Int) by rw [Int.tdiv_eq_ediv_of_nonneg (by omega)];omega];unfold Pl.class;rw [if_neg (by omega),Int.toNat_natCast,hh.cls];rcases hc with e|e|e<;>omega
  rw [<-x4] at HR;obtain ⟨k0,z2⟩:∃ k,k=o.place c.m.M.P.move.1:=⟨_,rfl⟩;obtain ⟨z,a5⟩:∃ t,t=c.m.M.P.move.2.1:=⟨_,rfl⟩;rw [<-z2] at h9 x6 h5;rw [<-a5] at x6 h5 x7 y1 y8 HR;obtain ⟨cl,y3⟩:∃ k,k=(c.m.M.move.2.2.P.class (z.tdiv 16)).1:=⟨_,rfl⟩;have a8:=aA y3;rw [<-y3] at y1 y8 HR;have b7:0<=z:=x7.2.2.1;have d8:z<384:=by have:=x7.2.2.2.2.1;omega
  have e5:k0<7:=by omega
  have a9:Hid (c.mv<=191):=by show c.mv<=191;omega
  clear hf hR hx hp hm z9 y6 x4 ho z2 a5 y3 x7 b6 b5 c4 x3 a7;have HH:=aA h;clear h;generalize b9:o.blocks=bs at*;clear b9;go_in;go_upto_region 1 with fail;generalize w.alloc (.cells #[] 219)=w1 at*;have x2:=(dD.cells F0.o).2.2.1;have cc:=aEW w1 F0.o;go_wp2_with fail;go_fit cc;rintro e w2 ⟨q,rfl,h4,h0⟩;have F2:=aA h0;have y2:=(dD.cells h0).2.2.1;have cm:=aKf w2 h0;rw [h7,h8] at cm;clear cc h4 h0 x2 F0;go_wp2_with fail;go_fit cm;rintro e w3 ⟨rfl,h6⟩;have F3:Hid (Fam w0 w3 (C5 b { c with m:=c.m.put c.m.M.move.2.2 } x ++ (l ++ [PH q c.m.M]))):=h6;obtain ⟨_,_,_,_,_,_,_,_,_,x9,xf⟩:=dD.cells F3.o;rw [b4] at x9;have c8:=xf 9;have F4:Hid (Fam w0 (w3.setCell ⟨b,9,none⟩ (.int .i64 ((c.mv+1:Nat):Int))) (C5 b { c with m:=c.m.put c.m.M.move.2.2,mv:=c.mv+1 } { x with mv:=c.mv+1 } ++ (l ++ [PH q c.m.M]))):=C5.aMd F3.o (c.mv+1);have d7:=a9.o;clear cm h6 xf y2 F2;generalize d6:c.mv=mv at*;go_upto_region 6 with fail;have x1:((mv:Int)+1)=((mv+1:Nat):Int):=by omega
  rw [x1];generalize w3.setCell ⟨b,9,none⟩ (.int .i64 ((mv+1:Nat):Int))=w4 at*;clear x9 c8 F3 x1;obtain ⟨z5,Lq,Xq,hq⟩:=C5.aQq F4.o;have c1:=pO w4 hq z5 y y7.o;clear z5 hq;go_wp2_with fail;go_fit c1;rintro e w5 ⟨v1,rfl,z1,z7⟩;have F5:=aA (F4.o.aK z7);obtain ⟨z3,L5,X5,a0⟩:=C5.ph F5.o;have x2:=(dD.cells F5.o).2.2.1;have c2:=pO w5 a0 z3 y y7.o;have y0:=aA z1;clear c1 z1 z7 z3 a0 F4;go_wp2_with fail;go_fit c2;rintro e w6 ⟨v2,rfl,y4,h4⟩;have F6:=aA (F5.o.aK h4);have b3:Hid (∀ wx,Only [] w6 wx->mY wx v1 bs/\mY wx v2 (bs.set k0 z)):=fun wx ho=>by
   have h1:=(y0.o.only h4 (by simp)).only ho (by simp);have h2:=y4.only ho (by simp);rw [x8.o] at h1;have h3:(({ c with m:=c.m.put c.m.M.move.2.2,mv:=mv+1 }:Co).m.M.blocks y).1=bs.set k0 z:=h5.o;rw [h3] at h2;exact ⟨h1.read,h2.read⟩
  obtain ⟨n,hn⟩:∃ n,n=bs.length:=⟨_,rfl⟩;have HN:=aA hn;obtain ⟨e7,e9,c6⟩:∃ a c,v2=.slice a n c:=by
   obtain ⟨a,c9,e⟩:=y4.len;have h3:(({ c with m:=c.m.put c.m.M.move.2.2,mv:=mv+1 }:Co).m.M.blocks y).1=bs.set k0 z:=h5.o;rw [h3,List.length_set,<-hn] at e;exact ⟨a,c9,e⟩
  obtain ⟨e6,e8,c5⟩:∃ a c,v1=.slice a n c:=by
   obtain ⟨a,c9,e⟩:=y0.o.len;rw [x8.o,<-hn] at e;exact ⟨a,c9,e⟩
  subst c5 c6;have d4:(z != gI bs k0)=true:=by simpa using x6
  rw [<-hn] at h9;clear c2 y4 h4 y0 F5 x2 x8 h5 hn h7 h8 x6;go_wp2_with fail;have HZ:=aA (Only.refl [] w6);go_loopw [58] (fun iv wr=>∃ k:Nat,k<=k0/\iv=.int .i64 k/\Only [] w6 wr) (fun iv _=>8 - (intOf iv).toNat)
  case atStart=>exact ⟨0,by omega,rfl,HZ.o⟩
  case round=>as_aux_lemma=>
   clear HZ;obtain ⟨k,hk,rfl,ho⟩:=hrel;have HO:=aA ho;have y5:k<bs.length:=by rw [<-HN.o];omega
   obtain ⟨a3,a4⟩:=b3.o wr ho;obtain ⟨b1,o1,rfl,h1⟩:=a3.at y5;obtain ⟨b2,o2,rfl,h2⟩:=a4.at (k:=k) (by rw [List.length_set];exact y5);rw [mX (by rw [<-HN.o];omega)] at h2;have d2:(k:Int)<(n:Int):=by omega
   have d1:(0:Int)<=(k:Int):=by omega
   clear ho a3 a4 y5
   by_cases z4:k=k0
   ·subst z4;rw [if_pos rfl] at h2;generalize gI bs k=c7 at*;have F7:=aA (F6.o.aK HO.o);obtain ⟨c3,L7,X7,a1⟩:=C5.ph F7.o;have x2:=(dD.cells F7.o).2.2.1;have cp:=aDr wr a1;have hd:(z.tdiv 16)=z.tdiv 16:=rfl;obtain ⟨d,x5⟩:∃ d,d=z.tdiv 16:=⟨_,rfl⟩;have e2:0<=d/\d<=24:=by rw [x5,Int.tdiv_eq_ediv_of_nonneg b7];omega
    have b8:Hid ((({ c with m:=c.m.put c.m.M.move.2.2,mv:=mv+1 }:Co).m.M.P.class d).1=cl):=by rw [x5];exact a8.o.symm
    have d5:z.tdiv 16=d:=x5.symm;clear c3 a1 hd x5;go_wp2_with fail;go_fit cp;rintro e w8 ⟨p',b',rfl,a2,z8,_,_⟩;have b0:Hid (Only [] w6 w8):=HO.o.trans z8 (by simp);have y9:=aFl w8 p' b' _ a2 d;rw [b8.o] at y9;clear cp z8 a2 x2;generalize (({ c with m:=c.m.put c.m.M.move.2.2,mv:=mv+1 }:Co).m.M.P.class d).2=ce at*;have F8:Hid (Fam w0 w8 (C5 b { c with m:=c.m.put c.m.M.move.2.2,mv:=mv+1 } { x with mv:=mv+1 } ++ l)):=by
     have f8:Fam w0 w8 ((C5 b { c with m:=c.m.put c.m.M.move.2.2,mv:=mv+1 } { x with mv:=mv+1 } ++ l) ++ [PH q c.m.M]):=F6.o.aK b0.o;exact f8.pop
    have c0:cl=0\/cl=1\/cl=2:=by omega
    rcases c0 with rfl|rfl|rfl
    all_goals
     go_wp2_with fail;go_fit y9;rintro e _ ⟨rfl,rfl⟩;go_wp2_with fail;exact HR.o _ F8.o
   rw [if_neg z4] at h2;generalize gI bs k=c7 at*;have d3:k<k0:=by omega
   go_wp2;exact ⟨⟨k+1,by omega,by go_num,HO.o⟩,by simp [intOf];omega⟩
 have z6:=aKW he;have x3:Hid (c.move=(1,{ c with ph:=0,cr:=0 })):=by
  show _=_;unfold Co.move;rw [if_pos (.inr he)]
 have HX:=aA hx;have e3:(c.m.M.P.move.2.2.1 != 0)=true:=by simpa using he
 have h7:c.m.M.move.2.1=c.m.M.P.move.2.2.1:=aMv _;have h8:c.m.put c.m.M.move.2.2=c.m:=by rw [z6];rfl
 rw [x3.o] at hR;clear hf h hx hp hm he z6;go_in;go_upto_region 1 with fail;generalize w.alloc (.cells #[] 219)=w1 at*;have x2:=(dD.cells F0.o).2.2.1;have cc:=aEW w1 F0.o;go_wp2_with fail;go_fit cc;rintro e w2 ⟨q,rfl,h4,h0⟩;have F2:=aA h0;have y2:=(dD.cells h0).2.2.1;have cm:=aKf w2 h0;rw [h7,h8] at cm;clear cc h4 h0 x2 F0 h7 h8;generalize c.m.M.P.move.2.2.1=er at*;generalize c.m.M.move.1=d9 at*;go_wp2_with fail;go_fit cm;rintro e w3 ⟨rfl,h6⟩;have F3:Hid (Fam w0 w3 (C5 b c x ++ (l ++ [PH q c.m.M]))):=h6;have cb:=aAn w3 F3.o HX.o;clear cm h6 y2 F2;go_wp2_with fail;go_fit cb;rintro e w4 ⟨rfl,x',a6,z0⟩;have HE:Hid (aBr w0 l b (1,{ c with ph:=0,cr:=0 }) (.returned (.int .i64 1)) w4):=⟨rfl,x',a6,by
  have f5:Fam w0 w4 ((C5 b { c with ph:=0,cr:=0 } x' ++ l) ++ [PH q c.m.M]):=z0;exact f5.pop⟩
 clear cb a6 z0 F3;go_wp2;exact hR.o _ _ HE.o
end
def aIC (w0:World) (l:List Asn) (b:Nat) (r:Int×Int×Co) (e:Ending) (w':World):Prop:=e=.returned (.tuple #[.int .i64 r.1,.int .i64 r.2.1])/\∃ y:CX,y.ok r.2.2/\Fam w0 w' (C5 b r.2.2 y ++ l)
section
variable {w0 w:World} {l:List Asn} {b:Nat} {c:Co} {x:CX} {i:Nat}
theorem aCR (h:c.t.ph=0):c.refs=c.tail:=by
 have hs:c.t.step c.m=(0,0,13,c.t,c.m):=by unfold Tb.step;rw [if_pos h]
 have y:c.stepT=c:=by unfold Co.stepT;rw [hs]
 rw [Co.fV,hs,if_neg (show ¬ (13:Int)=0 by decide),y]
theorem aKS (w:World):Calls prog 41 #[.pointer none] w (aO w (.tuple #[.int .i64 0,.int .i64 1])):=by
 refine aF fun R z=>?_;have y:=sZ w;go_in;go_wp2_with fail;go_fit y;rintro e _ ⟨rfl,rfl⟩;go_wp2;exact z.o _ _ ⟨rfl,rfl⟩
theorem aJd (z:c.ph=1) (y:c.m.list=[]):c.step=(c.jH.1,0,c.jH.2):=by
 unfold Co.step;rw [if_neg (show ¬ c.ph=0 by omega),if_pos z,if_pos y]
theorem aNn (w:World) (d:Fam w0 w (C5 b c x ++ l)) (hx:x.ok c) (h:c.Okc) (y:c.ph=1) (hl:c.m.list=[]):Calls prog 41 #[.pointer (some ⟨b,0,none⟩)] w (aIC w0 l b c.step):=by
 refine aF fun R hR=>?_;obtain ⟨_,_,x2,_,_,x5,_⟩:=dD.cells d;have cn:=aJ w x2;have z:=bQ w d h hx (by omega);unfold Co.kQ at z;rw [if_pos y,if_pos hl] at z;rw [y] at x5;have HF:=aA d;have HX:=aA hx;have HH:=aA h;have HP:=aA y;have HL:=aA hl;have HR:Hid (∀ e w',aBr w0 l b c.jH e w'->∃ v,e=.returned v/\R (.returned (.tuple #[v,.int .i64 0])) w'):=fun e w' ⟨he,x',hx',hf'⟩=>⟨_,he,hR.o _ _ (by
  rw [aJd y hl];exact ⟨rfl,x',hx',hf'⟩)⟩
 clear d hx h hR y hl;go_in;go_wp2_with fail;go_fit cn;rintro e _ ⟨rfl,rfl⟩;clear cn;go_wp2_with fail;go_fit z;rintro e _ ⟨rfl,k,rfl⟩;have F1:=aA (HF.o.drewN k);generalize w.drewN k=w1 at*;have cd:=aFr w1 F1.o HX.o HH.o HP.o HL.o;clear z;go_wp2_with fail;refine cd.mono ?_;rintro e w2 hd;obtain ⟨v,rfl,hv⟩:=HR.o e w2 hd;have HV:=aA hv;clear hd hv cd;go_wp2_with fail;exact HV.o
theorem aJc (z:c.ph=1) (y:¬ c.m.list=[]):c.step=(c.mark.1,0,c.mark.2):=by
 unfold Co.step;rw [if_neg (show ¬ c.ph=0 by omega),if_pos z,if_neg y]
theorem aNm (w:World) (d:Fam w0 w (C5 b c x ++ l)) (hx:x.ok c) (h:c.Okc) (y:c.ph=1) (hl:¬ c.m.list=[]):Calls prog 41 #[.pointer (some ⟨b,0,none⟩)] w (aIC w0 l b c.step):=by
 refine aF fun R hR=>?_;obtain ⟨_,_,x2,_,_,x5,_⟩:=dD.cells d;have cn:=aJ w x2;have z:=bQ w d h hx (by omega);unfold Co.kQ at z;rw [if_pos y,if_neg hl] at z;rw [y] at x5;have HF:=aA d;have HX:=aA hx;have HH:=aA h;have HP:=aA y;have HR:Hid (∀ e w',aBr w0 l b c.mark e w'->∃ v,e=.returned v/\R (.returned (.tuple #[v,.int .i64 0])) w'):=fun e w' ⟨he,x',hx',hf'⟩=>⟨_,he,hR.o _ _ (by
  rw [aJc y hl];exact ⟨rfl,x',hx',hf'⟩)⟩
 clear d hx h hR y hl;go_in;go_wp2_with fail;go_fit cn;rintro e _ ⟨rfl,rfl⟩;clear cn;go_wp2_with fail;go_fit z;rintro e _ ⟨rfl,k,rfl⟩;have F1:=aA (HF.o.drewN k);generalize w.drewN k=w1 at*;have cd:=uJ w1 F1.o HX.o (HH.o.mo (.inl HP.o));clear z;go_wp2_with fail;refine cd.mono ?_;rintro e w2 hd;obtain ⟨v,rfl,hv⟩:=HR.o e w2 hd;have HV:=aA hv;clear hd hv cd;go_wp2_with fail;exact HV.o
theorem aOp (y:c.ph=2) (z:c.t.ph≠0):c.step=(c.refs.1,0,c.refs.2):=by
 unfold Co.step;rw [if_neg (show ¬ c.ph=0 by omega),if_neg (show ¬ c.ph=1 by omega),if_pos y]
theorem aNl (w:World) (d:Fam w0 w (C5 b c x ++ l)) (hx:x.ok c) (h:c.Okc) (y:c.ph=2) (hl:c.t.ph≠0):Calls prog 41 #[.pointer (some ⟨b,0,none⟩)] w (aIC w0 l b c.step):=by
 refine aF fun R hR=>?_;obtain ⟨_,_,x2,_,_,x5,_⟩:=dD.cells d;have cn:=aJ w x2;have z:=bQ w d h hx (by omega);unfold Co.kQ at z;rw [if_neg (show ¬ c.ph=1 by omega),if_pos y,if_pos hl] at z;rw [y] at x5;have HF:=aA d;have HX:=aA hx;have HH:=aA h;have HP:=aA y;have HL:=aA hl;have HR:Hid (∀ e w',aBr w0 l b c.refs e w'->∃ v,e=.returned v/\R (.returned (.tuple #[v,.int .i64 0])) w'):=fun e w' ⟨he,x',hx',hf'⟩=>⟨_,he,hR.o _ _ (by
  rw [aOp y hl];exact ⟨rfl,x',hx',hf'⟩)⟩
 clear d hx h hR y hl;go_in;go_wp2_with fail;go_fit cn;rintro e _ ⟨rfl,rfl⟩;clear cn;go_wp2_with fail;go_fit z;rintro e _ ⟨rfl,k,rfl⟩;have F1:=aA (HF.o.drewN k);generalize w.drewN k=w1 at*;have cd:=aEB w1 F1.o HX.o HH.o HP.o HL.o;clear z;go_wp2_with fail;refine cd.mono ?_;rintro e w2 hd;obtain ⟨v,rfl,hv⟩:=HR.o e w2 hd;have HV:=aA hv;clear hd hv cd;go_wp2_with fail;exact HV.o
theorem aJb (z:c.ph=2) (d:c.t.ph=0) (y:c.m.list=[]):c.step=(c.jG.1,0,c.jG.2):=by
 unfold Co.step;rw [if_neg (show ¬ c.ph=0 by omega),if_neg (show ¬ c.ph=1 by omega),if_pos z,aCR d,Co.tail,if_pos y]
theorem aNk (w:World) (d:Fam w0 w (C5 b c x ++ l)) (hx:x.ok c) (h:c.Okc) (y:c.ph=2) (ht:c.t.ph=0) (hl:c.m.list=[]):Calls prog 41 #[.pointer (some ⟨b,0,none⟩)] w (aIC w0 l b c.step):=by
 refine aF fun R hR=>?_;obtain ⟨_,_,x2,_,_,x5,_⟩:=dD.cells d;have cn:=aJ w x2;have z:=bQ w d h hx (by omega);unfold Co.kQ at z;rw [if_neg (show ¬ c.ph=1 by omega),if_pos y,if_neg (fun e=>e ht),if_pos hl] at z;rw [y] at x5;have HF:=aA d;have HX:=aA hx;have HH:=aA h;have HP:=aA y;have HR:Hid (∀ e w',aBr w0 l b c.jG e w'->∃ v,e=.returned v/\R (.returned (.tuple #[v,.int .i64 0])) w'):=fun e w' ⟨he,x',hx',hf'⟩=>⟨_,he,hR.o _ _ (by
  rw [aJb y ht hl];exact ⟨rfl,x',hx',hf'⟩)⟩
 clear d hx h hR y hl ht;go_in;go_wp2_with fail;go_fit cn;rintro e _ ⟨rfl,rfl⟩;clear cn;go_wp2_with fail;go_fit z;rintro e _ ⟨rfl,k,rfl⟩;have F1:=aA (HF.o.drewN k);generalize w.drewN k=w1 at*;have cd:=aAm w1 F1.o HX.o HH.o;clear z;go_wp2_with fail;refine cd.mono ?_;rintro e w2 hd;obtain ⟨v,rfl,hv⟩:=HR.o e w2 hd;have HV:=aA hv;clear hd hv cd;go_wp2_with fail;exact HV.o
theorem aJa (z:c.ph=2) (d:c.t.ph=0) (y:¬ c.m.list=[]):c.step=(c.mark.1,0,c.mark.2):=by
 unfold Co.step;rw [if_neg (show ¬ c.ph=0 by omega),if_neg (show ¬ c.ph=1 by omega),if_pos z,aCR d,Co.tail,if_neg y]
theorem aNj (w:World) (d:Fam w0 w (C5 b c x ++ l)) (hx:x.ok c) (h:c.Okc) (y:c.ph=2) (ht:c.t.ph=0) (hl:¬ c.m.list=[]):Calls prog 41 #[.pointer (some ⟨b,0,none⟩)] w (aIC w0 l b c.step):=by
 refine aF fun R hR=>?_;obtain ⟨_,_,x2,_,_,x5,_⟩:=dD.cells d;have cn:=aJ w x2;have z:=bQ w d h hx (by omega);unfold Co.kQ at z;rw [if_neg (show ¬ c.ph=1 by omega),if_pos y,if_neg (fun e=>e ht),if_neg hl] at z;rw [y] at x5;have HF:=aA d;have HX:=aA hx;have HH:=aA h;have HP:=aA y;have HR:Hid (∀ e w',aBr w0 l b c.mark e w'->∃ v,e=.returned v/\R (.returned (.tuple #[v,.int .i64 0])) w'):=fun e w' ⟨he,x',hx',hf'⟩=>⟨_,he,hR.o _ _ (by
  rw [aJa y ht hl];exact ⟨rfl,x',hx',hf'⟩)⟩
 clear d hx h hR y hl ht;go_in;go_wp2_with fail;go_fit cn;rintro e _ ⟨rfl,rfl⟩;clear cn;go_wp2_with fail;go_fit z;rintro e _ ⟨rfl,k,rfl⟩;have F1:=aA (HF.o.drewN k);generalize w.drewN k=w1 at*;have cd:=uJ w1 F1.o HX.o (HH.o.mo (.inr HP.o));clear z;go_wp2_with fail;refine cd.mono ?_;rintro e w2 hd;obtain ⟨v,rfl,hv⟩:=HR.o e w2 hd;have HV:=aA hv;clear hd hv cd;go_wp2_with fail;exact HV.o
theorem aIZ (z:c.ph=3) (y:c.sw=[]):c.step=(((1,{ c with ph:=4,sw:=[],mv:=0 }):Int×Co).1,0,((1,{ c with ph:=4,sw:=[],mv:=0 }):Int×Co).2):=by
 unfold Co.step;rw [if_neg (show ¬ c.ph=0 by omega),if_neg (show ¬ c.ph=1 by omega),if_neg (show ¬ c.ph=2 by omega),if_pos z,Co.free,y]
theorem aNi (w:World) (d:Fam w0 w (C5 b c x ++ l)) (hx:x.ok c) (h:c.Okc) (y:c.ph=3) (hl:c.sw=[]):Calls prog 41 #[.pointer (some ⟨b,0,none⟩)] w (aIC w0 l b c.step):=by
 refine aF fun R hR=>?_;obtain ⟨_,_,x2,_,_,x5,_⟩:=dD.cells d;have cn:=aJ w x2;have z:=bQ w d h hx (by omega);unfold Co.kQ at z;rw [if_neg (show ¬ c.ph=1 by omega),if_neg (show ¬ c.ph=2 by omega),if_pos y,hl] at z;rw [y] at x5;have HF:=aA d;have HX:=aA hx;have HH:=aA h;have HP:=aA y;have HL:=aA hl;have HR:Hid (∀ e w',aBr w0 l b ((1,{ c with ph:=4,sw:=[],mv:=0 }):Int×Co) e w'->∃ v,e=.returned v/\R (.returned (.tuple #[v,.int .i64 0])) w'):=fun e w' ⟨he,x',hx',hf'⟩=>⟨_,he,hR.o _ _ (by
  rw [aIZ y hl];exact ⟨rfl,x',hx',hf'⟩)⟩
 clear d hx h hR y hl;go_in;go_wp2_with fail;go_fit cn;rintro e _ ⟨rfl,rfl⟩;clear cn;go_wp2_with fail;go_fit z;rintro e _ ⟨rfl,k,rfl⟩;have F1:=aA (HF.o.drewN k);generalize w.drewN k=w1 at*;have cd:=aFq w1 F1.o HX.o;clear z;go_wp2_with fail;refine cd.mono ?_;rintro e w2 hd;obtain ⟨v,rfl,hv⟩:=HR.o e w2 (by rw [HL.o] at hd;exact hd);have HV:=aA hv;clear hd hv cd;go_wp2_with fail;exact HV.o
theorem aIY (z:c.ph=3) {y:Int} {r:List Int} (d:c.sw=y :: r):c.step=(c.free.1,0,c.free.2):=by
 unfold Co.step;rw [if_neg (show ¬ c.ph=0 by omega),if_neg (show ¬ c.ph=1 by omega),if_neg (show ¬ c.ph=2 by omega),if_pos z]
theorem aNh (w:World) (hf:Fam w0 w (C5 b c x ++ l)) (hx:x.ok c) (h:c.Okc) (z:c.ph=3) {y:Int} {r:List Int} (hl:c.sw=y :: r):Calls prog 41 #[.pointer (some ⟨b,0,none⟩)] w (aIC w0 l b c.step):=by
 refine aF fun R hR=>?_;obtain ⟨_,_,x2,_,_,x5,_⟩:=dD.cells hf;have cn:=aJ w x2;have d:=bQ w hf h hx (by omega);unfold Co.kQ at d;rw [if_neg (show ¬ c.ph=1 by omega),if_neg (show ¬ c.ph=2 by omega),if_pos z,hl] at d;rw [z] at x5;have HF:=aA hf;have HX:=aA hx;have HH:=aA h;have HP:=aA z;have HL:=aA hl;have HR:Hid (∀ e w',aBr w0 l b c.free e w'->∃ v,e=.returned v/\R (.returned (.tuple #[v,.int .i64 0])) w'):=fun e w' ⟨he,x',hx',hf'⟩=>⟨_,he,hR.o _ _ (by
  rw [aIY z hl];exact ⟨rfl,x',hx',hf'⟩)⟩
 clear hf hx h hR z hl;go_in;go_wp2_with fail;go_fit cn;rintro e _ ⟨rfl,rfl⟩;clear cn;go_wp2_with fail;go_fit d;rintro e _ ⟨rfl,k,rfl⟩;have F1:=aA (HF.o.drewN k);generalize w.drewN k=w1 at*;have cd:=aHU w1 F1.o HX.o HH.o HP.o HL.o;clear d;go_wp2_with fail;refine cd.mono ?_;rintro e w2 hd;obtain ⟨v,rfl,hv⟩:=HR.o e w2 hd;have HV:=aA hv;clear hd hv cd;go_wp2_with fail;exact HV.o
theorem aIX (z:c.ph=4) (y:c.mv=8*c.pages):c.step=(((1,{ c with ph:=0,cr:=0 }):Int×Co).1,0,((1,{ c with ph:=0,cr:=0 }):Int×Co).2):=by
 unfold Co.step;rw [if_neg (show ¬ c.ph=0 by omega),if_neg (show ¬ c.ph=1 by omega),if_neg (show ¬ c.ph=2 by omega),if_neg (show ¬ c.ph=3 by omega),Co.move,if_pos (.inl y)]
theorem aNg (w:World) (z:Fam w0 w (C5 b c x ++ l)) (hx:x.ok c) (h:c.Okc) (d:c.ph=4) (hl:c.mv=8*c.pages):Calls prog 41 #[.pointer (some ⟨b,0,none⟩)] w (aIC w0 l b c.step):=by
 refine aF fun R hR=>?_;obtain ⟨_,_,x2,_,_,x5,_⟩:=dD.cells z;have cn:=aJ w x2;have y:=bQ w z h hx (by omega);unfold Co.kQ at y;rw [if_neg (show ¬ c.ph=1 by omega),if_neg (show ¬ c.ph=2 by omega),if_neg (show ¬ c.ph=3 by omega),if_pos hl] at y;rw [d] at x5;have HF:=aA z;have HX:=aA hx;have HH:=aA h;have HP:=aA d;have HR:Hid (∀ e w',aBr w0 l b ((1,{ c with ph:=0,cr:=0 }):Int×Co) e w'->∃ v,e=.returned v/\R (.returned (.tuple #[v,.int .i64 0])) w'):=fun e w' ⟨he,x',hx',hf'⟩=>⟨_,he,hR.o _ _ (by
  rw [aIX d hl];exact ⟨rfl,x',hx',hf'⟩)⟩
 clear z hx h hR d hl;go_in;go_wp2_with fail;go_fit cn;rintro e _ ⟨rfl,rfl⟩;clear cn;go_wp2_with fail;go_fit y;rintro e _ ⟨rfl,k,rfl⟩;have F1:=aA (HF.o.drewN k);generalize w.drewN k=w1 at*;have cd:=aAn w1 F1.o HX.o;clear y;go_wp2_with fail;refine cd.mono ?_;rintro e w2 hd;obtain ⟨v,rfl,hv⟩:=HR.o e w2 hd;have HV:=aA hv;clear hd hv cd;go_wp2_with fail;exact HV.o
theorem aOo (z:c.ph=4) (y:¬ c.mv=8*c.pages):c.step=(c.move.1,0,c.move.2):=by
 unfold Co.step;rw [if_neg (show ¬ c.ph=0 by omega),if_neg (show ¬ c.ph=1 by omega),if_neg (show ¬ c.ph=2 by omega),if_neg (show ¬ c.ph=3 by omega)]
theorem aNf (w:World) (z:Fam w0 w (C5 b c x ++ l)) (hx:x.ok c) (h:c.Okc) (hp:c.ph=4) (d:¬ c.mv=8*c.pages):Calls prog 41 #[.pointer (some ⟨b,0,none⟩)] w (aIC w0 l b c.step):=by
 refine aF fun R hR=>?_;obtain ⟨_,_,x2,_,_,x5,_⟩:=dD.cells z;have cn:=aJ w x2;have y:=bQ w z h hx (by omega);unfold Co.kQ at y;rw [if_neg (show ¬ c.ph=1 by omega),if_neg (show ¬ c.ph=2 by omega),if_neg (show ¬ c.ph=3 by omega),if_neg d] at y;rw [hp] at x5;have HF:=aA z;have HX:=aA hx;have HH:=aA h;have HP:=aA hp;have HL:=aA d;have HR:Hid (∀ e w',aBr w0 l b c.move e w'->∃ v,e=.returned v/\R (.returned (.tuple #[v,.int .i64 0])) w'):=fun e w' ⟨he,x',hx',hf'⟩=>⟨_,he,hR.o _ _ (by
  rw [aOo hp d];exact ⟨rfl,x',hx',hf'⟩)⟩
 clear z hx h hR hp d;go_in;go_wp2_with fail;go_fit cn;rintro e _ ⟨rfl,rfl⟩;clear cn;go_wp2_with fail;go_fit y;rintro e _ ⟨rfl,k,rfl⟩;have F1:=aA (HF.o.drewN k);generalize w.drewN k=w1 at*;have cd:=aHl w1 F1.o HX.o HH.o HP.o HL.o;clear y;go_wp2_with fail;refine cd.mono ?_;rintro e w2 hd;obtain ⟨v,rfl,hv⟩:=HR.o e w2 hd;have HV:=aA hv;clear hd hv cd;go_wp2_with fail;exact HV.o
theorem aPj (w:World) (y:Fam w0 w (C5 b c x ++ l)) (hx:x.ok c) (z:c.ph=0):Calls prog 41 #[.pointer (some ⟨b,0,none⟩)] w (aIC w0 l b c.step):=by
 refine aF fun R hR=>?_;obtain ⟨_,_,x2,_,_,x5,_⟩:=dD.cells y;have d:=aJ w x2;rw [Co.nK z] at hR;rw [z] at x5;have HE:Hid (aIC w0 l b (0,13,c) (.returned (.tuple #[.int .i64 0,.int .i64 13])) w):=⟨rfl,x,hx,y⟩;clear y hx z;go_in;go_wp2_with fail;go_fit d;rintro e _ ⟨rfl,rfl⟩;clear d;go_wp2;exact hR.o _ _ HE.o
theorem kH (w:World) (e:Fam w0 w (C5 b c x ++ l)) (hx:x.ok c) (h:c.Okc):Calls prog 41 #[.pointer (some ⟨b,0,none⟩)] w (aIC w0 l b c.step):=by
 rcases rM h with z|z|z|z|z
 ·exact aPj w e hx z
 ·by_cases d:c.m.list=[]
  ·exact aNn w e hx h z d
  exact aNm w e hx h z d
 ·by_cases ht:c.t.ph=0
  ·by_cases d:c.m.list=[]
   ·exact aNk w e hx h z ht d
   exact aNj w e hx h z ht d
  exact aNl w e hx h z ht
 ·cases d:c.sw with
  | nil=>exact aNi w e hx h z d
  | cons y r=>exact aNh w e hx h z d
 by_cases d:c.mv=8*c.pages
 ·exact aNg w e hx h z d
 exact aNf w e hx h z d
theorem aKR (w:World) (hf:Fam w0 w l) (hi:l[i]?=some (CoA b c)) (h:c.Okc):Calls prog 41 #[.pointer (some ⟨b,0,none⟩)] w (fun e w'=>e=.returned (.tuple #[.int .i64 c.step.1,.int .i64 c.step.2.1])/\Fam w0 w' (l.set i (CoA b c.step.2.2))):=by
 obtain ⟨x,hx,z⟩:=CoA.open hf hi;exact (kH w z hx h).mono fun e w' ⟨he,x',d,y⟩=>⟨he,CoA.close d y (List.getElem?_eq_some_iff.1 hi).1⟩
end
end Go.Proofs.YthflghdaejbdkaaGreat
namespace Go.Proofs.YthflghdaejbdkaaGreat
open _root_.Go.Proofs.Tryz (prog)
open Go.RowKit Go.Maps Go.Shelf
set_option maxHeartbeats 12800000
set_option maxRecDepth 100000
set_option linter.unusedVariables false
theorem aIl (w:World) (y n:Nat) (f:Nat->Bool) (h:jB w y n f):Calls prog 188 #[.map (some y)] w fun e w'=>e=.returned (.map (some w.heap.size))/\jB w' w.heap.size n f/\Only [] w w':=by
 obtain ⟨D,d,z⟩:=h;have c:=AnyW.maps_Clone_owns Tryz.cloneB 3 (plainElem (H:=Unit) prog 4) y n D w d;change Calls prog 188 _ _ _ at c;exact c.mono fun e w' ⟨he,ho,_,hb⟩=>⟨he,⟨D,ho,z⟩,⟨hb.os,hb.tape,hb.output,hb.size,fun k hk _=>hb.block k hk⟩⟩
theorem aIk (w:World) (z:Option Nat) (P:Nat->(Nat->Bool)->Prop) (h:∀ y,z=some y->∃ n f,jB w y n f/\P n f):Calls prog 188 #[.map z] w fun e w'=>∃ mo',e=.returned (.map mo')/\(mo'=none↔z=none)/\(∀ y,mo'=some y->w.heap.size<=y/\∃ n f,jB w' y n f/\P n f)/\Only [] w w':=by
 cases z with
 | none=>
  have c:=AnyW.maps_Clone_nil Tryz.cloneB w;change Calls prog 188 _ _ _ at c;go_fit c;rintro e _ ⟨rfl,rfl⟩;exact ⟨none,rfl,by simp,fun y e=>by (cases e),Only.refl _ _⟩
 | some y=>
  obtain ⟨n,f,h,hp⟩:=h y rfl;refine (aIl w y n f h).mono ?_;rintro e w1 ⟨rfl,d,ho⟩;refine ⟨_,rfl,by simp,fun h0 e=>?_,ho⟩
  cases e
  exact ⟨Nat.le_refl _,n,f,d,hp⟩
theorem aIg (w:World) (v:Value) (l:List En) (h:iP w 123 0 v l) (hl:l.length<=20) :
  Calls prog 187 #[v] w fun e w'=>∃ v',e=.returned v'/\iP w' 123 w.heap.size v' l/\Only [] w w':=by
 refine aF fun R hR=>?_
 by_cases h0:l=[]
 ·subst h0;rcases h.2 with ⟨rfl,_⟩|⟨g,cap,h8,rfl,_,hh,_,_,_,_⟩
  ·have hn:=fun (wx:World)=>Lib.run_eql_slice_nil (P:=prog) wx 117 123 none 0 0 0 0 Tryz.underlying117;clear h;go_in;go_wp2;exact hR.o _ _ ⟨_,rfl,iP.nil _ _ _,Only.refl _ _⟩
  have hq:=fun (wx:World)=>Lib.run_eql_slice_nil (P:=prog) wx 117 123 (some ⟨g,0,none⟩) 0 cap 0 0 Tryz.underlying117;obtain ⟨i0,hi,z,d,h1⟩:=info_parts aKb;have h3:=aA z;have h4:=aA d;have h5:=aA h1;have HI:=aA hi;clear z d h1 hi h hh;go_in;go_wp2_with (at_builtin;refine bV rfl _ _ 117 rfl w.heap.size 123 i0 _ 3 24 Tryz.underlying117 HI.o h3.o h4.o h5.o rfl (by decide) _ 0 [] rfl (World.ownsRow_made w #[] 0 (Nat.le_refl _) (by simp [maxLen]) rfl) ⟨g,0,none⟩ 0 cap [] rfl ?_ ?_ ?_ ?_ ?_ ?_ ?_)
  ·rfl
  ·intro j u y;simp at y
  ·intro u y;simp at y
  ·simp [maxLen]
  ·omega
  ·simp
  intro v w1 hv ho h6 h2;have HO:Hid (Only [] w w1):=((Only.refl [] w).alloc _).grown ho (fun k hk=>by
    right;simp [Value.ownBlock] at hk;omega)
  have HV:Hid (iP w1 123 w.heap.size v []):=hv;clear ho hv h6 h2;go_wp2;exact hR.o _ _ ⟨_,rfl,HV.o,HO.o⟩
 obtain ⟨g,c,rfl,_,hg,h7⟩:=h.form h0;have HC:Hid (∀ j u,(dL l)[j]?=some u->w.cell? ⟨g,j,none⟩=some u):=fun j u y=>by
  have hj:=(List.getElem?_eq_some_iff.1 y).1;rw [World.ownsRow.cellAt h _ (by rw [mO] at hj;exact hj)];exact y
 have HE:Hid (∀ u∈dL l,u.oneCell'=true):=fun u y=>by
  unfold dL at y;rw [List.mem_flatMap] at y;obtain ⟨e,_,y⟩:=y;simp only [enC,List.mem_cons,List.not_mem_nil,or_false] at y;rcases y with rfl|rfl|rfl<;>rfl
 obtain ⟨n,hn⟩:∃ n,n=l.length:=⟨_,rfl⟩;rw [<-hn] at hl h7 ⊢;have hq:=fun (wx:World)=>Lib.run_eql_slice_nil (P:=prog) wx 117 123 (some ⟨g,0,none⟩) n c 0 0 Tryz.underlying117;have HN:=aA hn;obtain ⟨i0,hi,z,d,h1⟩:=info_parts aKb;have h3:=aA z;have h4:=aA d;have h5:=aA h1;have HI:=aA hi;clear z d h1 hi h hn h0 hg;go_in;go_wp2_with (at_builtin;refine bV rfl _ _ 117 rfl w.heap.size 123 i0 _ 3 24 Tryz.underlying117 HI.o h3.o h4.o h5.o rfl (by decide) _ 0 [] rfl (World.ownsRow_made w #[] 0 (Nat.le_refl _) (by simp [maxLen]) rfl) ⟨g,0,none⟩ n c (dL l) rfl ?_ ?_ ?_ ?_ ?_ ?_ ?_)
 ·rw [mO,HN.o]
 ·intro j u y;rw [dN,Nat.zero_add];exact ((Only.refl [] w).alloc _).cell (HC.o j u y) (by simp)
 ·exact HE.o
 ·simp [maxLen];omega
 ·omega
 ·simp
 intro v w1 hv ho h6 h2;have HO:Hid (Only [] w w1):=((Only.refl [] w).alloc _).grown ho (fun k hk=>by
   right;simp [Value.ownBlock] at hk;omega)
 have HV:Hid (iP w1 123 w.heap.size v l):=by
  show World.ownsRow _ _ _ _ _ _ _;rw [<-HN.o];have h:=hv
  try rw [Nat.zero_add] at h
  try rw [List.nil_append] at h
  exact h
 clear ho hv h6 h2;go_wp2;exact hR.o _ _ ⟨_,rfl,HV.o,HO.o⟩
theorem aCC (w:World) {b kk:Nat} {t:Tb} {ev qv:Value} {mo:Option Nat} (ht:mZ w b ev qv mo t kk) (hl:t.ents.length<=20) (hq:t.q.length<=1000000):Calls prog 109 #[.pointer (some ⟨b,0,none⟩)] w (fun e w'=>∃ b2,e=.returned (.pointer (some ⟨b2,0,none⟩))/\aGw w w' (TbA b2 t kk)):=by
 refine aF fun R hR=>?_;have HT:=aA ht;obtain ⟨U,hr⟩:=ht.row;have x9:=hr.lt;have c0:=hr.cell 0 rfl;have c1:=hr.cell 1 rfl;have c2:=hr.cell 2 rfl;have c3:=hr.cell 3 rfl;have c4:=hr.cell 4 rfl;have c5:=hr.cell 5 rfl;have hn:=eG w c0;obtain ⟨ea,ec,y9⟩:=ht.ents.len;obtain ⟨qa,qc,z2⟩:=ht.q.len;have c6:=aA y9;have c7:=aA z2;have z3:Hid (∀ wx,Only [] w wx->Calls prog 187 #[ev] wx (fun e w'=>∃ v',e=.returned v'/\iP w' 123 wx.heap.size v' t.ents/\Only [] wx w')):=fun wx ho=>aIg wx ev t.ents (ht.ents.only ho (by simp)) hl;have z7:Hid (∀ wx,Only [] w wx->Calls prog 80 #[qv] wx (fun e w'=>∃ v',e=.returned v'/\aN w' wx.heap.size v' t.q/\Only [] wx w')):=fun wx ho=>pK wx qv t.q (ht.q.only ho (by simp)) hq;have a7:Hid (∀ wx,Only [] w wx->Calls prog 188 #[.map mo] wx (fun e w'=>∃ mo',e=.returned (.map mo')/\(mo'=none↔mo=none)/\(∀ mb,mo'=some mb->wx.heap.size<=mb/\∃ n f,jB w' mb n f/\n<=20/\(t.ph=2->kk<=n/\∀ i,i<kk->f i=t.fd i))/\Only [] wx w')):=fun wx ho=>aIk wx mo _ (fun mb e=>by
  obtain ⟨n,f,h1,h2⟩:=ht.fnd mb e;exact ⟨n,f,h1.only (ho.vU (S:=fun _=>False)) (fun x=>x),h2⟩)
 have b1:=aA ht.two;rw [y9] at c1 z3;rw [z2] at c2 z7;generalize t.ents.length=en at*;generalize t.q.length=qn at*;generalize y0:t.ph=ph at*;generalize a9:t.nx=nx at*;clear ht hr hl hq y9 z2;go_in;go_wp2_with fail;go_fit hn;rintro e _ ⟨rfl,rfl⟩;clear hn;go_upto_region 4 with fail;have y3:Hid (Row (w.alloc (.cells #[.bool true,.slice ea en ec,.slice qa qn qc,.int .i64 (ph:Int),.int .i64 (nx:Int),.map mo] 119)) w.heap.size 119 [.bool true,.slice ea en ec,.slice qa qn qc,.int .i64 (ph:Int),.int .i64 (nx:Int),.map mo]):=Row.new w _ [_,_,_,_,_,_];have x2:Hid (Only [] w (w.alloc (.cells #[.bool true,.slice ea en ec,.slice qa qn qc,.int .i64 (ph:Int),.int .i64 (nx:Int),.map mo] 119))):=(Only.refl [] w).alloc _;have d:w.heap.size≠b:=by omega
 have e1:(w.alloc (.cells #[.bool true,.slice ea en ec,.slice qa qn qc,.int .i64 (ph:Int),.int .i64 (nx:Int),.map mo] 119)).drew.cell? ⟨b,1,none⟩=_:=x2.o.aS c1;have e2:(w.alloc (.cells #[.bool true,.slice ea en ec,.slice qa qn qc,.int .i64 (ph:Int),.int .i64 (nx:Int),.map mo] 119)).drew.cell? ⟨b,2,none⟩=_:=x2.o.aS c2;have e5:(w.alloc (.cells #[.bool true,.slice ea en ec,.slice qa qn qc,.int .i64 (ph:Int),.int .i64 (nx:Int),.map mo] 119)).drew.cell? ⟨b,5,none⟩=_:=x2.o.aS c5;have x7:(w.alloc (.cells #[.bool true,.slice ea en ec,.slice qa qn qc,.int .i64 (ph:Int),.int .i64 (nx:Int),.map mo] 119)).heap.size=w.heap.size+1:=by simp
 generalize (w.alloc (.cells #[.bool true,.slice ea en ec,.slice qa qn qc,.int .i64 (ph:Int),.int .i64 (nx:Int),.map mo] 119))=w6 at*;obtain ⟨y,hy⟩:∃ z,z=w.heap.size:=⟨_,rfl⟩;rw [<-hy] at y3 d x7 x9 ⊢;have HY:=aA hy;have b0:=aA x7;have b9:=aA d
 have b3:Hid (∀ wx,Only [] w6 wx->wx.cell? ⟨y,1,none⟩=some (.slice ea en ec)/\wx.cell? ⟨y,2,none⟩=some (.slice qa qn qc)/\wx.cell? ⟨y,5,none⟩=some (.map mo)/\wx.frozen? ⟨y,1,none⟩=false/\wx.frozen? ⟨y,2,none⟩=false/\wx.frozen? ⟨y,5,none⟩=false):=fun wx hox=>by
  have:=hox.row y3.o (by simp);exact ⟨this.cell 1 rfl,this.cell 2 rfl,this.cell 5 rfl,this.free 1,this.free 2,this.free 5⟩
 have x3:Hid (Only [] w6 w6.drew):=(Only.refl [] w6).drew;clear c0 c1 c2 c3 c4 c5 hy x7 x9;have c8:b≠y:=Ne.symm d
 go_region_held3 (fun w'=>w'.cell? ⟨b,1,none⟩=some (.slice ea en ec)/\w'.cell? ⟨b,2,none⟩=some (.slice qa qn qc)/\w'.cell? ⟨b,5,none⟩=some (.map mo))
  (first
   | (exact ⟨e1,e2,e5⟩)
   | (exact ⟨h0.aS e1,h0.aS e2,h0.aS e5⟩)
   | (exact ⟨h4.aS (h0.aS e1),h4.aS (h0.aS e2),h4.aS (h0.aS e5)⟩)
   | (exact ⟨k1,k2,k5⟩)
   | (exact ⟨(World.cell?_setCell_far _ _ _ _ d).trans k1,(World.cell?_setCell_far _ _ _ _ d).trans k2,(World.cell?_setCell_far _ _ _ _ d).trans k5⟩)
   | (exact ⟨(World.cell?_setCell_far _ _ _ _ d).trans ((World.cell?_setCell_far _ _ _ _ d).trans k1),(World.cell?_setCell_far _ _ _ _ d).trans ((World.cell?_setCell_far _ _ _ _ d).trans k2),(World.cell?_setCell_far _ _ _ _ d).trans ((World.cell?_setCell_far _ _ _ _ d).trans k5)⟩)
   | (exact ⟨(World.cell?_setCell_far _ _ _ _ d).trans ((World.cell?_setCell_far _ _ _ _ d).trans ((World.cell?_setCell_far _ _ _ _ d).trans k1)),(World.cell?_setCell_far _ _ _ _ d).trans ((World.cell?_setCell_far _ _ _ _ d).trans ((World.cell?_setCell_far _ _ _ _ d).trans k2)),(World.cell?_setCell_far _ _ _ _ d).trans ((World.cell?_setCell_far _ _ _ _ d).trans ((World.cell?_setCell_far _ _ _ _ d).trans k5))⟩))
  (first
   | (go_at_call 187;refine (z3.o _ (x2.o.trans x3.o (by simp))).mono ?_;rintro e w7 ⟨v7,rfl,z0,h0⟩;obtain ⟨h7,h9,a5⟩:=z0.len;obtain ⟨n7,a2⟩:∃ z,z=t.ents.length:=⟨_,rfl⟩;rw [<-a2] at a5;subst a5;have z4:=aA z0;clear z0 a2)
   | (go_at_call 80;refine (z7.o _ ((x2.o.trans x3.o (by simp)).trans h0 (by simp))).mono ?_;rintro e w8 ⟨v8,rfl,z1,h4⟩;obtain ⟨h8,x1,a6⟩:=z1.len;obtain ⟨n8,a3⟩:∃ z,z=t.q.length:=⟨_,rfl⟩;rw [<-a3] at a6;subst a6;have z5:=aA z1;clear z1 a3)
   | (go_at_call 188;refine (a7.o _ (((x2.o.trans x3.o (by simp)).trans h0 (by simp)).trans h4 (by simp))).mono ?_;rintro e w9 ⟨h5,rfl,a4,a1,h6⟩;have z6:=aA a1;have a8:=aA a4;have k1:=h6.aS (h4.aS (h0.aS e1));have k2:=h6.aS (h4.aS (h0.aS e2));have k5:=h6.aS (h4.aS (h0.aS e5));obtain ⟨y1,y2,y5,y6,y7,y8⟩:=b3.o w9 (((x3.o.trans h0 (by simp)).trans h4 (by simp)).trans h6 (by simp));clear a1 a4))
 have y4:Only [] w6 w9:=((x3.o.trans h0 (by simp)).trans h4 (by simp)).trans h6 (by simp);have x7:=b0.o;have b8:=HY.o;have b4:w6.heap.size<=w7.heap.size:=h0.size;have b5:=h4.size;have b6:=h6.size;have x8:=z4.o.own;have x4:=z5.o.own;have z9:=y4.row y3.o (by simp);have a0:Row (((w9.setCell ⟨y,1,none⟩ (.slice h7 n7 h9)).setCell ⟨y,2,none⟩ (.slice h8 n8 x1)).setCell ⟨y,5,none⟩ (.map h5)) y 119 [.bool true,.slice h7 n7 h9,.slice h8 n8 x1,.int .i64 (ph:Int),.int .i64 (nx:Int),.map h5]:=((z9.set 1 _).set 2 _).set 5 _;have x5:Only [y] w9 (((w9.setCell ⟨y,1,none⟩ (.slice h7 n7 h9)).setCell ⟨y,2,none⟩ (.slice h8 n8 x1)).setCell ⟨y,5,none⟩ (.map h5)):=(((Only.refl [y] w9).set (.inl (by simp)) _).set (.inl (by simp)) _).set (.inl (by simp)) _;have b7:w6.drew.heap.size=w6.heap.size:=rfl;have i7:=(((z4.o.only h4 (by simp)).only h6 (by simp)).only x5 (fun g hg=>by have:=(x8 g hg).1;simp;omega)).low (b:=0) (Nat.zero_le _);have i8:=((z5.o.only h6 (by simp)).only x5 (fun g hg=>by have:=(x4 g hg).1;simp;omega)).base (Nat.zero_le _);have z8:Only [] w (((w9.setCell ⟨y,1,none⟩ (.slice h7 n7 h9)).setCell ⟨y,2,none⟩ (.slice h8 n8 x1)).setCell ⟨y,5,none⟩ (.map h5)):=(x2.o.trans y4 (by simp)).trans x5 (fun x hx=>.inr (by simp at hx;omega));have x6:∀ mb,h5=some mb->w8.heap.size<=mb/\mb<w9.heap.size:=fun mb e=>by
  obtain ⟨h1,n,f,h2,_⟩:=z6.o mb e;exact ⟨h1,h2.lt⟩
 have hT:mZ (((w9.setCell ⟨y,1,none⟩ (.slice h7 n7 h9)).setCell ⟨y,2,none⟩ (.slice h8 n8 x1)).setCell ⟨y,5,none⟩ (.map h5)) y (.slice h7 n7 h9) (.slice h8 n8 x1) h5 t kk:=by
  refine ⟨⟨_,by rw [y0,a9];exact a0⟩,i7,i8,fun mb e=>?_,fun h1 h2 h3=>b1.o (by rw [<-y0];exact h1) h2 (a8.o.1 h3),fun g hg=>?_,fun g hg=>?_,fun e=>?_⟩
  ·obtain ⟨h1,n,f,h2,h3⟩:=z6.o mb e;refine ⟨n,f,h2.only (x5.toP (S:=fun x=>x=y) (fun x hx=>.inl (by simpa using hx))) (fun x=>by omega),h3.1,fun h=>h3.2 (by rw [<-y0];exact h)⟩
  ·have h1:=x8 g hg;refine ⟨by omega,fun e=>?_,fun e=>?_⟩
   ·have:=x6 g e;omega
   have:=x4 g e;omega
  ·have h1:=x4 g hg;refine ⟨by omega,fun e=>?_⟩;have:=x6 g e;omega
  have:=x6 y e;omega
 have hB:aGw w (((w9.setCell ⟨y,1,none⟩ (.slice h7 n7 h9)).setCell ⟨y,2,none⟩ (.slice h8 n8 x1)).setCell ⟨y,5,none⟩ (.map h5)) (TbA y t kk):=by
  refine ⟨z8,fun k=>k=y\/(Value.slice h7 n7 h9).ownBlock=some k\/(Value.slice h8 n8 x1).ownBlock=some k\/h5=some k,⟨_,_,_,hT,fun k=>Iff.rfl⟩,fun k hk=>?_⟩;rcases hk with hk|hk|hk|hk
  ·omega
  ·have:=x8 k hk;omega
  ·have:=x4 k hk;omega
  have:=x6 k hk;omega
 have HE:=aA hB;clear y4 x7 b8 b4 b5 b6 x8 x4 z9 a0 x5 b7 i7 i8 z8 x6 hT hB;go_wp2;exact hR.o _ _ ⟨y,rfl,HE.o⟩
end Go.Proofs.YthflghdaejbdkaaGreat
namespace Go.Proofs.YthflghdaejbdkaaGreat
open _root_.Go.Proofs.Tryz (prog)
open Go.RowKit Go.Maps
set_option maxHeartbeats 6400000
set_option maxRecDepth 100000
set_option linter.unusedVariables false
section
variable {w0 w:World} {l:List Asn} {b:Nat} {c:Co} {x:CX} {i:Nat}
theorem aHn (w:World) {p hb:Nat} (h:w.cell? ⟨p,0,none⟩=some (.pointer (some ⟨hb,0,none⟩))):Calls prog 74 #[.pointer (some ⟨p,0,none⟩)] w (aO w (.pointer (some ⟨hb,0,none⟩))):=by
 refine aF fun R y=>?_;have z:=fF w h;go_in;go_wp2_with fail;go_fit z;rintro e _ ⟨rfl,rfl⟩;go_wp2;exact y.o _ _ ⟨rfl,rfl⟩
theorem Fam.aOA {R A B C D:Asn} {L:List Asn} (h:Fam w0 w (R :: (L ++ [A] ++ [B] ++ [C] ++ [D]))):Fam w0 w ([A,B,C,D,R] ++ L):=by
 have d:∀ k,k<L.length->(R :: (L ++ [A] ++ [B] ++ [C] ++ [D]))[k+1]?=L[k]?:=fun k hk=>by
  rw [List.getElem?_cons_succ,List.getElem?_append_left (by simp;omega),List.getElem?_append_left (by simp;omega),List.getElem?_append_left (by simp;omega),List.getElem?_append_left hk]
 have e:(R :: (L ++ [A] ++ [B] ++ [C] ++ [D]))[L.length+1]?=some A:=by
  rw [List.getElem?_cons_succ,List.getElem?_append_left (by simp),List.getElem?_append_left (by simp),List.getElem?_append_left (by simp)];simp
 have e2:(R :: (L ++ [A] ++ [B] ++ [C] ++ [D]))[L.length+2]?=some B:=by
  rw [List.getElem?_cons_succ,List.getElem?_append_left (by simp),List.getElem?_append_left (by simp),List.getElem?_append_right (by simp)];simp
 have e3:(R :: (L ++ [A] ++ [B] ++ [C] ++ [D]))[L.length+3]?=some C:=by
  rw [List.getElem?_cons_succ,List.getElem?_append_left (by simp),List.getElem?_append_right (by simp)];simp
 have e4:(R :: (L ++ [A] ++ [B] ++ [C] ++ [D]))[L.length+4]?=some D:=by
  rw [List.getElem?_cons_succ,List.getElem?_append_right (by simp)];simp
 refine h.selC (fun k=>if k<4 then L.length+1+k else if k=4 then 0 else k - 4) (fun k Z hk=>?_) (fun j k hj hk hne=>?_)
 ·match k with
  | 0=>exact e.trans hk
  | 1=>exact e2.trans hk
  | 2=>exact e3.trans hk
  | 3=>exact e4.trans hk
  | 4=>exact hk
  | k+5=>
   have y:L[k]?=some Z:=hk;have hl:=(List.getElem?_eq_some_iff.1 y).1;simp only [show ¬ (k+5<4) by omega,show ¬ (k+5=4) by omega,if_false];rw [show k+5 - 4=k+1 by omega,d k hl];exact y
 have z:([A,B,C,D,R] ++ L).length=5+L.length:=by rw [List.length_append];rfl
 rw [z] at hj hk;split<;>split<;>(try split)<;>(try split)<;>omega
theorem aAl (w:World) (hf:Fam w0 w (C5 b c x ++ l)) (hx:x.ok c) (h:c.Okc):Calls prog 39 #[.pointer (some ⟨b,0,none⟩)] w (fun e w'=>∃ b2,e=.returned (.pointer (some ⟨b2,0,none⟩))/\∃ x2:CX,x2.ok c/\Fam w0 w' (C5 b2 c x2 ++ (C5 b c x ++ l))):=by
 refine aF fun R hR=>?_;obtain ⟨x0,x1,x2,x3,x4,x5,x6,x7,x8,x9,_⟩:=dD.cells hf;have hs:=C5.sw hf;obtain ⟨sa,sc,hv⟩:=hs.len;have y2:=h.vV;obtain ⟨n,hn⟩:∃ n,n=c.sw.length:=⟨_,rfl⟩;rw [<-hn] at hv y2;rw [hv] at x8;have h9:dD b c x=[.int .i64 (c.pages:Int),.int .i64 c.rate,.pointer (some ⟨x.hb,0,none⟩),.pointer (some ⟨x.tb,0,none⟩),.pointer (some ⟨x.p,0,none⟩),.int .i64 (c.ph:Int),.int .i64 c.cr,.bool x.ov,.slice sa n sc,.int .i64 (x.mv:Int)]:=by unfold dD;rw [hv]
 have y0:Hid (c.m.list.length<=192):=by
  by_cases hp:c.ph=1\/c.ph=2
  ·exact (h.mo hp).len
  rw [h.nl (fun e=>hp (.inl e)) (fun e=>hp (.inr e))];exact Nat.zero_le _
 have HB:=aA h.tg.b;have HX:=aA hx;have HV:=aA hv;have HN:=aA hn;have F1:Hid (Fam w0 (w.alloc (.cells #[.int .i64 (c.pages:Int),.int .i64 c.rate,.pointer (some ⟨x.hb,0,none⟩),.pointer (some ⟨x.tb,0,none⟩),.pointer (some ⟨x.p,0,none⟩),.int .i64 (c.ph:Int),.int .i64 c.cr,.bool x.ov,.slice sa n sc,.int .i64 (x.mv:Int)] 142)) (eY w.heap.size 142 [.int .i64 (c.pages:Int),.int .i64 c.rate,.pointer (some ⟨x.hb,0,none⟩),.pointer (some ⟨x.tb,0,none⟩),.pointer (some ⟨x.p,0,none⟩),.int .i64 (c.ph:Int),.int .i64 c.cr,.bool x.ov,.slice sa n sc,.int .i64 (x.mv:Int)] :: (C5 b c x ++ l))):=by
  have h1:=hf.addRow 142 [.int .i64 (c.pages:Int),.int .i64 c.rate,.pointer (some ⟨x.hb,0,none⟩),.pointer (some ⟨x.tb,0,none⟩),.pointer (some ⟨x.p,0,none⟩),.int .i64 (c.ph:Int),.int .i64 c.cr,.bool x.ov,.slice sa n sc,.int .i64 (x.mv:Int)];refine h1.selC (fun k=>if k=0 then (C5 b c x ++ l).length else k - 1) (fun k Z hk=>?_) (fun j k hj hk hne=>?_)
  ·match k with
   | 0=>
    show ((C5 b c x ++ l) ++ [_])[(C5 b c x ++ l).length]?=some Z;rw [jR];exact hk
   | k+1=>
    have y1:(C5 b c x ++ l)[k]?=some Z:=hk;simp only [show ¬ (k+1=0) by omega,if_false,Nat.add_sub_cancel];exact rZ y1
  rw [List.length_cons] at hj hk;split<;>split<;>omega
 have cn:=aJ w x2;have y3:(w.alloc (.cells #[.int .i64 (c.pages:Int),.int .i64 c.rate,.pointer (some ⟨x.hb,0,none⟩),.pointer (some ⟨x.tb,0,none⟩),.pointer (some ⟨x.p,0,none⟩),.int .i64 (c.ph:Int),.int .i64 c.cr,.bool x.ov,.slice sa n sc,.int .i64 (x.mv:Int)] 142)).cell? ⟨b,4,none⟩=some (.pointer (some ⟨x.p,0,none⟩)):=((C5.row hf).alloc _).cell 4 rfl;clear hf hx h hv hn hs h9;go_in;go_wp2_with fail;go_fit cn;rintro e _ ⟨rfl,rfl⟩;clear cn;go_upto_region 4 with fail;obtain ⟨y,hy⟩:∃ y,y=w.heap.size:=⟨_,rfl⟩;rw [<-hy] at F1 ⊢;generalize w.alloc (.cells #[.int .i64 (c.pages:Int),.int .i64 c.rate,.pointer (some ⟨x.hb,0,none⟩),.pointer (some ⟨x.tb,0,none⟩),.pointer (some ⟨x.p,0,none⟩),.int .i64 (c.ph:Int),.int .i64 c.cr,.bool x.ov,.slice sa n sc,.int .i64 (x.mv:Int)] 142)=w1 at*;clear x0 x1 x2 x3 x4 x5 x6 x7 x8 x9 hy;have cm:=aHo w1 (l:=eY y 142 [.int .i64 (c.pages:Int),.int .i64 c.rate,.pointer (some ⟨x.hb,0,none⟩),.pointer (some ⟨x.tb,0,none⟩),.pointer (some ⟨x.p,0,none⟩),.int .i64 (c.ph:Int),.int .i64 c.cr,.bool x.ov,.slice sa n sc,.int .i64 (x.mv:Int)] :: (C5 b c x ++ l)) (i:=1) (j:=2) (hb:=x.hb) (p:=x.p) (m:=c.m) ⟨by simp [C5],by simp [C5],by decide⟩ F1.o y0.o;go_wp2_with fail;go_fit cm;rintro e w2 ⟨z,d,rfl,h5⟩;have F2:Hid (Fam w0 w2 (eY y 142 [.int .i64 (c.pages:Int),.int .i64 c.rate,.pointer (some ⟨x.hb,0,none⟩),.pointer (some ⟨x.tb,0,none⟩),.pointer (some ⟨x.p,0,none⟩),.int .i64 (c.ph:Int),.int .i64 c.cr,.bool x.ov,.slice sa n sc,.int .i64 (x.mv:Int)] :: ((C5 b c x ++ l) ++ [PH z c.m.M] ++ [MkA d z c.m.col c.m.list]))):=h5;have r2:=F2.o.row 0 rfl;have h4:=r2.cell 4 rfl;have y8:=r2.free 4;have F3:Hid (Fam w0 (w2.setCell ⟨y,4,none⟩ (.pointer (some ⟨d,0,none⟩))) (eY y 142 [.int .i64 (c.pages:Int),.int .i64 c.rate,.pointer (some ⟨x.hb,0,none⟩),.pointer (some ⟨x.tb,0,none⟩),.pointer (some ⟨d,0,none⟩),.int .i64 (c.ph:Int),.int .i64 c.cr,.bool x.ov,.slice sa n sc,.int .i64 (x.mv:Int)] :: ((C5 b c x ++ l) ++ [PH z c.m.M] ++ [MkA d z c.m.col c.m.list]))):=F2.o.bW 0 rfl 4 _;clear cm h5 y3 r2 F1;go_upto_region 5 with fail;generalize w2.setCell ⟨y,4,none⟩ (.pointer (some ⟨d,0,none⟩))=w3 at*;clear h4 y8 F2;have r3:=F3.o.row 0 rfl;have h4:=r3.cell 4 rfl;have y4:=r3.cell 2 rfl;have y5:=r3.free 2;have h7:w3.cell? ⟨d,0,none⟩=some (.pointer (some ⟨z,0,none⟩)):=by
  obtain ⟨S,⟨mb,v,h1,_⟩,_⟩:=F3.o.get (((C5 b c x ++ l) ++ [PH z c.m.M]).length+1) (A:=MkA d z c.m.col c.m.list) (by rw [List.getElem?_cons_succ,jR]);obtain ⟨T,h2⟩:=h1.row;exact h2.cell 0 rfl
 have ch:=aHn w3 h7;have F4:Hid (Fam w0 (w3.setCell ⟨y,2,none⟩ (.pointer (some ⟨z,0,none⟩))) (eY y 142 [.int .i64 (c.pages:Int),.int .i64 c.rate,.pointer (some ⟨z,0,none⟩),.pointer (some ⟨x.tb,0,none⟩),.pointer (some ⟨d,0,none⟩),.int .i64 (c.ph:Int),.int .i64 c.cr,.bool x.ov,.slice sa n sc,.int .i64 (x.mv:Int)] :: ((C5 b c x ++ l) ++ [PH z c.m.M] ++ [MkA d z c.m.col c.m.list]))):=F3.o.bW 0 rfl 2 _;clear r3 h7;go_wp2_with fail;go_fit ch;rintro e _ ⟨rfl,rfl⟩;clear ch;go_upto_region 6 with fail;generalize w3.setCell ⟨y,2,none⟩ (.pointer (some ⟨z,0,none⟩))=w4 at*;clear h4 y4 y5 F3;obtain ⟨S,⟨ev,qv,mo,ht,_⟩,_⟩:=F4.o.get 3 rfl;have ct:=aCC w4 ht HB.o.le (by have:=HB.o.q20;omega);have z3:=(F4.o.row 5 rfl).cell 3 rfl;clear ht;go_wp2_with fail;go_fit ct;rintro e w5 ⟨t2,rfl,hB⟩;have F5:Hid (Fam w0 w5 (eY y 142 [.int .i64 (c.pages:Int),.int .i64 c.rate,.pointer (some ⟨z,0,none⟩),.pointer (some ⟨x.tb,0,none⟩),.pointer (some ⟨d,0,none⟩),.int .i64 (c.ph:Int),.int .i64 c.cr,.bool x.ov,.slice sa n sc,.int .i64 (x.mv:Int)] :: ((C5 b c x ++ l) ++ [PH z c.m.M] ++ [MkA d z c.m.col c.m.list] ++ [TbA t2 c.t c.t.ents.length]))):=F4.o.add hB;have r5:=F5.o.row 0 rfl;have y6:=r5.cell 3 rfl;have y7:=r5.free 3;have F6:Hid (Fam w0 (w5.setCell ⟨y,3,none⟩ (.pointer (some ⟨t2,0,none⟩))) (eY y 142 [.int .i64 (c.pages:Int),.int .i64 c.rate,.pointer (some ⟨z,0,none⟩),.pointer (some ⟨t2,0,none⟩),.pointer (some ⟨d,0,none⟩),.int .i64 (c.ph:Int),.int .i64 c.cr,.bool x.ov,.slice sa n sc,.int .i64 (x.mv:Int)] :: ((C5 b c x ++ l) ++ [PH z c.m.M] ++ [MkA d z c.m.col c.m.list] ++ [TbA t2 c.t c.t.ents.length]))):=F5.o.bW 0 rfl 3 _;clear ct hB r5 z3 F4;go_upto_region 7 with fail;generalize w5.setCell ⟨y,3,none⟩ (.pointer (some ⟨t2,0,none⟩))=w6 at*;clear y6 y7 F5;have z8:=(F6.o.row 5 rfl).cell 8 rfl;replace z8:w6.cell? ⟨b,8,none⟩=some (.slice sa n sc):=by rw [<-HV.o];exact z8
 have h0:=F6.o.ints 4 rfl;rw [HV.o] at h0;have cc:=pK w6 _ c.sw h0 (by rw [<-HN.o];omega);clear h0;go_wp2_with fail;go_fit cc;rintro e w7 ⟨v7,rfl,h3,h6⟩;obtain ⟨va,vc,h8⟩:=h3.len;rw [<-HN.o] at h8;subst h8;have F7:Hid (Fam w0 w7 (eY y 142 [.int .i64 (c.pages:Int),.int .i64 c.rate,.pointer (some ⟨z,0,none⟩),.pointer (some ⟨t2,0,none⟩),.pointer (some ⟨d,0,none⟩),.int .i64 (c.ph:Int),.int .i64 c.cr,.bool x.ov,.slice sa n sc,.int .i64 (x.mv:Int)] :: ((C5 b c x ++ l) ++ [PH z c.m.M] ++ [MkA d z c.m.col c.m.list] ++ [TbA t2 c.t c.t.ents.length] ++ [bT (.slice va n vc) c.sw]))):=F6.o.gY h6 h3;have r7:=F7.o.row 0 rfl;have y9:=r7.cell 8 rfl;have z0:=r7.free 8;have F8:Hid (Fam w0 (w7.setCell ⟨y,8,none⟩ (.slice va n vc)) (C5 y c ⟨z,d,t2,.slice va n vc,x.ov,x.mv⟩ ++ (C5 b c x ++ l))):=by
  have f8:Fam w0 (w7.setCell ⟨y,8,none⟩ (.slice va n vc)) (eY y 142 (dD y c ⟨z,d,t2,.slice va n vc,x.ov,x.mv⟩) :: ((C5 b c x ++ l) ++ [PH z c.m.M] ++ [MkA d z c.m.col c.m.list] ++ [TbA t2 c.t c.t.ents.length] ++ [bT (.slice va n vc) c.sw])):=F7.o.bW 0 rfl 8 _;exact f8.aOA
 clear cc h3 h6 r7 z8 F6;go_wp2;exact hR.o _ _ ⟨y,rfl,⟨z,d,t2,.slice va n vc,x.ov,x.mv⟩,⟨HX.o.ov,HX.o.mv,HX.o.mv2⟩,F8.o⟩
end
def aIx (w0:World) (l:List Asn) (b:Nat) (c:Co) (x:CX) (e:Ending) (w':World):Prop:=e=.returned (.tuple #[.int .i64 c.step.1,.int .i64 c.step.2.1])/\Fam w0 w' (C5 b c x ++ l)
section
variable {w0 w:World} {l:List Asn} {b:Nat} {c:Co} {x:CX} {i:Nat}
theorem aPV (W:World) (v:Value):(Instr.typeAssert (.iface 157 v) 153 157 true).run prog W=.ok (.tuple #[v,.bool true]) W:=by kernel_rfl
theorem aRT (W:World) (v:Value):(Instr.typeAssert (.iface 160 v) 153 157 true).run prog W=.ok (.tuple #[.agg #[],.bool false]) W:=by kernel_rfl
theorem aRU (W:World) (v:Value):(Instr.typeAssert (.iface 160 v) 153 160 true).run prog W=.ok (.tuple #[v,.bool true]) W:=by kernel_rfl
theorem aLN (W:World) (v:Value):(Instr.typeAssert (.iface 163 v) 153 157 true).run prog W=.ok (.tuple #[.agg #[],.bool false]) W:=by kernel_rfl
theorem aLO (W:World) (v:Value):(Instr.typeAssert (.iface 163 v) 153 160 true).run prog W=.ok (.tuple #[.agg #[.int .i64 0],.bool false]) W:=by kernel_rfl
theorem aLP (W:World) (v:Value):(Instr.typeAssert (.iface 163 v) 153 163 true).run prog W=.ok (.tuple #[v,.bool true]) W:=by kernel_rfl
theorem aRQ (W:World) (v:Value):(Instr.typeAssert (.iface 218 v) 153 157 true).run prog W=.ok (.tuple #[.agg #[],.bool false]) W:=by kernel_rfl
theorem aRR (W:World) (v:Value):(Instr.typeAssert (.iface 218 v) 153 160 true).run prog W=.ok (.tuple #[.agg #[.int .i64 0],.bool false]) W:=by kernel_rfl
theorem aRS (W:World) (v:Value):(Instr.typeAssert (.iface 218 v) 153 163 true).run prog W=.ok (.tuple #[.agg #[.int .i64 0],.bool false]) W:=by kernel_rfl
theorem aRN (W:World) (v:Value):(Instr.typeAssert (.iface 219 v) 153 157 true).run prog W=.ok (.tuple #[.agg #[],.bool false]) W:=by kernel_rfl
theorem aRO (W:World) (v:Value):(Instr.typeAssert (.iface 219 v) 153 160 true).run prog W=.ok (.tuple #[.agg #[.int .i64 0],.bool false]) W:=by kernel_rfl
theorem aRP (W:World) (v:Value):(Instr.typeAssert (.iface 219 v) 153 163 true).run prog W=.ok (.tuple #[.agg #[.int .i64 0],.bool false]) W:=by kernel_rfl
theorem aCZ {m:Mk}:m.next=(m.step.1,m.step.2.1):=by unfold Mk.next Mk.step;cases m.list<;>rfl
theorem aNA (w:World) (z:Fam w0 w (C5 b c x ++ l)) (hx:x.ok c) (h:c.Okc) (d:c.ph=1) (hl:c.m.list=[]):Calls prog 42 #[.pointer (some ⟨b,0,none⟩)] w (aIx w0 l b c x):=by
 refine aF fun R hR=>?_;obtain ⟨_,_,x2,_,_,x5,_⟩:=dD.cells z;have cn:=aJ w x2;have y:=bQ w z h hx (by omega);unfold Co.kQ at y;rw [if_pos d,if_pos hl] at y;rw [d] at x5;have HF:=aA z;have HX:=aA hx;have HH:=aA h;have a0:=fun (W:World) (v:Value)=>aLN W v;have a1:=fun (W:World) (v:Value)=>aLO W v;have a2:=fun (W:World) (v:Value)=>aLP W v;have HR:Hid (∀ w',Fam w0 w' (C5 b c x ++ l)->R (.returned (.tuple #[.int .i64 (1),.int .i64 0])) w'):=fun w' h2=>hR.o _ _ ⟨by rw [aJd d hl];rfl,h2⟩;clear z hx h hR d hl;go_in;go_wp2_with fail;go_fit cn;rintro e _ ⟨rfl,rfl⟩;clear cn;go_wp2_with fail;go_fit y;rintro e _ ⟨rfl,k,rfl⟩;have F1:=aA (HF.o.drewN k);generalize w.drewN k=w1 at*;have F2:=aA (C5.alloc F1.o (.cells #[.int .i64 2] 163));clear y;go_wp2_with fail;exact HR.o _ F2.o
theorem aNz (w:World) (hf:Fam w0 w (C5 b c x ++ l)) (hx:x.ok c) (h:c.Okc) (z:c.ph=1) (hl:¬ c.m.list=[]):Calls prog 42 #[.pointer (some ⟨b,0,none⟩)] w (aIx w0 l b c x):=by
 refine aF fun R hR=>?_;obtain ⟨_,_,x2,_,_,x5,_⟩:=dD.cells hf;have cn:=aJ w x2;have d:=bQ w hf h hx (by omega);unfold Co.kQ at d;rw [if_pos z,if_neg hl] at d;rw [z] at x5;have HF:=aA hf;have HX:=aA hx;have HH:=aA h;have a0:=fun (W:World) (v:Value)=>aPV W v;have HW:=aA (aBA (h.mo (.inl z)));have h0:=fG h.hf.ok c.m.step.1;have HR:Hid (∀ w',Fam w0 w' (C5 b c x ++ l)->R (.returned (.tuple #[.int .i64 (1+c.m.M.len c.m.step.1),.int .i64 0])) w'):=fun w' h2=>hR.o _ _ ⟨by rw [aJc z hl];rfl,h2⟩;clear hf hx h hR z hl;go_in;go_wp2_with fail;go_fit cn;rintro e _ ⟨rfl,rfl⟩;clear cn;go_wp2_with fail;go_fit d;rintro e _ ⟨rfl,k,rfl⟩;have F1:=aA (HF.o.drewN k);generalize w.drewN k=w1 at*;have y:=aA (C5.alloc F1.o (.cells #[] 157));obtain ⟨_,_,_,_,z4,_⟩:=dD.cells y.o;have cm:=yV _ (C5.t2 (b:=b) (c:=c) (x:=x) (l:=l)) (hb:=x.hb) (p:=x.p) (m:=c.m) y.o;rw [aCZ] at cm;clear d;go_upto_region 5 with fail;generalize w1.alloc (.cells #[] 157)=w2 at*;go_wp2_with fail;go_fit cm;rintro e _ ⟨rfl,rfl⟩;have cl:=kJ w2 y.o c.m.step.1 HW.o;clear cm F1;generalize c.m.M.len c.m.step.1=n at*;go_wp2_with fail;go_fit cl;rintro e _ ⟨rfl,k2,rfl⟩;have F3:=aA (y.o.drewN k2);clear cl y;go_wp2_with fail;exact HR.o _ F3.o
theorem aNy (w:World) (hf:Fam w0 w (C5 b c x ++ l)) (hx:x.ok c) (h:c.Okc) (hp:c.ph=2) (hl:c.t.ph≠0):Calls prog 42 #[.pointer (some ⟨b,0,none⟩)] w (aIx w0 l b c x):=by
 refine aF fun R hR=>?_;obtain ⟨_,_,x2,_,_,x5,_⟩:=dD.cells hf;have cn:=aJ w x2;have cx:=bQ w hf h hx (by omega);unfold Co.kQ at cx;rw [if_neg (show ¬ c.ph=1 by omega),if_pos hp,if_pos hl] at cx;rw [hp] at x5;have HF:=aA hf;have HX:=aA hx;have HH:=aA h;have a0:=fun (W:World) (v:Value)=>aRQ W v;have a1:=fun (W:World) (v:Value)=>aRR W v;have a2:=fun (W:World) (v:Value)=>aRS W v;have HR:Hid (∀ w',Fam w0 w' (C5 b c x ++ l)->R (.returned (.tuple #[.int .i64 c.step.1,.int .i64 c.step.2.1])) w'):=fun w' h2=>hR.o _ _ ⟨rfl,h2⟩;clear hf hx h hR hp hl;go_in;go_wp2_with fail;go_fit cn;rintro e _ ⟨rfl,rfl⟩;clear cn;go_wp2_with fail;go_fit cx;rintro e _ ⟨rfl,k,rfl⟩;have F1:=aA (HF.o.drewN k);generalize w.drewN k=w1 at*;have cc:=aAl w1 F1.o HX.o HH.o;clear cx;go_wp2_with fail;go_fit cc;rintro e w2 ⟨b2,rfl,x2,d,y⟩;have cs:=kH w2 y d HH.o;clear cc d y F1;go_wp2_with fail;go_fit cs;rintro e w3 ⟨rfl,x3,_,z⟩;have F3:=aA (Fam.rest z);clear cs z;go_wp2_with fail;exact HR.o _ F3.o
theorem aNx (w:World) (z:Fam w0 w (C5 b c x ++ l)) (hx:x.ok c) (h:c.Okc) (d:c.ph=2) (ht:c.t.ph=0) (hl:c.m.list=[]):Calls prog 42 #[.pointer (some ⟨b,0,none⟩)] w (aIx w0 l b c x):=by
 refine aF fun R hR=>?_;obtain ⟨_,_,x2,_,_,x5,_⟩:=dD.cells z;have cn:=aJ w x2;have y:=bQ w z h hx (by omega);unfold Co.kQ at y;rw [if_neg (show ¬ c.ph=1 by omega),if_pos d,if_neg (fun e=>e ht),if_pos hl] at y;rw [d] at x5;have HF:=aA z;have HX:=aA hx;have HH:=aA h;have a0:=fun (W:World) (v:Value)=>aLN W v;have a1:=fun (W:World) (v:Value)=>aLO W v;have a2:=fun (W:World) (v:Value)=>aLP W v;have HR:Hid (∀ w',Fam w0 w' (C5 b c x ++ l)->R (.returned (.tuple #[.int .i64 (1),.int .i64 0])) w'):=fun w' h2=>hR.o _ _ ⟨by rw [aJb d ht hl];rfl,h2⟩;clear z hx h hR d hl ht;go_in;go_wp2_with fail;go_fit cn;rintro e _ ⟨rfl,rfl⟩;clear cn;go_wp2_with fail;go_fit y;rintro e _ ⟨rfl,k,rfl⟩;have F1:=aA (HF.o.drewN k);generalize w.drewN k=w1 at*;have F2:=aA (C5.alloc F1.o (.cells #[.int .i64 3] 163));clear y;go_wp2_with fail;exact HR.o _ F2.o
theorem aNw (w:World) (hf:Fam w0 w (C5 b c x ++ l)) (hx:x.ok c) (h:c.Okc) (z:c.ph=2) (ht:c.t.ph=0) (hl:¬ c.m.list=[]):Calls prog 42 #[.pointer (some ⟨b,0,none⟩)] w (aIx w0 l b c x):=by
 refine aF fun R hR=>?_;obtain ⟨_,_,x2,_,_,x5,_⟩:=dD.cells hf;have cn:=aJ w x2;have d:=bQ w hf h hx (by omega);unfold Co.kQ at d;rw [if_neg (show ¬ c.ph=1 by omega),if_pos z,if_neg (fun e=>e ht),if_neg hl] at d;rw [z] at x5;have HF:=aA hf;have HX:=aA hx;have HH:=aA h;have a0:=fun (W:World) (v:Value)=>aPV W v;have HW:=aA (aBA (h.mo (.inr z)));have h0:=fG h.hf.ok c.m.step.1;have HR:Hid (∀ w',Fam w0 w' (C5 b c x ++ l)->R (.returned (.tuple #[.int .i64 (1+c.m.M.len c.m.step.1),.int .i64 0])) w'):=fun w' h2=>hR.o _ _ ⟨by rw [aJa z ht hl];rfl,h2⟩;clear hf hx h hR z hl ht;go_in;go_wp2_with fail;go_fit cn;rintro e _ ⟨rfl,rfl⟩;clear cn;go_wp2_with fail;go_fit d;rintro e _ ⟨rfl,k,rfl⟩;have F1:=aA (HF.o.drewN k);generalize w.drewN k=w1 at*;have y:=aA (C5.alloc F1.o (.cells #[] 157));obtain ⟨_,_,_,_,z4,_⟩:=dD.cells y.o;have cm:=yV _ (C5.t2 (b:=b) (c:=c) (x:=x) (l:=l)) (hb:=x.hb) (p:=x.p) (m:=c.m) y.o;rw [aCZ] at cm;clear d;go_upto_region 5 with fail;generalize w1.alloc (.cells #[] 157)=w2 at*;go_wp2_with fail;go_fit cm;rintro e _ ⟨rfl,rfl⟩;have cl:=kJ w2 y.o c.m.step.1 HW.o;clear cm F1;generalize c.m.M.len c.m.step.1=n at*;go_wp2_with fail;go_fit cl;rintro e _ ⟨rfl,k2,rfl⟩;have F3:=aA (y.o.drewN k2);clear cl y;go_wp2_with fail;exact HR.o _ F3.o
theorem aNv (w:World) (z:Fam w0 w (C5 b c x ++ l)) (hx:x.ok c) (h:c.Okc) (d:c.ph=3) (hl:c.sw=[]):Calls prog 42 #[.pointer (some ⟨b,0,none⟩)] w (aIx w0 l b c x):=by
 refine aF fun R hR=>?_;obtain ⟨_,_,x2,_,_,x5,_⟩:=dD.cells z;have cn:=aJ w x2;have y:=bQ w z h hx (by omega);unfold Co.kQ at y;rw [if_neg (show ¬ c.ph=1 by omega),if_neg (show ¬ c.ph=2 by omega),if_pos d,hl] at y;rw [d] at x5;have HF:=aA z;have HX:=aA hx;have HH:=aA h;have a0:=fun (W:World) (v:Value)=>aLN W v;have a1:=fun (W:World) (v:Value)=>aLO W v;have a2:=fun (W:World) (v:Value)=>aLP W v;have HR:Hid (∀ w',Fam w0 w' (C5 b c x ++ l)->R (.returned (.tuple #[.int .i64 (1),.int .i64 0])) w'):=fun w' h2=>hR.o _ _ ⟨by rw [aIZ d hl],h2⟩;clear z hx h hR d hl;go_in;go_wp2_with fail;go_fit cn;rintro e _ ⟨rfl,rfl⟩;clear cn;go_wp2_with fail;go_fit y;rintro e _ ⟨rfl,k,rfl⟩;have F1:=aA (HF.o.drewN k);generalize w.drewN k=w1 at*;have F2:=aA (C5.alloc F1.o (.cells #[.int .i64 4] 163));clear y;go_wp2_with fail;exact HR.o _ F2.o
theorem aNu (w:World) (hf:Fam w0 w (C5 b c x ++ l)) (hx:x.ok c) (h:c.Okc) (d:c.ph=3) {y:Int} {r:List Int} (hl:c.sw=y :: r):Calls prog 42 #[.pointer (some ⟨b,0,none⟩)] w (aIx w0 l b c x):=by
 refine aF fun R hR=>?_;obtain ⟨_,_,x2,_,_,x5,_⟩:=dD.cells hf;have cn:=aJ w x2;have cx:=bQ w hf h hx (by omega);unfold Co.kQ at cx;rw [if_neg (show ¬ c.ph=1 by omega),if_neg (show ¬ c.ph=2 by omega),if_pos d,hl] at cx;rw [d] at x5;have HF:=aA hf;have HX:=aA hx;have HH:=aA h;have a0:=fun (W:World) (v:Value)=>aRT W v;have a1:=fun (W:World) (v:Value)=>aRU W v;have HW:Hid (wfI y):=aIH (h.hf.ok.inR (h.su y (by rw [hl];exact List.mem_cons_self)));have h4:=kX h.hf.ok y;have HR:Hid (∀ w',Fam w0 w' (C5 b c x ++ l)->R (.returned (.tuple #[.int .i64 (1+((c.m.M.blocks y).1.length:Int)),.int .i64 0])) w'):=fun w' h2=>hR.o _ _ ⟨by rw [aIY d hl,Co.free,hl],h2⟩;clear hf hx h hR d hl;go_in;go_wp2_with fail;go_fit cn;rintro e _ ⟨rfl,rfl⟩;clear cn;go_wp2_with fail;go_fit cx;rintro e _ ⟨rfl,k,rfl⟩;have F1:=aA (HF.o.drewN k);generalize w.drewN k=w1 at*;have z:Hid (Fam w0 (w1.alloc (.cells #[.int .i64 y] 160)) (C5 b c x ++ (l ++ [eY w1.heap.size 160 [.int .i64 y]]))):=F1.o.addRow 160 [.int .i64 y];clear cx;go_upto_region 9 with fail;obtain ⟨g,hg⟩:∃ g,g=w1.heap.size:=⟨_,rfl⟩;rw [<-hg] at z ⊢;generalize w1.alloc (.cells #[.int .i64 y] 160)=w2 at*;clear hg F1;have HC:Hid (∀ wx,Only [] w2 wx->Calls prog 115 #[.pointer (some ⟨x.hb,0,none⟩),.int .i64 y] wx (aLz wx (c.m.M.blocks y))):=fun wx ho=>by
  obtain ⟨hk,L,X,d⟩:=C5.ph (z.o.aK ho);exact pO wx d hk y HW.o
 generalize h1:(c.m.M.blocks y).1.length=bn at*;have h3:=aA h1;clear h1;have h0:Hid (Only [] w2 w2.drew):=(Only.refl [] w2).drew;go_region_held3 (fun w'=>w'.cell? ⟨b,2,none⟩=some (.pointer (some ⟨x.hb,0,none⟩))/\w'.cell? ⟨g,0,none⟩=some (.int .i64 y))
  (first|(exact ⟨(C5.row z.o).cell 2 rfl,(C5.last z.o).cell 0 rfl⟩)|(exact ⟨(C5.row F3.o).cell 2 rfl,(C5.last F3.o).cell 0 rfl⟩))
  (first|(go_at_call 115;refine (HC.o _ h0.o).mono ?_;rintro e w3 ⟨v,rfl,hi,ho⟩;obtain ⟨va,vc,rfl⟩:=hi.len;rw [h3.o] at*;have F3:=aA (z.o.drew.aK ho);clear hi ho))
 have F4:Hid (Fam w0 w3 (C5 b c x ++ l)):=by
  have f4:Fam w0 w3 ((C5 b c x ++ l) ++ [eY g 160 [.int .i64 y]]):=F3.o;exact f4.pop
 clear HC z h0 F3;go_wp2_with fail;exact HR.o _ F4.o
theorem aNt (w:World) (z:Fam w0 w (C5 b c x ++ l)) (hx:x.ok c) (h:c.Okc) (hp:c.ph=4) (d:c.mv=8*c.pages):Calls prog 42 #[.pointer (some ⟨b,0,none⟩)] w (aIx w0 l b c x):=by
 refine aF fun R hR=>?_;obtain ⟨_,_,x2,_,_,x5,_⟩:=dD.cells z;have cn:=aJ w x2;have y:=bQ w z h hx (by omega);unfold Co.kQ at y;rw [if_neg (show ¬ c.ph=1 by omega),if_neg (show ¬ c.ph=2 by omega),if_neg (show ¬ c.ph=3 by omega),if_pos d] at y;rw [hp] at x5;have HF:=aA z;have HX:=aA hx;have HH:=aA h;have a0:=fun (W:World) (v:Value)=>aLN W v;have a1:=fun (W:World) (v:Value)=>aLO W v;have a2:=fun (W:World) (v:Value)=>aLP W v;have HR:Hid (∀ w',Fam w0 w' (C5 b c x ++ l)->R (.returned (.tuple #[.int .i64 (1),.int .i64 0])) w'):=fun w' h2=>hR.o _ _ ⟨by rw [aIX hp d],h2⟩;clear z hx h hR hp d;go_in;go_wp2_with fail;go_fit cn;rintro e _ ⟨rfl,rfl⟩;clear cn;go_wp2_with fail;go_fit y;rintro e _ ⟨rfl,k,rfl⟩;have F1:=aA (HF.o.drewN k);generalize w.drewN k=w1 at*;have F2:=aA (C5.alloc F1.o (.cells #[.int .i64 0] 163));clear y;go_wp2_with fail;exact HR.o _ F2.o
theorem aNs (w:World) (hf:Fam w0 w (C5 b c x ++ l)) (hx:x.ok c) (h:c.Okc) (hp:c.ph=4) (hl:¬ c.mv=8*c.pages):Calls prog 42 #[.pointer (some ⟨b,0,none⟩)] w (aIx w0 l b c x):=by
 refine aF fun R hR=>?_;obtain ⟨_,_,x2,_,_,x5,_⟩:=dD.cells hf;have cn:=aJ w x2;have cx:=bQ w hf h hx (by omega);unfold Co.kQ at cx;rw [if_neg (show ¬ c.ph=1 by omega),if_neg (show ¬ c.ph=2 by omega),if_neg (show ¬ c.ph=3 by omega),if_neg hl] at cx;rw [hp] at x5;have HF:=aA hf;have HX:=aA hx;have HH:=aA h;have a0:=fun (W:World) (v:Value)=>aRN W v;have a1:=fun (W:World) (v:Value)=>aRO W v;have a2:=fun (W:World) (v:Value)=>aRP W v;have HR:Hid (∀ w',Fam w0 w' (C5 b c x ++ l)->R (.returned (.tuple #[.int .i64 c.step.1,.int .i64 c.step.2.1])) w'):=fun w' h2=>hR.o _ _ ⟨rfl,h2⟩;clear hf hx h hR hp hl;go_in;go_wp2_with fail;go_fit cn;rintro e _ ⟨rfl,rfl⟩;clear cn;go_wp2_with fail;go_fit cx;rintro e _ ⟨rfl,k,rfl⟩;have F1:=aA (HF.o.drewN k);generalize w.drewN k=w1 at*;have cc:=aAl w1 F1.o HX.o HH.o;clear cx;go_wp2_with fail;go_fit cc;rintro e w2 ⟨b2,rfl,x2,d,y⟩;have cs:=kH w2 y d HH.o;clear cc d y F1;go_wp2_with fail;go_fit cs;rintro e w3 ⟨rfl,x3,_,z⟩;have F3:=aA (Fam.rest z);clear cs z;go_wp2_with fail;exact HR.o _ F3.o
theorem aPo (w:World) (hf:Fam w0 w (C5 b c x ++ l)) (hx:x.ok c) (h:c.Okc) (hp:c.ph=0):Calls prog 42 #[.pointer (some ⟨b,0,none⟩)] w (aIx w0 l b c x):=by
 refine aF fun R hR=>?_;obtain ⟨_,_,x2,_,_,x5,_⟩:=dD.cells hf;have cn:=aJ w x2;rw [hp] at x5;have HH:=aA h;have cc:=aAl w hf hx h;have HR:Hid (∀ w',Fam w0 w' (C5 b c x ++ l)->R (.returned (.tuple #[.int .i64 c.step.1,.int .i64 c.step.2.1])) w'):=fun w' h2=>hR.o _ _ ⟨rfl,h2⟩;clear hf hx h hR hp;go_in;go_wp2_with fail;go_fit cn;rintro e _ ⟨rfl,rfl⟩;clear cn;go_wp2_with fail;go_fit cc;rintro e w2 ⟨b2,rfl,x2,d,y⟩;have cs:=kH w2 y d HH.o;clear cc d y;go_wp2_with fail;go_fit cs;rintro e w3 ⟨rfl,x3,_,z⟩;have F3:=aA (Fam.rest z);clear cs z;go_wp2_with fail;exact HR.o _ F3.o
theorem aLa (w:World) (e:Fam w0 w (C5 b c x ++ l)) (hx:x.ok c) (h:c.Okc):Calls prog 42 #[.pointer (some ⟨b,0,none⟩)] w (aIx w0 l b c x):=by
 rcases rM h with z|z|z|z|z
 ·exact aPo w e hx h z
 ·by_cases d:c.m.list=[]
  ·exact aNA w e hx h z d
  exact aNz w e hx h z d
 ·by_cases ht:c.t.ph=0
  ·by_cases d:c.m.list=[]
   ·exact aNx w e hx h z ht d
   exact aNw w e hx h z ht d
  exact aNy w e hx h z ht
 ·cases d:c.sw with
  | nil=>exact aNv w e hx h z d
  | cons y r=>exact aNu w e hx h z d
 by_cases d:c.mv=8*c.pages
 ·exact aNt w e hx h z d
 exact aNs w e hx h z d
end
def iC (w0:World) (l:List Asn) (b:Nat) (r:Int×Int×Co) (e:Ending) (w':World):Prop:=e=.returned (.tuple #[.int .i64 r.1,.int .i64 r.2.1])/\∃ y:CX,y.ok r.2.2/\Fam w0 w' (C5 b r.2.2 y ++ l)
section
variable {w0 w:World} {l:List Asn} {b:Nat} {c:Co} {x:CX} {i:Nat}
theorem aPm (w:World):Calls prog 44 #[.pointer none] w (aO w (.tuple #[.int .i64 0,.int .i64 0,.int .i64 1])):=by
 refine aF fun R y=>?_;have c:=aKS w;go_in;go_wp2;go_loopw [2,3] (fun z d wr=>z=.int .i64 0/\d=.int .i64 0/\wr=w) (fun _ _ _=>0)
 case atStart=>exact ⟨rfl,rfl,rfl⟩
 case round=>
  obtain ⟨rfl,rfl,rfl⟩:=hrel;go_wp2_with fail;go_fit c;rintro e _ ⟨rfl,rfl⟩;go_wp2;refine bodyPost_ret (results_tmp3 rfl _ _ _) rfl ?_;exact y.o _ _ ⟨rfl,rfl⟩
theorem aFm (w:World) (hf:Fam w0 w (C5 b c x ++ l)) (hx:x.ok c) (h:c.Okc):Calls prog 44 #[.pointer (some ⟨b,0,none⟩)] w (fun e w'=>e=.returned (.tuple #[.int .i64 c.finish.1,.int .i64 c.finish.2.1,.int .i64 c.finish.2.2.1])/\∃ y:CX,y.ok c.finish.2.2.2/\Fam w0 w' (C5 b c.finish.2.2.2 y ++ l)):=by
 refine aF fun R hR=>?_;unfold Co.finish at hR;have HH:=aA h
 by_cases hp:c.ph=0
 ·rw [if_pos hp] at hR;have cs:=kH w hf hx h;rw [Co.nK hp] at cs;clear hf hx h hp;go_in;go_wp2;go_loopw [2,3] (fun iv jv wr=>iv=.int .i64 0/\jv=.int .i64 0/\wr=w) (fun _ _ _=>0)
  case atStart=>exact ⟨rfl,rfl,rfl⟩
  case round=>
   obtain ⟨rfl,rfl,rfl⟩:=hrel;go_wp2_with fail;go_fit cs;rintro e w1 ⟨rfl,y,d,z⟩;have HE:Hid (∃ y:CX,y.ok c/\Fam w0 w1 (C5 b c y ++ l)):=⟨y,d,z⟩;clear cs d z;go_wp2;refine bodyPost_ret (results_tmp3 rfl _ _ _) rfl ?_;exact hR.o _ _ ⟨rfl,HE.o⟩
 rw [if_neg hp] at hR;have HF:Hid (∃ y:CX,y.ok c/\Fam w0 w (C5 b c y ++ l)):=⟨x,hx,hf⟩;have HP:=aA hp;have x4:=aA (Co.aMs h);clear hf hx h hp;go_in;go_wp2;go_loopw [2,3] (fun iv jv wr=>∃ k:Nat,iv=.int .i64 k/\jv=.int .i64 (Co.costs k c)/\(∃ y:CX,y.ok (Co.steps k c)/\Fam w0 wr (C5 b (Co.steps k c) y ++ l))/\Hid (∀ j,j<k->(Co.steps j c).ph≠0)) (fun iv _ _=>40000 - (intOf iv).toNat)
 case atStart=>exact ⟨0,rfl,rfl,HF.o,fun j hj=>by omega⟩
 case round=>as_aux_lemma=>
  clear HF;obtain ⟨k,rfl,rfl,⟨y,d,z⟩,HB⟩:=hrel;have h5:=HH.o.steps k;have cs:=kH wr z d h5;have x2:=Co.oO HH.o k HB.o;have x8:=Co.aCh HH.o k;have hk:k<=30192:=by have:=x4.o;omega
  by_cases he:(Co.steps k c).ph=0
  ·have h8:=Co.aFh HH.o HB.o he;have h9:k≠0:=fun e=>by rw [e] at he;exact HP.o he
   have x9:((k:Int) == 0)=false:=by simpa using h9
   rw [Co.nK he] at cs;rw [<-h8] at hR;clear z d h5 h8 h9 x2 he;generalize Co.costs k c=co at*;go_wp2_with fail;go_fit cs;rintro e w1 ⟨rfl,x1,h3,h0⟩;have HE:Hid (∃ y:CX,y.ok (Co.steps k c)/\Fam w0 w1 (C5 b (Co.steps k c) y ++ l)):=⟨x1,h3,h0⟩;clear cs h3 h0;go_wp2;refine bodyPost_ret (results_tmp3 rfl _ _ _) rfl ?_;exact hR.o _ _ ⟨rfl,HE.o⟩
  have h4:=h5.cost he;have h6:Hid (∀ j,j<k+1->(Co.steps j c).ph≠0):=fun j hj=>by
   by_cases e:j=k
   ·rw [e];exact he
   exact HB.o j (by omega)
  have x5:=Co.oO HH.o (k+1) h6.o;have x3:Hid (Co.costs (k+1) c=Co.costs k c+(Co.steps k c).step.1):=rfl;have h7:Calls prog 41 #[.pointer (some ⟨b,0,none⟩)] wr (fun e w'=>e=.returned (.tuple #[.int .i64 (Co.steps k c).step.1,.int .i64 0])/\∃ y:CX,y.ok (Co.steps (k+1) c)/\Fam w0 w' (C5 b (Co.steps (k+1) c) y ++ l)):=cs.mono fun e w' ⟨h1,h2⟩=>⟨by rw [h1,h4.2.2],h2⟩;have x6:=h4.1;have x7:=h4.2.1;clear cs z d h5 he h4 x2;generalize (Co.steps (k+1) c).mu=m1 at*;generalize c.mu=m2 at*;generalize (Co.steps k c).step.1=sc at*;generalize Co.costs k c=co at*;go_wp2_with fail;go_fit h7;rintro e w1 ⟨rfl,x1,h3,h0⟩;have HE:Hid (∃ y:CX,y.ok (Co.steps (k+1) c)/\Fam w0 w1 (C5 b (Co.steps (k+1) c) y ++ l)):=⟨x1,h3,h0⟩;clear h7 h3 h0;go_wp2;exact ⟨⟨k+1,by go_num,by rw [x3.o],HE.o,h6⟩,by simp [intOf];omega⟩
theorem lV (w:World) (hf:Fam w0 w (C5 b c x ++ l)) (hx:x.ok c) (h:c.Ok) (n:Int) (hn:0<=n/\n<=10000):Calls prog 116 #[.pointer (some ⟨b,0,none⟩),.int .i64 n] w (fun e w'=>e=.returned (.int .i64 (c.give n).1)/\∃ y:CX,y.ok (c.give n).2/\Fam w0 w' (C5 b (c.give n).2 y ++ l)):=by
 refine aF fun R hR=>?_;unfold Co.give at hR;obtain ⟨_,_,_,_,_,x5,x6,_,_,_,xf⟩:=dD.cells hf
 by_cases hp:c.ph=0
 ·rw [if_pos hp] at hR;rw [hp] at x5;have HE:Hid (∃ y:CX,y.ok c/\Fam w0 w (C5 b c y ++ l)):=⟨x,hx,hf⟩;clear hf hx h hp;go_in;go_wp2;exact hR.o _ _ ⟨rfl,HE.o⟩
 rw [if_neg hp] at hR;have HD:=aA (h.k.more hp hn.1);have z1:=h.k.cr1;have y9:=h.cr2;have z5:((c.ph:Int) == 0)=false:=by simpa using hp
 have z6:=xf 6;have F1:Hid (∃ y:CX,y.ok (c.more n)/\Fam w0 (w.setCell ⟨b,6,none⟩ (.int .i64 (c.cr+n))) (C5 b (c.more n) y ++ l)):=⟨x,⟨hx.ov,hx.mv,hx.mv2⟩,C5.aEt hf (c.cr+n)⟩;have x9:Hid ((c.more n).cr<=10060):=by show c.cr+n<=10060;omega
 have x3:=(Co.fO HD.o).2.2;have y2:(c.more n).gives<=10061:=by
  have h2:=x9.o;unfold Co.nu at x3;split at x3<;>omega
 have x8:=aA y2;clear hf hx h hp xf x3 y2;generalize c.cr=cr at*;generalize c.ph=ph at*;go_in;go_upto_region 5 with fail;generalize w.setCell ⟨b,6,none⟩ (.int .i64 (cr+n))=w1 at*;generalize c.more n=d at*;clear x5 x6 z6 z5 z1 y9 hn;go_loopw [5] (fun iv wr=>∃ k:Nat,iv=.int .i64 k/\(∃ y:CX,y.ok (Co.pays k d)/\Fam w0 wr (C5 b (Co.pays k d) y ++ l))/\Hid (∀ j,j<k->¬ (Co.pays j d).stops)) (fun iv _=>20000 - (intOf iv).toNat)
 case atStart=>exact ⟨0,rfl,F1.o,fun j hj=>by omega⟩
 case round=>as_aux_lemma=>
  clear F1;obtain ⟨k,rfl,⟨y,h5,h4⟩,HB⟩:=hrel;obtain ⟨z,x4,x2⟩:=Co.uD HD.o k HB.o;have z3:=z.cr1;have z4:(Co.pays k d).cr<=10060:=by have:=x9.o;omega
  have a4:k<=10061:=by
   have h1:=x8.o;rcases Nat.lt_or_ge d.gives k with h2|h2
   ·exact absurd (Co.fO HD.o).1 (HB.o _ h2)
   omega
  obtain ⟨_,_,_,_,_,x5,x6,_,_,_,xf⟩:=dD.cells h4;have h8:Hid (∃ y:CX,y.ok (Co.pays k d)/\Fam w0 wr (C5 b (Co.pays k d) y ++ l)):=⟨y,h5,h4⟩
  by_cases he:(Co.pays k d).ph=0
  ·have hg:=Co.xA HD.o HB.o (.inl he);rw [<-hg] at hR;rw [he] at x5;clear h4 h5 z x4 x2 he hg xf z3 z4;go_wp2;exact hR.o _ _ ⟨rfl,h8.o⟩
  have cc:=aLa wr h4 h5 z;have h7:=z.cost he;have h6:=aA h5;have z8:=aA z;have a3:(((Co.pays k d).ph:Int) != 0)=true:=by simpa using he
  have a1:=h7.1;have a2:=h7.2.1
  by_cases y7:(Co.pays k d).cr<(Co.pays k d).step.1
  ·have hg:=Co.xA HD.o HB.o (.inr y7);rw [<-hg] at hR;clear h4 h5 z x4 x2 he hg xf h7;unfold aIx at cc;generalize (Co.pays k d).step.2.1=er at*;generalize (Co.pays k d).step.1=sc at*;generalize h9:(Co.pays k d).cr=cr at*;generalize z0:(Co.pays k d).ph=ph at*;go_wp2_with fail;go_fit cc;rintro e w2 ⟨rfl,h0⟩;obtain ⟨_,_,_,_,_,y5,y6,_⟩:=dD.cells h0;rw [h9] at y6;have HE:Hid (∃ y:CX,y.ok (Co.pays k d)/\Fam w0 w2 (C5 b (Co.pays k d) y ++ l)):=⟨y,h6.o,h0⟩;clear cc h0 x5 x6 h8;go_wp2;exact hR.o _ _ ⟨rfl,HE.o⟩
  have y3:¬ (Co.pays k d).stops:=fun e=>by rcases e with e|e;exact he e;exact y7 e
  have x7:Hid (∀ j,j<k+1->¬ (Co.pays j d).stops):=fun j hj=>by
   by_cases e:j=k
   ·rw [e];exact y3
   exact HB.o j (by omega)
  have a6:k<d.gives:=by
   rcases Nat.lt_or_ge k d.gives with h1|h1
   ·exact h1
   exact absurd (Co.fO HD.o).1 (x7.o _ (by
    rcases Nat.eq_or_lt_of_le h1 with h2|h2
    ·omega
    omega))
  have y0:Hid (Co.pays (k+1) d=({ Co.pays k d with cr:=(Co.pays k d).cr - (Co.pays k d).step.1 }:Co).step.2.2):=rfl;have z2:Hid (({ Co.pays k d with cr:=(Co.pays k d).cr - (Co.pays k d).step.1 }:Co).Okc):=z.aAf he (by omega);have z9:Hid ((Co.pays k d).ph≠0):=he;have a5:=x8.o;clear h4 h5 z x4 x2 he xf h7 y3 h8;unfold aIx at cc;generalize (Co.pays k d).step.2.1=er at*;generalize y4:(Co.pays k d).step.1=sc at*;have a0:=aA y4;clear y4;generalize h9:(Co.pays k d).cr=cr at*;generalize z0:(Co.pays k d).ph=ph at*;go_wp2_with fail;go_fit cc;rintro e w2 ⟨rfl,h0⟩;obtain ⟨_,_,_,_,_,y5,y6,_,_,_,yf⟩:=dD.cells h0;rw [h9] at y6;have z7:=yf 6;have F3:Hid (Fam w0 (w2.setCell ⟨b,6,none⟩ (.int .i64 (cr - sc))) (C5 b { Co.pays k d with cr:=cr - sc } y ++ l)):=C5.aEt h0 (cr - sc);clear cc h0 x5 x6 yf;go_upto_region 9 with fail;generalize w2.setCell ⟨b,6,none⟩ (.int .i64 (cr - sc))=w3 at*;have cs:=kH w3 F3.o ⟨h6.o.ov,h6.o.mv,h6.o.mv2⟩ z2.o;clear y5 y6 z7 F3;replace cs:Calls prog 41 #[.pointer (some ⟨b,0,none⟩)] w3 (fun e w'=>∃ a b',e=.returned (.tuple #[.int .i64 a,.int .i64 b'])/\∃ y:CX,y.ok (Co.pays (k+1) d)/\Fam w0 w' (C5 b (Co.pays (k+1) d) y ++ l)):=cs.mono fun e w' ⟨h1,x1,h2,h3⟩=>⟨_,_,h1,x1,by rw [y0.o];exact h2,by rw [y0.o];exact h3⟩;go_wp2_with fail;go_fit cs;rintro e w4 ⟨ra,rb,rfl,x1,y8,y1⟩;have HE:Hid (∃ y:CX,y.ok (Co.pays (k+1) d)/\Fam w0 w4 (C5 b (Co.pays (k+1) d) y ++ l)):=⟨x1,y8,y1⟩;clear cs y8 y1;go_wp2;exact ⟨⟨k+1,by go_num,HE.o,x7⟩,by simp [intOf];omega⟩
end
