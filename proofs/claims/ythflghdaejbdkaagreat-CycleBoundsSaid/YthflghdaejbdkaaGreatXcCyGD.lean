/- Lemmas of this claim. -/
import Derived.Test.YthflghdaejbdkaaGreatXcMkG
import Derived.Test.YthflghdaejbdkaaGreatCloneLay
import Derived.Test.YthflghdaejbdkaaGreatXcRObjQ
import Derived.Deep.AppendLies
import Derived.Test.YthflghdaejbdkaaGreatXcTbGC
import Derived.Test.YthflghdaejbdkaaGreatXcCyGC
namespace Go.Proofs.YthflghdaejbdkaaGreat
open _root_.Go.Proofs.Tryz (prog)
open Go.RowKit Go.Maps Go.Shelf
set_option maxHeartbeats 12800000
set_option maxRecDepth 100000
set_option linter.unusedVariables false
theorem aHZ (w:World) (z:Nat) (y:Int->Int) (h:aAg w z y):Calls prog 186 #[.map (some z)] w fun e w'=>e=.returned (.map (some w.heap.size))/\aAg w' w.heap.size y/\Only [] w w':=by
 obtain ⟨D,hD,d,h2⟩:=h;have c:=AnyW.maps_Clone_owns Tryz.cloneC 3 (plainElem (H:=Unit) prog 3) z 192 D w hD;change Calls prog 186 _ _ _ at c;exact c.mono fun e w' ⟨he,ho,_,hb⟩=>⟨he,⟨D,ho,d,h2⟩,⟨hb.os,hb.tape,hb.output,hb.size,fun k hk _=>hb.block k hk⟩⟩
section
variable {w0 w:World} {l:List Asn} {i j hb p q r:Nat} {m:Mk}
theorem aHi (w:World) (T2:gX l i j) (hf:Fam w0 w (ML l i j hb p m)) (hm:m.list.length<=192):Calls prog 108 #[.pointer (some ⟨p,0,none⟩)] w (fun e w'=>∃ q2 p2,e=.returned (.pointer (some ⟨p2,0,none⟩))/\Fam w0 w' (ML l i j hb p m ++ [PH q2 m.M] ++ [MkA p2 q2 m.col m.list])):=by
 refine aF fun R hR=>?_;have HF:=aA hf;obtain ⟨hk,L,X,hp⟩:=ML.ph T2 hf;have x4:=aA (hf.phF i (ML.heap T2));obtain ⟨mb,v,hg⟩:=ML.mk T2 hf;have h9:Hid (∀ wx,Only [] w wx->Calls prog 128 #[.pointer (some ⟨hb,0,none⟩)] wx (fun e w'=>∃ q L' X',e=.returned (.pointer (some ⟨q,0,none⟩))/\dK w' L' q m.M X'/\(∀ k,L' k≠none->wx.heap.size<=k)/\Only [] wx w')):=fun wx ho=>by
  have c:=aDi wx (hp.aN ho) hk;exact c
 have x1:Hid (∀ wx,Only [] w wx->Calls prog 186 #[.map (some mb)] wx (fun e w'=>e=.returned (.map (some wx.heap.size))/\aAg w' wx.heap.size m.col/\Only [] wx w')):=fun wx ho=>aHZ wx mb m.col (hg.map.qX ho (by simp));have x2:Hid (∀ wx,Only [] w wx->Calls prog 80 #[v] wx (fun e w'=>∃ v',e=.returned v'/\aK w' wx.heap.size v' m.list/\Only [] wx w')):=fun wx ho=>oW wx v m.list (hg.ints.only ho (by simp)) (by have:=hm;omega);obtain ⟨z0,z1,z2,_⟩:=hg.cells;have hn:=fE w z0;have d0:w.drew.cell? ⟨p,0,none⟩=_:=z0;have d1:w.drew.cell? ⟨p,1,none⟩=_:=z1;have d2:w.drew.cell? ⟨p,2,none⟩=_:=z2;obtain ⟨ga,gc,hv⟩:=hg.ints.len;subst hv;generalize m.list.length=n at*;have D0:=aA (aJw w);clear hf hk hp hg;go_in;go_wp2_with fail;refine hn.mono ?_;rintro e _ ⟨rfl,rfl⟩;clear hn;go_wp2;go_region_held3 (fun w'=>w'.cell? ⟨p,0,none⟩=some (.pointer (some ⟨hb,0,none⟩))/\w'.cell? ⟨p,1,none⟩=some (.map (some mb))/\w'.cell? ⟨p,2,none⟩=some (.slice ga n gc))
  (first
   | (exact ⟨d0,d1,d2⟩)
   | (exact ⟨y.aQ d0,y.aQ d1,y.aQ d2⟩)
   | (exact ⟨z.aQ d0,z.aQ d1,z.aQ d2⟩)
   | (exact ⟨d.aQ d0,d.aQ d1,d.aQ d2⟩)
   | (exact ⟨z.aQ (y.aQ d0),z.aQ (y.aQ d1),z.aQ (y.aQ d2)⟩)
   | (exact ⟨d.aQ (z.aQ (y.aQ d0)),d.aQ (z.aQ (y.aQ d1)),d.aQ (z.aQ (y.aQ d2))⟩)
   | (exact ⟨(d.alloc _).aQ (z.aQ (y.aQ d0)),(d.alloc _).aQ (z.aQ (y.aQ d1)),(d.alloc _).aQ (z.aQ (y.aQ d2))⟩))
  (first
   | (go_at_call 128;refine (h9.out _ D0.out).mono ?_;rintro e wA ⟨q2,L2,X2,rfl,h8,h7,y⟩)
   | (go_at_call 186;refine (x1.out _ (D0.out.trans y (by simp))).mono ?_;rintro e wB ⟨rfl,h5,z⟩)
   | (go_at_call 80;refine (x2.out _ ((D0.out.trans y (by simp)).trans z (by simp))).mono ?_;rintro e wC ⟨v2,rfl,h0,d⟩;obtain ⟨h2,h3,x8⟩:=h0.len;subst x8)
)
 have h6:Fam w0 wA (ML l i j hb p m ++ [PH q2 m.M]):=HF.out.drew.add (aOq h8 x4.out h7 y);have h4:Only [] wB ((wC.alloc (.cells #[.pointer (some ⟨q2,0,none⟩),.map (some wA.heap.size),.slice h2 m.list.length h3] 129))):=d.alloc _;have x6:=z.size;have x7:=d.size;have x5:=h5.lt;have h1:aGo wA (wC.alloc (.cells #[.pointer (some ⟨q2,0,none⟩),.map (some wA.heap.size),.slice h2 m.list.length h3] 129)) (MkA wC.heap.size q2 m.col m.list):=by
  refine ⟨z.trans h4 (by simp),fun k=>k=wC.heap.size\/k=wA.heap.size\/(Value.slice h2 m.list.length h3).ownBlock=some k,⟨wA.heap.size,.slice h2 m.list.length h3,⟨⟨129,Row.new wC 129 [_,_,_]⟩,h5.qX h4 (by simp),(h0.base (Nat.zero_le _)).alloc _,by omega,fun g hg=>?_⟩,fun k=>Iff.rfl⟩,fun k hk=>?_⟩
  ·have:=h0.own g hg;exact ⟨by omega,by omega⟩
  rcases hk with hk|hk|hk
  ·omega
  ·omega
  have:=h0.own k hk;omega
 have x3:=aA (h6.add h1);clear h6 h4 h1 x5 x6 x7 h8 h7 y h5 z h0 d d0 d1 d2;go_wp2;exact hR.out _ _ ⟨q2,wC.heap.size,rfl,x3.out⟩
theorem aCq {ops:Array Oper} {o:Oper} {ac:Act} {wl:World} {K:Act->World->Prop} {Q:Exit->Act->World->Prop} {E:Prop} (h2:o.guard=none) (s x:Operand)
  (ho:o.op=.call { callee:=.builtin .append,args:=#[s,x],argTypes:=#[23,23] }) (w0:World) (hO:Only [] w0 wl)
  (hs:ac.eval s=.slice none 0 0) (va:Option Addr) (n e:Nat) (l:List Int) (hx:ac.eval x=.slice va n e) (hl:l.length=n) (hv:aK w0 0 (.slice va n e) l) (hb:n<=1000000)
  (h:∀ v' w',Hid (aK w' wl.heap.size v' l)->Hid (Only [] wl w')->K (ac.put o.dst v') w') :
  if Region.wanted o (yielded ops ac.tmps)=true then Oper.wp prog o ac wl K Q else E:=by
 obtain ⟨i0,h3,h7,h8,h9⟩:=info_parts jV
 by_cases h0:n=0
 ·subst h0;have h4:l=[]:=List.eq_nil_of_length_eq_zero hl;subst h4;have hw:Region.wanted o (yielded ops ac.tmps)=true:=by simp [Region.wanted,h2]
  rw [if_pos hw];have h5:Src prog i0.size 23 (.slice va 0 e) 0 [] wl:=by
   cases va with
   | none=>exact Src.ofNil wl Tryz.underlying23 e
   | some a=>exact Src.ofSlice wl Tryz.underlying23 a 0 e [] (by simp) (fun j u z=>by simp at z) (fun u z=>by simp at z)
  have hr:=run_append_nothing (P:=prog) wl 23 23 o.type 3 i0 Tryz.underlying23 h3 none 0 0 (Nat.le_refl _) (.slice va 0 e) h5;unfold Oper.wp execOp;simp only [ho,resolve,invoke,builtin,Sem.run_bind,Sem.run_pure,Result.andThen_ok,List.map_toArray,List.map_cons,List.map_nil,hs,hx,hr];exact h (.slice none 0 0) wl (aK.nil _ _) (Only.refl _ _)
 have h6:0<n:=by omega
 rcases hv.form with ⟨d,_⟩|⟨g,cap,d,_,_,_,hc⟩
 ·simp only [Value.slice.injEq] at d;omega
 simp only [Value.slice.injEq] at d;obtain ⟨rfl,_,rfl⟩:=d;refine step_append_lies (P:=prog) _ h2 s x 23 ho wl.heap.size 3 i0 (.int .i64 0) 1 8 Tryz.underlying23 h3 h7 h8 h9 rfl (by omega) (.slice none 0 0) 0 [] hs (aK.nil wl wl.heap.size) ⟨g,0,none⟩ n e (l.map (Value.int .i64)) hx (by simp [hl]) (fun j u z=>?_) (fun u z=>?_) h6 (by simp only [maxLen];omega) (by omega) (Nat.le_refl _) wl.heap.size rfl ?_
 ·simp only [List.getElem?_map,Option.map_eq_some_iff] at z;obtain ⟨y,hy,rfl⟩:=z;have hj:=(List.getElem?_eq_some_iff.1 hy).1;have d:=hO.cell (hc j hj) (by simp);rw [gI,hy] at d;rw [show (⟨g,0,none⟩:Addr).add j=⟨g,j,none⟩ by unfold Addr.add;split<;>simp_all]
  exact d
 ·simp only [List.mem_map] at z;obtain ⟨y,_,rfl⟩:=z;rfl
 intro g2 x1 w' k1 k2 k3 k4;rw [Nat.zero_add] at k1 ⊢;refine h _ w' ?_ ((Only.refl [] wl).grown k2 (fun k hk=>by cases hk));show aK _ _ _ _;unfold aK;rw [hl];exact k1
theorem aHF (w:World) (T2:gX l i j) (hf:Fam w0 w (RL l i j q r m)) (hm:m.Ok):Calls prog 110 #[.pointer (some ⟨r,0,none⟩)] w (fun e w'=>∃ q2 r2,e=.returned (.pointer (some ⟨r2,0,none⟩))/\Fam w0 w' (RL l i j q r m ++ [GH q2 m.M] ++ [GkA r2 q2 m.col m.list])):=by
 refine aF fun R hR=>?_;have HF:=aA hf;obtain ⟨hk,L,X,hp⟩:=RL.gh T2 hf;have HK:=aA hk;obtain ⟨tg,tc,v,T,hg⟩:=RL.mk T2 hf;have x3:Hid (∀ wx,Only [] w wx->Calls prog 111 #[.pointer (some ⟨q,0,none⟩)] wx (fun e w'=>∃ q L' X',e=.returned (.pointer (some ⟨q,0,none⟩))/\bH w' L' q m.M X'/\(∀ k,L' k≠none->wx.heap.size<=k)/\Only [] wx w')):=fun wx ho=>aDz wx (hp.aN ho) hk;obtain ⟨z0,z1,z2,_⟩:=hg.cells;have d0:w.drew.cell? ⟨r,0,none⟩=_:=z0;have d1:w.drew.cell? ⟨r,1,none⟩=_:=z1;have d2:w.drew.cell? ⟨r,2,none⟩=_:=z2;obtain ⟨ga,gc,hv⟩:=hg.ints.len;subst hv;have x8:=aA hg.tint;have h0:=aA hg.tl;have x9:=aA hg.tv;have x6:Hid (aK w 0 (.slice ga m.list.length gc) m.list):=hg.ints;have x5:=aA hm.len;generalize h8:m.list.length=n at*;have HN:=aA h8;have x7:Hid (n<=1000000):=by have:=x5.out;show _<=_;omega
 have D0:=aA (aJw w);clear hf hk hp hg h8;go_in;go_wp2;go_region_held3 (fun w'=>w'.cell? ⟨r,0,none⟩=some (.pointer (some ⟨q,0,none⟩))/\w'.cell? ⟨r,1,none⟩=some (.slice (some ⟨tg,0,none⟩) 193 tc)/\w'.cell? ⟨r,2,none⟩=some (.slice ga n gc))
  (first
   | (exact ⟨d0,d1,d2⟩)
   | (exact ⟨y.aQ d0,y.aQ d1,y.aQ d2⟩)
   | (exact ⟨z.out.aQ (y.aQ d0),z.out.aQ (y.aQ d1),z.out.aQ (y.aQ d2)⟩)
   | (exact ⟨d.out.aQ (z.out.aQ (y.aQ d0)),d.out.aQ (z.out.aQ (y.aQ d1)),d.out.aQ (z.out.aQ (y.aQ d2))⟩)
   | (exact ⟨(d.out.alloc _).aQ (z.out.aQ (y.aQ d0)),(d.out.alloc _).aQ (z.out.aQ (y.aQ d1)),(d.out.alloc _).aQ (z.out.aQ (y.aQ d2))⟩))
  (first
   | (go_at_call 111;refine (x3.out _ D0.out).mono ?_;rintro e wA ⟨q2,L2,X2,rfl,x2,x1,y⟩)
   | (refine aCq (by rfl) _ _ (by rfl) w (D0.out.trans y (by simp)) (by rfl) (some ⟨tg,0,none⟩) 193 tc T (by rfl) h0.out x8.out (by decide) ?_;intro vB wB h5 z;obtain ⟨aB,cB,y5⟩:=h5.out.len;subst y5)
   | (refine aCq (by rfl) _ _ (by rfl) w ((D0.out.trans y (by simp)).trans z.out (by simp)) (by rfl) ga n gc m.list (by rfl) HN.out x6.out x7.out ?_;intro vC wC h3 d;obtain ⟨aC,cC,y6⟩:=h3.out.len;subst y6))
 have h9:Fam w0 wA (RL l i j q r m ++ [GH q2 m.M]):=HF.out.drew.add (aOW x2 HK.out x1 y);have y3:=z.out.size;have y4:=d.out.size;obtain ⟨gB,y2,y1,y0⟩:∃ gB,aB=some ⟨gB,0,none⟩/\wA.heap.size<=gB/\gB<wB.heap.size:=by
  rcases h5.out.form with ⟨_,e⟩|⟨g,cap,e,h1,h2,_⟩
  ·have:=h0.out;rw [e] at this;cases this
  simp only [Value.slice.injEq] at e;exact ⟨g,e.1,h1,h2⟩
 subst y2;have h6:Only [] wB (wC.alloc (.cells #[.pointer (some ⟨q2,0,none⟩),.slice (some ⟨gB,0,none⟩) T.length cB,.slice aC m.list.length cC] 150)):=d.out.alloc _;have h4:aGo wA (wC.alloc (.cells #[.pointer (some ⟨q2,0,none⟩),.slice (some ⟨gB,0,none⟩) T.length cB,.slice aC m.list.length cC] 150)) (GkA wC.heap.size q2 m.col m.list):=by
  refine ⟨z.out.trans h6 (by simp),fun k=>k=wC.heap.size\/k=gB\/(Value.slice aC m.list.length cC).ownBlock=some k,⟨gB,cB,.slice aC m.list.length cC,T,⟨⟨150,?_⟩,?_,h0.out,x9.out,(h3.out.base (Nat.zero_le _)).alloc _,by omega,fun g hg=>?_⟩,fun k=>Iff.rfl⟩,fun k hk=>?_⟩
  ·have h7:=Row.new wC 150 [.pointer (some ⟨q2,0,none⟩),.slice (some ⟨gB,0,none⟩) T.length cB,.slice aC m.list.length cC];rw [h0.out] at h7 ⊢;exact h7
  ·have h7:=(h5.out.base (Nat.zero_le _)).only h6 (by simp);rw [h0.out] at h7 ⊢;exact h7
  ·have:=h3.out.own g hg;exact ⟨by omega,by omega⟩
  rcases hk with hk|hk|hk
  ·omega
  ·omega
  have:=h3.out.own k hk;omega
 have x4:=aA (h9.add h4);clear h9 h6 h4 y3 y4 x2 x1 y h5 z h3 d d0 d1 d2 y1 y0;go_wp2;exact hR.out _ _ ⟨q2,wC.heap.size,rfl,x4.out⟩
end
end Go.Proofs.YthflghdaejbdkaaGreat
namespace Go.Proofs.YthflghdaejbdkaaGreat
open _root_.Go.Proofs.Tryz (prog)
open Go.RowKit Go.Maps
set_option maxHeartbeats 6400000
set_option maxRecDepth 100000
set_option linter.unusedVariables false
theorem aEe {w:World} {ops:Array Oper} {d:List Oper} {o:Oper} {a:Act} {Q:Exit->Act->World->Prop} (h8:o.guard=none) (s x:Operand)
  (ho:o.op=.call { callee:=.builtin .append,args:=#[s,x],argTypes:=#[49,49] }) (w0:World) (hO:Only [] w0 w)
  (gs:Nat) (hs:a.eval s=.slice (some ⟨gs,0,none⟩) 0 0) (z:iO w 48 w0.heap.size (.slice (some ⟨gs,0,none⟩) 0 0) []) (va:Option Addr) (n vc:Nat) (l:List En) (hx:a.eval x=.slice va n vc) (hl:l.length=n) (hv:iO w0 48 0 (.slice va n vc) l) (hb:n<=1000000)
  (h:∀ g cap w',Hid (iO w' 48 w0.heap.size (.slice (some ⟨g,0,none⟩) n cap) l)->Hid (Only [] w0 w')->wpList prog ops Q d (a.put o.dst (.slice (some ⟨g,0,none⟩) n cap)) w'):wpList prog ops Q (o :: d) a w:=by
 refine wpList_plain h8 fun K hK=>?_;obtain ⟨i0,h5,h9,x1,x2⟩:=info_parts aNH
 by_cases h0:n=0
 ·subst h0;have h6:l=[]:=List.eq_nil_of_length_eq_zero hl;subst h6;have h7:Src prog i0.size 49 (.slice va 0 vc) 0 [] w:=by
   cases va with
   | none=>exact Src.ofNil w Tryz.underlying49 vc
   | some a=>exact Src.ofSlice w Tryz.underlying49 a 0 vc [] (by simp) (fun j u y=>by simp at y) (fun u y=>by simp at y)
  have hr:=run_append_nothing (P:=prog) w 49 49 o.type 48 i0 Tryz.underlying49 h5 (some ⟨gs,0,none⟩) 0 0 (Nat.le_refl _) (.slice va 0 vc) h7;unfold Oper.wp execOp;simp only [ho,resolve,invoke,builtin,Sem.run_bind,Sem.run_pure,Result.andThen_ok,List.map_toArray,List.map_cons,List.map_nil,hs,hx,hr];exact hK _ _ (h gs 0 w z hO)
 obtain ⟨g,c,e1,_,hg,x3⟩:=hv.form (fun e=>by rw [e] at hl;simp at hl;omega);have e2:va=some ⟨g,0,none⟩:=by simp only [Value.slice.injEq] at e1;exact e1.1
 subst e2;subst hl;refine wp_append_lies _ s x 49 ho w0.heap.size 48 i0 _ 3 24 Tryz.underlying49 h5 h9 x1 x2 rfl (by omega) _ 0 [] hs z ⟨g,0,none⟩ l.length vc (dH l) hx (by rw [lY]) (fun j u y=>?_) (fun u y=>?_) (by omega) (by simp only [maxLen];omega) (by omega) hO.size w.heap.size rfl ?_
 ·have hj:=(List.getElem?_eq_some_iff.1 y).1;rw [lY] at hj;have h1:=World.ownsRow.cellAt hv j hj;rw [dI,Nat.zero_add];exact hO.cell (h1.trans y) (by simp)
 ·unfold dH at y;rw [List.mem_flatMap] at y;obtain ⟨e,_,y⟩:=y;simp only [enC,List.mem_cons,List.not_mem_nil,or_false] at y;rcases y with rfl|rfl|rfl<;>rfl
 intro g2 cap w' h1 h2 h3 h4;rw [Nat.zero_add] at h1 ⊢;refine hK _ _ (h g2 cap w' ?_ (hO.grown h2 (fun k hk=>.inr (z.own k hk).1)));show iO _ _ _ _ _;exact h1
theorem iO.made (w:World) (T:Nat):iO (w.alloc (.cells #[] T)) T w.heap.size (.slice (some ⟨w.heap.size,0,none⟩) 0 0) []:=World.ownsRow_made w #[] 0 (Nat.le_refl _) (by simp [maxLen]) rfl
theorem aAy (w:World) {b:Nat} {t:Tb} {ev qv wv:Value} {nx:Nat} {wl:List Bool} (ht:kU w b ev qv wv nx wl t) (hl:t.ents.length<=20) (hq:t.q.length<=1000000):Calls prog 19 #[.pointer (some ⟨b,0,none⟩)] w (fun e w'=>∃ b2,e=.returned (.pointer (some ⟨b2,0,none⟩))/\aGo w w' (TrA b2 t)):=by
 refine aF fun R hR=>?_;have HT:=aA ht;have a7:wl.length<=1000000:=Nat.le_trans ht.two.1 (by omega);obtain ⟨U,hr⟩:=ht.row;have z8:=hr.lt;have c0:=hr.cell 0 rfl;have c1:=hr.cell 1 rfl;have c2:=hr.cell 2 rfl;have c3:=hr.cell 3 rfl;have c4:=hr.cell 4 rfl;obtain ⟨ea,ec,z5⟩:=ht.ents.len;obtain ⟨qa,qc,z7⟩:=ht.q.len;obtain ⟨ba,bc,z3⟩:=ht.wh.len;have y4:Hid (iO w 48 0 ev t.ents):=ht.ents;have y6:Hid (aK w 0 qv t.q):=ht.q;have y8:Hid (Bls w 0 wv wl):=ht.wh;rw [z5] at c0 y4;rw [z7] at c1 y6;rw [z3] at c4 y8;generalize z4:t.ents.length=en at*;generalize z6:t.q.length=qn at*;generalize z2:wl.length=bn at*;generalize a1:t.ph=ph at*;have a0:=aA z4;have a2:=aA z6;have z9:=aA z2;have a6:en<=1000000:=by omega
 have HB:Hid (∀ wx,Only [] w wx->wx.cell? ⟨b,0,none⟩=some (.slice ea en ec)/\wx.cell? ⟨b,1,none⟩=some (.slice qa qn qc)/\wx.cell? ⟨b,4,none⟩=some (.slice ba bn bc)):=fun wx ho=>⟨ho.cell c0 (by simp),ho.cell c1 (by simp),ho.cell c4 (by simp)⟩;clear ht hr z5 z7 z3 z4 z6 z2;go_in;go_upto_region 4 with fail;have y7:Hid (Row (w.alloc (.cells #[.slice ea en ec,.slice qa qn qc,.int .i64 (ph:Int),.int .i64 (nx:Int),.slice ba bn bc] 52)) w.heap.size 52 [.slice ea en ec,.slice qa qn qc,.int .i64 (ph:Int),.int .i64 (nx:Int),.slice ba bn bc]):=Row.new w _ [_,_,_,_,_];have h7:Hid (Only [] w (w.alloc (.cells #[.slice ea en ec,.slice qa qn qc,.int .i64 (ph:Int),.int .i64 (nx:Int),.slice ba bn bc] 52))):=(Only.refl [] w).alloc _;have x4:Hid (w.heap.size<(w.alloc (.cells #[.slice ea en ec,.slice qa qn qc,.int .i64 (ph:Int),.int .i64 (nx:Int),.slice ba bn bc] 52)).heap.size):=by show _<_;simp
 generalize (w.alloc (.cells #[.slice ea en ec,.slice qa qn qc,.int .i64 (ph:Int),.int .i64 (nx:Int),.slice ba bn bc] 52))=w6 at*;obtain ⟨y,hy⟩:∃ z,z=w.heap.size:=⟨_,rfl⟩;have HY:=aA hy;rw [<-hy] at y7 x4 z8 ⊢;clear c0 c1 c2 c3 c4 hy;obtain ⟨yA,_,_⟩:=HB.out (w6.alloc (.cells #[] 48)) (h7.out.alloc _);go_wp2_with (at_builtin;refine aEe rfl _ _ rfl w6 ((Only.refl _ _).alloc _) _ rfl (iO.made _ _) ea en ec t.ents rfl a0.out ?q1 a6 ?q2)
 case q1=>exact y4.out.only h7.out (by simp)
 case q2=>
  intro g1 d w7 k1 k2;clear yA;have x9:=k1.out.own g1 rfl;have h5:=k2.out.row y7.out (by simp);have b0:=h5.cell 0 rfl;have b1:=h5.free 0;have x3:Hid (Row (w7.setCell ⟨y,0,none⟩ (.slice (some ⟨g1,0,none⟩) en d)) y 52 [.slice (some ⟨g1,0,none⟩) en d,.slice qa qn qc,.int .i64 (ph:Int),.int .i64 (nx:Int),.slice ba bn bc]):=h5.set 0 _;have x5:Only [y] w7 (w7.setCell ⟨y,0,none⟩ (.slice (some ⟨g1,0,none⟩) en d)):=(Only.refl _ _).set (p:=⟨y,0,none⟩) (.inl (by simp)) _;have h4:Hid (Only [] w (w7.setCell ⟨y,0,none⟩ (.slice (some ⟨g1,0,none⟩) en d))):=(h7.out.trans k2.out (by simp)).set (p:=⟨y,0,none⟩) (.inr (by rw [HY.out];exact Nat.le_refl _)) _;have E8:Hid (iO (w7.setCell ⟨y,0,none⟩ (.slice (some ⟨g1,0,none⟩) en d)) 48 w6.heap.size (.slice (some ⟨g1,0,none⟩) en d) t.ents):=k1.out.only x5 (fun k hk=>by cases hk;have:=x4.out;simp;omega);have h3:Hid (w6.heap.size<=g1/\g1<(w7.setCell ⟨y,0,none⟩ (.slice (some ⟨g1,0,none⟩) en d)).heap.size/\y<w6.heap.size):=⟨x9.1,Nat.lt_of_lt_of_le x9.2 x5.size,x4.out⟩;clear k1 k2 x9 x5 h5;go_upto_region 5 with fail;generalize w7.setCell ⟨y,0,none⟩ (.slice (some ⟨g1,0,none⟩) en d)=w8 at*;clear b0 b1;obtain ⟨_,yA,_⟩:=HB.out (w8.alloc (.cells #[] 3)) (h4.out.alloc _);go_wp2_with (at_builtin;refine gQ rfl _ _ rfl w8 ((Only.refl _ _).alloc _) _ rfl (aK.made _) qa qn qc t.q rfl a2.out ?q3 hq ?q4)
  case q3=>exact (y6.out.only h4.out (by simp)).read
  case q4=>
   intro g2 h0 w9 k1 k2;clear yA;have x2:=k1.out.own g2 rfl;have h6:=k2.out.row x3.out (by simp);have b3:=h6.cell 1 rfl;have b4:=h6.free 1;have a8:y<w8.heap.size:=x3.out.lt;have x8:Hid (Row (w9.setCell ⟨y,1,none⟩ (.slice (some ⟨g2,0,none⟩) qn h0)) y 52 [.slice (some ⟨g1,0,none⟩) en d,.slice (some ⟨g2,0,none⟩) qn h0,.int .i64 (ph:Int),.int .i64 (nx:Int),.slice ba bn bc]):=h6.set 1 _;have x7:Only [y] w9 (w9.setCell ⟨y,1,none⟩ (.slice (some ⟨g2,0,none⟩) qn h0)):=(Only.refl _ _).set (p:=⟨y,1,none⟩) (.inl (by simp)) _;have h8:Hid (Only [] w (w9.setCell ⟨y,1,none⟩ (.slice (some ⟨g2,0,none⟩) qn h0))):=(h4.out.trans k2.out (by simp)).set (p:=⟨y,1,none⟩) (.inr (by rw [HY.out];exact Nat.le_refl _)) _;have y2:Hid (iO (w9.setCell ⟨y,1,none⟩ (.slice (some ⟨g2,0,none⟩) qn h0)) 48 w6.heap.size (.slice (some ⟨g1,0,none⟩) en d) t.ents):=(E8.out.only k2.out (by simp)).only x7 (fun k hk=>by cases hk;have:=h3.out;simp;omega);have x6:Hid (aK (w9.setCell ⟨y,1,none⟩ (.slice (some ⟨g2,0,none⟩) qn h0)) w8.heap.size (.slice (some ⟨g2,0,none⟩) qn h0) t.q):=k1.out.only x7 (fun k hk=>by cases hk;simp;omega);have y5:Hid (w6.heap.size<=g1/\g1<w8.heap.size/\w8.heap.size<=g2/\y<w6.heap.size):=⟨h3.out.1,h3.out.2.1,x2.1,h3.out.2.2⟩;clear k1 k2 x2 x7 h6 a8 h3 E8 h4 x3;go_upto_region 6 with fail;generalize w9.setCell ⟨y,1,none⟩ (.slice (some ⟨g2,0,none⟩) qn h0)=y0 at*;clear b3 b4;obtain ⟨_,_,yA⟩:=HB.out (y0.alloc (.cells #[] 4)) (h8.out.alloc _);go_wp2_with (at_builtin;refine wV rfl _ _ rfl y0 ((Only.refl _ _).alloc _) _ rfl (Bls.made _) ba bn bc wl rfl z9.out ?q5 a7 ?q6)
   case q5=>exact y8.out.aQG.only h8.out
   case q6=>
    intro g3 h1 h2 k1 k2;clear yA;have a5:=k1.out.own g3 rfl;have x1:=k2.out.row x8.out (by simp);have b7:=x1.cell 4 rfl;have b8:=x1.free 4;have a3:y<y0.heap.size:=x8.out.lt;have z1:Row (h2.setCell ⟨y,4,none⟩ (.slice (some ⟨g3,0,none⟩) bn h1)) y 52 [.slice (some ⟨g1,0,none⟩) en d,.slice (some ⟨g2,0,none⟩) qn h0,.int .i64 (ph:Int),.int .i64 (nx:Int),.slice (some ⟨g3,0,none⟩) bn h1]:=x1.set 4 _;have h9:Only [y] h2 (h2.setCell ⟨y,4,none⟩ (.slice (some ⟨g3,0,none⟩) bn h1)):=(Only.refl _ _).set (p:=⟨y,4,none⟩) (.inl (by simp)) _;have z0:Only [] w (h2.setCell ⟨y,4,none⟩ (.slice (some ⟨g3,0,none⟩) bn h1)):=(h8.out.trans k2.out (by simp)).set (p:=⟨y,4,none⟩) (.inr (by rw [HY.out];exact Nat.le_refl _)) _;have a4:=y5.out;have y3:=(y2.out.only k2.out (by simp)).only h9 (fun k hk=>by cases hk;simp;omega);have y9:=(x6.out.only k2.out (by simp)).only h9 (fun k hk=>by cases hk;simp;omega);have y1:=k1.out.only h9 (fun k hk=>by cases hk;simp;omega);have b6:w.heap.size<=w6.heap.size:=h7.out.size;have b5:w.heap.size<=w8.heap.size:=by omega
    have x2:=x6.out.own g2 rfl;have a9:=HY.out;have hT:kU (h2.setCell ⟨y,4,none⟩ (.slice (some ⟨g3,0,none⟩) bn h1)) y (.slice (some ⟨g1,0,none⟩) en d) (.slice (some ⟨g2,0,none⟩) qn h0) (.slice (some ⟨g3,0,none⟩) bn h1) nx wl t:=by
     refine ⟨⟨_,by rw [a1];exact z1⟩,y3.low (Nat.zero_le _),y9.base (Nat.zero_le _),y1.base (Nat.zero_le _),HT.out.now,HT.out.two,fun g hg=>?_,fun g hg=>?_,fun e=>?_⟩
     ·have e1:g1=g:=by simpa [Value.ownBlock] using hg
      exact ⟨by omega,fun e=>by have e3:g3=g:=(by simpa [Value.ownBlock] using e);omega,fun e=>by have e3:g2=g:=(by simpa [Value.ownBlock] using e);omega⟩
     ·have e1:g2=g:=by simpa [Value.ownBlock] using hg
      exact ⟨by omega,fun e=>by have e3:g3=g:=(by simpa [Value.ownBlock] using e);omega⟩
     have e3:g3=y:=by simpa [Value.ownBlock] using e
     omega
    have HE:Hid (aGo w (h2.setCell ⟨y,4,none⟩ (.slice (some ⟨g3,0,none⟩) bn h1)) (TrA y t)):=by
     refine ⟨z0,fun k=>k=y\/(Value.slice (some ⟨g1,0,none⟩) en d).ownBlock=some k\/(Value.slice (some ⟨g2,0,none⟩) qn h0).ownBlock=some k\/(Value.slice (some ⟨g3,0,none⟩) bn h1).ownBlock=some k,⟨_,_,_,_,_,hT,fun k=>Iff.rfl⟩,fun k hk=>?_⟩;rcases hk with hk|hk|hk|hk
     ·omega
     ·have e1:g1=k:=by simpa [Value.ownBlock] using hk
      omega
     ·have e1:g2=k:=by simpa [Value.ownBlock] using hk
      omega
     have e1:g3=k:=by simpa [Value.ownBlock] using hk
     omega
    clear k1 k2 a5 x1 a3 z1 h9 z0 y3 y9 y1 a4 x2 y5 x8 h8 y2 x6 hT a9;go_wp2;exact hR.out _ _ ⟨y,rfl,HE.out⟩
def aFj (w0:World) (l:List Asn) (b:Nat) (r:Int×Int×Co) (e:Ending) (w':World):Prop:=e=.returned (.tuple #[.int .i64 r.1,.int .i64 r.2.1])/\∃ y:GX5,y.ok r.2.2/\Fam w0 w' (G5 b r.2.2 y ++ l)
section
variable {w0 w w':World} {l:List Asn} {b:Nat} {c:Co} {x:GX5} {i:Nat} {m:Mk} {t:Tb}
theorem aMP (w:World) (y:Fam w0 w (G5 b c x ++ l)) (hx:x.ok c) (z:c.ph=0):Calls prog 95 #[.pointer (some ⟨b,0,none⟩)] w (aFj w0 l b c.step):=by
 refine aF fun R d=>?_;rw [Co.mX z] at d;have x3:=(bF.cells y).2.2.2.1;rw [z] at x3;have HE:Hid (∃ e:GX5,e.ok c/\Fam w0 w (G5 b c e ++ l)):=⟨x,hx,y⟩;clear y hx z;go_in;go_wp2;exact d.out _ _ ⟨rfl,HE.out⟩
theorem aDy (w:World) (y:Fam w0 w (G5 b c x ++ l)) (z:x.on=true):Calls prog 71 #[.pointer (some ⟨x.r,0,none⟩)] w (aO w (.bool (decide (c.m.list=[])))):=jX w (G5.t2 (b:=b) (c:=c) (x:=x) (l:=l)) (G5.toR z y)
theorem aKx (w:World) (d:Fam w0 w (G5 b c x ++ l)) (hx:x.ok c) (h:c.Okc) (hp:c.ph=1) (hl:¬ c.m.list=[]):Calls prog 95 #[.pointer (some ⟨b,0,none⟩)] w (aFj w0 l b c.step):=by
 refine aF fun R hR=>?_;have h0:=bF.cells d;have x3:=h0.2.2.2.1;rw [hp] at x3;have h1:c.step=(c.mark.1,0,c.mark.2):=by
  unfold Co.step;rw [if_neg (show ¬ c.ph=0 by omega),if_pos hp,if_neg hl]
 rw [h1] at hR;have HR:Hid (∀ e w',pG w0 l b c.mark e w'->∃ v,e=.returned v/\R (.returned (.tuple #[v,.int .i64 0])) w'):=fun e w' ⟨he,x',hx',hf'⟩=>⟨_,he,hR.out _ _ ⟨rfl,x',hx',hf'⟩⟩;have cd:=aDu w d hx h (.inl hp);have z:x.on=true:=hx.on.trans (bQ.2 (.inl hp));have y:=aDy w d z;rw [decide_eq_false hl] at y;have x2:=G5.m2 z d;clear d hx h hp hR h1 h0 z hl;go_in;go_wp2_with fail;refine y.mono ?_;rintro e _ ⟨rfl,rfl⟩;clear y;go_wp2_with fail;refine cd.mono ?_;rintro e w2 hd;obtain ⟨v,rfl,hv⟩:=HR.out e w2 hd;have HV:=aA hv;clear hd hv cd;go_wp2_with fail;exact HV.out
theorem aMO (w:World) (hf:Fam w0 w (G5 b c x ++ l)) (hx:x.ok c) (h:c.Okc) (d:c.ph=2):Calls prog 95 #[.pointer (some ⟨b,0,none⟩)] w (aFj w0 l b c.step):=by
 refine aF fun R hR=>?_;have y:=bF.cells hf;have x3:=y.2.2.2.1;rw [d] at x3;have z:c.step=(c.refs.1,0,c.refs.2):=by
  unfold Co.step;rw [if_neg (show ¬ c.ph=0 by omega),if_neg (show ¬ c.ph=1 by omega),if_pos d]
 rw [z] at hR;have HR:Hid (∀ e w',pG w0 l b c.refs e w'->∃ v,e=.returned v/\R (.returned (.tuple #[v,.int .i64 0])) w'):=fun e w' ⟨he,x',hx',hf'⟩=>⟨_,he,hR.out _ _ ⟨rfl,x',hx',hf'⟩⟩;have cd:=aKj w hf hx h d;clear hf hx h d hR z y;go_in;go_wp2_with fail;refine cd.mono ?_;rintro e w2 hd;obtain ⟨v,rfl,hv⟩:=HR.out e w2 hd;have HV:=aA hv;clear hd hv cd;go_wp2_with fail;exact HV.out
theorem aMN (w:World) (hf:Fam w0 w (G5 b c x ++ l)) (hx:x.ok c) (h:c.Okc) (d:c.ph=3):Calls prog 95 #[.pointer (some ⟨b,0,none⟩)] w (aFj w0 l b c.step):=by
 refine aF fun R hR=>?_;have y:=bF.cells hf;have x3:=y.2.2.2.1;rw [d] at x3;have z:c.step=(c.free.1,0,c.free.2):=by
  unfold Co.step;rw [if_neg (show ¬ c.ph=0 by omega),if_neg (show ¬ c.ph=1 by omega),if_neg (show ¬ c.ph=2 by omega),if_pos d]
 rw [z] at hR;have HR:Hid (∀ e w',pG w0 l b c.free e w'->∃ v,e=.returned v/\R (.returned (.tuple #[v,.int .i64 0])) w'):=fun e w' ⟨he,x',hx',hf'⟩=>⟨_,he,hR.out _ _ ⟨rfl,x',hx',hf'⟩⟩;have cd:=aKt w hf hx h d;clear hf hx h d hR z y;go_in;go_wp2_with fail;refine cd.mono ?_;rintro e w2 hd;obtain ⟨v,rfl,hv⟩:=HR.out e w2 hd;have HV:=aA hv;clear hd hv cd;go_wp2_with fail;exact HV.out
theorem aMM (w:World) (hf:Fam w0 w (G5 b c x ++ l)) (hx:x.ok c) (h:c.Okc) (hp:c.ph=4):Calls prog 95 #[.pointer (some ⟨b,0,none⟩)] w (aFj w0 l b c.step):=by
 refine aF fun R d=>?_;have y:=bF.cells hf;have x3:=y.2.2.2.1;rw [hp] at x3;have z:c.step=(c.move.1,0,c.move.2):=by
  unfold Co.step;rw [if_neg (show ¬ c.ph=0 by omega),if_neg (show ¬ c.ph=1 by omega),if_neg (show ¬ c.ph=2 by omega),if_neg (show ¬ c.ph=3 by omega)]
 rw [z] at d;have HR:Hid (∀ e w',pG w0 l b c.move e w'->∃ v,e=.returned v/\R (.returned (.tuple #[v,.int .i64 0])) w'):=fun e w' ⟨he,x',hx',hf'⟩=>⟨_,he,d.out _ _ ⟨rfl,x',hx',hf'⟩⟩;have cd:=aOV w hf hx h hp;clear hf hx h hp d z y;go_in;go_wp2_with fail;refine cd.mono ?_;rintro e w2 hd;obtain ⟨v,rfl,hv⟩:=HR.out e w2 hd;have HV:=aA hv;clear hd hv cd;go_wp2_with fail;exact HV.out
theorem aEM (w:World) (z:Fam w0 w (G5 b c x ++ l)) (y:x.on=true) (h:c.Okc):Calls prog 21 #[.pointer (some ⟨x.ub,0,none⟩),.pointer (some ⟨x.r,0,none⟩)] w (fun e w'=>e=.returned (.int .i64 (c.t.begin c.m).1)/\Fam w0 w' (G5 b (c.dZ (c.t.begin c.m).2) x ++ l)):=by
 have:=aEq w (G5.t3 (b:=b) (c:=c) (x:=x) (l:=l)) (G5.toQ y z) h.tg;rw [G5.ql y] at this;exact this
theorem aKy (w:World) (hf:Fam w0 w (G5 b c x ++ l)) (hx:x.ok c) (h:c.Okc) (hp:c.ph=1) (hl:c.m.list=[]):Calls prog 95 #[.pointer (some ⟨b,0,none⟩)] w (aFj w0 l b c.step):=by
 refine aF fun R hR=>?_;have x3:=(bF.cells hf).2.2.2.1;rw [hp] at x3;have h1:c.step=(1,0,c.iL.2):=by
  unfold Co.step;rw [if_neg (show ¬ c.ph=0 by omega),if_pos hp,if_pos hl];rfl
 rw [h1] at hR;have y:x.on=true:=hx.on.trans (bQ.2 (.inl hp));have z:=aA y;have d:=aDy w hf y;rw [decide_eq_true hl] at d;have x2:=G5.m2 y hf;have F0:=aA hf;have h0:x.mv=0:=hx.m0 (by omega) (by omega);have HR:Hid (∀ w',Fam w0 w' (G5 b c.iL.2 x ++ l)->R (.returned (.tuple #[.int .i64 1,.int .i64 0])) w'):=fun w' h2=>hR.out _ _ ⟨rfl,x,⟨by rw [y];symm;exact aKX (c:=c.iL.2) rfl,fun e=>by (cases e),fun _ _=>h0,hx.mv2⟩,h2⟩;have HC:Hid (∀ wx,Fam w0 wx (G5 b c x ++ l)->Calls prog 21 #[.pointer (some ⟨x.ub,0,none⟩),.pointer (some ⟨x.r,0,none⟩)] wx (fun e w'=>e=.returned (.int .i64 (c.t.begin c.m).1)/\Fam w0 w' (G5 b (c.dZ (c.t.begin c.m).2) x ++ l))):=fun wx hwx=>aEM wx hwx y h;clear hf hx h hp hR h1 y hl h0;go_in;go_wp2_with fail;refine d.mono ?_;rintro e _ ⟨rfl,rfl⟩;clear d;generalize (c.t.begin c.m).1=be at*;go_upto_region 9 with fail;go_region_held3 (fun w'=>w'.cell? ⟨b,1,none⟩=some (.pointer (some ⟨x.ub,0,none⟩))/\w'.cell? ⟨b,2,none⟩=some (.pointer (some ⟨x.r,0,none⟩)))
  (first|(exact G5.p12 z.out F0.out.drew)|(exact G5.p12 z.out F0.out)|(exact G5.p12 z.out f3))
  (first|(go_at_call 21;refine (HC.out _ F0.out.drew).mono ?_;rintro e w3 ⟨rfl,f3⟩))
 have F3:=aA f3;have y3:=(bF.cells f3).2.2.2.1;have h3:=(bF.cells f3).2.2.2.2.2.2.2.2.2 3;have F4:Hid (Fam w0 (w3.setCell ⟨b,3,none⟩ (.int .i64 2)) (G5 b c.iL.2 x ++ l)):=G5.sZ f3 2;clear f3 HC F0 x2 x3;go_wp2_with fail;exact HR.out _ F4.out
theorem oQ (w:World) (z:Fam w0 w (G5 b c x ++ l)) (hx:x.ok c) (h:c.Okc):Calls prog 95 #[.pointer (some ⟨b,0,none⟩)] w (aFj w0 l b c.step):=by
 have h4:=h.p4;have e:c.ph=0\/c.ph=1\/c.ph=2\/c.ph=3\/c.ph=4:=by omega
 rcases e with y|y|y|y|y
 ·exact aMP w z hx y
 ·by_cases d:c.m.list=[]
  ·exact aKy w z hx h y d
  exact aKx w z hx h y d
 ·exact aMO w z hx h y
 ·exact aMN w z hx h y
 exact aMM w z hx h y
end
end Go.Proofs.YthflghdaejbdkaaGreat
