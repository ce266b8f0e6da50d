/- Lemmas of this claim. -/
import Derived.Test.YthflghdaejbdkaaGreatXdMkG
import Derived.Test.YthflghdaejbdkaaGreatCloneLay
import Derived.Test.YthflghdaejbdkaaGreatXdRObjQ
import Derived.Deep.AppendLies
import Derived.Test.YthflghdaejbdkaaGreatXdTbGC
import Derived.Test.YthflghdaejbdkaaGreatXdCyGC
namespace Go.Proofs.YthflghdaejbdkaaGreat
open _root_.Go.Proofs.Tryz (prog)
open Go.RowKit Go.Maps Go.Shelf
set_option maxHeartbeats 12800000
set_option maxRecDepth 100000
set_option linter.unusedVariables false
theorem aGW (w:World) (mb:Nat) (col:Int->Int) (h:yZ w mb col):Calls prog 186 #[.map (some mb)] w fun e w'=>e=.returned (.map (some w.heap.size))/\yZ w' w.heap.size col/\Only [] w w':=by
 obtain ⟨D,hD,h1,h2⟩:=h;have c:=AnyW.maps_Clone_owns Tryz.cloneC 3 (plainElem (H:=Unit) prog 3) mb 192 D w hD;change Calls prog 186 _ _ _ at c;exact c.mono fun e w' ⟨he,ho,_,hb⟩=>⟨he,⟨D,ho,h1,h2⟩,⟨hb.os,hb.tape,hb.output,hb.size,fun k hk _=>hb.block k hk⟩⟩
section
variable {w0 w:World} {l:List Asn} {i j hb p q r:Nat} {m:Mk}
theorem aGf (w:World) (T2:fZ l i j) (hf:Fam w0 w (ML l i j hb p m)) (hm:m.list.length<=192):Calls prog 108 #[.pointer (some ⟨p,0,none⟩)] w (fun e w'=>∃ q2 p2,e=.returned (.pointer (some ⟨p2,0,none⟩))/\Fam w0 w' (ML l i j hb p m ++ [PH q2 m.M] ++ [MkA p2 q2 m.col m.list])):=by
 refine aF fun R hR=>?_;have HF:=aA hf;obtain ⟨hk,L,X,hp⟩:=ML.ph T2 hf;have HKF:=aA (hf.phF i (ML.heap T2));obtain ⟨mb,v,hg⟩:=ML.mk T2 hf;have HC1:Hid (∀ wx,Only [] w wx->Calls prog 128 #[.pointer (some ⟨hb,0,none⟩)] wx (fun e w'=>∃ q L' X',e=.returned (.pointer (some ⟨q,0,none⟩))/\dH w' L' q m.M X'/\(∀ k,L' k≠none->wx.heap.size<=k)/\Only [] wx w')):=fun wx ho=>by
  have c:=aCw wx (hp.aN ho) hk;exact c
 have HC2:Hid (∀ wx,Only [] w wx->Calls prog 186 #[.map (some mb)] wx (fun e w'=>e=.returned (.map (some wx.heap.size))/\yZ w' wx.heap.size m.col/\Only [] wx w')):=fun wx ho=>aGW wx mb m.col (hg.map.qH ho (by simp));have HC3:Hid (∀ wx,Only [] w wx->Calls prog 80 #[v] wx (fun e w'=>∃ v',e=.returned v'/\aO w' wx.heap.size v' m.list/\Only [] wx w')):=fun wx ho=>oC wx v m.list (hg.ints.only ho (by simp)) (by have:=hm;omega);obtain ⟨z0,z1,z2,_⟩:=hg.cells;have hn:=eU w z0;have d0:w.drew.cell? ⟨p,0,none⟩=_:=z0;have d1:w.drew.cell? ⟨p,1,none⟩=_:=z1;have d2:w.drew.cell? ⟨p,2,none⟩=_:=z2;obtain ⟨ga,gc,hv⟩:=hg.ints.len;subst hv;generalize m.list.length=n at*;have D0:=aA (aIk w);clear hf hk hp hg;go_in;go_wp2_with fail;refine hn.mono ?_;rintro e _ ⟨rfl,rfl⟩;clear hn;go_wp2_with fail;go_region_held3 (fun w'=>w'.cell? ⟨p,0,none⟩=some (.pointer (some ⟨hb,0,none⟩))/\w'.cell? ⟨p,1,none⟩=some (.map (some mb))/\w'.cell? ⟨p,2,none⟩=some (.slice ga n gc))
  (first
   | (exact ⟨d0,d1,d2⟩)
   | (exact ⟨hoA.aQ d0,hoA.aQ d1,hoA.aQ d2⟩)
   | (exact ⟨hoB.aQ d0,hoB.aQ d1,hoB.aQ d2⟩)
   | (exact ⟨hoC.aQ d0,hoC.aQ d1,hoC.aQ d2⟩)
   | (exact ⟨hoB.aQ (hoA.aQ d0),hoB.aQ (hoA.aQ d1),hoB.aQ (hoA.aQ d2)⟩)
   | (exact ⟨hoC.aQ (hoB.aQ (hoA.aQ d0)),hoC.aQ (hoB.aQ (hoA.aQ d1)),hoC.aQ (hoB.aQ (hoA.aQ d2))⟩)
   | (exact ⟨(hoC.alloc _).aQ (hoB.aQ (hoA.aQ d0)),(hoC.alloc _).aQ (hoB.aQ (hoA.aQ d1)),(hoC.alloc _).aQ (hoB.aQ (hoA.aQ d2))⟩))
  (first
   | (go_at_call 128;refine (HC1.out _ D0.out).mono ?_;rintro e wA ⟨q2,L2,X2,rfl,hpA,hLA,hoA⟩)
   | (go_at_call 186;refine (HC2.out _ (D0.out.trans hoA (by simp))).mono ?_;rintro e wB ⟨rfl,hmB,hoB⟩)
   | (go_at_call 80;refine (HC3.out _ ((D0.out.trans hoA (by simp)).trans hoB (by simp))).mono ?_;rintro e wC ⟨v2,rfl,hiC,hoC⟩;obtain ⟨va2,vc2,hv2⟩:=hiC.len;subst hv2)
)
 have hFA:Fam w0 wA (ML l i j hb p m ++ [PH q2 m.M]):=HF.out.drew.add (aMN hpA HKF.out hLA hoA);have hBC:Only [] wB ((wC.alloc (.cells #[.pointer (some ⟨q2,0,none⟩),.map (some wA.heap.size),.slice va2 m.list.length vc2] 129))):=hoC.alloc _;have hsB:=hoB.size;have hsC:=hoC.size;have aPx:=hmB.lt;have hborn:aFq wA (wC.alloc (.cells #[.pointer (some ⟨q2,0,none⟩),.map (some wA.heap.size),.slice va2 m.list.length vc2] 129)) (MkA wC.heap.size q2 m.col m.list):=by
  refine ⟨hoB.trans hBC (by simp),fun k=>k=wC.heap.size\/k=wA.heap.size\/(Value.slice va2 m.list.length vc2).ownBlock=some k,⟨wA.heap.size,.slice va2 m.list.length vc2,⟨⟨129,Row.new wC 129 [_,_,_]⟩,hmB.qH hBC (by simp),(hiC.base (Nat.zero_le _)).alloc _,by omega,fun g hg=>?_⟩,fun k=>Iff.rfl⟩,fun k hk=>?_⟩
  ·have:=hiC.own g hg;exact ⟨by omega,by omega⟩
  rcases hk with hk|hk|hk
  ·omega
  ·omega
  have:=hiC.own k hk;omega
 have HFE:=aA (hFA.add hborn);clear hFA hBC hborn aPx hsB hsC hpA hLA hoA hmB hoB hiC hoC d0 d1 d2;go_wp2_with fail;exact hR.out _ _ ⟨q2,wC.heap.size,rfl,HFE.out⟩
theorem aBG {ops:Array Oper} {o:Oper} {ac:Act} {wl:World} {K:Act->World->Prop} {Q:Exit->Act->World->Prop} {E:Prop} (hgd:o.guard=none) (s x:Operand)
  (ho:o.op=.call { callee:=.builtin .append,args:=#[s,x],argTypes:=#[23,23] }) (w0:World) (hO:Only [] w0 wl)
  (hs:ac.eval s=.slice none 0 0) (va:Option Addr) (n vc:Nat) (l:List Int) (hx:ac.eval x=.slice va n vc) (hl:l.length=n) (hv:aO w0 0 (.slice va n vc) l) (hb:n<=1000000)
  (h:∀ v' w',Hid (aO w' wl.heap.size v' l)->Hid (Only [] wl w')->K (ac.put o.dst v') w') :
  if Region.wanted o (yielded ops ac.tmps)=true then Oper.wp prog o ac wl K Q else E:=by
 obtain ⟨i0,hi0,hz0,hz1,hz2⟩:=info_parts jR
 by_cases h0:n=0
 ·subst h0;have hnil:l=[]:=List.eq_nil_of_length_eq_zero hl;subst hnil;have hw:Region.wanted o (yielded ops ac.tmps)=true:=by simp [Region.wanted,hgd]
  rw [if_pos hw];have hsrc:Src prog i0.size 23 (.slice va 0 vc) 0 [] wl:=by
   cases va with
   | none=>exact Src.ofNil wl Tryz.underlying23 vc
   | some a=>exact Src.ofSlice wl Tryz.underlying23 a 0 vc [] (by simp) (fun j u hu=>by simp at hu) (fun u hu=>by simp at hu)
  have hr:=run_append_nothing (P:=prog) wl 23 23 o.type 3 i0 Tryz.underlying23 hi0 none 0 0 (Nat.le_refl _) (.slice va 0 vc) hsrc;unfold Oper.wp execOp;simp only [ho,resolve,invoke,builtin,Sem.run_bind,Sem.run_pure,Result.andThen_ok,List.map_toArray,List.map_cons,List.map_nil,hs,hx,hr];exact h (.slice none 0 0) wl (aO.nil _ _) (Only.refl _ _)
 have hn0:0<n:=by omega
 rcases hv.form with ⟨h1,_⟩|⟨g,cap,h1,_,_,_,hc⟩
 ·simp only [Value.slice.injEq] at h1;omega
 simp only [Value.slice.injEq] at h1;obtain ⟨rfl,_,rfl⟩:=h1;refine step_append_lies (P:=prog) _ hgd s x 23 ho wl.heap.size 3 i0 (.int .i64 0) 1 8 Tryz.underlying23 hi0 hz0 hz1 hz2 rfl (by omega) (.slice none 0 0) 0 [] hs (aO.nil wl wl.heap.size) ⟨g,0,none⟩ n vc (l.map (Value.int .i64)) hx (by simp [hl]) (fun j u hu=>?_) (fun u hu=>?_) hn0 (by simp only [maxLen];omega) (by omega) (Nat.le_refl _) wl.heap.size rfl ?_
 ·simp only [List.getElem?_map,Option.map_eq_some_iff] at hu;obtain ⟨y,hy,rfl⟩:=hu;have hj:=(List.getElem?_eq_some_iff.1 hy).1;have h1:=hO.cell (hc j hj) (by simp);rw [gI,hy] at h1;rw [show (⟨g,0,none⟩:Addr).add j=⟨g,j,none⟩ by unfold Addr.add;split<;>simp_all]
  exact h1
 ·simp only [List.mem_map] at hu;obtain ⟨y,_,rfl⟩:=hu;rfl
 intro g2 cap2 w' k1 k2 k3 k4;rw [Nat.zero_add] at k1 ⊢;refine h _ w' ?_ ((Only.refl [] wl).grown k2 (fun k hk=>by cases hk));show aO _ _ _ _;unfold aO;rw [hl];exact k1
theorem aGC (w:World) (T2:fZ l i j) (hf:Fam w0 w (RL l i j q r m)) (hm:m.Ok):Calls prog 110 #[.pointer (some ⟨r,0,none⟩)] w (fun e w'=>∃ q2 r2,e=.returned (.pointer (some ⟨r2,0,none⟩))/\Fam w0 w' (RL l i j q r m ++ [GH q2 m.M] ++ [GkA r2 q2 m.col m.list])):=by
 refine aF fun R hR=>?_;have HF:=aA hf;obtain ⟨hk,L,X,hp⟩:=RL.gh T2 hf;have HK:=aA hk;obtain ⟨tg,tc,v,T,hg⟩:=RL.mk T2 hf;have HC1:Hid (∀ wx,Only [] w wx->Calls prog 111 #[.pointer (some ⟨q,0,none⟩)] wx (fun e w'=>∃ q L' X',e=.returned (.pointer (some ⟨q,0,none⟩))/\bF w' L' q m.M X'/\(∀ k,L' k≠none->wx.heap.size<=k)/\Only [] wx w')):=fun wx ho=>aCM wx (hp.aN ho) hk;obtain ⟨z0,z1,z2,_⟩:=hg.cells;have d0:w.drew.cell? ⟨r,0,none⟩=_:=z0;have d1:w.drew.cell? ⟨r,1,none⟩=_:=z1;have d2:w.drew.cell? ⟨r,2,none⟩=_:=z2;obtain ⟨ga,gc,hv⟩:=hg.ints.len;subst hv;have HTI:=aA hg.tint;have HTL:=aA hg.tl;have HTV:=aA hg.tv;have HLI:Hid (aO w 0 (.slice ga m.list.length gc) m.list):=hg.ints;have HLE:=aA hm.len;generalize HNL:m.list.length=n at*;have HN:=aA HNL;have HNB:Hid (n<=1000000):=by have:=HLE.out;show _<=_;omega
 have D0:=aA (aIk w);clear hf hk hp hg HNL;go_in;go_wp2_with fail;go_region_held3 (fun w'=>w'.cell? ⟨r,0,none⟩=some (.pointer (some ⟨q,0,none⟩))/\w'.cell? ⟨r,1,none⟩=some (.slice (some ⟨tg,0,none⟩) 193 tc)/\w'.cell? ⟨r,2,none⟩=some (.slice ga n gc))
  (first
   | (exact ⟨d0,d1,d2⟩)
   | (exact ⟨hoA.aQ d0,hoA.aQ d1,hoA.aQ d2⟩)
   | (exact ⟨hoB.out.aQ (hoA.aQ d0),hoB.out.aQ (hoA.aQ d1),hoB.out.aQ (hoA.aQ d2)⟩)
   | (exact ⟨hoC.out.aQ (hoB.out.aQ (hoA.aQ d0)),hoC.out.aQ (hoB.out.aQ (hoA.aQ d1)),hoC.out.aQ (hoB.out.aQ (hoA.aQ d2))⟩)
   | (exact ⟨(hoC.out.alloc _).aQ (hoB.out.aQ (hoA.aQ d0)),(hoC.out.alloc _).aQ (hoB.out.aQ (hoA.aQ d1)),(hoC.out.alloc _).aQ (hoB.out.aQ (hoA.aQ d2))⟩))
  (first
   | (go_at_call 111;refine (HC1.out _ D0.out).mono ?_;rintro e wA ⟨q2,L2,X2,rfl,hpA,hLA,hoA⟩)
   | (refine aBG (by rfl) _ _ (by rfl) w (D0.out.trans hoA (by simp)) (by rfl) (some ⟨tg,0,none⟩) 193 tc T (by rfl) HTL.out HTI.out (by decide) ?_;intro vB wB hiB hoB;obtain ⟨aB,cB,hvB⟩:=hiB.out.len;subst hvB)
   | (refine aBG (by rfl) _ _ (by rfl) w ((D0.out.trans hoA (by simp)).trans hoB.out (by simp)) (by rfl) ga n gc m.list (by rfl) HN.out HLI.out HNB.out ?_;intro vC wC hiC hoC;obtain ⟨aC,cC,hvC⟩:=hiC.out.len;subst hvC))
 have hFA:Fam w0 wA (RL l i j q r m ++ [GH q2 m.M]):=HF.out.drew.add (aNr hpA HK.out hLA hoA);have hsB:=hoB.out.size;have hsC:=hoC.out.size;obtain ⟨gB,hgB,aSL,aSK⟩:∃ gB,aB=some ⟨gB,0,none⟩/\wA.heap.size<=gB/\gB<wB.heap.size:=by
  rcases hiB.out.form with ⟨_,e⟩|⟨g,cap,e,h1,h2,_⟩
  ·have:=HTL.out;rw [e] at this;cases this
  simp only [Value.slice.injEq] at e;exact ⟨g,e.1,h1,h2⟩
 subst hgB;have hBF:Only [] wB (wC.alloc (.cells #[.pointer (some ⟨q2,0,none⟩),.slice (some ⟨gB,0,none⟩) T.length cB,.slice aC m.list.length cC] 150)):=hoC.out.alloc _;have hborn:aFq wA (wC.alloc (.cells #[.pointer (some ⟨q2,0,none⟩),.slice (some ⟨gB,0,none⟩) T.length cB,.slice aC m.list.length cC] 150)) (GkA wC.heap.size q2 m.col m.list):=by
  refine ⟨hoB.out.trans hBF (by simp),fun k=>k=wC.heap.size\/k=gB\/(Value.slice aC m.list.length cC).ownBlock=some k,⟨gB,cB,.slice aC m.list.length cC,T,⟨⟨150,?_⟩,?_,HTL.out,HTV.out,(hiC.out.base (Nat.zero_le _)).alloc _,by omega,fun g hg=>?_⟩,fun k=>Iff.rfl⟩,fun k hk=>?_⟩
  ·have h7:=Row.new wC 150 [.pointer (some ⟨q2,0,none⟩),.slice (some ⟨gB,0,none⟩) T.length cB,.slice aC m.list.length cC];rw [HTL.out] at h7 ⊢;exact h7
  ·have h7:=(hiB.out.base (Nat.zero_le _)).only hBF (by simp);rw [HTL.out] at h7 ⊢;exact h7
  ·have:=hiC.out.own g hg;exact ⟨by omega,by omega⟩
  rcases hk with hk|hk|hk
  ·omega
  ·omega
  have:=hiC.out.own k hk;omega
 have HFE:=aA (hFA.add hborn);clear hFA hBF hborn hsB hsC hpA hLA hoA hiB hoB hiC hoC d0 d1 d2 aSL aSK;go_wp2_with fail;exact hR.out _ _ ⟨q2,wC.heap.size,rfl,HFE.out⟩
end
end Go.Proofs.YthflghdaejbdkaaGreat
namespace Go.Proofs.YthflghdaejbdkaaGreat
open _root_.Go.Proofs.Tryz (prog)
open Go.RowKit Go.Maps
set_option maxHeartbeats 6400000
set_option maxRecDepth 100000
set_option linter.unusedVariables false
theorem aDm {w:World} {ops:Array Oper} {rest:List Oper} {o:Oper} {a:Act} {Q:Exit->Act->World->Prop} (hgd:o.guard=none) (s x:Operand)
  (ho:o.op=.call { callee:=.builtin .append,args:=#[s,x],argTypes:=#[49,49] }) (w0:World) (hO:Only [] w0 w)
  (gs:Nat) (hs:a.eval s=.slice (some ⟨gs,0,none⟩) 0 0) (hown:iF w 48 w0.heap.size (.slice (some ⟨gs,0,none⟩) 0 0) []) (va:Option Addr) (n vc:Nat) (l:List En) (hx:a.eval x=.slice va n vc) (hl:l.length=n) (hv:iF w0 48 0 (.slice va n vc) l) (hb:n<=1000000)
  (h:∀ g cap w',Hid (iF w' 48 w0.heap.size (.slice (some ⟨g,0,none⟩) n cap) l)->Hid (Only [] w0 w')->wpList prog ops Q rest (a.put o.dst (.slice (some ⟨g,0,none⟩) n cap)) w'):wpList prog ops Q (o :: rest) a w:=by
 refine wpList_plain hgd fun K hK=>?_;obtain ⟨i0,hi0,hz0,hz1,hz2⟩:=info_parts aMl
 by_cases h0:n=0
 ·subst h0;have hnil:l=[]:=List.eq_nil_of_length_eq_zero hl;subst hnil;have hsrc:Src prog i0.size 49 (.slice va 0 vc) 0 [] w:=by
   cases va with
   | none=>exact Src.ofNil w Tryz.underlying49 vc
   | some a=>exact Src.ofSlice w Tryz.underlying49 a 0 vc [] (by simp) (fun j u hu=>by simp at hu) (fun u hu=>by simp at hu)
  have hr:=run_append_nothing (P:=prog) w 49 49 o.type 48 i0 Tryz.underlying49 hi0 (some ⟨gs,0,none⟩) 0 0 (Nat.le_refl _) (.slice va 0 vc) hsrc;unfold Oper.wp execOp;simp only [ho,resolve,invoke,builtin,Sem.run_bind,Sem.run_pure,Result.andThen_ok,List.map_toArray,List.map_cons,List.map_nil,hs,hx,hr];exact hK _ _ (h gs 0 w hown hO)
 obtain ⟨g,c,e1,_,hg,hlc⟩:=hv.form (fun e=>by rw [e] at hl;simp at hl;omega);have e2:va=some ⟨g,0,none⟩:=by simp only [Value.slice.injEq] at e1;exact e1.1
 subst e2;subst hl;refine wp_append_lies _ s x 49 ho w0.heap.size 48 i0 _ 3 24 Tryz.underlying49 hi0 hz0 hz1 hz2 rfl (by omega) _ 0 [] hs hown ⟨g,0,none⟩ l.length vc (dB l) hx (by rw [lJ]) (fun j u hu=>?_) (fun u hu=>?_) (by omega) (by simp only [maxLen];omega) (by omega) hO.size w.heap.size rfl ?_
 ·have hj:=(List.getElem?_eq_some_iff.1 hu).1;rw [lJ] at hj;have h1:=World.ownsRow.cellAt hv j hj;rw [dG,Nat.zero_add];exact hO.cell (h1.trans hu) (by simp)
 ·unfold dB at hu;rw [List.mem_flatMap] at hu;obtain ⟨e,_,hu⟩:=hu;simp only [enC,List.mem_cons,List.not_mem_nil,or_false] at hu;rcases hu with rfl|rfl|rfl<;>rfl
 intro g2 cap w' h1 h2 h3 h4;rw [Nat.zero_add] at h1 ⊢;refine hK _ _ (h g2 cap w' ?_ (hO.grown h2 (fun k hk=>.inr (hown.own k hk).1)));show iF _ _ _ _ _;exact h1
theorem iF.made (w:World) (T:Nat):iF (w.alloc (.cells #[] T)) T w.heap.size (.slice (some ⟨w.heap.size,0,none⟩) 0 0) []:=World.ownsRow_made w #[] 0 (Nat.le_refl _) (by simp [maxLen]) rfl
theorem zS (w:World) {b:Nat} {t:Tb} {ev qv wv:Value} {nx:Nat} {wl:List Bool} (ht:kN w b ev qv wv nx wl t) (hl:t.ents.length<=20) (hq:t.q.length<=1000000):Calls prog 19 #[.pointer (some ⟨b,0,none⟩)] w (fun e w'=>∃ b2,e=.returned (.pointer (some ⟨b2,0,none⟩))/\aFq w w' (TrA b2 t)):=by
 refine aF fun R hR=>?_;have HT:=aA ht;have hwl:wl.length<=1000000:=Nat.le_trans ht.two.1 (by omega);obtain ⟨U,hr⟩:=ht.row;have hblt:=hr.lt;have c0:=hr.cell 0 rfl;have c1:=hr.cell 1 rfl;have c2:=hr.cell 2 rfl;have c3:=hr.cell 3 rfl;have c4:=hr.cell 4 rfl;obtain ⟨ea,ec,hev⟩:=ht.ents.len;obtain ⟨qa,qc,hqv⟩:=ht.q.len;obtain ⟨ba,bc,hbv⟩:=ht.wh.len;have HEE:Hid (iF w 48 0 ev t.ents):=ht.ents;have HQQ:Hid (aO w 0 qv t.q):=ht.q;have HWW:Hid (Bls w 0 wv wl):=ht.wh;rw [hev] at c0 HEE;rw [hqv] at c1 HQQ;rw [hbv] at c4 HWW;generalize hen:t.ents.length=en at*;generalize hqn:t.q.length=qn at*;generalize hbn:wl.length=bn at*;generalize HPH:t.ph=ph at*;have HEN:=aA hen;have HQN:=aA hqn;have HBN:=aA hbn;have hl6:en<=1000000:=by omega
 have HB:Hid (∀ wx,Only [] w wx->wx.cell? ⟨b,0,none⟩=some (.slice ea en ec)/\wx.cell? ⟨b,1,none⟩=some (.slice qa qn qc)/\wx.cell? ⟨b,4,none⟩=some (.slice ba bn bc)):=fun wx ho=>⟨ho.cell c0 (by simp),ho.cell c1 (by simp),ho.cell c4 (by simp)⟩;clear ht hr hev hqv hbv hen hqn hbn;go_in;go_upto_region 4 with fail;have HR6:Hid (Row (w.alloc (.cells #[.slice ea en ec,.slice qa qn qc,.int .i64 (ph:Int),.int .i64 (nx:Int),.slice ba bn bc] 52)) w.heap.size 52 [.slice ea en ec,.slice qa qn qc,.int .i64 (ph:Int),.int .i64 (nx:Int),.slice ba bn bc]):=Row.new w _ [_,_,_,_,_];have QO6:Hid (Only [] w (w.alloc (.cells #[.slice ea en ec,.slice qa qn qc,.int .i64 (ph:Int),.int .i64 (nx:Int),.slice ba bn bc] 52))):=(Only.refl [] w).alloc _;have HS6:Hid (w.heap.size<(w.alloc (.cells #[.slice ea en ec,.slice qa qn qc,.int .i64 (ph:Int),.int .i64 (nx:Int),.slice ba bn bc] 52)).heap.size):=by show _<_;simp
 generalize (w.alloc (.cells #[.slice ea en ec,.slice qa qn qc,.int .i64 (ph:Int),.int .i64 (nx:Int),.slice ba bn bc] 52))=w6 at*;obtain ⟨y,hy⟩:∃ z,z=w.heap.size:=⟨_,rfl⟩;have HY:=aA hy;rw [<-hy] at HR6 HS6 hblt ⊢;clear c0 c1 c2 c3 c4 hy;obtain ⟨yA,_,_⟩:=HB.out (w6.alloc (.cells #[] 48)) (QO6.out.alloc _);go_wp2_with (at_builtin;refine aDm rfl _ _ rfl w6 ((Only.refl _ _).alloc _) _ rfl (iF.made _ _) ea en ec t.ents rfl HEN.out ?q1 hl6 ?q2)
 case q1=>exact HEE.out.only QO6.out (by simp)
 case q2=>
  intro g1 cap1 w7 k1 k2;clear yA;have hg1:=k1.out.own g1 rfl;have HR7:=k2.out.row HR6.out (by simp);have y0c:=HR7.cell 0 rfl;have y0f:=HR7.free 0;have HR8:Hid (Row (w7.setCell ⟨y,0,none⟩ (.slice (some ⟨g1,0,none⟩) en cap1)) y 52 [.slice (some ⟨g1,0,none⟩) en cap1,.slice qa qn qc,.int .i64 (ph:Int),.int .i64 (nx:Int),.slice ba bn bc]):=HR7.set 0 _;have HS8:Only [y] w7 (w7.setCell ⟨y,0,none⟩ (.slice (some ⟨g1,0,none⟩) en cap1)):=(Only.refl _ _).set (p:=⟨y,0,none⟩) (.inl (by simp)) _;have HO8:Hid (Only [] w (w7.setCell ⟨y,0,none⟩ (.slice (some ⟨g1,0,none⟩) en cap1))):=(QO6.out.trans k2.out (by simp)).set (p:=⟨y,0,none⟩) (.inr (by rw [HY.out];exact Nat.le_refl _)) _;have E8:Hid (iF (w7.setCell ⟨y,0,none⟩ (.slice (some ⟨g1,0,none⟩) en cap1)) 48 w6.heap.size (.slice (some ⟨g1,0,none⟩) en cap1) t.ents):=k1.out.only HS8 (fun k hk=>by cases hk;have:=HS6.out;simp;omega);have HG1:Hid (w6.heap.size<=g1/\g1<(w7.setCell ⟨y,0,none⟩ (.slice (some ⟨g1,0,none⟩) en cap1)).heap.size/\y<w6.heap.size):=⟨hg1.1,Nat.lt_of_lt_of_le hg1.2 HS8.size,HS6.out⟩;clear k1 k2 hg1 HS8 HR7;go_upto_region 5 with fail;generalize w7.setCell ⟨y,0,none⟩ (.slice (some ⟨g1,0,none⟩) en cap1)=w8 at*;clear y0c y0f;obtain ⟨_,yA,_⟩:=HB.out (w8.alloc (.cells #[] 3)) (HO8.out.alloc _);go_wp2_with (at_builtin;refine fQ rfl _ _ rfl w8 ((Only.refl _ _).alloc _) _ rfl (aO.made _) qa qn qc t.q rfl HQN.out ?q3 hq ?q4)
  case q3=>exact (HQQ.out.only HO8.out (by simp)).read
  case q4=>
   intro g2 cap2 w9 k1 k2;clear yA;have hg2:=k1.out.own g2 rfl;have HR9:=k2.out.row HR8.out (by simp);have y1c:=HR9.cell 1 rfl;have y1f:=HR9.free 1;have hy8:y<w8.heap.size:=HR8.out.lt;have aRc:Hid (Row (w9.setCell ⟨y,1,none⟩ (.slice (some ⟨g2,0,none⟩) qn cap2)) y 52 [.slice (some ⟨g1,0,none⟩) en cap1,.slice (some ⟨g2,0,none⟩) qn cap2,.int .i64 (ph:Int),.int .i64 (nx:Int),.slice ba bn bc]):=HR9.set 1 _;have aQX:Only [y] w9 (w9.setCell ⟨y,1,none⟩ (.slice (some ⟨g2,0,none⟩) qn cap2)):=(Only.refl _ _).set (p:=⟨y,1,none⟩) (.inl (by simp)) _;have aBt:Hid (Only [] w (w9.setCell ⟨y,1,none⟩ (.slice (some ⟨g2,0,none⟩) qn cap2))):=(HO8.out.trans k2.out (by simp)).set (p:=⟨y,1,none⟩) (.inr (by rw [HY.out];exact Nat.le_refl _)) _;have E10:Hid (iF (w9.setCell ⟨y,1,none⟩ (.slice (some ⟨g2,0,none⟩) qn cap2)) 48 w6.heap.size (.slice (some ⟨g1,0,none⟩) en cap1) t.ents):=(E8.out.only k2.out (by simp)).only aQX (fun k hk=>by cases hk;have:=HG1.out;simp;omega);have I10:Hid (aO (w9.setCell ⟨y,1,none⟩ (.slice (some ⟨g2,0,none⟩) qn cap2)) w8.heap.size (.slice (some ⟨g2,0,none⟩) qn cap2) t.q):=k1.out.only aQX (fun k hk=>by cases hk;simp;omega);have HG2:Hid (w6.heap.size<=g1/\g1<w8.heap.size/\w8.heap.size<=g2/\y<w6.heap.size):=⟨HG1.out.1,HG1.out.2.1,hg2.1,HG1.out.2.2⟩;clear k1 k2 hg2 aQX HR9 hy8 HG1 E8 HO8 HR8;go_upto_region 6 with fail;generalize w9.setCell ⟨y,1,none⟩ (.slice (some ⟨g2,0,none⟩) qn cap2)=w10 at*;clear y1c y1f;obtain ⟨_,_,yA⟩:=HB.out (w10.alloc (.cells #[] 4)) (aBt.out.alloc _);go_wp2_with (at_builtin;refine vU rfl _ _ rfl w10 ((Only.refl _ _).alloc _) _ rfl (Bls.made _) ba bn bc wl rfl HBN.out ?q5 hwl ?q6)
   case q5=>exact HWW.out.aPD.only aBt.out
   case q6=>
    intro g3 cap3 w11 k1 k2;clear yA;have hg3:=k1.out.own g3 rfl;have aPI:=k2.out.row aRc.out (by simp);have y4c:=aPI.cell 4 rfl;have y4f:=aPI.free 4;have aSg:y<w10.heap.size:=aRc.out.lt;have aRM:Row (w11.setCell ⟨y,4,none⟩ (.slice (some ⟨g3,0,none⟩) bn cap3)) y 52 [.slice (some ⟨g1,0,none⟩) en cap1,.slice (some ⟨g2,0,none⟩) qn cap2,.int .i64 (ph:Int),.int .i64 (nx:Int),.slice (some ⟨g3,0,none⟩) bn cap3]:=aPI.set 4 _;have aPG:Only [y] w11 (w11.setCell ⟨y,4,none⟩ (.slice (some ⟨g3,0,none⟩) bn cap3)):=(Only.refl _ _).set (p:=⟨y,4,none⟩) (.inl (by simp)) _;have aRQ:Only [] w (w11.setCell ⟨y,4,none⟩ (.slice (some ⟨g3,0,none⟩) bn cap3)):=(aBt.out.trans k2.out (by simp)).set (p:=⟨y,4,none⟩) (.inr (by rw [HY.out];exact Nat.le_refl _)) _;have aSM:=HG2.out;have E12:=(E10.out.only k2.out (by simp)).only aPG (fun k hk=>by cases hk;simp;omega);have I12:=(I10.out.only k2.out (by simp)).only aPG (fun k hk=>by cases hk;simp;omega);have B12:=k1.out.only aPG (fun k hk=>by cases hk;simp;omega);have hsz:w.heap.size<=w6.heap.size:=QO6.out.size;have hsz2:w.heap.size<=w8.heap.size:=by omega
    have hg2:=I10.out.own g2 rfl;have hyw:=HY.out;have hT:kN (w11.setCell ⟨y,4,none⟩ (.slice (some ⟨g3,0,none⟩) bn cap3)) y (.slice (some ⟨g1,0,none⟩) en cap1) (.slice (some ⟨g2,0,none⟩) qn cap2) (.slice (some ⟨g3,0,none⟩) bn cap3) nx wl t:=by
     refine ⟨⟨_,by rw [HPH];exact aRM⟩,E12.low (Nat.zero_le _),I12.base (Nat.zero_le _),B12.base (Nat.zero_le _),HT.out.now,HT.out.two,fun g hg=>?_,fun g hg=>?_,fun e=>?_⟩
     ·have e1:g1=g:=by simpa [Value.ownBlock] using hg
      exact ⟨by omega,fun e=>by have e3:g3=g:=(by simpa [Value.ownBlock] using e);omega,fun e=>by have e3:g2=g:=(by simpa [Value.ownBlock] using e);omega⟩
     ·have e1:g2=g:=by simpa [Value.ownBlock] using hg
      exact ⟨by omega,fun e=>by have e3:g3=g:=(by simpa [Value.ownBlock] using e);omega⟩
     have e3:g3=y:=by simpa [Value.ownBlock] using e
     omega
    have HE:Hid (aFq w (w11.setCell ⟨y,4,none⟩ (.slice (some ⟨g3,0,none⟩) bn cap3)) (TrA y t)):=by
     refine ⟨aRQ,fun k=>k=y\/(Value.slice (some ⟨g1,0,none⟩) en cap1).ownBlock=some k\/(Value.slice (some ⟨g2,0,none⟩) qn cap2).ownBlock=some k\/(Value.slice (some ⟨g3,0,none⟩) bn cap3).ownBlock=some k,⟨_,_,_,_,_,hT,fun k=>Iff.rfl⟩,fun k hk=>?_⟩;rcases hk with hk|hk|hk|hk
     ·omega
     ·have e1:g1=k:=by simpa [Value.ownBlock] using hk
      omega
     ·have e1:g2=k:=by simpa [Value.ownBlock] using hk
      omega
     have e1:g3=k:=by simpa [Value.ownBlock] using hk
     omega
    clear k1 k2 hg3 aPI aSg aRM aPG aRQ E12 I12 B12 aSM hg2 HG2 aRc aBt E10 I10 hT hyw;go_wp2_with fail;exact hR.out _ _ ⟨y,rfl,HE.out⟩
def aEs (w0:World) (l:List Asn) (b:Nat) (r:Int×Int×Co) (e:Ending) (w':World):Prop:=e=.returned (.tuple #[.int .i64 r.1,.int .i64 r.2.1])/\∃ x':GX5,x'.ok r.2.2/\Fam w0 w' (G5 b r.2.2 x' ++ l)
section
variable {w0 w w':World} {l:List Asn} {b:Nat} {c:Co} {x:GX5} {i:Nat} {m:Mk} {t:Tb}
theorem aLs (w:World) (hf:Fam w0 w (G5 b c x ++ l)) (hx:x.ok c) (hp:c.ph=0):Calls prog 95 #[.pointer (some ⟨b,0,none⟩)] w (aEs w0 l b c.step):=by
 refine aF fun R hR=>?_;rw [Co.lW hp] at hR;have x3:=(aY.cells hf).2.2.2.1;rw [hp] at x3;have HE:Hid (∃ x':GX5,x'.ok c/\Fam w0 w (G5 b c x' ++ l)):=⟨x,hx,hf⟩;clear hf hx hp;go_in;go_wp2_with fail;exact hR.out _ _ ⟨rfl,HE.out⟩
theorem aCK (w:World) (hf:Fam w0 w (G5 b c x ++ l)) (ho:x.on=true):Calls prog 71 #[.pointer (some ⟨x.r,0,none⟩)] w (aK w (.bool (decide (c.m.list=[])))):=jT w (G5.t2 (b:=b) (c:=c) (x:=x) (l:=l)) (G5.toR ho hf)
theorem aJh (w:World) (hf:Fam w0 w (G5 b c x ++ l)) (hx:x.ok c) (h:c.Okc) (hp:c.ph=1) (hl:¬ c.m.list=[]):Calls prog 95 #[.pointer (some ⟨b,0,none⟩)] w (aEs w0 l b c.step):=by
 refine aF fun R hR=>?_;have hcs:=aY.cells hf;have x3:=hcs.2.2.2.1;rw [hp] at x3;have hst:c.step=(c.mark.1,0,c.mark.2):=by
  unfold Co.step;rw [if_neg (show ¬ c.ph=0 by omega),if_pos hp,if_neg hl]
 rw [hst] at hR;have HR:Hid (∀ e w',oG w0 l b c.mark e w'->∃ v,e=.returned v/\R (.returned (.tuple #[v,.int .i64 0])) w'):=fun e w' ⟨he,x',hx',hf'⟩=>⟨_,he,hR.out _ _ ⟨rfl,x',hx',hf'⟩⟩;have cd:=aCH w hf hx h (.inl hp);have hon:x.on=true:=hx.on.trans (dD.2 (.inl hp));have cdn:=aCK w hf hon;rw [decide_eq_false hl] at cdn;have x2:=G5.m2 hon hf;clear hf hx h hp hR hst hcs hon hl;go_in;go_wp2_with fail;refine cdn.mono ?_;rintro e _ ⟨rfl,rfl⟩;clear cdn;go_wp2_with fail;refine cd.mono ?_;rintro e w2 hd;obtain ⟨v,rfl,hv⟩:=HR.out e w2 hd;have HV:=aA hv;clear hd hv cd;go_wp2_with fail;exact HV.out
theorem aLr (w:World) (hf:Fam w0 w (G5 b c x ++ l)) (hx:x.ok c) (h:c.Okc) (hp:c.ph=2):Calls prog 95 #[.pointer (some ⟨b,0,none⟩)] w (aEs w0 l b c.step):=by
 refine aF fun R hR=>?_;have hcs:=aY.cells hf;have x3:=hcs.2.2.2.1;rw [hp] at x3;have hst:c.step=(c.refs.1,0,c.refs.2):=by
  unfold Co.step;rw [if_neg (show ¬ c.ph=0 by omega),if_neg (show ¬ c.ph=1 by omega),if_pos hp]
 rw [hst] at hR;have HR:Hid (∀ e w',oG w0 l b c.refs e w'->∃ v,e=.returned v/\R (.returned (.tuple #[v,.int .i64 0])) w'):=fun e w' ⟨he,x',hx',hf'⟩=>⟨_,he,hR.out _ _ ⟨rfl,x',hx',hf'⟩⟩;have cd:=aIU w hf hx h hp;clear hf hx h hp hR hst hcs;go_in;go_wp2_with fail;refine cd.mono ?_;rintro e w2 hd;obtain ⟨v,rfl,hv⟩:=HR.out e w2 hd;have HV:=aA hv;clear hd hv cd;go_wp2_with fail;exact HV.out
theorem aLq (w:World) (hf:Fam w0 w (G5 b c x ++ l)) (hx:x.ok c) (h:c.Okc) (hp:c.ph=3):Calls prog 95 #[.pointer (some ⟨b,0,none⟩)] w (aEs w0 l b c.step):=by
 refine aF fun R hR=>?_;have hcs:=aY.cells hf;have x3:=hcs.2.2.2.1;rw [hp] at x3;have hst:c.step=(c.free.1,0,c.free.2):=by
  unfold Co.step;rw [if_neg (show ¬ c.ph=0 by omega),if_neg (show ¬ c.ph=1 by omega),if_neg (show ¬ c.ph=2 by omega),if_pos hp]
 rw [hst] at hR;have HR:Hid (∀ e w',oG w0 l b c.free e w'->∃ v,e=.returned v/\R (.returned (.tuple #[v,.int .i64 0])) w'):=fun e w' ⟨he,x',hx',hf'⟩=>⟨_,he,hR.out _ _ ⟨rfl,x',hx',hf'⟩⟩;have cd:=aJe w hf hx h hp;clear hf hx h hp hR hst hcs;go_in;go_wp2_with fail;refine cd.mono ?_;rintro e w2 hd;obtain ⟨v,rfl,hv⟩:=HR.out e w2 hd;have HV:=aA hv;clear hd hv cd;go_wp2_with fail;exact HV.out
theorem aLp (w:World) (hf:Fam w0 w (G5 b c x ++ l)) (hx:x.ok c) (h:c.Okc) (hp:c.ph=4):Calls prog 95 #[.pointer (some ⟨b,0,none⟩)] w (aEs w0 l b c.step):=by
 refine aF fun R hR=>?_;have hcs:=aY.cells hf;have x3:=hcs.2.2.2.1;rw [hp] at x3;have hst:c.step=(c.move.1,0,c.move.2):=by
  unfold Co.step;rw [if_neg (show ¬ c.ph=0 by omega),if_neg (show ¬ c.ph=1 by omega),if_neg (show ¬ c.ph=2 by omega),if_neg (show ¬ c.ph=3 by omega)]
 rw [hst] at hR;have HR:Hid (∀ e w',oG w0 l b c.move e w'->∃ v,e=.returned v/\R (.returned (.tuple #[v,.int .i64 0])) w'):=fun e w' ⟨he,x',hx',hf'⟩=>⟨_,he,hR.out _ _ ⟨rfl,x',hx',hf'⟩⟩;have cd:=aNq w hf hx h hp;clear hf hx h hp hR hst hcs;go_in;go_wp2_with fail;refine cd.mono ?_;rintro e w2 hd;obtain ⟨v,rfl,hv⟩:=HR.out e w2 hd;have HV:=aA hv;clear hd hv cd;go_wp2_with fail;exact HV.out
theorem aDU (w:World) (hf:Fam w0 w (G5 b c x ++ l)) (ho:x.on=true) (h:c.Okc):Calls prog 21 #[.pointer (some ⟨x.ub,0,none⟩),.pointer (some ⟨x.r,0,none⟩)] w (fun e w'=>e=.returned (.int .i64 (c.t.begin c.m).1)/\Fam w0 w' (G5 b (c.dX (c.t.begin c.m).2) x ++ l)):=by
 have:=aDz w (G5.t3 (b:=b) (c:=c) (x:=x) (l:=l)) (G5.toQ ho hf) h.tg;rw [G5.ql ho] at this;exact this
theorem aJi (w:World) (hf:Fam w0 w (G5 b c x ++ l)) (hx:x.ok c) (h:c.Okc) (hp:c.ph=1) (hl:c.m.list=[]):Calls prog 95 #[.pointer (some ⟨b,0,none⟩)] w (aEs w0 l b c.step):=by
 refine aF fun R hR=>?_;have x3:=(aY.cells hf).2.2.2.1;rw [hp] at x3;have hst:c.step=(1,0,c.iU.2):=by
  unfold Co.step;rw [if_neg (show ¬ c.ph=0 by omega),if_pos hp,if_pos hl];rfl
 rw [hst] at hR;have hon:x.on=true:=hx.on.trans (dD.2 (.inl hp));have HON:=aA hon;have cdn:=aCK w hf hon;rw [decide_eq_true hl] at cdn;have x2:=G5.m2 hon hf;have F0:=aA hf;have hm0:x.mv=0:=hx.m0 (by omega) (by omega);have HR:Hid (∀ w',Fam w0 w' (G5 b c.iU.2 x ++ l)->R (.returned (.tuple #[.int .i64 1,.int .i64 0])) w'):=fun w' h2=>hR.out _ _ ⟨rfl,x,⟨by rw [hon];symm;exact aJG (c:=c.iU.2) rfl,fun e=>by (cases e),fun _ _=>hm0,hx.mv2⟩,h2⟩;have HC:Hid (∀ wx,Fam w0 wx (G5 b c x ++ l)->Calls prog 21 #[.pointer (some ⟨x.ub,0,none⟩),.pointer (some ⟨x.r,0,none⟩)] wx (fun e w'=>e=.returned (.int .i64 (c.t.begin c.m).1)/\Fam w0 w' (G5 b (c.dX (c.t.begin c.m).2) x ++ l))):=fun wx hwx=>aDU wx hwx hon h;clear hf hx h hp hR hst hon hl hm0;go_in;go_wp2_with fail;refine cdn.mono ?_;rintro e _ ⟨rfl,rfl⟩;clear cdn;generalize (c.t.begin c.m).1=be at*;go_upto_region 9 with fail;go_region_held3 (fun w'=>w'.cell? ⟨b,1,none⟩=some (.pointer (some ⟨x.ub,0,none⟩))/\w'.cell? ⟨b,2,none⟩=some (.pointer (some ⟨x.r,0,none⟩)))
  (first|(exact G5.p12 HON.out F0.out.drew)|(exact G5.p12 HON.out F0.out)|(exact G5.p12 HON.out f3))
  (first|(go_at_call 21;refine (HC.out _ F0.out.drew).mono ?_;rintro e w3 ⟨rfl,f3⟩))
 have F3:=aA f3;have y3:=(aY.cells f3).2.2.2.1;have y3f:=(aY.cells f3).2.2.2.2.2.2.2.2.2 3;have F4:Hid (Fam w0 (w3.setCell ⟨b,3,none⟩ (.int .i64 2)) (G5 b c.iU.2 x ++ l)):=G5.rX f3 2;clear f3 HC F0 x2 x3;go_wp2_with fail;exact HR.out _ F4.out
theorem nX (w:World) (hf:Fam w0 w (G5 b c x ++ l)) (hx:x.ok c) (h:c.Okc):Calls prog 95 #[.pointer (some ⟨b,0,none⟩)] w (aEs w0 l b c.step):=by
 have h4:=h.p4;have hc:c.ph=0\/c.ph=1\/c.ph=2\/c.ph=3\/c.ph=4:=by omega
 rcases hc with hp|hp|hp|hp|hp
 ·exact aLs w hf hx hp
 ·by_cases hl:c.m.list=[]
  ·exact aJi w hf hx h hp hl
  exact aJh w hf hx h hp hl
 ·exact aLr w hf hx h hp
 ·exact aLq w hf hx h hp
 exact aLp w hf hx h hp
end
end Go.Proofs.YthflghdaejbdkaaGreat
