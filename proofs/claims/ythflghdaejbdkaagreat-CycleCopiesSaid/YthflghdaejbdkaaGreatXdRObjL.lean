/- Lemmas of this claim. -/
import Derived.Test.YthflghdaejbdkaaGreatXdRObjH
import Derived.Deep.AppendLies
import Derived.Deep.Upon
namespace Go.Proofs.YthflghdaejbdkaaGreat
open _root_.Go.Proofs.Tryz (prog)
open Go.RowKit Go.Maps
set_option maxHeartbeats 6400000
set_option maxRecDepth 100000
set_option linter.unusedVariables false
theorem aHC {ops:Array Oper} {o:Oper} {ac:Act} {wl:World} {K:Act->World->Prop} {Q:Exit->Act->World->Prop} {E:Prop} (hgd:o.guard=none) (s x:Operand)
  (ho:o.op=.call { callee:=.builtin .append,args:=#[s,x],argTypes:=#[50,50] }) (w0:World) (hO:Only [] w0 wl)
  (gs:Nat) (hs:ac.eval s=.slice (some ⟨gs,0,none⟩) 0 0) (hown:Bls wl w0.heap.size (.slice (some ⟨gs,0,none⟩) 0 0) []) (ad:Addr) (m c:Nat) (l:List Bool) (hx:ac.eval x=.slice (some ad) m c) (hl:l.length=m) (hnews:∀ i,i<l.length->w0.cell? (ad.add i)=some (.bool (gB l i))) (hm:0<m) (hb:m<=1000000)
  (h:∀ g cap w',Hid (Bls w' w0.heap.size (.slice (some ⟨g,0,none⟩) m cap) l)->Hid (Only [] w0 w')->Hid (Only [gs] wl w')->Hid (g=gs\/g=wl.heap.size)->K (ac.put o.dst (.slice (some ⟨g,0,none⟩) m cap)) w') :
  if Region.wanted o (yielded ops ac.tmps)=true then Oper.wp prog o ac wl K Q else E:=by
 obtain ⟨i0,hi0,hz0,hz1,hz2⟩:=info_parts vN;refine step_append_lies (P:=prog) _ hgd s x 50 ho w0.heap.size 4 i0 (.bool false) 1 1 Tryz.underlying50 hi0 hz0 hz1 hz2 rfl (by omega) (.slice (some ⟨gs,0,none⟩) 0 0) 0 [] hs hown ad m c (l.map Value.bool) hx (by simp [hl]) (fun j u hu=>?_) (fun u hu=>?_) hm (by simp only [maxLen];omega) (by omega) hO.size wl.heap.size rfl ?_
 ·simp only [List.getElem?_map,Option.map_eq_some_iff] at hu;obtain ⟨y,hy,rfl⟩:=hu;have hj:=(List.getElem?_eq_some_iff.1 hy).1;have h1:=hnews j hj;rw [gB,hy] at h1;exact hO.cell h1 (by simp)
 ·simp only [List.mem_map] at hu;obtain ⟨y,_,rfl⟩:=hu;rfl
 intro g cap w' h1 h2 h3 h4;rw [Nat.zero_add] at h1 ⊢;refine h g cap w' ?_ (hO.grown h2 (fun k hk=>.inr (hown.own k hk).1)) ((Only.refl [gs] wl).grown h2 (fun k hk=>by cases hk;exact .inl (by simp))) ?_
 ·show Bls _ _ _ _;unfold Bls;rw [hl];exact h1
 show _\/_;rcases h3 with h3|h3
 ·cases h3;exact .inl rfl
 exact .inr h3
theorem pX {ops:Array Oper} {o:Oper} {ac:Act} {wl:World} {K:Act->World->Prop} {Q:Exit->Act->World->Prop} {E:Prop} (hgd:o.guard=none) (s x:Operand)
  (ho:o.op=.call { callee:=.builtin .append,args:=#[s,x],argTypes:=#[50,50] }) (w0:World) (hO:Only [] w0 wl)
  (gs:Nat) (hs:ac.eval s=.slice (some ⟨gs,0,none⟩) 0 0) (hown:Bls wl w0.heap.size (.slice (some ⟨gs,0,none⟩) 0 0) []) (va:Option Addr) (n vc:Nat) (l:List Bool) (hx:ac.eval x=.slice va n vc) (hl:l.length=n) (hv:aAx w0 (.slice va n vc) l) (hb:n<=1000000)
  (h:∀ g cap w',Hid (Bls w' w0.heap.size (.slice (some ⟨g,0,none⟩) n cap) l)->Hid (Only [] w0 w')->Hid (Only [gs] wl w')->Hid (g=gs\/g=wl.heap.size)->K (ac.put o.dst (.slice (some ⟨g,0,none⟩) n cap)) w') :
  if Region.wanted o (yielded ops ac.tmps)=true then Oper.wp prog o ac wl K Q else E:=by
 by_cases h0:n=0
 ·subst h0;have hnil:l=[]:=List.eq_nil_of_length_eq_zero hl;subst hnil;have hw:Region.wanted o (yielded ops ac.tmps)=true:=by simp [Region.wanted,hgd]
  rw [if_pos hw];obtain ⟨i0,hi0,hz0,hz1,hz2⟩:=info_parts vN;have hsrc:Src prog i0.size 50 (.slice va 0 vc) 0 [] wl:=by
   cases va with
   | none=>exact Src.ofNil wl Tryz.underlying50 vc
   | some a=>exact Src.ofSlice wl Tryz.underlying50 a 0 vc [] (by simp) (fun j u hu=>by simp at hu) (fun u hu=>by simp at hu)
  have hr:=run_append_nothing (P:=prog) wl 50 50 o.type 4 i0 Tryz.underlying50 hi0 (some ⟨gs,0,none⟩) 0 0 (Nat.le_refl _) (.slice va 0 vc) hsrc;unfold Oper.wp execOp;simp only [ho,resolve,invoke,builtin,Sem.run_bind,Sem.run_pure,Result.andThen_ok,List.map_toArray,List.map_cons,List.map_nil,hs,hx,hr];exact h gs 0 wl hown hO (Only.refl _ _) (.inl rfl)
 rcases hv with ⟨_,e⟩|⟨ad,c,h1,h2⟩
 ·rw [e] at hl;simp at hl;omega
 simp only [Value.slice.injEq] at h1;obtain ⟨rfl,_,rfl⟩:=h1;exact aHC hgd s x ho w0 hO gs hs hown ad n vc l hx hl h2 (by omega) hb h
theorem aNB (w:World):Bls (w.alloc (.cells #[] 4)).drew w.heap.size (.slice (some ⟨w.heap.size,0,none⟩) 0 0) []:=Bls.made w
theorem aNA (w:World) (C:Array Value) (T:TypeId):Bls ((w.alloc (.cells #[] 4)).alloc (.cells C T)).drew w.heap.size (.slice (some ⟨w.heap.size,0,none⟩) 0 0) []:=(Bls.made w).alloc _
theorem aNz (w:World) (C:Array Value) (T:TypeId):Bls ((w.alloc (.cells C T)).alloc (.cells #[] 4)).drew w.heap.size (.slice (some ⟨w.heap.size+1,0,none⟩) 0 0) []:=by
 have:=(Bls.made (w.alloc (.cells C T))).base (b:=w.heap.size) (by simp);rw [World.size_alloc] at this;exact this
theorem aMQ (w:World) (o:Obj):Only [] w (w.alloc o).drew:=((Only.refl [] w).alloc o).drew
theorem aEL (w:World) (o o':Obj):Only [] w ((w.alloc o).alloc o').drew:=(((Only.refl [] w).alloc o).alloc o').drew
theorem pV (w:World) (n:Nat) (hn:n<=1000000) (C:Array Value) (hC:C.toList=List.replicate n (.int .i64 0)):aO (w.alloc (.cells C 3)) w.heap.size (.slice (some ⟨w.heap.size,0,none⟩) n n) (List.replicate n 0):=by
 have hr:=Row.new w 3 C.toList;have h:=aO.ofRow (base:=w.heap.size) (cap:=n) (l:=List.replicate n 0) (Nat.le_refl _) hr (by rw [hC];simp) (by rw [hC];simp) (by simp) (by simp only [maxLen];omega);rw [List.length_replicate] at h;exact h
section
variable {L:Nat->Option Gb} {hb:Nat} {M:Hp} {X:GX}
theorem aJS (w:World) (c:Int) (v:Value):Calls prog 143 #[.pointer none,.int .i64 c,v] w (aK w (.tuple #[.int .i64 0,.int .i64 1])):=by
 refine aF fun R hR=>?_;have h1:=sZ w;go_in;go_wp2_with fail;refine h1.mono ?_;rintro e _ ⟨rfl,rfl⟩;go_wp2_with fail;exact hR.out _ _ ⟨rfl,rfl⟩
theorem oK (w:World) (h:bF w L hb M X) (hk:M.Ok) (c:Int) (v:Value) (l:List Bool) (hv:aAx w v l) (hl:l.length<=1000000) :
  Calls prog 143 #[.pointer (some ⟨hb,0,none⟩),.int .i64 c,v] w (lF w L hb (.tuple #[.int .i64 (M.aH c l).1,.int .i64 (M.aH c l).2.1]) (M.aH c l).2.2):=by
 refine aF fun R hR=>?_;have h1:=fA w h;obtain ⟨va,vc,rfl⟩:=hv.len;obtain ⟨n,hn⟩:∃ z,z=l.length:=⟨_,rfl⟩
 by_cases hc:c<0\/10<=c\/7<l.length
 ·have hbad:Hid (M.aH c l=(0,1,M)):=by show _=_;unfold Hp.aH;rw [if_pos hc]
  have H:=aA h;rw [<-hn] at hc hl ⊢;clear hv h hk hn
  by_cases c1:c<0
  ·clear hc;go_in;go_wp2_with fail;refine h1.mono ?_;rintro e _ ⟨rfl,rfl⟩;go_wp2_with fail;refine hR.out _ _ ?_;rw [hbad.out];exact lF.none0 H.out (Only.refl _ _)
  by_cases c2:10<=c
  ·clear hc;go_in;go_wp2_with fail;refine h1.mono ?_;rintro e _ ⟨rfl,rfl⟩;go_wp2_with fail;refine hR.out _ _ ?_;rw [hbad.out];exact lF.none0 H.out (Only.refl _ _)
  have c3:(7:Int)<n:=by omega
  clear hc;go_in;go_wp2_with fail;refine h1.mono ?_;rintro e _ ⟨rfl,rfl⟩;go_wp2_with fail;refine hR.out _ _ ?_;rw [hbad.out];exact lF.none0 H.out (Only.refl _ _)
 have c1:¬ c<0:=by omega
 have c2:¬ 10<=c:=by omega
 have c3:¬ (7:Int)<n:=by omega
 have hgood:M.aH c l=M.add (uF c l):=by unfold Hp.aH;rw [if_neg hc]
 have hot:=oP hc;rw [hgood] at hR;obtain ⟨i0,hi0,hz0,hz1,hz2⟩:=info_parts jR;obtain ⟨C,hC⟩:∃ C:Array Value,C.toList=List.replicate n (.int .i64 0):=⟨(List.replicate n (.int .i64 0)).toArray,by simp⟩;have hmk:∀ wx,(Instr.makeSlice 23 (.int .i64 (n:Int)) (.int .i64 (n:Int))).run prog wx=.ok (.slice (some ⟨wx.heap.size,0,none⟩) n n) (wx.alloc (.cells C 3)):=fun wx=>by
  rw [run_makeSlice (P:=prog) (w:=wx) 23 3 i0 _ Tryz.underlying23 hi0 hz0 .i64 .i64 _ _ (by omega) (by omega) (by rw [hz1];omega) (by rw [hz2];omega) (by omega),hz1];have e:madeCells (Value.int .i64 0).cells (n*1)=C:=by
   rw [<-Array.toList_inj,xJ,hC]
  simp only [Int.toNat_natCast];rw [e]
 have tY:Hid (∀ wx (rv sv:Value),Only [] w wx->Bls wx w.heap.size rv l->aO wx w.heap.size sv (List.replicate n 0)->(∀ g,rv.ownBlock=some g->sv.ownBlock≠some g)->
   Calls prog 211 #[.pointer (some ⟨hb,0,none⟩),.agg #[.int .i64 2,.int .i64 c,rv,sv,.slice none 0 0],.bool false] wx (lF w L hb (.tuple #[.int .i64 (M.add (uF c l)).1,.int .i64 (M.add (uF c l)).2.1]) (M.add (uF c l)).2.2)):=fun wx rv sv ho hrv hsv hd=>
  aCI wx h hk ho (uF c l) hot.1 hot.2 rv sv hrv (by rw [hn] at hsv;exact hsv) hd false (fun _=>by simp [uF];omega)
 have HC:=aA hC;have hn6:n<=1000000:=by omega
 rw [<-hn] at hv hl ⊢;clear h hk hot hgood hc hi0 hz0 hz1 hz2 hC hl;obtain ⟨F,hF⟩:∃ F:Ending->World->Prop,F=lF w L hb (.tuple #[.int .i64 (M.add (uF c l)).1,.int .i64 (M.add (uF c l)).2.1]) (M.add (uF c l)).2.2:=⟨_,rfl⟩;rw [<-hF] at tY;replace hR:Hid (∀ e w',F e w'->R e w'):=by rw [hF];exact hR
 have aPg:Hid (∀ e w',F e w'->e=.returned (.tuple #[.int .i64 (M.add (uF c l)).1,.int .i64 (M.add (uF c l)).2.1])):=fun e w' he=>by rw [hF] at he;exact he.1
 clear hF;obtain ⟨r0,hr0⟩:∃ z,z=(M.add (uF c l)).1:=⟨_,rfl⟩;obtain ⟨r1,hr1⟩:∃ z,z=(M.add (uF c l)).2.1:=⟨_,rfl⟩;rw [<-hr0,<-hr1] at aPg;clear hr0 hr1;have HLN:Hid (l.length=n):=hn.symm;have HV:=aA hv;have aTl:Hid (∀ g cap wx,Hid (Bls wx w.heap.size (.slice (some ⟨g,0,none⟩) n cap) l)->Hid (Only [] w wx)->
   Calls prog 211 #[.pointer (some ⟨hb,0,none⟩),.agg #[.int .i64 2,.int .i64 c,.slice (some ⟨g,0,none⟩) n cap,.slice (some ⟨wx.heap.size,0,none⟩) n n,.slice none 0 0],.bool false] (wx.alloc (.cells C 3)) F):=fun g cap wx h1 h2=>by
  refine tY.out _ _ _ (h2.out.alloc _) (h1.out.alloc _) ((pV wx n hn6 C HC.out).base h2.out.size) (fun k hk=>?_)
  cases hk
  have:=(h1.out.own g rfl).2;simp [Value.ownBlock];omega
 have aTk:Hid (∀ g cap wx,Hid (Bls wx w.heap.size (.slice (some ⟨g,0,none⟩) n cap) l)->Hid (Only [] w wx)->Hid (Only [w.heap.size] ((w.alloc (.cells #[] 4)).alloc (.cells C 3)).drew wx)->Hid (g=w.heap.size\/g=((w.alloc (.cells #[] 4)).alloc (.cells C 3)).drew.heap.size)->
   Calls prog 211 #[.pointer (some ⟨hb,0,none⟩),.agg #[.int .i64 2,.int .i64 c,.slice (some ⟨g,0,none⟩) n cap,.slice (some ⟨w.heap.size+1,0,none⟩) n n,.slice none 0 0],.bool false] wx F):=fun g cap wx h1 h2 h3 h4=>by
  have hz:=pV (w.alloc (.cells #[] 4)) n hn6 C HC.out;rw [World.size_alloc] at hz;refine tY.out _ _ _ h2.out h1.out (((hz.base (b:=w.heap.size) (by omega)).drew).only h3.out (fun k hk=>?_)) (fun k hk=>?_)
  ·cases hk;simp
  cases hk
  have:=h4.out;simp [Value.ownBlock] at this ⊢;omega
 have aTj:Hid (∀ g cap wx,Hid (Bls wx w.heap.size (.slice (some ⟨g,0,none⟩) n cap) l)->Hid (Only [] w wx)->Hid (Only [w.heap.size+1] ((w.alloc (.cells C 3)).alloc (.cells #[] 4)).drew wx)->Hid (g=w.heap.size+1\/g=((w.alloc (.cells C 3)).alloc (.cells #[] 4)).drew.heap.size)->
   Calls prog 211 #[.pointer (some ⟨hb,0,none⟩),.agg #[.int .i64 2,.int .i64 c,.slice (some ⟨g,0,none⟩) n cap,.slice (some ⟨w.heap.size,0,none⟩) n n,.slice none 0 0],.bool false] wx F):=fun g cap wx h1 h2 h3 h4=>by
  have hz:=((pV w n hn6 C HC.out).alloc (.cells #[] 4)).drew;refine tY.out _ _ _ h2.out h1.out (hz.only h3.out (fun k hk=>?_)) (fun k hk=>?_)
  ·cases hk;simp
  cases hk
  have:=h4.out;simp [Value.ownBlock] at this ⊢;omega
 clear hv hn tY;go_in;go_wp2_with fail;refine h1.mono ?_;rintro e _ ⟨rfl,rfl⟩;go_wp2_with fail;clear h1;go_region_held3 (fun _=>True)
  (exact trivial)
  (first
   | (refine pX (by rfl) (.tmp 26) (.tmp 27) (by rfl) w (by with_reducible exact aMQ w _) w.heap.size (by rfl) (by with_reducible exact aNB w) va n vc l (by rfl) HLN.out HV.out hn6 ?_;intro g cap w9 k1 k2 k3 k4;have HM:=aTl.out g cap w9 k1 k2)
   | (refine pX (by rfl) (.tmp 26) (.tmp 27) (by rfl) w (by with_reducible exact aEL w _ _) w.heap.size (by rfl) (by with_reducible exact aNA w _ _) va n vc l (by rfl) HLN.out HV.out hn6 ?_;intro g cap w9 k1 k2 k3 k4;have HM:=aTk.out g cap w9 k1 k2 k3 k4)
   | (refine pX (by rfl) (.tmp 26) (.tmp 27) (by rfl) w (by with_reducible exact aEL w _ _) (w.heap.size+1) (by rfl) (by with_reducible exact aNz w _ _) va n vc l (by rfl) HLN.out HV.out hn6 ?_;intro g cap w9 k1 k2 k3 k4;have HM:=aTj.out g cap w9 k1 k2 k3 k4)
   | (go_at_call 211;refine HM.mono ?_;intro e w9 hf;obtain rfl:=aPg.out _ _ hf))
 all_goals
  go_wp2_with fail;exact hR.out _ _ hf
end
section
variable {L:Nat->Option Gb} {hb:Nat} {M:Hp} {X:GX}
theorem aLm (w:World) (k c n:Int):Calls prog 174 #[.pointer none,.int .i64 k,.int .i64 c,.int .i64 n] w (aK w (.tuple #[.int .i64 0,.int .i64 1])):=by
 refine aF fun R hR=>?_;have h1:=sZ w;go_in
 by_cases a1:k=3
 ·subst a1
  by_cases a2:c=0
  ·subst a2;go_wp2_with fail;refine h1.mono ?_;rintro e _ ⟨rfl,rfl⟩;go_wp2_with fail;exact hR.out _ _ ⟨rfl,rfl⟩
  go_wp2_with fail;refine h1.mono ?_;rintro e _ ⟨rfl,rfl⟩;go_wp2_with fail;exact hR.out _ _ ⟨rfl,rfl⟩
 by_cases a3:k=4
 ·subst a3
  by_cases a4:0<=c
  ·go_wp2_with fail;refine h1.mono ?_;rintro e _ ⟨rfl,rfl⟩;go_wp2_with fail;exact hR.out _ _ ⟨rfl,rfl⟩
  go_wp2_with fail;refine h1.mono ?_;rintro e _ ⟨rfl,rfl⟩;go_wp2_with fail;exact hR.out _ _ ⟨rfl,rfl⟩
 go_wp2_with fail;refine h1.mono ?_;rintro e _ ⟨rfl,rfl⟩;go_wp2_with fail;exact hR.out _ _ ⟨rfl,rfl⟩
theorem oI {α:Type} (n:Nat) (x:α):List.replicate n x ++ [x]=List.replicate (n+1) x:=by
 rw [List.replicate_succ']
theorem zJ (w:World) (h:bF w L hb M X) (hk:M.Ok) (k c:Int) (n:Nat) (hn:n<=48) (b i:Bool) (hot:(pG k c n).ok1/\∀ s,gI (pG k c n).slots s=0) (hb4:decide (k=4)=b)
  (R:Ending->World->Prop) (hR:Hid (∀ e w',lF w L hb (.tuple #[.int .i64 (M.add (pG k c n)).1,.int .i64 (M.add (pG k c n)).2.1]) (M.add (pG k c n)).2.2 e w'->R e w'))
  (hkc:Hid ((k=3/\c=0)\/(k=4/\0<=c/\c<10))) :
  Calls prog 174 #[.pointer (some ⟨hb,0,none⟩),.int .i64 k,.int .i64 c,.int .i64 n] w R:=by
 have h1:=fA w h;obtain ⟨i0,hi0,hz0,hz1,hz2⟩:=info_parts jR;obtain ⟨C,hC⟩:∃ C:Array Value,C.toList=List.replicate n (.int .i64 0):=⟨(List.replicate n (.int .i64 0)).toArray,by simp⟩;have hmk:∀ wx,(Instr.makeSlice 23 (.int .i64 (n:Int)) (.int .i64 (n:Int))).run prog wx=.ok (.slice (some ⟨wx.heap.size,0,none⟩) n n) (wx.alloc (.cells C 3)):=fun wx=>by
  rw [run_makeSlice (P:=prog) (w:=wx) 23 3 i0 _ Tryz.underlying23 hi0 hz0 .i64 .i64 _ _ (by omega) (by omega) (by rw [hz1];omega) (by rw [hz2];omega) (by omega),hz1];have e:madeCells (Value.int .i64 0).cells (n*1)=C:=by
   rw [<-Array.toList_inj,xJ,hC]
  simp only [Int.toNat_natCast];rw [e]
 have n0:¬ (n:Int)<0:=by omega
 have n48:¬ (48:Int)<n:=by omega
 have tY:Hid (∀ wx (rv sv:Value),Only [] w wx->Bls wx w.heap.size rv (List.replicate n b)->aO wx w.heap.size sv (List.replicate n 0)->(∀ g,rv.ownBlock=some g->sv.ownBlock≠some g)->
   Calls prog 211 #[.pointer (some ⟨hb,0,none⟩),.agg #[.int .i64 k,.int .i64 c,rv,sv,.slice none 0 0],.bool true] wx (lF w L hb (.tuple #[.int .i64 (M.add (pG k c n)).1,.int .i64 (M.add (pG k c n)).2.1]) (M.add (pG k c n)).2.2)):=fun wx rv sv ho hrv hsv hd=>
  aCI wx h hk ho (pG k c n) hot.1 hot.2 rv sv (by rw [<-hb4] at hrv;exact hrv) hsv hd true (fun e=>by cases e)
 obtain ⟨F,hF⟩:∃ F:Ending->World->Prop,F=lF w L hb (.tuple #[.int .i64 (M.add (pG k c n)).1,.int .i64 (M.add (pG k c n)).2.1]) (M.add (pG k c n)).2.2:=⟨_,rfl⟩;rw [<-hF] at tY;replace hR:Hid (∀ e w',F e w'->R e w'):=by rw [hF];exact hR
 have aPg:Hid (∀ e w',F e w'->∃ r0 r1:Int,e=.returned (.tuple #[.int .i64 r0,.int .i64 r1])):=fun e w' he=>by rw [hF] at he;exact ⟨_,_,he.1⟩
 have HZ:=aA (pV w n (by omega) C hC);have HB4:=aA hb4;have HO1:Hid (Only [] w ((w.alloc (.cells C 3)).alloc (.cells #[.int .i64 k,.int .i64 c,.slice none 0 0,.slice (some ⟨w.heap.size,0,none⟩) n n,.slice none 0 0] 217))):=((Only.refl [] w).alloc _).alloc _;have pJ:Hid (Row ((w.alloc (.cells C 3)).alloc (.cells #[.int .i64 k,.int .i64 c,.slice none 0 0,.slice (some ⟨w.heap.size,0,none⟩) n n,.slice none 0 0] 217)) (w.heap.size+1) 217 [.int .i64 k,.int .i64 c,.slice none 0 0,.slice (some ⟨w.heap.size,0,none⟩) n n,.slice none 0 0]):=by
  have:=Row.new (w.alloc (.cells C 3)) 217 [.int .i64 k,.int .i64 c,.slice none 0 0,.slice (some ⟨w.heap.size,0,none⟩) n n,.slice none 0 0];rwa [World.size_alloc] at this
 have HZ1:Hid (aO ((w.alloc (.cells C 3)).alloc (.cells #[.int .i64 k,.int .i64 c,.slice none 0 0,.slice (some ⟨w.heap.size,0,none⟩) n n,.slice none 0 0] 217)) w.heap.size (.slice (some ⟨w.heap.size,0,none⟩) n n) (List.replicate n 0)):=HZ.out.alloc _;have HS1:Hid (((w.alloc (.cells C 3)).alloc (.cells #[.int .i64 k,.int .i64 c,.slice none 0 0,.slice (some ⟨w.heap.size,0,none⟩) n n,.slice none 0 0] 217)).heap.size=w.heap.size+2):=by show _=_;simp
 have HN:=aA hn;clear hF hot h hk hi0 hz0 hz1 hz2 hC HZ hb4 hn;rcases hkc.out with ⟨rfl,rfl⟩|⟨rfl,g1,g2⟩
 ·have hbv:=HB4.out;simp at hbv;subst hbv;clear hkc HB4;go_in;go_wp2_with fail;refine h1.mono ?_;rintro e _ ⟨rfl,rfl⟩;clear h1;go_wp2_with fail;generalize (w.alloc (.cells C 3)).alloc (.cells #[.int .i64 3,.int .i64 0,.slice none 0 0,.slice (some ⟨w.heap.size,0,none⟩) n n,.slice none 0 0] 217)=w1 at*;obtain ⟨x0,hx0⟩:∃ z,z=w.heap.size:=⟨_,rfl⟩;have HX0:=aA hx0;obtain ⟨y,hy⟩:∃ z,z=x0+1:=⟨_,rfl⟩;rw [<-hx0,<-hy] at pJ;rw [<-hx0] at HZ1 HS1 tY;rw [<-hx0,<-hy];have HY:Hid (x0<y/\y<x0+2/\w1.heap.size=x0+2):=⟨by omega,by omega,HS1.out⟩;clear hx0 hy hmk HS1;go_loopw [13] (fun iv wr=>∃ (m:Nat) (rv:Value),m<=n/\iv=.int .i64 m/\Bls wr w1.heap.size rv (List.replicate m false)/\Row wr y 217 [.int .i64 3,.int .i64 0,rv,.slice (some ⟨x0,0,none⟩) n n,.slice none 0 0]/\Only [y] w1 wr) (fun iv _=>n - (intOf iv).toNat)
  case atStart=>exact ⟨0,.slice none 0 0,by omega,rfl,Bls.nil _ _,pJ.out,Only.refl _ _⟩
  case round=>
   clear pJ;obtain ⟨m,rv,hm,rfl,hbv,hrow,ho⟩:=hrel;obtain ⟨ra,rc,hre⟩:=hbv.len;rw [List.length_replicate] at hre;subst hre;have HBV:=aA hbv;have HR5:=aA hrow;have HO:=aA ho;have c2:wr.cell? ⟨y,2,none⟩=_:=hrow.cell 2 rfl;clear hbv hrow ho
   by_cases hlt:m<n
   ·have hlt1:(m:Int)<n:=by omega
    go_wp2_with (at_builtin;refine tX rfl _ _ rfl w1.heap.size _ _ rfl (HBV.out.alloc _) wr.heap.size false rfl ?c1 ?c2 ?c3 ?c4)
    case c1=>exact (Row.new wr _ [_]).cell 0 rfl
    case c2=>simp;have:=HN.out;omega
    case c3=>have:=HO.out.size;simp;omega
    case c4=>
     intro v' w6 hv6 ho6 hb6;rw [oI] at hv6;obtain ⟨va',vc',hve⟩:=hv6.len;rw [List.length_replicate] at hve;subst hve;have hyn:y∉(Value.slice ra m rc).ownBlock.toList:=fun hx=>by
      have:=(HBV.out.own y (by simpa using hx)).1;have:=HY.out;omega
     have hr6:=ho6.row (HR5.out.alloc (.cells #[.bool false] 4)) hyn;have f6:=hr6.free 2;have c6:w6.cell? ⟨y,2,none⟩=_:=hr6.cell 2 rfl;have HV7:Hid (Bls (w6.setCell ⟨y,2,none⟩ (.slice va' (m+1) vc')) w1.heap.size (.slice va' (m+1) vc') (List.replicate (m+1) false)):=hv6.only ((Only.refl [y] w6).set (p:=⟨y,2,none⟩) (.inl (by simp)) (.slice va' (m+1) vc')) (fun g' hg'=>by have:=(hv6.own g' hg').1;have:=HY.out;simp;omega);have aBr:Hid (Row (w6.setCell ⟨y,2,none⟩ (.slice va' (m+1) vc')) y 217 [.int .i64 3,.int .i64 0,.slice va' (m+1) vc',.slice (some ⟨x0,0,none⟩) n n,.slice none 0 0]):=hr6.set 2 (.slice va' (m+1) vc');have HO7:Hid (Only [y] w1 (w6.setCell ⟨y,2,none⟩ (.slice va' (m+1) vc'))):=((HO.out.alloc _).trans ho6 (fun x hx=>.inr (HBV.out.own x (by simpa using hx)).1)).set (.inl (by simp)) _;clear hv6 ho6 hyn hr6 c2 hb6;go_wp2_with fail;exact ⟨⟨m+1,.slice va' (m+1) vc',by omega,by go_num,HV7.out,aBr.out,HO7.out⟩,by simp [intOf];omega⟩
   obtain rfl:m=n:=by omega
   have hlt1:¬ (m:Int)<(m:Int):=by omega
   have c0:wr.cell? ⟨y,0,none⟩=_:=HR5.out.cell 0 rfl;have c1:wr.cell? ⟨y,1,none⟩=_:=HR5.out.cell 1 rfl;have c3:wr.cell? ⟨y,3,none⟩=_:=HR5.out.cell 3 rfl;have c4:wr.cell? ⟨y,4,none⟩=_:=HR5.out.cell 4 rfl;have HM:=tY.out wr (.slice ra m rc) (.slice (some ⟨x0,0,none⟩) m m) (HO1.out.trans HO.out (fun x hx=>.inr (by have:=HY.out;have:=HX0.out;simp at hx;omega))) (HBV.out.base (by have:=HY.out;omega))
    (HZ1.out.only HO.out (fun g hg=>by cases hg;have:=HY.out;simp;omega)) (fun g hg=>by have:=(HBV.out.own g hg).1;have:=HY.out;simp [Value.ownBlock];omega)
   clear tY;go_wp2_with fail;refine HM.mono ?_;intro e w9 hf;obtain ⟨r0,r1,rfl⟩:=aPg.out _ _ hf;go_wp2_with fail;exact hR.out _ _ hf
 have hbv:=HB4.out;simp at hbv;subst hbv;clear hkc HB4;go_in;go_wp2_with fail;refine h1.mono ?_;rintro e _ ⟨rfl,rfl⟩;clear h1;go_wp2_with fail;generalize (w.alloc (.cells C 3)).alloc (.cells #[.int .i64 4,.int .i64 c,.slice none 0 0,.slice (some ⟨w.heap.size,0,none⟩) n n,.slice none 0 0] 217)=w1 at*;obtain ⟨x0,hx0⟩:∃ z,z=w.heap.size:=⟨_,rfl⟩;have HX0:=aA hx0;obtain ⟨y,hy⟩:∃ z,z=x0+1:=⟨_,rfl⟩;rw [<-hx0,<-hy] at pJ;rw [<-hx0] at HZ1 HS1 tY;rw [<-hx0,<-hy];have HY:Hid (x0<y/\y<x0+2/\w1.heap.size=x0+2):=⟨by omega,by omega,HS1.out⟩;clear hx0 hy hmk HS1;go_loopw [13] (fun iv wr=>∃ (m:Nat) (rv:Value),m<=n/\iv=.int .i64 m/\Bls wr w1.heap.size rv (List.replicate m true)/\Row wr y 217 [.int .i64 4,.int .i64 c,rv,.slice (some ⟨x0,0,none⟩) n n,.slice none 0 0]/\Only [y] w1 wr) (fun iv _=>n - (intOf iv).toNat)
 case atStart=>exact ⟨0,.slice none 0 0,by omega,rfl,Bls.nil _ _,pJ.out,Only.refl _ _⟩
 case round=>
  clear pJ;obtain ⟨m,rv,hm,rfl,hbv,hrow,ho⟩:=hrel;obtain ⟨ra,rc,hre⟩:=hbv.len;rw [List.length_replicate] at hre;subst hre;have HBV:=aA hbv;have HR5:=aA hrow;have HO:=aA ho;have c2:wr.cell? ⟨y,2,none⟩=_:=hrow.cell 2 rfl;clear hbv hrow ho
  by_cases hlt:m<n
  ·have hlt1:(m:Int)<n:=by omega
   go_wp2_with (at_builtin;refine tX rfl _ _ rfl w1.heap.size _ _ rfl (HBV.out.alloc _) wr.heap.size true rfl ?c1 ?c2 ?c3 ?c4)
   case c1=>exact (Row.new wr _ [_]).cell 0 rfl
   case c2=>simp;have:=HN.out;omega
   case c3=>have:=HO.out.size;simp;omega
   case c4=>
    intro v' w6 hv6 ho6 hb6;rw [oI] at hv6;obtain ⟨va',vc',hve⟩:=hv6.len;rw [List.length_replicate] at hve;subst hve;have hyn:y∉(Value.slice ra m rc).ownBlock.toList:=fun hx=>by
     have:=(HBV.out.own y (by simpa using hx)).1;have:=HY.out;omega
    have hr6:=ho6.row (HR5.out.alloc (.cells #[.bool true] 4)) hyn;have f6:=hr6.free 2;have c6:w6.cell? ⟨y,2,none⟩=_:=hr6.cell 2 rfl;have HV7:Hid (Bls (w6.setCell ⟨y,2,none⟩ (.slice va' (m+1) vc')) w1.heap.size (.slice va' (m+1) vc') (List.replicate (m+1) true)):=hv6.only ((Only.refl [y] w6).set (p:=⟨y,2,none⟩) (.inl (by simp)) (.slice va' (m+1) vc')) (fun g' hg'=>by have:=(hv6.own g' hg').1;have:=HY.out;simp;omega);have aBr:Hid (Row (w6.setCell ⟨y,2,none⟩ (.slice va' (m+1) vc')) y 217 [.int .i64 4,.int .i64 c,.slice va' (m+1) vc',.slice (some ⟨x0,0,none⟩) n n,.slice none 0 0]):=hr6.set 2 (.slice va' (m+1) vc');have HO7:Hid (Only [y] w1 (w6.setCell ⟨y,2,none⟩ (.slice va' (m+1) vc'))):=((HO.out.alloc _).trans ho6 (fun x hx=>.inr (HBV.out.own x (by simpa using hx)).1)).set (.inl (by simp)) _;clear hv6 ho6 hyn hr6 c2 hb6;go_wp2_with fail;exact ⟨⟨m+1,.slice va' (m+1) vc',by omega,by go_num,HV7.out,aBr.out,HO7.out⟩,by simp [intOf];omega⟩
  obtain rfl:m=n:=by omega
  have hlt1:¬ (m:Int)<(m:Int):=by omega
  have c0:wr.cell? ⟨y,0,none⟩=_:=HR5.out.cell 0 rfl;have c1:wr.cell? ⟨y,1,none⟩=_:=HR5.out.cell 1 rfl;have c3:wr.cell? ⟨y,3,none⟩=_:=HR5.out.cell 3 rfl;have c4:wr.cell? ⟨y,4,none⟩=_:=HR5.out.cell 4 rfl;have HM:=tY.out wr (.slice ra m rc) (.slice (some ⟨x0,0,none⟩) m m) (HO1.out.trans HO.out (fun x hx=>.inr (by have:=HY.out;have:=HX0.out;simp at hx;omega))) (HBV.out.base (by have:=HY.out;omega))
   (HZ1.out.only HO.out (fun g hg=>by cases hg;have:=HY.out;simp;omega)) (fun g hg=>by have:=(HBV.out.own g hg).1;have:=HY.out;simp [Value.ownBlock];omega)
  clear tY;go_wp2_with fail;refine HM.mono ?_;intro e w9 hf;obtain ⟨r0,r1,rfl⟩:=aPg.out _ _ hf;go_wp2_with fail;exact hR.out _ _ hf
theorem qW (w:World) (h:bF w L hb M X) (hk:M.Ok) (k c n:Int) :
  Calls prog 174 #[.pointer (some ⟨hb,0,none⟩),.int .i64 k,.int .i64 c,.int .i64 n] w (lF w L hb (.tuple #[.int .i64 (M.aG k c n).1,.int .i64 (M.aG k c n).2.1]) (M.aG k c n).2.2):=by
 refine aF fun R hR=>?_
 by_cases hgood:¬ (n<0\/48<n)/\((k=3/\c=0)\/(k=4/\0<=c/\c<10))
 ·obtain ⟨hb1,hkc⟩:=hgood;have hr:M.aG k c n=M.add (pG k c n.toNat):=by unfold Hp.aG;rw [if_neg hb1,if_pos hkc]
  rw [hr] at hR;have hot:=pF hb1 hkc;obtain ⟨m,rfl⟩:∃ m:Nat,n=m:=⟨n.toNat,by omega⟩;rw [Int.toNat_natCast] at hR hot;exact zJ w h hk k c m (by omega) _ true hot rfl R hR hkc
 have hr:M.aG k c n=(0,1,M):=by
  unfold Hp.aG
  by_cases hb1:n<0\/48<n
  ·rw [if_pos hb1]
  rw [if_neg hb1,if_neg (fun e=>hgood ⟨hb1,e⟩)]
 rw [hr] at hR;have h1:=fA w h;have HD:Hid (lF w L hb (.tuple #[.int .i64 0,.int .i64 1]) M (.returned (.tuple #[.int .i64 0,.int .i64 1])) w):=lF.none0 h (Only.refl _ _);have tZ:=aA hgood;clear h hr hgood hk;go_in
 by_cases a1:k=3
 ·subst a1
  by_cases a2:c=0
  ·subst a2
   by_cases n1:n<0
   ·clear tZ;go_wp2_with fail;refine h1.mono ?_;rintro e _ ⟨rfl,rfl⟩;go_wp2_with fail;exact hR.out _ _ HD.out
   have n2:48<n:=by
    by_cases e:48<n
    ·exact e
    exact absurd ⟨by omega,.inl ⟨rfl,rfl⟩⟩ tZ.out
   clear tZ;go_wp2_with fail;refine h1.mono ?_;rintro e _ ⟨rfl,rfl⟩;go_wp2_with fail;exact hR.out _ _ HD.out
  clear tZ;go_wp2_with fail;refine h1.mono ?_;rintro e _ ⟨rfl,rfl⟩;go_wp2_with fail;exact hR.out _ _ HD.out
 by_cases a3:k=4
 ·subst a3
  by_cases a4:0<=c
  ·by_cases a5:c<10
   ·by_cases n1:n<0
    ·clear tZ;go_wp2_with fail;refine h1.mono ?_;rintro e _ ⟨rfl,rfl⟩;go_wp2_with fail;exact hR.out _ _ HD.out
    have n2:48<n:=by
     by_cases e:48<n
     ·exact e
     exact absurd ⟨by omega,.inr ⟨rfl,a4,a5⟩⟩ tZ.out
    clear tZ;go_wp2_with fail;refine h1.mono ?_;rintro e _ ⟨rfl,rfl⟩;go_wp2_with fail;exact hR.out _ _ HD.out
   clear tZ;go_wp2_with fail;refine h1.mono ?_;rintro e _ ⟨rfl,rfl⟩;go_wp2_with fail;exact hR.out _ _ HD.out
  clear tZ;go_wp2_with fail;refine h1.mono ?_;rintro e _ ⟨rfl,rfl⟩;go_wp2_with fail;exact hR.out _ _ HD.out
 clear tZ;go_wp2_with fail;refine h1.mono ?_;rintro e _ ⟨rfl,rfl⟩;go_wp2_with fail;exact hR.out _ _ HD.out
end
end Go.Proofs.YthflghdaejbdkaaGreat
