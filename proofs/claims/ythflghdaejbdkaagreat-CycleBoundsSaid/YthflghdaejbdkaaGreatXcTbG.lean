/- Lemmas of this claim. -/
import Derived.Test.YthflghdaejbdkaaGreatXcCyStar
import Derived.Test.YthflghdaejbdkaaGreatXcTbPF
import Derived.Test.YthflghdaejbdkaaGreatXcTbPC
namespace Go.Proofs.YthflghdaejbdkaaGreat
open _root_.Go.Proofs.Tryz (prog)
open Go.RowKit Go.Maps
set_option maxHeartbeats 3200000
set_option maxRecDepth 100000
set_option linter.unusedVariables false
structure CX where
 hb:Nat
 p:Nat
 tb:Nat
 sv:Value
 ov:Bool
 mv:Nat
def dB (b:Nat) (c:Co) (x:CX):List Value:=[.int .i64 (c.pages:Int),.int .i64 c.rate,.pointer (some ⟨x.hb,0,none⟩),.pointer (some ⟨x.tb,0,none⟩),.pointer (some ⟨x.p,0,none⟩),.int .i64 (c.ph:Int),.int .i64 c.cr,.bool x.ov,x.sv,.int .i64 (x.mv:Int)]
structure CX.ok (x:CX) (c:Co):Prop where
 ov:c.ph=2->x.ov=decide (c.t.ph=0)
 mv:c.ph=4->x.mv=c.mv
 mv2:x.mv<=192
def C5 (b:Nat) (c:Co) (x:CX):List Asn:=[PH x.hb c.m.M,MkA x.p x.hb c.m.col c.m.list,TbA x.tb c.t c.t.ents.length,dG x.sv c.sw,eG b 142 (dB b c x)]
def CoA (b:Nat) (c:Co):Asn:=aLe (fun x=>CX.ok x c) (C5 b c)
structure GX5 where
 q:Nat
 r:Nat
 ub:Nat
 sv:Value
 on:Bool
 mv:Nat
def bF (b:Nat) (c:Co) (x:GX5):List Value:=[.pointer (some ⟨x.q,0,none⟩),.pointer (some ⟨x.ub,0,none⟩),.pointer (if x.on then some ⟨x.r,0,none⟩ else none),.int .i64 (c.ph:Int),.int .i64 c.cr,.int .i64 c.rate,.int .i64 (c.pages:Int),.int .i64 (x.mv:Int),x.sv]
structure GX5.ok (x:GX5) (c:Co):Prop where
 on:x.on=c.bar
 mv:c.ph=4->x.mv=c.mv
 m0:1<=c.ph->c.ph<=3->x.mv=0
 mv2:x.mv<=192
def MkO (y:Bool) (r q:Nat) (m:Mk):Asn:=if y then GkA r q m.col m.list else NoA
def G5 (b:Nat) (c:Co) (x:GX5):List Asn:=[GH x.q c.m.M,MkO x.on x.r x.q c.m,TrA x.ub c.t,dG x.sv c.sw,eG b 99 (bF b c x)]
def GoA (b:Nat) (c:Co):Asn:=aLe (fun x=>GX5.ok x c) (G5 b c)
section
variable {w0 w w':World} {l:List Asn} {b:Nat} {c:Co} {x:CX} {i:Nat} {m:Mk} {t:Tb}
theorem CoA.open (h:Fam w0 w l) (y:l[i]?=some (CoA b c)):∃ x:CX,x.ok c/\Fam w0 w (C5 b c x ++ l.set i NoA):=h.aPV y
theorem CoA.close (hx:x.ok c) (h:Fam w0 w (C5 b c x ++ l.set i NoA)) (y:i<l.length):Fam w0 w (l.set i (CoA b c)):=by
 have:=h.aKQ (P:=fun x=>CX.ok x c) (F:=C5 b c) x hx rfl (aKv y);rwa [aIZ] at this
theorem CoA.born (hx:x.ok c) (h:Fam w0 w (C5 b c x ++ l)):Fam w0 w (l ++ [CoA b c]):=h.aNK (P:=fun x=>CX.ok x c) (F:=C5 b c) x hx rfl
theorem C5.t2:gX (C5 b c x ++ l) 0 1:=⟨by simp [C5],by simp [C5],by decide⟩
theorem C5.t3:Three (C5 b c x ++ l) 0 1 2:=⟨C5.t2,by simp [C5],by decide,by decide⟩
theorem C5.row (h:Fam w0 w (C5 b c x ++ l)):Row w b 142 (dB b c x):=h.row 4 rfl
theorem C5.ph (h:Fam w0 w (C5 b c x ++ l)):c.m.M.Ok/\∃ L X,dK w L x.hb c.m.M X:=h.ph 0 rfl
theorem C5.sw (h:Fam w0 w (C5 b c x ++ l)):aK w 0 x.sv c.sw:=h.ints 3 rfl
theorem C5.tb (h:Fam w0 w (C5 b c x ++ l)):∃ y d z,mG w x.tb y d z c.t c.t.ents.length:=PL.tb (C5.t3 (b:=b) (c:=c) (x:=x) (l:=l)) (hb:=x.hb) (p:=x.p) (b:=x.tb) (m:=c.m) (t:=c.t) (kk:=c.t.ents.length) h
theorem dB.cells (h:Fam w0 w (C5 b c x ++ l)):w.cell? ⟨b,0,none⟩=some (.int .i64 (c.pages:Int))/\w.cell? ⟨b,1,none⟩=some (.int .i64 c.rate)/\w.cell? ⟨b,2,none⟩=some (.pointer (some ⟨x.hb,0,none⟩))/\w.cell? ⟨b,3,none⟩=some (.pointer (some ⟨x.tb,0,none⟩))/\w.cell? ⟨b,4,none⟩=some (.pointer (some ⟨x.p,0,none⟩))/\w.cell? ⟨b,5,none⟩=some (.int .i64 (c.ph:Int))/\w.cell? ⟨b,6,none⟩=some (.int .i64 c.cr)/\w.cell? ⟨b,7,none⟩=some (.bool x.ov)/\w.cell? ⟨b,8,none⟩=some x.sv/\w.cell? ⟨b,9,none⟩=some (.int .i64 (x.mv:Int))/\∀ k,w.frozen? ⟨b,k,none⟩=false:=by
 have r:=C5.row h;exact ⟨r.cell 0 rfl,r.cell 1 rfl,r.cell 2 rfl,r.cell 3 rfl,r.cell 4 rfl,r.cell 5 rfl,r.cell 6 rfl,r.cell 7 rfl,r.cell 8 rfl,r.cell 9 rfl,fun k=>r.free k⟩
end
set_option maxHeartbeats 6400000
section
variable {w0 w:World} {l:List Asn} {b:Nat} {c:Co} {x:CX} {i:Nat}
theorem sK (w:World):Calls prog 107 #[.pointer none] w (aO w (.bool true)):=by
 refine aF fun R y=>?_;go_in;go_wp2;exact y.out _ _ ⟨rfl,rfl⟩
theorem aJ (w:World) {hb:Nat} (h:w.cell? ⟨b,2,none⟩=some (.pointer (some ⟨hb,0,none⟩))):Calls prog 107 #[.pointer (some ⟨b,0,none⟩)] w (aO w (.bool false)):=by
 refine aF fun R y=>?_;go_in;go_wp2;exact y.out _ _ ⟨rfl,rfl⟩
theorem kC (w:World) (y:Fam w0 w (C5 b c x ++ l)) (h:Int) (hh:wfI h):Calls prog 114 #[.pointer (some ⟨b,0,none⟩),.int .i64 h] w (Same w (.int .i64 (c.m.M.len h))):=by
 refine aF fun R z=>?_;obtain ⟨_,_,x2,_⟩:=dB.cells y;obtain ⟨hk,L,X,d⟩:=C5.ph y;have ct:=aBj w d h hh;unfold Hp.len at z;clear y hk d;go_in;go_wp2_with fail;refine ct.mono ?_;rintro e _ ⟨rfl,n,rfl⟩;go_wp2;exact z.out _ _ ⟨rfl,n,rfl⟩
theorem qW (h:c.Okc):c.ph=0\/c.ph=1\/c.ph=2\/c.ph=3\/c.ph=4:=by have:=h.p4;omega
theorem iD (w:World) (z:Fam w0 w (C5 b c x ++ l)) (h:c.Okc):Calls prog 117 #[.pointer (some ⟨b,0,none⟩)] w (aO w (.bool c.bar)):=by
 refine aF fun R y=>?_;obtain ⟨_,_,_,_,_,d,_⟩:=dB.cells z;unfold Co.bar at y;rcases qW h with e|e|e|e|e
 all_goals
  rw [e] at y d;clear z h e;go_in;go_wp2;exact y.out _ _ ⟨rfl,rfl⟩
theorem aHU (w:World) (y:Fam w0 w (C5 b c x ++ l)):Calls prog 53 #[.pointer (some ⟨b,0,none⟩)] w (aO w (.int .i64 (c.ph:Int))):=by
 refine aF fun R d=>?_;obtain ⟨_,_,x2,_,_,x5,_⟩:=dB.cells y;have z:=aJ w x2;clear y;generalize c.ph=ph at*;go_in;go_wp2_with fail;refine z.mono ?_;rintro e _ ⟨rfl,rfl⟩;go_wp2;exact d.out _ _ ⟨rfl,rfl⟩
theorem aFb (w:World) (y:Fam w0 w (C5 b c x ++ l)):Calls prog 54 #[.pointer (some ⟨b,0,none⟩)] w (aO w (.int .i64 c.cr)):=by
 refine aF fun R d=>?_;obtain ⟨_,_,x2,_,_,_,x6,_⟩:=dB.cells y;have z:=aJ w x2;clear y;go_in;go_wp2_with fail;refine z.mono ?_;rintro e _ ⟨rfl,rfl⟩;go_wp2;exact d.out _ _ ⟨rfl,rfl⟩
theorem fH (w:World) (hf:Fam w0 w (C5 b c x ++ l)) (h:c.Okc) (y:Int) (hy:wfI y):Calls prog 121 #[.pointer (some ⟨b,0,none⟩),.int .i64 y] w (Same w (.bool (c.hid y))):=by
 refine aF fun R z=>?_;obtain ⟨_,_,_,_,x4,x5,_,_,x8,_⟩:=dB.cells hf;have cc:=tX w (C5.t2 (b:=b) (c:=c) (x:=x) (l:=l)) (hb:=x.hb) (p:=x.p) (m:=c.m) hf y hy;have hs:=C5.sw hf;have cs:=pO w x.sv c.sw hs.read (by have:=h.vK;omega) y;have h0:=h.sw;unfold Co.hid at z;rcases qW h with e|e|e|e|e
 ·rw [if_neg (by omega),h0 (by omega)] at z;rw [e] at x5;replace z:Hid (∀ e w',Same w (.bool false) e w'->R e w'):=z;clear hf h e hs cc cs h0 x4 x8;go_in;go_wp2;exact z.out _ _ ⟨rfl,iU _⟩
 ·rw [if_neg (by omega),h0 (by omega)] at z;rw [e] at x5;replace z:Hid (∀ e w',Same w (.bool false) e w'->R e w'):=z;clear hf h e hs cc cs h0 x4 x8;go_in;go_wp2;exact z.out _ _ ⟨rfl,iU _⟩
 ·rw [if_pos e] at z;rw [e] at x5;unfold Mk.isW at z;unfold Mk.color at cc;clear hf h e hs cs h0 x8
  cases hu:(c.m.M.ob y).isSome with
  | false=>
   rw [hu] at z cc;replace z:Hid (∀ e w',Same w (.bool false) e w'->R e w'):=z;clear hu;go_in;go_wp2_with fail;refine cc.mono ?_;rintro e _ ⟨rfl,n,rfl⟩;go_wp2;exact z.out _ _ ⟨rfl,n,rfl⟩
  | true=>
   rw [hu] at z cc;replace z:Hid (∀ e w',Same w (.bool (decide (c.m.col y=0))) e w'->R e w'):=z;clear hu;generalize c.m.col y=k at *
   by_cases hk:k=0
   ·subst hk;replace z:Hid (∀ e w',Same w (.bool true) e w'->R e w'):=z;go_in;go_wp2_with fail;refine cc.mono ?_;rintro e _ ⟨rfl,n,rfl⟩;go_wp2;exact z.out _ _ ⟨rfl,n,rfl⟩
   rw [decide_eq_false hk] at z;have h1:(k == 0)=false:=by simpa using hk
   clear hk;go_in;go_wp2_with fail;refine cc.mono ?_;rintro e _ ⟨rfl,n,rfl⟩;go_wp2;exact z.out _ _ ⟨rfl,n,rfl⟩
 ·rw [if_neg (by omega)] at z;rw [e] at x5;obtain ⟨sa,sc,hv⟩:=hs.len;rw [hv] at cs x8;generalize c.sw.length=n at*;generalize decide (y∈c.sw)=d at*;clear hf h e hs cc h0 x4 hv;go_in;go_wp2_with fail;refine cs.mono ?_;rintro e _ ⟨rfl,rfl⟩;go_wp2;exact z.out _ _ ⟨rfl,iU _⟩
 rw [if_neg (by omega),h0 (by omega)] at z;rw [e] at x5;replace z:Hid (∀ e w',Same w (.bool false) e w'->R e w'):=z;clear hf h e hs cc cs h0 x4 x8;go_in;go_wp2;exact z.out _ _ ⟨rfl,iU _⟩
def Co.kJ (c:Co):Value:=
 if c.ph=1 then (if c.m.list=[] then .iface 163 (.agg #[.int .i64 2]) else .iface 157 (.agg #[]))
 else if c.ph=2 then (if c.t.ph≠0 then .iface 218 (.agg #[]) else if c.m.list=[] then .iface 163 (.agg #[.int .i64 3]) else .iface 157 (.agg #[]))
 else if c.ph=3 then (match c.sw with|[]=>.iface 163 (.agg #[.int .i64 4])|h :: _=>.iface 160 (.agg #[.int .i64 h]))
 else (if c.mv=8*c.pages then .iface 163 (.agg #[.int .i64 0]) else .iface 219 (.agg #[]))
theorem bP (w:World) (hf:Fam w0 w (C5 b c x ++ l)) (h:c.Okc) (hx:x.ok c) (hp:c.ph≠0):Calls prog 112 #[.pointer (some ⟨b,0,none⟩)] w (Same w c.kJ):=by
 refine aF fun R z=>?_;obtain ⟨x0,_,_,_,x4,x5,_,x7,x8,x9,_⟩:=dB.cells hf;have cd:=yO w (C5.t2 (b:=b) (c:=c) (x:=x) (l:=l)) (hb:=x.hb) (p:=x.p) (m:=c.m) hf;have hs:=C5.sw hf;unfold Co.kJ at z;rcases qW h with e|e|e|e|e
 ·exact absurd e hp
 ·rw [if_pos e] at z;rw [e] at x5;clear hf h hs x7 x8 x9 x0 hx hp e
  by_cases d:c.m.list=[]
  ·rw [if_pos d] at z;rw [decide_eq_true d] at cd;clear d;go_in;go_wp2_with fail;refine cd.mono ?_;rintro e _ ⟨rfl,rfl⟩;go_wp2;exact z.out _ _ ⟨rfl,iU _⟩
  rw [if_neg d] at z;rw [decide_eq_false d] at cd;clear d;go_in;go_wp2_with fail;refine cd.mono ?_;rintro e _ ⟨rfl,rfl⟩;go_wp2;exact z.out _ _ ⟨rfl,iU _⟩
 ·rw [if_neg (by omega),if_pos e] at z;have h0:=hx.ov e;rw [e] at x5;clear hf h hs x8 x9 x0 hx hp e
  by_cases ht:c.t.ph≠0
  ·rw [if_pos ht] at z;rw [decide_eq_false ht] at h0;rw [h0] at x7;clear cd ht h0;go_in;go_wp2;exact z.out _ _ ⟨rfl,iU _⟩
  rw [if_neg ht] at z;rw [decide_eq_true (Classical.not_not.1 ht)] at h0;rw [h0] at x7;clear ht h0
  by_cases d:c.m.list=[]
  ·rw [if_pos d] at z;rw [decide_eq_true d] at cd;clear d;go_in;go_wp2_with fail;refine cd.mono ?_;rintro e _ ⟨rfl,rfl⟩;go_wp2;exact z.out _ _ ⟨rfl,iU _⟩
  rw [if_neg d] at z;rw [decide_eq_false d] at cd;clear d;go_in;go_wp2_with fail;refine cd.mono ?_;rintro e _ ⟨rfl,rfl⟩;go_wp2;exact z.out _ _ ⟨rfl,iU _⟩
 ·rw [if_neg (by omega),if_neg (by omega),if_pos e] at z;rw [e] at x5;clear hf h cd x7 x9 x0 hx hp e x4
  cases hc:c.sw with
  | nil=>
   rw [hc] at hs z;obtain ⟨sa,sc,hv⟩:=hs.len;rw [hv] at x8;replace x8:w.cell? ⟨b,8,none⟩=some (.slice sa 0 sc):=x8;clear hs hv hc;go_in;go_wp2;exact z.out _ _ ⟨rfl,iU _⟩
  | cons y r=>
   rw [hc] at hs z;obtain ⟨sa,sc,hv⟩:=hs.len;rw [hv] at x8 hs;obtain ⟨sb,so,h4,h1⟩:=hs.read.at (k:=0) (by simp);rw [h4] at x8;rw [Nat.add_zero] at h1;replace h1:w.cell? ⟨sb,so,none⟩=some (.int .i64 y):=h1;replace x8:w.cell? ⟨b,8,none⟩=some (.slice (some ⟨sb,so,none⟩) (r.length+1) sc):=x8;replace z:Hid (∀ e w',Same w (.iface 160 (.agg #[.int .i64 y])) e w'->R e w'):=z;clear hs hv hc h4;generalize r.length=n at*;have h8:((n:Int)+1 == 0)=false:=by rw [beq_eq_false_iff_ne];omega
   have h9:(0:Int)<(n:Int)+1:=by omega
   go_in;go_wp2;exact z.out _ _ ⟨rfl,iU _⟩
 rw [if_neg (by omega),if_neg (by omega),if_neg (by omega)] at z;have h3:=hx.mv e;rw [h3] at x9;rw [e] at x5;have x1:=h.pg;have h7:=h.mv;clear hf h hs cd x7 hx hp e x4 x8 h3;generalize c.pages=n at*;generalize c.mv=v at*;have h6:IntKind.i64.wrap (8*(n:Int))=8*(n:Int):=IntWalk.i64_in _ (by omega);have h2:IntKind.i64.wrap (8*(n:Int))=((8*n:Nat):Int):=h6.trans (by omega)
 by_cases hc:v=8*n
 ·rw [if_pos hc] at z;have h5:((v:Int) == 8*(n:Int))=true:=by simp;omega
  clear hc h2;go_in;go_wp2_with fail;go_region
  all_goals
   go_wp2;exact z.out _ _ ⟨rfl,1,rfl⟩
 rw [if_neg hc] at z;have h5:((v:Int) == 8*(n:Int))=false:=by rw [beq_eq_false_iff_ne];omega
 clear hc h2;go_in;go_wp2_with fail;go_region
 all_goals
  go_wp2;exact z.out _ _ ⟨rfl,1,rfl⟩
end
def aBd (w0:World) (l:List Asn) (b:Nat) (r:Int×Co) (e:Ending) (w':World):Prop:=e=.returned (.int .i64 r.1)/\∃ y:CX,y.ok r.2/\Fam w0 w' (C5 b r.2 y ++ l)
section
variable {w0 w:World} {l:List Asn} {b:Nat} {c:Co} {x:CX} {i:Nat}
theorem C5.alloc (y:Fam w0 w (C5 b c x ++ l)) (o:Obj):Fam w0 (w.alloc o) (C5 b c x ++ l):=Fam.alloc y o
theorem C5.sZ (y:Fam w0 w (C5 b c x ++ l)) (n:Nat):Fam w0 (w.setCell ⟨b,5,none⟩ (.int .i64 (n:Int))) (C5 b { c with ph:=n } x ++ l):=y.bV 4 rfl 5 _
theorem C5.aEl (y:Fam w0 w (C5 b c x ++ l)) (n:Int):Fam w0 (w.setCell ⟨b,6,none⟩ (.int .i64 n)) (C5 b { c with cr:=n } x ++ l):=y.bV 4 rfl 6 _
theorem C5.aOh (y:Fam w0 w (C5 b c x ++ l)) (v:Bool):Fam w0 (w.setCell ⟨b,7,none⟩ (.bool v)) (C5 b c { x with ov:=v } ++ l):=y.bV 4 rfl 7 _
theorem C5.aLR (y:Fam w0 w (C5 b c x ++ l)) (n:Nat):Fam w0 (w.setCell ⟨b,9,none⟩ (.int .i64 (n:Int))) (C5 b c { x with mv:=n } ++ l):=y.bV 4 rfl 9 _
theorem C5.aGz {d:World} (hf:Fam w0 w (C5 b c x ++ l)) (ho:Only [] w d) {v:Value} {s:List Int} (hi:aK d w.heap.size v s):Fam w0 (d.setCell ⟨b,8,none⟩ v) (C5 b { c with sw:=s } { x with sv:=v } ++ l):=by
 have h1:Fam w0 d ((C5 b c x ++ l) ++ [dG v s]):=hf.iK ho hi;have h2:=h1.bV 4 rfl 8 v;have h0:(C5 b c x ++ l).length=5+l.length:=by rw [List.length_append];rfl
 refine h2.selC (fun k=>if k=3 then 5+l.length else k) (fun k A hk=>?_) (fun j k hj hk hne=>?_)
 ·by_cases e:k=3
  ·rw [if_pos e];subst e;have z:A=dG v s:=by
    have h3:(C5 b { c with sw:=s } { x with sv:=v } ++ l)[3]?=some (dG v s):=rfl;rw [h3] at hk;exact (Option.some.inj hk).symm
   rw [z,List.getElem?_set_ne (by omega),List.getElem?_append_right (by omega),show 5+l.length - (C5 b c x ++ l).length=0 by omega];rfl
  rw [if_neg e];have h4:=(List.getElem?_eq_some_iff.1 hk).1;have y:(C5 b { c with sw:=s } { x with sv:=v } ++ l).length=5+l.length:=by rw [List.length_append];rfl
  by_cases e4:k=4
  ·subst e4;have h3:(C5 b { c with sw:=s } { x with sv:=v } ++ l)[4]?=some (eG b 142 (dB b { c with sw:=s } { x with sv:=v })):=rfl;rw [h3] at hk;rw [<-Option.some.inj hk];rw [List.getElem?_set_self (by rw [List.length_append,h0];omega)];rfl
  rw [List.getElem?_set_ne (fun e=>e4 e.symm),List.getElem?_append_left (by omega)];rw [<-hk]
  match k,e,e4 with
  | 0,_,_=>rfl
  | 1,_,_=>rfl
  | 2,_,_=>rfl
  | k+5,_,_=>rfl
 have y:(C5 b { c with sw:=s } { x with sv:=v } ++ l).length=5+l.length:=by rw [List.length_append];rfl
 rw [y] at hj hk
 by_cases e:j=3
 ·rw [if_pos e]
  by_cases z:k=3
  ·omega
  rw [if_neg z];omega
 rw [if_neg e]
 by_cases z:k=3
 ·rw [if_pos z];omega
 rw [if_neg z];exact hne
theorem C5.last {g T:Nat} {cs:List Value} (y:Fam w0 w (C5 b c x ++ (l ++ [eG g T cs]))):Row w g T cs:=by
 refine y.row (5+l.length) ?_;have z:(C5 b c x).length=5:=rfl;rw [List.getElem?_append_right (by omega),List.getElem?_append_right (by omega),show 5+l.length - (C5 b c x).length - l.length=0 by omega];rfl
theorem aBk {m:Mk} (h:m.Ok):wfI m.step.1:=by
 unfold Mk.step
 cases e:m.list with
 | nil=>show wfI 0;exact dL (by decide)
 | cons y t=>
  show wfI y;have:=h.inR (x:=y) (by rw [e];simp);exact dL (by omega)
theorem aIA {y:Int} (h:1<=y/\y<=192):wfI y:=dL (by omega)
theorem tY (w:World) (y:Fam w0 w (C5 b c x ++ l)) (hx:x.ok c) (z:c.m.Ok):Calls prog 298 #[.agg #[],.pointer (some ⟨b,0,none⟩)] w (aBd w0 l b c.mark):=by
 refine aF fun R hR=>?_;have HF:=aA y;have HM:=aA z;have HX:=aA hx;have HW:=aA (aBk z);have h0:=fF (by have:=z.hf.ok;rw [<-Mk.mY (m:=c.m)] at this;exact this:c.m.step.2.2.M.Ok) c.m.step.1;have HR:Hid (∀ w',Fam w0 w' (C5 b (c.pI c.m.step.2.2) x ++ l)->R (.returned (.int .i64 (1+c.m.step.2.2.M.len c.m.step.1))) w'):=fun w' h=>hR.out _ _ ⟨by show _=Ending.returned (.int .i64 (1+c.m.M.len c.m.step.1));rw [<-Mk.mY (m:=c.m)],x,⟨hx.ov,hx.mv,hx.mv2⟩,h⟩;clear hR y z hx;go_in;go_upto_region 1 with fail;have F1:=aA (C5.alloc HF.out (.cells #[] 157));obtain ⟨_,_,_,_,x4,_⟩:=dB.cells F1.out;have cs:=aCU _ (C5.t2 (b:=b) (c:=c) (x:=x) (l:=l)) (hb:=x.hb) (p:=x.p) F1.out HM.out;generalize w.alloc (.cells #[] 157)=w1 at*;go_wp2_with fail;refine cs.mono ?_;rintro e d ⟨rfl,y⟩;have F2:Hid (Fam w0 d (C5 b (c.pI c.m.step.2.2) x ++ l)):=y;have cl:=kC d F2.out c.m.step.1 HW.out;replace cl:Calls prog 114 #[.pointer (some ⟨b,0,none⟩),.int .i64 c.m.step.1] d (Same d (.int .i64 (c.m.step.2.2.M.len c.m.step.1))):=cl;clear cs y x4 F1;generalize c.m.step.2.2.M.len c.m.step.1=n at*;go_wp2_with fail;refine cl.mono ?_;rintro e _ ⟨rfl,k,rfl⟩;have F3:=aA (F2.out.drewN k);clear cl F2;go_wp2_with fail;exact HR.out _ F3.out
theorem aFQ (w:World) (z:Fam w0 w (C5 b c x ++ l)) (h s v:Int) (d:wfI h) (hv:wfI v):Calls prog 127 #[.pointer (some ⟨x.hb,0,none⟩),.int .i64 h,.int .i64 s,.int .i64 v] w (fun e w'=>e=.returned (.int .i64 (c.m.M.set h s v).1)/\Fam w0 w' (C5 b (c.pI (c.m.put (c.m.M.set h s v).2)) x ++ l)):=
 z.aCF 0 rfl (M':=(c.m.M.set h s v).2) (fun y=>y.set h s v) (fun L X hr y=>aIX w hr y h s v d hv)
theorem aIf (w:World) (y:Fam w0 w (C5 b c x ++ l)) (h:Int) (hh:wfI h):Calls prog 304 #[.pointer (some ⟨b,0,none⟩),.int .i64 h] w (fun e w'=>e=.returned (.tuple #[])/\Fam w0 w' (C5 b (c.pI (c.m.put (c.m.M.blank h))) x ++ l)):=by
 refine aF fun R hR=>?_;have HF:=aA y;have HW:=aA hh;have cl:=kC w y h hh;have h2:=fF (C5.ph y).1 h;obtain ⟨n,hn⟩:∃ n:Nat,c.m.M.len h=(n:Int):=⟨(c.m.M.len h).toNat,by omega⟩;have HB:Hid (c.m.M.blank h=c.m.M.bK h n):=by show _=_;unfold Hp.blank;rw [hn];rfl
 rw [hn] at cl h2;rw [HB.out] at hR;clear y hh hn HB;go_in;go_wp2_with fail;refine cl.mono ?_;rintro e _ ⟨rfl,k0,rfl⟩;have F1:=aA (HF.out.drewN k0);generalize w.drewN k0=w1 at*;clear cl HF;go_wp2;go_loopw [10] (fun iv wr=>∃ k:Nat,k<=n/\iv=.int .i64 k/\Fam w0 wr (C5 b (c.pI (c.m.put (c.m.M.bK h k))) x ++ l)) (fun iv _=>n - (intOf iv).toNat)
 case atStart=>exact ⟨0,by omega,rfl,F1.out⟩
 case round=>as_aux_lemma=>
  clear F1;obtain ⟨k,hk,rfl,y⟩:=hrel;have HF:=aA y
  by_cases h3:k<n
  ·have h1:(k:Int)<(n:Int):=by omega
   obtain ⟨_,_,x2,_⟩:=dB.cells y;obtain ⟨h0,L,X,hp⟩:=C5.ph y;have d:=rJ wr hp h0 h (k:Int) HW.out;have HB:Hid (c.m.M.bK h (k+1)=if ((c.m.M.bK h k).isRef h (k:Int)).1=true then ((c.m.M.bK h k).set h (k:Int) 0).2 else c.m.M.bK h k):=rfl;have c2:=aFQ wr y h (k:Int) 0 HW.out (dL (by decide));replace d:Calls prog 125 #[.pointer (some ⟨x.hb,0,none⟩),.int .i64 h,.int .i64 (k:Int)] wr (aO wr (.tuple #[.bool ((c.m.M.bK h k).isRef h (k:Int)).1,.int .i64 ((c.m.M.bK h k).isRef h (k:Int)).2])):=d;replace c2:Calls prog 127 #[.pointer (some ⟨x.hb,0,none⟩),.int .i64 h,.int .i64 (k:Int),.int .i64 0] wr (fun e w'=>e=.returned (.int .i64 ((c.m.M.bK h k).set h (k:Int) 0).1)/\Fam w0 w' (C5 b (c.pI (c.m.put ((c.m.M.bK h k).set h (k:Int) 0).2)) x ++ l)):=c2;clear y h0 hp
   cases hr:((c.m.M.bK h k).isRef h (k:Int)).1 with
   | true=>
    rw [hr] at d;have z:Hid (c.m.M.bK h (k+1)=((c.m.M.bK h k).set h (k:Int) 0).2):=by show _=_;rw [HB.out,if_pos hr]
    rw [<-z.out] at c2;clear HB z hr;generalize ((c.m.M.bK h k).isRef h (k:Int)).2=y1 at*;generalize ((c.m.M.bK h k).set h (k:Int) 0).1=y2 at*;go_wp2_with fail;refine d.mono ?_;rintro e _ ⟨rfl,rfl⟩;clear d;go_wp2_with fail;refine c2.mono ?_;rintro e w2 ⟨rfl,y⟩;have F2:=aA y;clear c2 y HF x2;go_wp2;exact ⟨⟨k+1,by omega,by go_num,F2.out⟩,by simp [intOf];omega⟩
   | false=>
    rw [hr] at d;have z:Hid (c.m.M.bK h (k+1)=c.m.M.bK h k):=by show _=_;rw [HB.out,if_neg (by rw [hr];decide)]
    clear c2 HB hr;generalize ((c.m.M.bK h k).isRef h (k:Int)).2=y1 at*;go_wp2_with fail;refine d.mono ?_;rintro e _ ⟨rfl,rfl⟩;clear d;go_wp2;exact ⟨⟨k+1,by omega,by go_num,by rw [z.out];exact HF.out⟩,by simp [intOf];omega⟩
  obtain rfl:k=n:=by omega
  have h1:¬ (k:Int)<(k:Int):=by omega
  clear y;go_wp2_with fail;go_end0;exact hR.out _ _ ⟨rfl,HF.out⟩
theorem aFe (w:World) (hf:Fam w0 w (C5 b c x ++ l)) (hx:x.ok c) (h:c.Okc) (hp:c.ph=1) (hl:c.m.list=[]):Calls prog 302 #[.agg #[.int .i64 2],.pointer (some ⟨b,0,none⟩)] w (aBd w0 l b c.iL):=by
 refine aF fun R hR=>?_;have y:Hid (Fam w0 (w.alloc (.cells #[.int .i64 2] 163)) (C5 b c x ++ (l ++ [eG w.heap.size 163 [.int .i64 2]]))):=hf.addRow 163 [.int .i64 2];have HG:=aA h.tg;have hb:=Pst.begin h.tg (h.mo (.inl hp)) (h.t0 (by omega)) hl;have z:=hx.mv2;have HR:Hid (∀ w',Fam w0 w' (C5 b c.iL.2 { x with ov:=false } ++ l)->R (.returned (.int .i64 1)) w'):=fun w' h2=>hR.out _ _ ⟨rfl,{ x with ov:=false },⟨fun _=>(decide_eq_false hb.1).symm,fun e=>by (cases e),z⟩,h2⟩;clear hf h hb hl hp hR hx z;go_in;go_upto_region 1 with fail;obtain ⟨g,hg⟩:∃ g,g=w.heap.size:=⟨_,rfl⟩;rw [<-hg] at y ⊢;have r0:=C5.last y.out;have y0:=r0.cell 0 rfl;obtain ⟨_,_,_,_,_,_,_,_,_,_,xf⟩:=dB.cells y.out;have h0:=xf 5;have d:Hid (Fam w0 ((w.alloc (.cells #[.int .i64 2] 163)).setCell ⟨b,5,none⟩ (.int .i64 2)) (C5 b { c with ph:=2 } x ++ (l ++ [eG g 163 [.int .i64 2]]))):=C5.sZ y.out 2;have r1:=C5.last d.out;have y1:=r1.cell 0 rfl;have h1:=(dB.cells d.out).2.2.2.2.2.2.2.2.2.2 7;have F2:Hid (Fam w0 (((w.alloc (.cells #[.int .i64 2] 163)).setCell ⟨b,5,none⟩ (.int .i64 2)).setCell ⟨b,7,none⟩ (.bool false)) (C5 b { c with ph:=2 } { x with ov:=false } ++ (l ++ [eG g 163 [.int .i64 2]]))):=C5.aOh d.out false;generalize w.alloc (.cells #[.int .i64 2] 163)=w1 at*;clear r0 r1 xf hg;go_upto_region 5 with fail;generalize (w1.setCell ⟨b,5,none⟩ (.int .i64 2)).setCell ⟨b,7,none⟩ (.bool false)=w2 at*;clear y0 y1 h0 h1 y d;have HC:Hid (∀ wx,Fam w0 wx (C5 b { c with ph:=2 } { x with ov:=false } ++ (l ++ [eG g 163 [.int .i64 2]]))->Calls prog 20 #[.pointer (some ⟨x.tb,0,none⟩),.pointer (some ⟨x.p,0,none⟩)] wx (fun e w'=>e=.returned (.int .i64 (c.t.begin c.m).1)/\Fam w0 w' (C5 b { c with ph:=2,t:=(c.t.begin c.m).2 } { x with ov:=false } ++ (l ++ [eG g 163 [.int .i64 2]])))):=fun wx hx=>aGv wx (C5.t3 (b:=b) (c:={ c with ph:=2 }) (x:={ x with ov:=false })) (hb:=x.hb) (p:=x.p) (b:=x.tb) (m:=c.m) (t:=c.t) hx HG.out;go_region_held3 (fun w'=>w'.cell? ⟨b,3,none⟩=some (.pointer (some ⟨x.tb,0,none⟩))/\w'.cell? ⟨b,4,none⟩=some (.pointer (some ⟨x.p,0,none⟩)))
  (first|(exact ⟨(C5.row F2.out).cell 3 rfl,(C5.row F2.out).cell 4 rfl⟩)|(exact ⟨(C5.row f3).cell 3 rfl,(C5.row f3).cell 4 rfl⟩))
  (first|(go_at_call 20;refine (HC.out _ F2.out.drew).mono ?_;rintro e w3 ⟨rfl,f3⟩))
 have F3:Hid (Fam w0 w3 (C5 b c.iL.2 { x with ov:=false } ++ l)):=by
  have f4:Fam w0 w3 ((C5 b { c with ph:=2,t:=(c.t.begin c.m).2 } { x with ov:=false } ++ l) ++ [eG g 163 [.int .i64 2]]):=f3;exact f4.pop
 clear f3 HC F2;go_wp2_with fail;exact HR.out _ F3.out
end
set_option maxHeartbeats 3200000
def QL (l:List Asn) (i j k q r b:Nat) (m:Mk) (t:Tb):List Asn:=RL (l.set k (TrA b t)) i j q r m
section
variable {l:List Asn} {i j k q r b:Nat} {m:Mk} {t:Tb} {w0 w w':World}
theorem QL.self (h:Three l i j k):(QL l i j k q r b m t)[k]?=some (TrA b t):=by
 unfold QL RL;rw [List.getElem?_set_ne (Ne.symm h.kj),List.getElem?_set_ne (Ne.symm h.ki),List.getElem?_set_self h.hk]
theorem QL.put (h:Three l i j k) (t':Tb):(QL l i j k q r b m t).set k (TrA b t')=QL l i j k q r b m t':=by
 unfold QL RL;rw [List.set_comm _ _ (Ne.symm h.kj),List.set_comm _ _ (Ne.symm h.ki),List.set_set]
theorem kU.cells {y z d:Value} {nx:Nat} {wl:List Bool} (h:kU w b y z d nx wl t):w.cell? ⟨b,0,none⟩=some y/\w.cell? ⟨b,1,none⟩=some z/\w.cell? ⟨b,2,none⟩=some (.int .i64 (t.ph:Int))/\w.cell? ⟨b,3,none⟩=some (.int .i64 (nx:Int))/\w.cell? ⟨b,4,none⟩=some d/\∀ k,w.frozen? ⟨b,k,none⟩=false:=by
 obtain ⟨U,h⟩:=h.row;exact ⟨h.cell 0 rfl,h.cell 1 rfl,h.cell 2 rfl,h.cell 3 rfl,h.cell 4 rfl,fun k=>h.free k⟩
theorem kU.same {ev qv wv y z d:Value} {nx h0:Nat} {wl h1:List Bool} {t2:Tb} (h:kU w b ev qv wv nx wl t) (e:kU w b y z d h0 h1 t2):y=ev/\z=qv/\d=wv:=by
 have e1:=h.cells.1.symm.trans e.cells.1;have e2:=h.cells.2.1.symm.trans e.cells.2.1;have e3:=h.cells.2.2.2.2.1.symm.trans e.cells.2.2.2.2.1;simp only [Option.some.injEq] at e1 e2 e3;exact ⟨e1.symm,e2.symm,e3.symm⟩
theorem QL.tr (h:Three l i j k) (hf:Fam w0 w (QL l i j k q r b m t)):∃ y z d nx wl,kU w b y z d nx wl t:=by
 obtain ⟨S,⟨y,z,d,nx,wl,e,_⟩,_⟩:=hf.get k (QL.self h);exact ⟨y,z,d,nx,wl,e⟩
def trS (b:Nat) (y z d:Value) (x:Nat):Prop:=x=b\/y.ownBlock=some x\/z.ownBlock=some x\/d.ownBlock=some x
theorem QL.trT (h:Three l i j k) (hf:Fam w0 w (QL l i j k q r b m t)) {ev qv wv:Value} {nx:Nat} {wl:List Bool} (hm:kU w b ev qv wv nx wl t) (y z d:Value) (nx':Nat) (e:List Bool) (t':Tb) (h1:kU w' b y z d nx' e t')
  (h2:∀ x,trS b y z d x->trS b ev qv wv x\/w.heap.size<=x) (h3:aI (trS b ev qv wv) w w'):Fam w0 w' (QL l i j k q r b m t'):=by
 rw [<-QL.put h t' (t:=t)];refine hf.turn k (QL.self h) fun S hS=>?_;obtain ⟨h4,h6,h8,h5,h7,h0,hS⟩:=hS;obtain ⟨rfl,rfl,rfl⟩:=hm.same h0;exact ⟨trS b y z d,⟨y,z,d,nx',e,h1,fun k=>Iff.rfl⟩,fun k hk=>(h2 k hk).imp (fun x=>(hS k).2 x) id,h3.mono (fun k hk=>.inl ((hS k).2 hk))⟩
theorem kU.rest {d e wv:Value} {nx:Nat} {wl:List Bool} (h:kU w b d e wv nx wl t) (z:Only [b] w w'):iO w' 48 0 d t.ents/\aK w' 0 e t.q/\Bls w' 0 wv wl:=
 ⟨h.ents.only z (fun g y x=>(h.n1 g y).1 (by simpa using x)),h.q.only z (fun g y x=>(h.n2 g y).1 (by simpa using x)),h.wh.only z (fun g y x=>h.n3 (by simp at x;rw [<-x];exact y))⟩
theorem kU.aN {y d e:Value} {nx:Nat} {wl:List Bool} (h:kU w b y d e nx wl t) (z:Only [] w w'):kU w' b y d e nx wl t:=by
 obtain ⟨h1,h2,h3⟩:=h.rest (z.mono (by simp));exact ⟨h.row.imp fun U x=>z.row x (by simp),h1,h2,h3,h.now,h.two,h.n1,h.n2,h.n3⟩
theorem QL.aCu (h:Three l i j k) (hf:Fam w0 w (QL l i j k q r b m t)) (z:Nat) (hp:z≠2) (nx':Nat) (hn:∀ d qv wv nx wl,kU w b d qv wv nx wl t->aAv (t.at z nx') nx):Fam w0 (w.setCell ⟨b,2,none⟩ (.int .i64 (z:Int))) (QL l i j k q r b m (t.at z nx')):=by
 obtain ⟨d,qv,wv,nx,wl,y⟩:=QL.tr h hf;have ho:Only [b] w (w.setCell ⟨b,2,none⟩ (.int .i64 (z:Int))):=(Only.refl _ w).set (.inl (by simp)) _;obtain ⟨h1,h2,h3⟩:=y.rest ho;exact QL.trT h hf y d qv wv nx wl _ ⟨y.row.imp fun U x=>x.set 2 _,h1,h2,h3,hn _ _ _ _ _ y,⟨y.two.1,fun e=>absurd e hp⟩,y.n1,y.n2,y.n3⟩ (fun x hx=>.inl hx) (ho.toP (fun x hx=>.inl (.inl (by simpa using hx))))
theorem QL.aOj (h:Three l i j k) (z:Fam w0 w (QL l i j k q r b m t)) (n nx':Nat) (hn:aAv (t.at t.ph nx') n):Fam w0 (w.setCell ⟨b,3,none⟩ (.int .i64 (n:Int))) (QL l i j k q r b m (t.at t.ph nx')):=by
 obtain ⟨e,qv,wv,nx,wl,y⟩:=QL.tr h z;have d:Only [b] w (w.setCell ⟨b,3,none⟩ (.int .i64 (n:Int))):=(Only.refl _ w).set (.inl (by simp)) _;obtain ⟨h1,h2,h3⟩:=y.rest d;exact QL.trT h z y e qv wv n wl _ ⟨y.row.imp fun U x=>x.set 3 _,h1,h2,h3,hn,y.two,y.n1,y.n2,y.n3⟩ (fun x hx=>.inl hx) (d.toP (fun x hx=>.inl (.inl (by simpa using hx))))
theorem aAv.self (t:Tb):aAv t t.nx:=⟨fun _=>rfl,fun _=>rfl,fun _=>rfl⟩
theorem aEo (w:World) {ev qv wv:Value} {nx:Nat} {wl:List Bool} (h:kU w b ev qv wv nx wl t) (n:Int):Calls prog 230 #[.pointer (some ⟨b,0,none⟩),.int .i64 n] w (aO w (.int .i64 (t.entry n).2)):=by
 refine aF fun R y=>?_;obtain ⟨z0,z1,z2,z3,z4,_⟩:=h.cells;obtain ⟨a,c,rfl⟩:=h.ents.len;unfold Tb.entry at y;clear h
 by_cases d:n<0
 ·rw [if_pos (.inl d)] at y;generalize t.ents.length=z at*;go_in;go_wp2;exact y.out _ _ ⟨rfl,rfl⟩
 by_cases e:(t.ents.length:Int)<=n
 ·rw [if_pos (.inr e)] at y;generalize t.ents.length=z at*;go_in;go_wp2;exact y.out _ _ ⟨rfl,rfl⟩
 rw [if_neg (fun h=>h.elim d e)] at y;generalize t.ents.length=z at*;go_in;go_wp2;exact y.out _ _ ⟨rfl,rfl⟩
theorem aCw (w:World) {ev qv wv:Value} {nx:Nat} {wl:List Bool} (h:kU w b ev qv wv nx wl t) (n:Int):Calls prog 183 #[.pointer (some ⟨b,0,none⟩),.int .i64 n] w (aO w (.tuple #[.int .i64 (t.target n).1,.int .i64 (t.target n).2])):=by
 refine aF fun R z=>?_;have d:=aEo w h n;obtain ⟨z0,z1,z2,z3,z4,_⟩:=h.cells;have HE:=aA h.ents;unfold Tb.entry at d;unfold Tb.target at z;clear h
 by_cases h1:n<0\/(t.ents.length:Int)<=n
 ·rw [if_pos h1] at z d;clear h1;go_in;go_wp2_with fail;refine d.mono ?_;rintro e _ ⟨rfl,rfl⟩;go_wp2;exact z.out _ _ ⟨rfl,rfl⟩
 rw [if_neg h1] at z d;obtain ⟨y,rfl⟩:∃ y:Nat,n=(y:Int):=⟨n.toNat,by omega⟩;rw [Int.toNat_natCast] at z;have hy:y<t.ents.length:=by omega
 have h0:(0:Int)<=(y:Int):=by omega
 have h2:(y:Int)<(t.ents.length:Int):=by omega
 obtain ⟨g,cap,rfl,_,_,c0,c1,c2,_⟩:=HE.out.at hy;generalize eAt t.ents y=en at*;generalize t.ents.length=h3 at*;clear h1 hy;go_in;go_wp2_with fail;refine d.mono ?_;rintro e _ ⟨rfl,rfl⟩;go_wp2;exact z.out _ _ ⟨rfl,rfl⟩
theorem xO (w:World) (T2:gX l i j) (hf:Fam w0 w (RL l i j q r m)) (x:Int):Calls prog 161 #[.pointer (some ⟨r,0,none⟩),.int .i64 x] w (fun e w'=>e=.returned (.bool (m.isW x))/\Only [] w w'):=by
 refine aF fun R y=>?_;have d:=aAQ w T2 hf x;have hW:m.isW x=(decide ((m.color x).2=0) && decide ((m.color x).1=0)):=by
  unfold Mk.isW Mk.color
  cases h:(m.M.ob x).isSome<;>simp
 rw [hW] at y;clear hf hW;generalize m.color x=rr at*;obtain ⟨c,e⟩:=rr
 by_cases h1:e=0
 ·subst h1
  by_cases h2:c=0
  ·subst h2;go_in;go_wp2_with fail;refine d.mono ?_;rintro e w1 ⟨rfl,z⟩;have HO:=aA z;clear z d;go_wp2;exact y.out _ _ ⟨rfl,HO.out⟩
  have hc:(c == 0)=false:=by rw [beq_eq_false_iff_ne];exact h2
  have hd:(decide ((0:Int)=0) && decide (c=0))=false:=by simp [h2]
  replace y:Hid (∀ e w',(e=.returned (.bool false)/\Only [] w w')->R e w'):=by rw [<-hd];exact y
  clear hd;go_in;go_wp2_with fail;refine d.mono ?_;rintro e w1 ⟨rfl,z⟩;have HO:=aA z;clear z d;go_wp2;exact y.out _ _ ⟨rfl,HO.out⟩
 have hc:(e == 0)=false:=by rw [beq_eq_false_iff_ne];exact h1
 have hd:(decide (e=0) && decide (c=0))=false:=by simp [h1]
 replace y:Hid (∀ e w',(e=.returned (.bool false)/\Only [] w w')->R e w'):=by rw [<-hd];exact y
 clear hd;go_in;go_wp2_with fail;refine d.mono ?_;rintro e w1 ⟨rfl,z⟩;have HO:=aA z;clear z d;go_wp2;exact y.out _ _ ⟨rfl,HO.out⟩
end
end Go.Proofs.YthflghdaejbdkaaGreat
